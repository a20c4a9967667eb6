/- Contracts of the reference's caAt, and of the program's and the reference's CarrierAt and LoadAt. Condition: the slice can be read, and its length is at most its capacity. -/
import Derived.Test.YtamehlafmfmgmaaDoorAreSpec
import Derived.Test.YtamehlafmfmgmaaDoorCarryAtFn
namespace Go.Proofs.YtamehlafmfmgmaaDoor
open Go.RowKit

theorem idx_yes {n : Nat} {xs : List Int} {a b c : Int} {k : Nat} (h : idxAt n xs a b c = k) (hk : k < n) : idxV n xs a b c = (k : Int) := by simp [idxV, h, hk]
theorem idx_no {n : Nat} {xs : List Int} {a b c : Int} (h : idxAt n xs a b c = n) : idxV n xs a b c = -1 := by simp [idxV, h]
/-! A search: $1 the fact on p k, $2 what goes on -/
set_option maxRecDepth 100000 in
set_option maxHeartbeats 2000000 in
theorem caAt_any (v : Value) (n B : Nat) (xs : List Int) (load who count : Int) (w : World) (hv : Rd w B 4 v n xs) (hB : B ≤ w.heap.size) (hg : GoodC n xs) :
    Calls Tryd.prog 40 #[v, .int .i64 load, .int .i64 who, .int .i64 count] w fun e w' => e = .returned (.int .i64 (idxV n xs load who count)) ∧ Below w.heap.size w w' := by
  obtain ⟨A, c, rfl⟩ := hv.form4
  have h40 := hg.len
  have HG := Lib.hid hg
  have Hv := Lib.hid hv
  clear hv hg
  obtain ⟨R, hR⟩ : ∃ R, idxAt n xs load who count = R := ⟨_, rfl⟩
  have HR := Lib.hid hR
  clear hR
  go_enter Tryd.func40, Tryd.ntmps40
  go_wp2_with fail
  go_loopw [13] (fun s wr => ∃ k : Nat, k ≤ n ∧ s = .int .i64 k ∧ fa (isAt xs load who count) (n - k) k = idxAt n xs load who count ∧ Below w.heap.size w wr) (fun s _ => n - (intOf s).toNat)
  case atStart => exact ⟨0, Nat.zero_le _, rfl, rfl, Below.refl _ _⟩
  case round =>
    obtain ⟨k, hk, rfl, hfa, hb⟩ := hrel
    have HFa := Lib.hid hfa
    clear hfa
    by_cases hlt : k < n
    · obtain ⟨b, off, rfl, hbB, hc⟩ := Hv.out.carry (by omega)
      have hcip := hc k (by omega)
      obtain ⟨p, ep⟩ : ∃ a, cP xs k = a := ⟨_, rfl⟩
      obtain ⟨l, el⟩ : ∃ a, cL xs k = a := ⟨_, rfl⟩
      obtain ⟨f, ef⟩ : ∃ a, cF xs k = a := ⟨_, rfl⟩
      obtain ⟨t, et⟩ : ∃ a, cT xs k = a := ⟨_, rfl⟩
      rw [ep, el, ef, et] at hcip
      have c0 := (hb.cell (p := ⟨b, off + k * 4, none⟩) (Nat.lt_of_lt_of_le hbB hB)).trans hcip.1
      have c1 := (hb.cell (p := ⟨b, off + k * 4 + 1, none⟩) (Nat.lt_of_lt_of_le hbB hB)).trans hcip.2.1
      have c2 := (hb.cell (p := ⟨b, off + k * 4 + 2, none⟩) (Nat.lt_of_lt_of_le hbB hB)).trans hcip.2.2.1
      have c3 := (hb.cell (p := ⟨b, off + k * 4 + 3, none⟩) (Nat.lt_of_lt_of_le hbB hB)).trans hcip.2.2.2
      have i0 : (0 : Int) ≤ (k : Int) := by omega
      have i1 : (k : Int) < (n : Int) := by omega
      have hgi : caB p l f t = true := by rw [← ep, ← el, ← ef, ← et]; exact HG.out.each k hlt
      obtain ⟨_, _, v1, v2, v3⟩ := caB_yes hgi
      have hp : isAt xs load who count k = ((load == 0 || l == load) && (who == 0 || p == who) && inB count f (t - 1)) := by rw [← ep, ← el, ← ef, ← et]; rfl
      have HPp := Lib.hid hp
      have HB := Lib.hid (below_new hb (.cells #[.int .i64 p, .int .i64 l, .int .i64 f, .int .i64 t] 50))
      have e1 := IntWalk.i64_in (t - 1) (by omega)
      clear hc hcip ep el ef et hgi hp hb
      cases hl : (load == 0 || l == load) with
      | false =>
        have HPk := Lib.hid (show isAt xs load who count k = false by rw [HPp.out, hl]; rfl)
        obtain ⟨hl1, hl2⟩ : (load == 0) = false ∧ (l == load) = false := by simpa using hl
        clear hl
        have hn2 := HFa.out ▸ fa_next (m := n - k) (by omega) HPk.out
        rw [show n - k - 1 = n - (k + 1) by omega] at hn2
        have HN2 := Lib.hid hn2.symm
        clear hn2
        go_wp2_with fail
        go_roundw
        case rel =>
          first
          | exact ⟨k + 1, by omega, by go_num, HN2.out, HB.out⟩
          | ((repeat apply Exists.intro); exact ⟨⟨k + 1, by omega, rfl, HN2.out, HB.out⟩, rfl⟩)
        case measure => simp [intOf]; omega
      | true =>
        cases hw : (who == 0 || p == who) with
        | false =>
          have HPk := Lib.hid (show isAt xs load who count k = false by rw [HPp.out, hl, hw]; rfl)
          obtain ⟨hw1, hw2⟩ : (who == 0) = false ∧ (p == who) = false := by simpa using hw
          clear hw
          cases hl1 : (load == 0) with
          | true =>
            clear hl
            have hn2 := HFa.out ▸ fa_next (m := n - k) (by omega) HPk.out
            rw [show n - k - 1 = n - (k + 1) by omega] at hn2
            have HN2 := Lib.hid hn2.symm
            clear hn2
            go_wp2_with fail
            go_roundw
            case rel =>
              first
              | exact ⟨k + 1, by omega, by go_num, HN2.out, HB.out⟩
              | ((repeat apply Exists.intro); exact ⟨⟨k + 1, by omega, rfl, HN2.out, HB.out⟩, rfl⟩)
            case measure => simp [intOf]; omega
          | false =>
            have hl2 : (l == load) = true := by rw [hl1, Bool.false_or] at hl; exact hl
            clear hl
            have hn2 := HFa.out ▸ fa_next (m := n - k) (by omega) HPk.out
            rw [show n - k - 1 = n - (k + 1) by omega] at hn2
            have HN2 := Lib.hid hn2.symm
            clear hn2
            go_wp2_with fail
            go_roundw
            case rel =>
              first
              | exact ⟨k + 1, by omega, by go_num, HN2.out, HB.out⟩
              | ((repeat apply Exists.intro); exact ⟨⟨k + 1, by omega, rfl, HN2.out, HB.out⟩, rfl⟩)
            case measure => simp [intOf]; omega
        | true =>
          have HPk0 := Lib.hid (show isAt xs load who count k = inB count f (t - 1) by rw [HPp.out, hl, hw]; rfl)
          cases hl1 : (load == 0) with
          | true =>
            clear hl
            cases hw1 : (who == 0) with
            | true =>
              clear hw
              cases hin : inB count f (t - 1) with
              | true =>
                have hat := HFa.out ▸ fa_here (m := n - k) (by omega) (HPk0.out.trans hin)
                have hf := Lib.hid (idx_yes (n := n) hat hlt)
                clear hat
                go_wp2_with fail
                refine (l1In_any _ _ _ _).mono ?_
                rintro e w9 ⟨rfl, rfl⟩
                go_wp2_with fail
                go_ret
                exact ⟨by rw [hf.out]; rfl, HB.out⟩
              | false =>
                have HPk := Lib.hid (HPk0.out.trans hin)
                go_wp2_with fail
                refine (l1In_any _ _ _ _).mono ?_
                rintro e w9 ⟨rfl, rfl⟩
                have hn2 := HFa.out ▸ fa_next (m := n - k) (by omega) HPk.out
                rw [show n - k - 1 = n - (k + 1) by omega] at hn2
                have HN2 := Lib.hid hn2.symm
                clear hn2
                go_wp2_with fail
                go_roundw
                case rel =>
                  first
                  | exact ⟨k + 1, by omega, by go_num, HN2.out, HB.out⟩
                  | ((repeat apply Exists.intro); exact ⟨⟨k + 1, by omega, rfl, HN2.out, HB.out⟩, rfl⟩)
                case measure => simp [intOf]; omega
            | false =>
              have hw2 : (p == who) = true := by rw [hw1, Bool.false_or] at hw; exact hw
              clear hw
              cases hin : inB count f (t - 1) with
              | true =>
                have hat := HFa.out ▸ fa_here (m := n - k) (by omega) (HPk0.out.trans hin)
                have hf := Lib.hid (idx_yes (n := n) hat hlt)
                clear hat
                go_wp2_with fail
                refine (l1In_any _ _ _ _).mono ?_
                rintro e w9 ⟨rfl, rfl⟩
                go_wp2_with fail
                go_ret
                exact ⟨by rw [hf.out]; rfl, HB.out⟩
              | false =>
                have HPk := Lib.hid (HPk0.out.trans hin)
                go_wp2_with fail
                refine (l1In_any _ _ _ _).mono ?_
                rintro e w9 ⟨rfl, rfl⟩
                have hn2 := HFa.out ▸ fa_next (m := n - k) (by omega) HPk.out
                rw [show n - k - 1 = n - (k + 1) by omega] at hn2
                have HN2 := Lib.hid hn2.symm
                clear hn2
                go_wp2_with fail
                go_roundw
                case rel =>
                  first
                  | exact ⟨k + 1, by omega, by go_num, HN2.out, HB.out⟩
                  | ((repeat apply Exists.intro); exact ⟨⟨k + 1, by omega, rfl, HN2.out, HB.out⟩, rfl⟩)
                case measure => simp [intOf]; omega
          | false =>
            have hl2 : (l == load) = true := by rw [hl1, Bool.false_or] at hl; exact hl
            clear hl
            cases hw1 : (who == 0) with
            | true =>
              clear hw
              cases hin : inB count f (t - 1) with
              | true =>
                have hat := HFa.out ▸ fa_here (m := n - k) (by omega) (HPk0.out.trans hin)
                have hf := Lib.hid (idx_yes (n := n) hat hlt)
                clear hat
                go_wp2_with fail
                refine (l1In_any _ _ _ _).mono ?_
                rintro e w9 ⟨rfl, rfl⟩
                go_wp2_with fail
                go_ret
                exact ⟨by rw [hf.out]; rfl, HB.out⟩
              | false =>
                have HPk := Lib.hid (HPk0.out.trans hin)
                go_wp2_with fail
                refine (l1In_any _ _ _ _).mono ?_
                rintro e w9 ⟨rfl, rfl⟩
                have hn2 := HFa.out ▸ fa_next (m := n - k) (by omega) HPk.out
                rw [show n - k - 1 = n - (k + 1) by omega] at hn2
                have HN2 := Lib.hid hn2.symm
                clear hn2
                go_wp2_with fail
                go_roundw
                case rel =>
                  first
                  | exact ⟨k + 1, by omega, by go_num, HN2.out, HB.out⟩
                  | ((repeat apply Exists.intro); exact ⟨⟨k + 1, by omega, rfl, HN2.out, HB.out⟩, rfl⟩)
                case measure => simp [intOf]; omega
            | false =>
              have hw2 : (p == who) = true := by rw [hw1, Bool.false_or] at hw; exact hw
              clear hw
              cases hin : inB count f (t - 1) with
              | true =>
                have hat := HFa.out ▸ fa_here (m := n - k) (by omega) (HPk0.out.trans hin)
                have hf := Lib.hid (idx_yes (n := n) hat hlt)
                clear hat
                go_wp2_with fail
                refine (l1In_any _ _ _ _).mono ?_
                rintro e w9 ⟨rfl, rfl⟩
                go_wp2_with fail
                go_ret
                exact ⟨by rw [hf.out]; rfl, HB.out⟩
              | false =>
                have HPk := Lib.hid (HPk0.out.trans hin)
                go_wp2_with fail
                refine (l1In_any _ _ _ _).mono ?_
                rintro e w9 ⟨rfl, rfl⟩
                have hn2 := HFa.out ▸ fa_next (m := n - k) (by omega) HPk.out
                rw [show n - k - 1 = n - (k + 1) by omega] at hn2
                have HN2 := Lib.hid hn2.symm
                clear hn2
                go_wp2_with fail
                go_roundw
                case rel =>
                  first
                  | exact ⟨k + 1, by omega, by go_num, HN2.out, HB.out⟩
                  | ((repeat apply Exists.intro); exact ⟨⟨k + 1, by omega, rfl, HN2.out, HB.out⟩, rfl⟩)
                case measure => simp [intOf]; omega
    · obtain rfl : k = n := by omega
      have hf := Lib.hid (idx_no (show idxAt k xs load who count = k by rw [← HFa.out]; simp [fa]))
      have HB := Lib.hid hb
      clear hb
      go_wp2_with fail
      go_ret
      exact ⟨by rw [hf.out]; rfl, HB.out⟩
end Go.Proofs.YtamehlafmfmgmaaDoor
