/- Contracts of the longest carry, in the program and in the reference, and of the two LongestCarry. Condition: the slice can be read, and its length is at most its capacity. -/
import Derived.Test.YtamehlafmfmgmaaAreSpec
import Derived.Test.YtamehlafmfmgmaaCarryAtFn
namespace Go.Proofs.Ytamehlafmfmgmaa
open Go.RowKit

theorem lg_case {who f t a b c e nb : Int} (h : (if f = e then c else f) = nb) : (t - nb > b - a → lgStep who who f t ⟨a, b, c, e⟩ = ⟨nb, t, nb, t⟩) ∧ (t - nb ≤ b - a → lgStep who who f t ⟨a, b, c, e⟩ = ⟨a, b, nb, t⟩) := by
  subst h
  exact ⟨fun h => lg_more h, fun h => lg_less h⟩
set_option maxRecDepth 100000 in
set_option maxHeartbeats 2000000 in
theorem longestCarry_any (v : Value) (n B : Nat) (xs : List Int) (who : Int) (w : World) (hv : Rd w B 4 v n xs) (hB : B ≤ w.heap.size) (hg : GoodC n xs) :
    Calls Try.prog 45 #[v, .int .i64 who] w fun e w' => e = .returned (.tuple #[.int .i64 (lgTo xs who n).f, .int .i64 (lgTo xs who n).t]) ∧ Below w.heap.size w w' := by
  obtain ⟨A, c, rfl⟩ := hv.form4
  have h40 := hg.len
  have HG := Lib.hid hg
  have Hv := Lib.hid hv
  clear hv hg
  go_enter Try.func45, Try.ntmps45
  go_wp2_with fail
  go_loopw [6, 7, 8, 9, 14] (fun s6 s7 s8 s9 s wr => ∃ k : Nat, k ≤ n ∧ s6 = .int .i64 (lgTo xs who k).f ∧ s7 = .int .i64 (lgTo xs who k).t ∧ s8 = .int .i64 (lgTo xs who k).b ∧ s9 = .int .i64 (lgTo xs who k).e ∧ s = .int .i64 k ∧ Below w.heap.size w wr) (fun _ _ _ _ s _ => n - (intOf s).toNat)
  case atStart => exact ⟨0, Nat.zero_le _, rfl, rfl, rfl, rfl, rfl, Below.refl _ _⟩
  case round =>
    obtain ⟨k, hk, rfl, rfl, rfl, rfl, rfl, hb⟩ := hrel
    by_cases hlt : k < n
    · obtain ⟨b, off, rfl, hbB, hc⟩ := Hv.out.carry (by omega)
      have hcip := hc k (by omega)
      obtain ⟨p, ep⟩ : ∃ a, cP xs k = a := ⟨_, rfl⟩
      obtain ⟨l, el⟩ : ∃ a, cL xs k = a := ⟨_, rfl⟩
      obtain ⟨f, ef⟩ : ∃ a, cF xs k = a := ⟨_, rfl⟩
      obtain ⟨t, et⟩ : ∃ a, cT xs k = a := ⟨_, rfl⟩
      rw [ep, el, ef, et] at hcip
      have c0 := (hb.cell (p := ⟨b, off + k * 4, none⟩) (Nat.lt_of_lt_of_le hbB hB)).trans hcip.1
      have c1 := (hb.cell (p := ⟨b, off + k * 4 + 1, none⟩) (Nat.lt_of_lt_of_le hbB hB)).trans hcip.2.1
      have c2 := (hb.cell (p := ⟨b, off + k * 4 + 2, none⟩) (Nat.lt_of_lt_of_le hbB hB)).trans hcip.2.2.1
      have c3 := (hb.cell (p := ⟨b, off + k * 4 + 3, none⟩) (Nat.lt_of_lt_of_le hbB hB)).trans hcip.2.2.2
      have i0 : (0 : Int) ≤ (k : Int) := by omega
      have i1 : (k : Int) < (n : Int) := by omega
      have hgi : caB p l f t = true := by rw [← ep, ← el, ← ef, ← et]; exact HG.out.each k hlt
      obtain ⟨_, _, v1, v2, v3⟩ := caB_yes hgi
      have hok := lgTo_ok HG.out who k hk
      have hst : lgTo xs who (k + 1) = lgStep who p f t (lgTo xs who k) := by rw [← ep, ← ef, ← et]; rfl
      obtain ⟨⟨sf, st, sb, se⟩, hs⟩ : ∃ s, lgTo xs who k = s := ⟨_, rfl⟩
      rw [hs] at hok hst
      rw [hs]
      dsimp only
      obtain ⟨⟨o1, o2⟩, ⟨o3, o4⟩, ⟨o5, o6⟩, o7, o8⟩ := hok
      dsimp only at o1 o2 o3 o4 o5 o6 o7 o8
      have HB := Lib.hid (below_new hb (.cells #[.int .i64 p, .int .i64 l, .int .i64 f, .int .i64 t] 52))
      clear hc hcip ep el ef et hgi hb hs
      by_cases hp : p = who
      · subst hp
        have HSt := Lib.hid hst
        have hpp : (p != p) = false := by simp
        clear hst
        by_cases he : f = se
        · subst he
          have hff : (f != f) = false := by simp
          by_cases hm : t - sb > st - sf
          · have HS := Lib.hid (HSt.out.trans ((lg_case (if_pos rfl)).1 hm))
            go_wp2_with fail
            go_roundw
            case rel => exact ⟨k + 1, by omega, by rw [HS.out], by rw [HS.out], by rw [HS.out], by rw [HS.out], by go_num, HB.out⟩
            case measure => simp [intOf]; omega
          · have HS := Lib.hid (HSt.out.trans ((lg_case (if_pos rfl)).2 (Int.not_lt.1 hm)))
            go_wp2_with fail
            go_roundw
            case rel => exact ⟨k + 1, by omega, by rw [HS.out], by rw [HS.out], by rw [HS.out], by rw [HS.out], by go_num, HB.out⟩
            case measure => simp [intOf]; omega
        · have hff : (f != se) = true := by simp [he]
          have HE := Lib.hid he
          clear he
          by_cases hm : t - f > st - sf
          · have HS := Lib.hid (HSt.out.trans ((lg_case (if_neg HE.out)).1 hm))
            go_wp2_with fail
            go_roundw
            case rel => exact ⟨k + 1, by omega, by rw [HS.out], by rw [HS.out], by rw [HS.out], by rw [HS.out], by go_num, HB.out⟩
            case measure => simp [intOf]; omega
          · have HS := Lib.hid (HSt.out.trans ((lg_case (if_neg HE.out)).2 (Int.not_lt.1 hm)))
            go_wp2_with fail
            go_roundw
            case rel => exact ⟨k + 1, by omega, by rw [HS.out], by rw [HS.out], by rw [HS.out], by rw [HS.out], by go_num, HB.out⟩
            case measure => simp [intOf]; omega
      · have hpp : (p != who) = true := by simp [hp]
        have HS := Lib.hid (hst.trans (lg_other _ hp))
        clear hst hp
        go_wp2_with fail
        go_roundw
        case rel => exact ⟨k + 1, by omega, by rw [HS.out], by rw [HS.out], by rw [HS.out], by rw [HS.out], by go_num, HB.out⟩
        case measure => simp [intOf]; omega
    · obtain rfl : k = n := by omega
      have HB := Lib.hid hb
      clear hb
      go_wp2_with fail
      go_ret2
      exact ⟨rfl, HB.out⟩
set_option maxRecDepth 100000 in
set_option maxHeartbeats 2000000 in
theorem caLongest_any (v : Value) (n B : Nat) (xs : List Int) (who : Int) (w : World) (hv : Rd w B 4 v n xs) (hB : B ≤ w.heap.size) (hg : GoodC n xs) :
    Calls Try.prog 46 #[v, .int .i64 who] w fun e w' => e = .returned (.tuple #[.int .i64 (lgTo xs who n).f, .int .i64 (lgTo xs who n).t]) ∧ Below w.heap.size w w' := by
  obtain ⟨A, c, rfl⟩ := hv.form4
  have h40 := hg.len
  have HG := Lib.hid hg
  have Hv := Lib.hid hv
  clear hv hg
  go_enter Try.func46, Try.ntmps46
  go_wp2_with fail
  go_loopw [6, 7, 8, 9, 14] (fun s6 s7 s8 s9 s wr => ∃ k : Nat, k ≤ n ∧ s6 = .int .i64 (lgTo xs who k).f ∧ s7 = .int .i64 (lgTo xs who k).t ∧ s8 = .int .i64 (lgTo xs who k).b ∧ s9 = .int .i64 (lgTo xs who k).e ∧ s = .int .i64 k ∧ Below w.heap.size w wr) (fun _ _ _ _ s _ => n - (intOf s).toNat)
  case atStart => exact ⟨0, Nat.zero_le _, rfl, rfl, rfl, rfl, rfl, Below.refl _ _⟩
  case round =>
    obtain ⟨k, hk, rfl, rfl, rfl, rfl, rfl, hb⟩ := hrel
    by_cases hlt : k < n
    · obtain ⟨b, off, rfl, hbB, hc⟩ := Hv.out.carry (by omega)
      have hcip := hc k (by omega)
      obtain ⟨p, ep⟩ : ∃ a, cP xs k = a := ⟨_, rfl⟩
      obtain ⟨l, el⟩ : ∃ a, cL xs k = a := ⟨_, rfl⟩
      obtain ⟨f, ef⟩ : ∃ a, cF xs k = a := ⟨_, rfl⟩
      obtain ⟨t, et⟩ : ∃ a, cT xs k = a := ⟨_, rfl⟩
      rw [ep, el, ef, et] at hcip
      have c0 := (hb.cell (p := ⟨b, off + k * 4, none⟩) (Nat.lt_of_lt_of_le hbB hB)).trans hcip.1
      have c1 := (hb.cell (p := ⟨b, off + k * 4 + 1, none⟩) (Nat.lt_of_lt_of_le hbB hB)).trans hcip.2.1
      have c2 := (hb.cell (p := ⟨b, off + k * 4 + 2, none⟩) (Nat.lt_of_lt_of_le hbB hB)).trans hcip.2.2.1
      have c3 := (hb.cell (p := ⟨b, off + k * 4 + 3, none⟩) (Nat.lt_of_lt_of_le hbB hB)).trans hcip.2.2.2
      have i0 : (0 : Int) ≤ (k : Int) := by omega
      have i1 : (k : Int) < (n : Int) := by omega
      have hgi : caB p l f t = true := by rw [← ep, ← el, ← ef, ← et]; exact HG.out.each k hlt
      obtain ⟨_, _, v1, v2, v3⟩ := caB_yes hgi
      have hok := lgTo_ok HG.out who k hk
      have hst : lgTo xs who (k + 1) = lgStep who p f t (lgTo xs who k) := by rw [← ep, ← ef, ← et]; rfl
      obtain ⟨⟨sf, st, sb, se⟩, hs⟩ : ∃ s, lgTo xs who k = s := ⟨_, rfl⟩
      rw [hs] at hok hst
      rw [hs]
      dsimp only
      obtain ⟨⟨o1, o2⟩, ⟨o3, o4⟩, ⟨o5, o6⟩, o7, o8⟩ := hok
      dsimp only at o1 o2 o3 o4 o5 o6 o7 o8
      have HB := Lib.hid (below_new hb (.cells #[.int .i64 p, .int .i64 l, .int .i64 f, .int .i64 t] 52))
      clear hc hcip ep el ef et hgi hb hs
      by_cases hp : p = who
      · subst hp
        have HSt := Lib.hid hst
        have hpp : (p != p) = false := by simp
        clear hst
        by_cases he : f = se
        · subst he
          have hff : (f != f) = false := by simp
          by_cases hm : t - sb > st - sf
          · have HS := Lib.hid (HSt.out.trans ((lg_case (if_pos rfl)).1 hm))
            go_wp2_with fail
            go_roundw
            case rel => exact ⟨k + 1, by omega, by rw [HS.out], by rw [HS.out], by rw [HS.out], by rw [HS.out], by go_num, HB.out⟩
            case measure => simp [intOf]; omega
          · have HS := Lib.hid (HSt.out.trans ((lg_case (if_pos rfl)).2 (Int.not_lt.1 hm)))
            go_wp2_with fail
            go_roundw
            case rel => exact ⟨k + 1, by omega, by rw [HS.out], by rw [HS.out], by rw [HS.out], by rw [HS.out], by go_num, HB.out⟩
            case measure => simp [intOf]; omega
        · have hff : (f != se) = true := by simp [he]
          have HE := Lib.hid he
          clear he
          by_cases hm : t - f > st - sf
          · have HS := Lib.hid (HSt.out.trans ((lg_case (if_neg HE.out)).1 hm))
            go_wp2_with fail
            go_roundw
            case rel => exact ⟨k + 1, by omega, by rw [HS.out], by rw [HS.out], by rw [HS.out], by rw [HS.out], by go_num, HB.out⟩
            case measure => simp [intOf]; omega
          · have HS := Lib.hid (HSt.out.trans ((lg_case (if_neg HE.out)).2 (Int.not_lt.1 hm)))
            go_wp2_with fail
            go_roundw
            case rel => exact ⟨k + 1, by omega, by rw [HS.out], by rw [HS.out], by rw [HS.out], by rw [HS.out], by go_num, HB.out⟩
            case measure => simp [intOf]; omega
      · have hpp : (p != who) = true := by simp [hp]
        have HS := Lib.hid (hst.trans (lg_other _ hp))
        clear hst hp
        go_wp2_with fail
        go_roundw
        case rel => exact ⟨k + 1, by omega, by rw [HS.out], by rw [HS.out], by rw [HS.out], by rw [HS.out], by go_num, HB.out⟩
        case measure => simp [intOf]; omega
    · obtain rfl : k = n := by omega
      have HB := Lib.hid hb
      clear hb
      go_wp2_with fail
      go_ret2
      exact ⟨rfl, HB.out⟩

def lcA (n : Nat) (xs : List Int) (who : Int) : Bool := gcB n xs && inB who 1 12
def lcF (n : Nat) (xs : List Int) (who : Int) : Int := if lcA n xs who = true then (lgTo xs who n).f else 0
def lcT (n : Nat) (xs : List Int) (who : Int) : Int := if lcA n xs who = true then (lgTo xs who n).t else 0
def lcB (n : Nat) (xs : List Int) (who : Int) : Bool := lcA n xs who && decide ((lgTo xs who n).f < (lgTo xs who n).t)
theorem lc_no {n : Nat} {xs : List Int} {who : Int} (h : lcA n xs who = false) : lcF n xs who = 0 ∧ lcT n xs who = 0 ∧ lcB n xs who = false := by simp [lcF, lcT, lcB, h]
theorem lc_yes {n : Nat} {xs : List Int} {who : Int} (h : lcA n xs who = true) : lcF n xs who = (lgTo xs who n).f ∧ lcT n xs who = (lgTo xs who n).t ∧ lcB n xs who = decide ((lgTo xs who n).f < (lgTo xs who n).t) := by simp [lcF, lcT, lcB, h]
theorem LongestCarry_any (v : Value) (n B : Nat) (xs : List Int) (who : Int) (w : World) (hcp : Cap v) (hv : Rd w B 4 v n xs) (hB : B ≤ w.heap.size) (hn : n ≤ 1099511627776) :
    Calls Try.prog 14 #[v, .int .i64 who] w fun e w' => e = .returned (.tuple #[.int .i64 (lcF n xs who), .int .i64 (lcT n xs who), .bool (lcB n xs who)]) ∧ Below w.heap.size w w' := by
  obtain ⟨A, c, rfl⟩ := hv.form4
  have Hv := Lib.hid hv
  have Hc := Lib.hid hcp
  clear hv hcp
  cases h1 : gcB n xs with
  | false =>
    have hf := Lib.hid (lc_no (show lcA n xs who = false by simp [lcA, h1]))
    go_enter Try.func14, Try.ntmps14
    go_wp2_with fail
    refine (AreCarries_any _ n B xs _ Hc.out Hv.out hB hn).mono ?_
    rintro e w1 ⟨rfl, hb1⟩
    go_wp2_with fail
    go_ret3
    exact ⟨by rw [hf.out.1, hf.out.2.1, hf.out.2.2]; rfl, hb1⟩
  | true =>
    cases h2 : inB who 1 12 with
    | false =>
      have hf := Lib.hid (lc_no (show lcA n xs who = false by simp [lcA, h2]))
      go_enter Try.func14, Try.ntmps14
      go_wp2_with fail
      refine (AreCarries_any _ n B xs _ Hc.out Hv.out hB hn).mono ?_
      rintro e w1 ⟨rfl, hb1⟩
      go_wp2_with fail
      refine (within_any _ _ _ _).mono ?_
      rintro e w' ⟨rfl, rfl⟩
      go_wp2_with fail
      go_ret3
      exact ⟨by rw [hf.out.1, hf.out.2.1, hf.out.2.2]; rfl, hb1⟩
    | true =>
      have hf := lc_yes (show lcA n xs who = true by simp [lcA, h1, h2])
      have hP := fun W (h : Rd W B 4 (.slice A n c) n xs) (hB : B ≤ W.heap.size) => longestCarry_any _ n B xs who W h hB (gc_yes h1)
      obtain ⟨⟨sf, st, sb, se⟩, hs⟩ : ∃ s, lgTo xs who n = s := ⟨_, rfl⟩
      rw [hs] at hf hP
      dsimp only at hf hP
      have HP := Lib.hid hP
      replace hf := Lib.hid hf
      clear hP hs
      go_enter Try.func14, Try.ntmps14
      go_wp2_with fail
      refine (AreCarries_any _ n B xs _ Hc.out Hv.out hB hn).mono ?_
      rintro e w1 ⟨rfl, hb1⟩
      have HB1 := Lib.hid hb1
      clear hb1
      go_wp2_with fail
      refine (within_any _ _ _ _).mono ?_
      rintro e w' ⟨rfl, rfl⟩
      go_wp2_with fail
      refine (HP.out _ (Hv.out.below' HB1.out hB) (Nat.le_trans hB HB1.out.size)).mono ?_
      rintro e w2 ⟨rfl, hb2⟩
      have HB2 := Lib.hid (below_on HB1.out hb2)
      clear hb2
      go_wp2_with fail
      go_ret3
      exact ⟨by rw [hf.out.1, hf.out.2.1, hf.out.2.2]; rfl, HB2.out⟩
theorem specLongestCarry_any (v : Value) (n B : Nat) (xs : List Int) (who : Int) (w : World) (hcp : Cap v) (hv : Rd w B 4 v n xs) (hB : B ≤ w.heap.size) (hn : n ≤ 1099511627776) :
    Calls Try.prog 15 #[v, .int .i64 who] w fun e w' => e = .returned (.tuple #[.int .i64 (lcF n xs who), .int .i64 (lcT n xs who), .bool (lcB n xs who)]) ∧ Below w.heap.size w w' := by
  obtain ⟨A, c, rfl⟩ := hv.form4
  have Hv := Lib.hid hv
  have Hc := Lib.hid hcp
  clear hv hcp
  cases h1 : gcB n xs with
  | false =>
    have hf := Lib.hid (lc_no (show lcA n xs who = false by simp [lcA, h1]))
    go_enter Try.func15, Try.ntmps15
    go_wp2_with fail
    refine (caGood_any _ n B xs _ Hc.out Hv.out hB hn).mono ?_
    rintro e w1 ⟨rfl, hb1⟩
    go_wp2_with fail
    go_ret3
    exact ⟨by rw [hf.out.1, hf.out.2.1, hf.out.2.2]; rfl, hb1⟩
  | true =>
    cases h2 : inB who 1 12 with
    | false =>
      have hf := Lib.hid (lc_no (show lcA n xs who = false by simp [lcA, h2]))
      go_enter Try.func15, Try.ntmps15
      go_wp2_with fail
      refine (caGood_any _ n B xs _ Hc.out Hv.out hB hn).mono ?_
      rintro e w1 ⟨rfl, hb1⟩
      go_wp2_with fail
      refine (caPerformer_any _ _).mono ?_
      rintro e w' ⟨rfl, rfl⟩
      go_wp2_with fail
      go_ret3
      exact ⟨by rw [hf.out.1, hf.out.2.1, hf.out.2.2]; rfl, hb1⟩
    | true =>
      have hf := lc_yes (show lcA n xs who = true by simp [lcA, h1, h2])
      have hP := fun W (h : Rd W B 4 (.slice A n c) n xs) (hB : B ≤ W.heap.size) => caLongest_any _ n B xs who W h hB (gc_yes h1)
      obtain ⟨⟨sf, st, sb, se⟩, hs⟩ : ∃ s, lgTo xs who n = s := ⟨_, rfl⟩
      rw [hs] at hf hP
      dsimp only at hf hP
      have HP := Lib.hid hP
      replace hf := Lib.hid hf
      clear hP hs
      go_enter Try.func15, Try.ntmps15
      go_wp2_with fail
      refine (caGood_any _ n B xs _ Hc.out Hv.out hB hn).mono ?_
      rintro e w1 ⟨rfl, hb1⟩
      have HB1 := Lib.hid hb1
      clear hb1
      go_wp2_with fail
      refine (caPerformer_any _ _).mono ?_
      rintro e w' ⟨rfl, rfl⟩
      go_wp2_with fail
      refine (HP.out _ (Hv.out.below' HB1.out hB) (Nat.le_trans hB HB1.out.size)).mono ?_
      rintro e w2 ⟨rfl, hb2⟩
      have HB2 := Lib.hid (below_on HB1.out hb2)
      clear hb2
      go_wp2_with fail
      go_ret3
      exact ⟨by rw [hf.out.1, hf.out.2.1, hf.out.2.2]; rfl, HB2.out⟩
end Go.Proofs.Ytamehlafmfmgmaa
