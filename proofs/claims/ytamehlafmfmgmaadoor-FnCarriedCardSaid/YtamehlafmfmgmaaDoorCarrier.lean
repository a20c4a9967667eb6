/- Contracts of the two CarrierAt and of the two LoadAt. Condition: the slice can be read, and its length is at most its capacity. -/
import Derived.Test.YtamehlafmfmgmaaDoorCarrierAt
namespace Go.Proofs.YtamehlafmfmgmaaDoor
open Go.RowKit

def crB (n : Nat) (xs : List Int) (q count : Int) : Bool := gcB n xs && inB q 1 9 && inB count 0 999 && decide (idxAt n xs q 0 count < n)
def crV (n : Nat) (xs : List Int) (q count : Int) : Int := if crB n xs q count = true then cP xs (idxAt n xs q 0 count) else 0
theorem cr_no {n : Nat} {xs : List Int} {q count : Int} (h : crB n xs q count = false) : crB n xs q count = false ∧ crV n xs q count = 0 := by simp [crV, h]
theorem cr_yes {n : Nat} {xs : List Int} {q count : Int} (h : crB n xs q count = true) : crB n xs q count = true ∧ crV n xs q count = cP xs (idxAt n xs q 0 count) := by simp [crV, h]
def ldB (n : Nat) (xs : List Int) (q count : Int) : Bool := gcB n xs && inB q 1 12 && inB count 0 999 && decide (idxAt n xs 0 q count < n)
def ldV (n : Nat) (xs : List Int) (q count : Int) : Int := if ldB n xs q count = true then cL xs (idxAt n xs 0 q count) else 0
theorem ld_no {n : Nat} {xs : List Int} {q count : Int} (h : ldB n xs q count = false) : ldB n xs q count = false ∧ ldV n xs q count = 0 := by simp [ldV, h]
theorem ld_yes {n : Nat} {xs : List Int} {q count : Int} (h : ldB n xs q count = true) : ldB n xs q count = true ∧ ldV n xs q count = cL xs (idxAt n xs 0 q count) := by simp [ldV, h]
theorem cr_at {xs : List Int} {q count : Int} (h : 1 ≤ q) (k : Nat) : isAt xs q 0 count k = (cL xs k == q && inB count (cF xs k) (cT xs k - 1)) := by
  have hz : (q == 0) = false := by simp; omega
  simp only [isAt, hz, Bool.false_or, beq_self_eq_true, Bool.true_or, Bool.and_true]
theorem ld_at {xs : List Int} {q count : Int} (h : 1 ≤ q) (k : Nat) : isAt xs 0 q count k = (cP xs k == q && inB count (cF xs k) (cT xs k - 1)) := by
  have hz : (q == 0) = false := by simp; omega
  simp only [isAt, hz, Bool.false_or, beq_self_eq_true, Bool.true_or, Bool.true_and]

/-! The program: $1 the function, $2 the pair of arguments of idxAt, $3 the field that is asked, $4 the field that is told, $5 its reading, $6 $7 the two laws, $8 the bound of the argument, $9 its law on isAt -/
set_option maxRecDepth 100000 in
set_option maxHeartbeats 2000000 in
theorem CarrierAt_any (v : Value) (n B : Nat) (xs : List Int) (q count : Int) (w : World) (hcp : Cap v) (hv : Rd w B 4 v n xs) (hB : B ≤ w.heap.size) (hn : n ≤ 1099511627776) :
    Calls Tryd.prog 14 #[v, .int .i64 q, .int .i64 count] w fun e w' => e = .returned (.tuple #[.int .i64 (crV n xs q count), .bool (crB n xs q count)]) ∧ Below w.heap.size w w' := by
  obtain ⟨A, c, rfl⟩ := hv.form4
  have Hv := Lib.hid hv
  have Hc := Lib.hid hcp
  clear hv hcp
  cases h1 : gcB n xs with
  | false =>
    have hf := Lib.hid (cr_no (q := q) (count := count) (show crB n xs q count = false by simp [crB, h1]))
    go_enter Tryd.func14, Tryd.ntmps14
    go_wp2_with fail
    refine (AreCarries_any _ n B xs _ Hc.out Hv.out hB hn).mono ?_
    rintro e w1 ⟨rfl, hb1⟩
    go_wp2_with fail
    go_ret2
    exact ⟨by rw [hf.out.1, hf.out.2]; rfl, hb1⟩
  | true =>
    cases h2 : inB q 1 9 with
    | false =>
      have hf := Lib.hid (cr_no (q := q) (count := count) (show crB n xs q count = false by simp [crB, h2]))
      go_enter Tryd.func14, Tryd.ntmps14
      go_wp2_with fail
      refine (AreCarries_any _ n B xs _ Hc.out Hv.out hB hn).mono ?_
      rintro e w1 ⟨rfl, hb1⟩
      go_wp2_with fail
      refine (within_any _ _ _ _).mono ?_
      rintro e w' ⟨rfl, rfl⟩
      go_wp2_with fail
      go_ret2
      exact ⟨by rw [hf.out.1, hf.out.2]; rfl, hb1⟩
    | true =>
      cases h3 : inB count 0 999 with
      | false =>
        have hf := Lib.hid (cr_no (q := q) (count := count) (show crB n xs q count = false by simp [crB, h3]))
        go_enter Tryd.func14, Tryd.ntmps14
        go_wp2_with fail
        refine (AreCarries_any _ n B xs _ Hc.out Hv.out hB hn).mono ?_
        rintro e w1 ⟨rfl, hb1⟩
        go_wp2_with fail
        refine (within_any _ _ _ _).mono ?_
        rintro e w' ⟨rfl, rfl⟩
        go_wp2_with fail
        refine (within_any _ _ _ _).mono ?_
        rintro e w' ⟨rfl, rfl⟩
        go_wp2_with fail
        go_ret2
        exact ⟨by rw [hf.out.1, hf.out.2]; rfl, hb1⟩
      | true =>
        obtain ⟨q1, q2⟩ := inB_yes h2
        obtain ⟨r1, r2⟩ := inB_yes h3
        have hg := gc_yes h1
        have h40 := hg.len
        have HG := Lib.hid hg
        have HY := Lib.hid (fun (h : idxAt n xs q 0 count < n) => cr_yes (q := q) (count := count) (show crB n xs q count = true by simp [crB, h1, h2, h3, h]))
        have HN := Lib.hid (fun (h : idxAt n xs q 0 count = n) => cr_no (q := q) (count := count) (show crB n xs q count = false by simp [crB, h]))
        clear hg
        go_enter Tryd.func14, Tryd.ntmps14
        go_wp2_with fail
        refine (AreCarries_any _ n B xs _ Hc.out Hv.out hB hn).mono ?_
        rintro e w1 ⟨rfl, hb1⟩
        go_wp2_with fail
        refine (within_any _ _ _ _).mono ?_
        rintro e w' ⟨rfl, rfl⟩
        go_wp2_with fail
        refine (within_any _ _ _ _).mono ?_
        rintro e w' ⟨rfl, rfl⟩
        go_wp2_with fail
        go_loopw [25] (fun s wr => ∃ k : Nat, k ≤ n ∧ s = .int .i64 k ∧ fa (isAt xs q 0 count) (n - k) k = idxAt n xs q 0 count ∧ Below w.heap.size w wr) (fun s _ => n - (intOf s).toNat)
        case atStart => exact ⟨0, Nat.zero_le _, rfl, rfl, hb1⟩
        case round =>
          clear hb1
          obtain ⟨k, hk, rfl, hfa, hb⟩ := hrel
          have HFa := Lib.hid hfa
          clear hfa
          by_cases hlt : k < n
          · obtain ⟨b, off, rfl, hbB, hc⟩ := Hv.out.carry (by omega)
            have hcip := hc k (by omega)
            obtain ⟨p, ep⟩ : ∃ a, cP xs k = a := ⟨_, rfl⟩
            obtain ⟨l, el⟩ : ∃ a, cL xs k = a := ⟨_, rfl⟩
            obtain ⟨f, ef⟩ : ∃ a, cF xs k = a := ⟨_, rfl⟩
            obtain ⟨t, et⟩ : ∃ a, cT xs k = a := ⟨_, rfl⟩
            rw [ep, el, ef, et] at hcip
            have c0 := (hb.cell (p := ⟨b, off + k * 4, none⟩) (Nat.lt_of_lt_of_le hbB hB)).trans hcip.1
            have c1 := (hb.cell (p := ⟨b, off + k * 4 + 1, none⟩) (Nat.lt_of_lt_of_le hbB hB)).trans hcip.2.1
            have c2 := (hb.cell (p := ⟨b, off + k * 4 + 2, none⟩) (Nat.lt_of_lt_of_le hbB hB)).trans hcip.2.2.1
            have c3 := (hb.cell (p := ⟨b, off + k * 4 + 3, none⟩) (Nat.lt_of_lt_of_le hbB hB)).trans hcip.2.2.2
            have i0 : (0 : Int) ≤ (k : Int) := by omega
            have i1 : (k : Int) < (n : Int) := by omega
            have hgi : caB p l f t = true := by rw [← ep, ← el, ← ef, ← et]; exact HG.out.each k hlt
            obtain ⟨_, _, v1, v2, v3⟩ := caB_yes hgi
            have hp := cr_at (xs := xs) (count := count) q1 k
            rw [el, ef, et] at hp
            have HPp := Lib.hid hp
            have HV := Lib.hid ep
            have HB := Lib.hid (below_new hb (.cells #[.int .i64 p, .int .i64 l, .int .i64 f, .int .i64 t] 50))
            clear hc hcip ep el ef et hgi hp hb
            cases hl : (l == q) with
            | false =>
              have HPk := Lib.hid (HPp.out.trans (by rw [hl, Bool.false_and]))
              have hn2 := HFa.out ▸ fa_next (m := n - k) (by omega) HPk.out
              rw [show n - k - 1 = n - (k + 1) by omega] at hn2
              have HN2 := Lib.hid hn2.symm
              clear hn2
              go_wp2_with fail
              go_roundw
              case rel =>
                first
                | exact ⟨k + 1, by omega, by go_num, HN2.out, HB.out⟩
                | ((repeat apply Exists.intro); exact ⟨⟨k + 1, by omega, rfl, HN2.out, HB.out⟩, rfl⟩)
              case measure => simp [intOf]; omega
            | true =>
              by_cases hf1 : f ≤ count
              · by_cases hf2 : count < t
                · have hat := HFa.out ▸ fa_here (m := n - k) (by omega) (HPp.out.trans (by rw [hl, inB_mk hf1 (by omega)]; rfl))
                  have hf := Lib.hid (HY.out (by omega))
                  have HAt := Lib.hid hat
                  clear hat
                  go_wp2_with fail
                  go_ret2
                  exact ⟨by rw [hf.out.1, hf.out.2, HAt.out, HV.out]; rfl, HB.out⟩
                · have HPk := Lib.hid (HPp.out.trans (by rw [inB_hi (by omega), Bool.and_false]))
                  have hn2 := HFa.out ▸ fa_next (m := n - k) (by omega) HPk.out
                  rw [show n - k - 1 = n - (k + 1) by omega] at hn2
                  have HN2 := Lib.hid hn2.symm
                  clear hn2
                  go_wp2_with fail
                  go_roundw
                  case rel =>
                    first
                    | exact ⟨k + 1, by omega, by go_num, HN2.out, HB.out⟩
                    | ((repeat apply Exists.intro); exact ⟨⟨k + 1, by omega, rfl, HN2.out, HB.out⟩, rfl⟩)
                  case measure => simp [intOf]; omega
              · have HPk := Lib.hid (HPp.out.trans (by rw [inB_lo (by omega), Bool.and_false]))
                have hn2 := HFa.out ▸ fa_next (m := n - k) (by omega) HPk.out
                rw [show n - k - 1 = n - (k + 1) by omega] at hn2
                have HN2 := Lib.hid hn2.symm
                clear hn2
                go_wp2_with fail
                go_roundw
                case rel =>
                  first
                  | exact ⟨k + 1, by omega, by go_num, HN2.out, HB.out⟩
                  | ((repeat apply Exists.intro); exact ⟨⟨k + 1, by omega, rfl, HN2.out, HB.out⟩, rfl⟩)
                case measure => simp [intOf]; omega
          · obtain rfl : k = n := by omega
            have hf := Lib.hid (HN.out (by rw [← HFa.out]; simp [fa]))
            have HB := Lib.hid hb
            clear hb
            go_wp2_with fail
            go_ret2
            exact ⟨by rw [hf.out.1, hf.out.2]; rfl, HB.out⟩
set_option maxRecDepth 100000 in
set_option maxHeartbeats 2000000 in
theorem LoadAt_any (v : Value) (n B : Nat) (xs : List Int) (q count : Int) (w : World) (hcp : Cap v) (hv : Rd w B 4 v n xs) (hB : B ≤ w.heap.size) (hn : n ≤ 1099511627776) :
    Calls Tryd.prog 17 #[v, .int .i64 q, .int .i64 count] w fun e w' => e = .returned (.tuple #[.int .i64 (ldV n xs q count), .bool (ldB n xs q count)]) ∧ Below w.heap.size w w' := by
  obtain ⟨A, c, rfl⟩ := hv.form4
  have Hv := Lib.hid hv
  have Hc := Lib.hid hcp
  clear hv hcp
  cases h1 : gcB n xs with
  | false =>
    have hf := Lib.hid (ld_no (q := q) (count := count) (show ldB n xs q count = false by simp [ldB, h1]))
    go_enter Tryd.func17, Tryd.ntmps17
    go_wp2_with fail
    refine (AreCarries_any _ n B xs _ Hc.out Hv.out hB hn).mono ?_
    rintro e w1 ⟨rfl, hb1⟩
    go_wp2_with fail
    go_ret2
    exact ⟨by rw [hf.out.1, hf.out.2]; rfl, hb1⟩
  | true =>
    cases h2 : inB q 1 12 with
    | false =>
      have hf := Lib.hid (ld_no (q := q) (count := count) (show ldB n xs q count = false by simp [ldB, h2]))
      go_enter Tryd.func17, Tryd.ntmps17
      go_wp2_with fail
      refine (AreCarries_any _ n B xs _ Hc.out Hv.out hB hn).mono ?_
      rintro e w1 ⟨rfl, hb1⟩
      go_wp2_with fail
      refine (within_any _ _ _ _).mono ?_
      rintro e w' ⟨rfl, rfl⟩
      go_wp2_with fail
      go_ret2
      exact ⟨by rw [hf.out.1, hf.out.2]; rfl, hb1⟩
    | true =>
      cases h3 : inB count 0 999 with
      | false =>
        have hf := Lib.hid (ld_no (q := q) (count := count) (show ldB n xs q count = false by simp [ldB, h3]))
        go_enter Tryd.func17, Tryd.ntmps17
        go_wp2_with fail
        refine (AreCarries_any _ n B xs _ Hc.out Hv.out hB hn).mono ?_
        rintro e w1 ⟨rfl, hb1⟩
        go_wp2_with fail
        refine (within_any _ _ _ _).mono ?_
        rintro e w' ⟨rfl, rfl⟩
        go_wp2_with fail
        refine (within_any _ _ _ _).mono ?_
        rintro e w' ⟨rfl, rfl⟩
        go_wp2_with fail
        go_ret2
        exact ⟨by rw [hf.out.1, hf.out.2]; rfl, hb1⟩
      | true =>
        obtain ⟨q1, q2⟩ := inB_yes h2
        obtain ⟨r1, r2⟩ := inB_yes h3
        have hg := gc_yes h1
        have h40 := hg.len
        have HG := Lib.hid hg
        have HY := Lib.hid (fun (h : idxAt n xs 0 q count < n) => ld_yes (q := q) (count := count) (show ldB n xs q count = true by simp [ldB, h1, h2, h3, h]))
        have HN := Lib.hid (fun (h : idxAt n xs 0 q count = n) => ld_no (q := q) (count := count) (show ldB n xs q count = false by simp [ldB, h]))
        clear hg
        go_enter Tryd.func17, Tryd.ntmps17
        go_wp2_with fail
        refine (AreCarries_any _ n B xs _ Hc.out Hv.out hB hn).mono ?_
        rintro e w1 ⟨rfl, hb1⟩
        go_wp2_with fail
        refine (within_any _ _ _ _).mono ?_
        rintro e w' ⟨rfl, rfl⟩
        go_wp2_with fail
        refine (within_any _ _ _ _).mono ?_
        rintro e w' ⟨rfl, rfl⟩
        go_wp2_with fail
        go_loopw [25] (fun s wr => ∃ k : Nat, k ≤ n ∧ s = .int .i64 k ∧ fa (isAt xs 0 q count) (n - k) k = idxAt n xs 0 q count ∧ Below w.heap.size w wr) (fun s _ => n - (intOf s).toNat)
        case atStart => exact ⟨0, Nat.zero_le _, rfl, rfl, hb1⟩
        case round =>
          clear hb1
          obtain ⟨k, hk, rfl, hfa, hb⟩ := hrel
          have HFa := Lib.hid hfa
          clear hfa
          by_cases hlt : k < n
          · obtain ⟨b, off, rfl, hbB, hc⟩ := Hv.out.carry (by omega)
            have hcip := hc k (by omega)
            obtain ⟨p, ep⟩ : ∃ a, cP xs k = a := ⟨_, rfl⟩
            obtain ⟨l, el⟩ : ∃ a, cL xs k = a := ⟨_, rfl⟩
            obtain ⟨f, ef⟩ : ∃ a, cF xs k = a := ⟨_, rfl⟩
            obtain ⟨t, et⟩ : ∃ a, cT xs k = a := ⟨_, rfl⟩
            rw [ep, el, ef, et] at hcip
            have c0 := (hb.cell (p := ⟨b, off + k * 4, none⟩) (Nat.lt_of_lt_of_le hbB hB)).trans hcip.1
            have c1 := (hb.cell (p := ⟨b, off + k * 4 + 1, none⟩) (Nat.lt_of_lt_of_le hbB hB)).trans hcip.2.1
            have c2 := (hb.cell (p := ⟨b, off + k * 4 + 2, none⟩) (Nat.lt_of_lt_of_le hbB hB)).trans hcip.2.2.1
            have c3 := (hb.cell (p := ⟨b, off + k * 4 + 3, none⟩) (Nat.lt_of_lt_of_le hbB hB)).trans hcip.2.2.2
            have i0 : (0 : Int) ≤ (k : Int) := by omega
            have i1 : (k : Int) < (n : Int) := by omega
            have hgi : caB p l f t = true := by rw [← ep, ← el, ← ef, ← et]; exact HG.out.each k hlt
            obtain ⟨_, _, v1, v2, v3⟩ := caB_yes hgi
            have hp := ld_at (xs := xs) (count := count) q1 k
            rw [ep, ef, et] at hp
            have HPp := Lib.hid hp
            have HV := Lib.hid el
            have HB := Lib.hid (below_new hb (.cells #[.int .i64 p, .int .i64 l, .int .i64 f, .int .i64 t] 50))
            clear hc hcip ep el ef et hgi hp hb
            cases hl : (p == q) with
            | false =>
              have HPk := Lib.hid (HPp.out.trans (by rw [hl, Bool.false_and]))
              have hn2 := HFa.out ▸ fa_next (m := n - k) (by omega) HPk.out
              rw [show n - k - 1 = n - (k + 1) by omega] at hn2
              have HN2 := Lib.hid hn2.symm
              clear hn2
              go_wp2_with fail
              go_roundw
              case rel =>
                first
                | exact ⟨k + 1, by omega, by go_num, HN2.out, HB.out⟩
                | ((repeat apply Exists.intro); exact ⟨⟨k + 1, by omega, rfl, HN2.out, HB.out⟩, rfl⟩)
              case measure => simp [intOf]; omega
            | true =>
              by_cases hf1 : f ≤ count
              · by_cases hf2 : count < t
                · have hat := HFa.out ▸ fa_here (m := n - k) (by omega) (HPp.out.trans (by rw [hl, inB_mk hf1 (by omega)]; rfl))
                  have hf := Lib.hid (HY.out (by omega))
                  have HAt := Lib.hid hat
                  clear hat
                  go_wp2_with fail
                  go_ret2
                  exact ⟨by rw [hf.out.1, hf.out.2, HAt.out, HV.out]; rfl, HB.out⟩
                · have HPk := Lib.hid (HPp.out.trans (by rw [inB_hi (by omega), Bool.and_false]))
                  have hn2 := HFa.out ▸ fa_next (m := n - k) (by omega) HPk.out
                  rw [show n - k - 1 = n - (k + 1) by omega] at hn2
                  have HN2 := Lib.hid hn2.symm
                  clear hn2
                  go_wp2_with fail
                  go_roundw
                  case rel =>
                    first
                    | exact ⟨k + 1, by omega, by go_num, HN2.out, HB.out⟩
                    | ((repeat apply Exists.intro); exact ⟨⟨k + 1, by omega, rfl, HN2.out, HB.out⟩, rfl⟩)
                  case measure => simp [intOf]; omega
              · have HPk := Lib.hid (HPp.out.trans (by rw [inB_lo (by omega), Bool.and_false]))
                have hn2 := HFa.out ▸ fa_next (m := n - k) (by omega) HPk.out
                rw [show n - k - 1 = n - (k + 1) by omega] at hn2
                have HN2 := Lib.hid hn2.symm
                clear hn2
                go_wp2_with fail
                go_roundw
                case rel =>
                  first
                  | exact ⟨k + 1, by omega, by go_num, HN2.out, HB.out⟩
                  | ((repeat apply Exists.intro); exact ⟨⟨k + 1, by omega, rfl, HN2.out, HB.out⟩, rfl⟩)
                case measure => simp [intOf]; omega
          · obtain rfl : k = n := by omega
            have hf := Lib.hid (HN.out (by rw [← HFa.out]; simp [fa]))
            have HB := Lib.hid hb
            clear hb
            go_wp2_with fail
            go_ret2
            exact ⟨by rw [hf.out.1, hf.out.2]; rfl, HB.out⟩
end Go.Proofs.YtamehlafmfmgmaaDoor
