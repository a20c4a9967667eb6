/- The contract of the reference's test on carries. Condition: the slice can be read, and its length is at most its capacity. -/
import Derived.Test.YtamehlafmfmgmaaDoorAreImpl
namespace Go.Proofs.YtamehlafmfmgmaaDoor
open Go.RowKit

theorem flip_same {P : Program} {f : FuncId} {args : Array Value} {w : World} {v : Value} (h : Calls P f args w fun e w' => e = .returned v ∧ w = w') :
    Calls P f args w fun e w' => e = .returned v ∧ w' = w := h.mono fun _ _ ⟨he, hm⟩ => ⟨he, hm.symm⟩
theorem caPerformer_any (s : Int) (w : World) : Calls Tryd.prog 43 #[.int .i64 s] w fun e w' => e = .returned (.bool (inB s 1 12)) ∧ w = w' := by
  go_enter Tryd.func43, Tryd.ntmps43
  go_wp2_with fail
  refine (l1In_any _ _ _ _).mono ?_
  rintro e w' ⟨rfl, rfl⟩
  go_wp2_with fail
  go_ret
  exact ⟨rfl, rfl⟩
theorem caLoad_any (s : Int) (w : World) : Calls Tryd.prog 38 #[.int .i64 s] w fun e w' => e = .returned (.bool (inB s 1 9)) ∧ w = w' := by
  go_enter Tryd.func38, Tryd.ntmps38
  go_wp2_with fail
  refine (l1In_any _ _ _ _).mono ?_
  rintro e w' ⟨rfl, rfl⟩
  go_wp2_with fail
  go_ret
  exact ⟨rfl, rfl⟩
theorem caCount_any (s : Int) (w : World) : Calls Tryd.prog 41 #[.int .i64 s] w fun e w' => e = .returned (.bool (inB s 0 999)) ∧ w = w' := by
  go_enter Tryd.func41, Tryd.ntmps41
  go_wp2_with fail
  refine (l1In_any _ _ _ _).mono ?_
  rintro e w' ⟨rfl, rfl⟩
  go_wp2_with fail
  go_ret
  exact ⟨rfl, rfl⟩
theorem caBefore_any (p l f t p' l' f' t' : Int) (w : World) : Calls Tryd.prog 47 #[(Value.agg #[Value.int .i64 p, Value.int .i64 l, Value.int .i64 f, Value.int .i64 t]), (Value.agg #[Value.int .i64 p', Value.int .i64 l', Value.int .i64 f', Value.int .i64 t'])] w fun e w' => e = .returned (.bool (befB l f l' f')) ∧ Below w.heap.size w w' := by
  cases h1 : decide (f < f') with
  | true =>
    have HF := Lib.hid (show befB l f l' f' = true by simp only [befB, h1, Bool.true_or])
    go_enter Tryd.func47, Tryd.ntmps47
    go_wp2_with fail
    go_ret
    exact ⟨by rw [HF.out]; rfl, ((Below.refl _ _).alloc (Nat.le_refl _) _).alloc (by simp) _⟩
  | false =>
    cases h2 : (f == f') with
    | false =>
      have HF := Lib.hid (show befB l f l' f' = false by simp only [befB, h1, h2, Bool.false_or, Bool.false_and])
      go_enter Tryd.func47, Tryd.ntmps47
      go_wp2_with fail
      go_ret
      exact ⟨by rw [HF.out]; rfl, ((Below.refl _ _).alloc (Nat.le_refl _) _).alloc (by simp) _⟩
    | true =>
      cases h3 : decide (l < l') with
      | true =>
        have HF := Lib.hid (show befB l f l' f' = true by simp only [befB, h1, h2, h3, Bool.false_or, Bool.true_and])
        go_enter Tryd.func47, Tryd.ntmps47
        go_wp2_with fail
        go_ret
        exact ⟨by rw [HF.out]; rfl, ((Below.refl _ _).alloc (Nat.le_refl _) _).alloc (by simp) _⟩
      | false =>
        have HF := Lib.hid (show befB l f l' f' = false by simp only [befB, h1, h2, h3, Bool.false_or, Bool.true_and])
        go_enter Tryd.func47, Tryd.ntmps47
        go_wp2_with fail
        go_ret
        exact ⟨by rw [HF.out]; rfl, ((Below.refl _ _).alloc (Nat.le_refl _) _).alloc (by simp) _⟩
theorem caB_of {p l f t : Int} : caB p l f t = (inB p 1 12 && inB l 1 9 && inB f 0 999 && inB t (f + 1) 1000) := by
  have a : (inB f 0 999 && inB t (f + 1) 1000) = (decide (0 ≤ f) && decide (f < t) && decide (t ≤ 1000)) := by
    rw [Bool.eq_iff_iff]
    simp only [inB, Bool.and_eq_true, decide_eq_true_eq]
    omega
  rw [Bool.and_assoc, a, caB]
  simp only [Bool.and_assoc]

set_option maxRecDepth 100000 in
set_option maxHeartbeats 4000000 in
theorem caGood_any (v : Value) (n B : Nat) (xs : List Int) (w : World) (hcp : Cap v) (hv : Rd w B 4 v n xs) (hB : B ≤ w.heap.size) (hn : n ≤ 1099511627776) :
    Calls Tryd.prog 26 #[v] w fun e w' => e = .returned (.bool (gcB n xs)) ∧ Below w.heap.size w w' := by
  obtain ⟨A, c, rfl⟩ := hv.form4
  have hnc : n ≤ c := hcp _ _ _ rfl
  have Hv := Lib.hid hv
  clear hv hcp
  go_enter Tryd.func26, Tryd.ntmps26
  go_wp2_with fail
  go_loopw [9] (fun s wq => ∃ k : Nat, k ≤ n ∧ s = .int .i64 k ∧ (∀ a, a < k → caAt xs a = true) ∧ (∀ a, a < k → ordAt xs a = true) ∧ (∀ a j, a < k → j < a → clashAt xs a j = false) ∧ Below w.heap.size w wq) (fun s _ => n - (intOf s).toNat)
  case atStart => exact ⟨0, Nat.zero_le _, rfl, fun a h => absurd h (by omega), fun a h => absurd h (by omega), fun a j h => absurd h (by omega), Below.refl _ _⟩
  case round =>
    obtain ⟨k, hk, rfl, hall, hord, hfree, hb⟩ := hrel
    obtain ⟨wo, rfl⟩ : ∃ wo : World, wo = wr := ⟨_, rfl⟩
    have HA := Lib.hid hall
    have HOr := Lib.hid hord
    have HFr := Lib.hid hfree
    clear hall hord hfree
    by_cases hlt : k < n
    · obtain ⟨b, off, rfl, hbB, hc⟩ := Hv.out.carry (by omega)
      have hcip := hc k (by omega)
      obtain ⟨p, ep⟩ : ∃ a, cP xs k = a := ⟨_, rfl⟩
      obtain ⟨l, el⟩ : ∃ a, cL xs k = a := ⟨_, rfl⟩
      obtain ⟨f, ef⟩ : ∃ a, cF xs k = a := ⟨_, rfl⟩
      obtain ⟨t, et⟩ : ∃ a, cT xs k = a := ⟨_, rfl⟩
      rw [ep, el, ef, et] at hcip
      have c0 := (hb.cell (p := ⟨b, off + k * 4, none⟩) (Nat.lt_of_lt_of_le hbB hB)).trans hcip.1
      have c1 := (hb.cell (p := ⟨b, off + k * 4 + 1, none⟩) (Nat.lt_of_lt_of_le hbB hB)).trans hcip.2.1
      have c2 := (hb.cell (p := ⟨b, off + k * 4 + 2, none⟩) (Nat.lt_of_lt_of_le hbB hB)).trans hcip.2.2.1
      have c3 := (hb.cell (p := ⟨b, off + k * 4 + 3, none⟩) (Nat.lt_of_lt_of_le hbB hB)).trans hcip.2.2.2
      have i0 : (0 : Int) ≤ (k : Int) := by omega
      have i1 : (k : Int) < (n : Int) := by omega
      have i2 : (k : Int) ≤ (c : Int) := by omega
      have hca : caAt xs k = (inB p 1 12 && inB l 1 9 && inB f 0 999 && inB t (f + 1) 1000) := by rw [← caB_of, ← ep, ← el, ← ef, ← et]; rfl
      have HCa := Lib.hid hca
      have K := Lib.hid (Blk.new wo 50 #[.int .i64 p, .int .i64 l, .int .i64 f, .int .i64 t])
      have HB := Lib.hid (below_new hb (.cells #[.int .i64 p, .int .i64 l, .int .i64 f, .int .i64 t] 50))
      have HC := Lib.hid hc
      have Ep := Lib.hid ep
      have El := Lib.hid el
      have Ef := Lib.hid ef
      have Et := Lib.hid et
      clear hca
      cases hp0 : inB p 1 12 with
      | false =>
        have HF := Lib.hid (gc_bad (n := n) hlt (HCa.out.trans (by simp [hp0])))
        clear hc hcip ep el ef et hb
        go_wp2_with fail
        go_quiet ((first | (go_at_call 43; exact Calls.quiet_of_same (flip_same (caPerformer_any _ _))) | (go_at_call 38; exact Calls.quiet_of_same (flip_same (caLoad_any _ _))) | (go_at_call 39; exact Calls.quiet_of_same (flip_same (l1In_any _ _ _ _)))))
        go_wp2_with fail
        go_ret
        exact ⟨by rw [HF.out]; rfl, below_drewN HB.out _⟩
      | true =>
        cases hl0 : inB l 1 9 with
        | false =>
          have HF := Lib.hid (gc_bad (n := n) hlt (HCa.out.trans (by simp [hl0])))
          clear hc hcip ep el ef et hb
          go_wp2_with fail
          go_quiet ((first | (go_at_call 43; exact Calls.quiet_of_same (flip_same (caPerformer_any _ _))) | (go_at_call 38; exact Calls.quiet_of_same (flip_same (caLoad_any _ _))) | (go_at_call 39; exact Calls.quiet_of_same (flip_same (l1In_any _ _ _ _)))))
          go_wp2_with fail
          go_ret
          exact ⟨by rw [HF.out]; rfl, below_drewN HB.out _⟩
        | true =>
          cases hf0 : inB f 0 999 with
          | false =>
            have HF := Lib.hid (gc_bad (n := n) hlt (HCa.out.trans (by simp [hf0])))
            clear hc hcip ep el ef et hb
            go_wp2_with fail
            go_quiet ((first | (go_at_call 43; exact Calls.quiet_of_same (flip_same (caPerformer_any _ _))) | (go_at_call 38; exact Calls.quiet_of_same (flip_same (caLoad_any _ _))) | (go_at_call 39; exact Calls.quiet_of_same (flip_same (l1In_any _ _ _ _)))))
            go_wp2_with fail
            go_ret
            exact ⟨by rw [HF.out]; rfl, below_drewN HB.out _⟩
          | true =>
            obtain ⟨g1, g2⟩ := inB_yes hf0
            have ew := IntWalk.i64_in (f + 1) (by omega)
            cases ht0 : inB t (f + 1) 1000 with
            | false =>
              have HF := Lib.hid (gc_bad (n := n) hlt (HCa.out.trans (by simp [ht0])))
              clear hc hcip ep el ef et hb
              go_wp2_with fail
              go_quiet ((first | (go_at_call 43; exact Calls.quiet_of_same (flip_same (caPerformer_any _ _))) | (go_at_call 38; exact Calls.quiet_of_same (flip_same (caLoad_any _ _))) | (go_at_call 39; exact Calls.quiet_of_same (flip_same (l1In_any _ _ _ _)))))
              go_wp2_with fail
              go_ret
              exact ⟨by rw [HF.out]; rfl, below_drewN HB.out _⟩
            | true =>
              have HG := Lib.hid (show caAt xs k = true by rw [HCa.out, hp0, hl0, hf0, ht0]; rfl)
              have HCB := Lib.hid (show caB p l f t = true by rw [caB_of, hp0, hl0, hf0, ht0]; rfl)
              by_cases hk0 : 0 < k
              · have hd : decide ((0 : Int) < (k : Int)) = true := by simp; omega
                have hcip1 := hc (k - 1) (by omega)
                obtain ⟨p1, ep1⟩ : ∃ a, cP xs (k - 1) = a := ⟨_, rfl⟩
                obtain ⟨l1, el1⟩ : ∃ a, cL xs (k - 1) = a := ⟨_, rfl⟩
                obtain ⟨f1, ef1⟩ : ∃ a, cF xs (k - 1) = a := ⟨_, rfl⟩
                obtain ⟨t1, et1⟩ : ∃ a, cT xs (k - 1) = a := ⟨_, rfl⟩
                rw [ep1, el1, ef1, et1] at hcip1
                have d0 := (hb.cell (p := ⟨b, off + (k - 1) * 4, none⟩) (Nat.lt_of_lt_of_le hbB hB)).trans hcip1.1
                have d1 := (hb.cell (p := ⟨b, off + (k - 1) * 4 + 1, none⟩) (Nat.lt_of_lt_of_le hbB hB)).trans hcip1.2.1
                have d2 := (hb.cell (p := ⟨b, off + (k - 1) * 4 + 2, none⟩) (Nat.lt_of_lt_of_le hbB hB)).trans hcip1.2.2.1
                have d3 := (hb.cell (p := ⟨b, off + (k - 1) * 4 + 3, none⟩) (Nat.lt_of_lt_of_le hbB hB)).trans hcip1.2.2.2
                have i3 : (0 : Int) ≤ (k : Int) - 1 := by omega
                have i4 : (k : Int) - 1 < (n : Int) := by omega
                have i5 : ((k : Int) - 1).toNat = k - 1 := by omega
                have i6 := IntWalk.i64_in ((k : Int) - 1) (by omega)
                have i7 : (1 : Int) ≤ (k : Int) := by omega
                have i8 : (k : Int) ≤ (n : Int) := by omega
                have i9 : (0 : Int) < (k : Int) := by omega
                have hP := fun W => caBefore_any p1 l1 f1 t1 p l f t W
                have ho := ord_pos (xs := xs) hk0
                rw [el1, ef1, el, ef] at ho
                obtain ⟨q, eq⟩ : ∃ q, befB l1 f1 l f = q := ⟨_, rfl⟩
                rw [eq] at hP ho
                have m0 := cell_new d0 (.cells #[.int .i64 p, .int .i64 l, .int .i64 f, .int .i64 t] 50)
                have m1 := cell_new d1 (.cells #[.int .i64 p, .int .i64 l, .int .i64 f, .int .i64 t] 50)
                have m2 := cell_new d2 (.cells #[.int .i64 p, .int .i64 l, .int .i64 f, .int .i64 t] 50)
                have m3 := cell_new d3 (.cells #[.int .i64 p, .int .i64 l, .int .i64 f, .int .i64 t] 50)
                obtain ⟨a0, a1, a2, a3⟩ := K.out.c4
                cases q with
                | false =>
                  have HP := Lib.hid hP
                  have HF := Lib.hid (gc_ord (n := n) hlt ho)
                  clear ep el ef et ep1 el1 ef1 et1 eq hc hcip hcip1 hP ho hb d0 d1 d2 d3
                  go_wp2_with fail
                  go_region_held3 (fun W => W.cell? ⟨b, off + (k - 1) * 4, none⟩ = some (.int .i64 p1) ∧ W.cell? ⟨b, off + (k - 1) * 4 + 1, none⟩ = some (.int .i64 l1) ∧ W.cell? ⟨b, off + (k - 1) * 4 + 2, none⟩ = some (.int .i64 f1) ∧ W.cell? ⟨b, off + (k - 1) * 4 + 3, none⟩ = some (.int .i64 t1) ∧ W.cell? ⟨wo.heap.size, 0, none⟩ = some (.int .i64 p) ∧ W.cell? ⟨wo.heap.size, 1, none⟩ = some (.int .i64 l) ∧ W.cell? ⟨wo.heap.size, 2, none⟩ = some (.int .i64 f) ∧ W.cell? ⟨wo.heap.size, 3, none⟩ = some (.int .i64 t) ∧ Blk W wo.heap.size 50 #[.int .i64 p, .int .i64 l, .int .i64 f, .int .i64 t] ∧ Below w.heap.size w W)
                    (first | exact ⟨m0, m1, m2, m3, a0, a1, a2, a3, K.out.drew, HB.out.drew⟩ | (go_split_ands; exact ⟨cell_on hb2 (by assumption), cell_on hb2 (by assumption), cell_on hb2 (by assumption), cell_on hb2 (by assumption), cell_on hb2 (by assumption), cell_on hb2 (by assumption), cell_on hb2 (by assumption), cell_on hb2 (by assumption), Blk.on (by assumption) hb2, below_on (by assumption) hb2⟩) | (go_split_ands; exact ⟨by assumption, by assumption, by assumption, by assumption, by assumption, by assumption, by assumption, by assumption, by assumption, by assumption⟩) | go_keep)
                    (first | (go_at_call 43; refine (caPerformer_any _ _).mono ?_; rintro e w9 ⟨rfl, rfl⟩) | (go_at_call 38; refine (caLoad_any _ _).mono ?_; rintro e w9 ⟨rfl, rfl⟩) | (go_at_call 39; refine (l1In_any _ _ _ _).mono ?_; rintro e w9 ⟨rfl, rfl⟩) | (go_at_call 47; refine (HP.out _).mono ?_; rintro e w2 ⟨rfl, hb2⟩))
                  go_split_ands
                  rename_i hk9 hb9
                  have HB2 := Lib.hid hb9
                  have K2 := Lib.hid hk9
                  clear hb9 hk9 c0 c1 c2 c3 m0 m1 m2 m3 a0 a1 a2 a3 K HB
                  go_wp2_with fail
                  go_ret
                  exact ⟨by rw [HF.out]; rfl, HB2.out⟩
                | true =>
                  have HP := Lib.hid hP
                  have HO := Lib.hid ho
                  clear ep el ef et ep1 el1 ef1 et1 eq hc hcip hcip1 hP ho hb d0 d1 d2 d3
                  go_wp2_with fail
                  go_region_held3 (fun W => W.cell? ⟨b, off + (k - 1) * 4, none⟩ = some (.int .i64 p1) ∧ W.cell? ⟨b, off + (k - 1) * 4 + 1, none⟩ = some (.int .i64 l1) ∧ W.cell? ⟨b, off + (k - 1) * 4 + 2, none⟩ = some (.int .i64 f1) ∧ W.cell? ⟨b, off + (k - 1) * 4 + 3, none⟩ = some (.int .i64 t1) ∧ W.cell? ⟨wo.heap.size, 0, none⟩ = some (.int .i64 p) ∧ W.cell? ⟨wo.heap.size, 1, none⟩ = some (.int .i64 l) ∧ W.cell? ⟨wo.heap.size, 2, none⟩ = some (.int .i64 f) ∧ W.cell? ⟨wo.heap.size, 3, none⟩ = some (.int .i64 t) ∧ Blk W wo.heap.size 50 #[.int .i64 p, .int .i64 l, .int .i64 f, .int .i64 t] ∧ Below w.heap.size w W)
                    (first | exact ⟨m0, m1, m2, m3, a0, a1, a2, a3, K.out.drew, HB.out.drew⟩ | (go_split_ands; exact ⟨cell_on hb2 (by assumption), cell_on hb2 (by assumption), cell_on hb2 (by assumption), cell_on hb2 (by assumption), cell_on hb2 (by assumption), cell_on hb2 (by assumption), cell_on hb2 (by assumption), cell_on hb2 (by assumption), Blk.on (by assumption) hb2, below_on (by assumption) hb2⟩) | (go_split_ands; exact ⟨by assumption, by assumption, by assumption, by assumption, by assumption, by assumption, by assumption, by assumption, by assumption, by assumption⟩) | go_keep)
                    (first | (go_at_call 43; refine (caPerformer_any _ _).mono ?_; rintro e w9 ⟨rfl, rfl⟩) | (go_at_call 38; refine (caLoad_any _ _).mono ?_; rintro e w9 ⟨rfl, rfl⟩) | (go_at_call 39; refine (l1In_any _ _ _ _).mono ?_; rintro e w9 ⟨rfl, rfl⟩) | (go_at_call 47; refine (HP.out _).mono ?_; rintro e w2 ⟨rfl, hb2⟩))
                  go_split_ands
                  rename_i hk9 hb9
                  have HB2 := Lib.hid hb9
                  have K2 := Lib.hid hk9
                  clear hb9 hk9 c0 c1 c2 c3 m0 m1 m2 m3 a0 a1 a2 a3 K HB
                  go_wp2_with fail
                  go_loopw [57] (fun s wq => ∃ j : Nat, j ≤ k ∧ s = .int .i64 j ∧ (∀ a, a < j → clashAt xs k a = false) ∧ Blk wq wo.heap.size 50 #[.int .i64 p, .int .i64 l, .int .i64 f, .int .i64 t] ∧ Below w.heap.size w wq) (fun s _ => k - (intOf s).toNat)
                  case atStart => exact ⟨0, Nat.zero_le _, rfl, fun a h => absurd h (by omega), K2.out, HB2.out⟩
                  case round =>
                    clear K2 HB2
                    obtain ⟨j, hj, rfl, hno, hkk, hb⟩ := hrel
                    have HNo := Lib.hid hno
                    clear hno
                    by_cases hlj : j < k
                    · have hc := HC.out
                      have hcip2 := hc j (by omega)
                      obtain ⟨p2, ep2⟩ : ∃ a, cP xs j = a := ⟨_, rfl⟩
                      obtain ⟨l2, el2⟩ : ∃ a, cL xs j = a := ⟨_, rfl⟩
                      obtain ⟨f2, ef2⟩ : ∃ a, cF xs j = a := ⟨_, rfl⟩
                      obtain ⟨t2, et2⟩ : ∃ a, cT xs j = a := ⟨_, rfl⟩
                      rw [ep2, el2, ef2, et2] at hcip2
                      have e0 := (hb.cell (p := ⟨b, off + j * 4, none⟩) (Nat.lt_of_lt_of_le hbB hB)).trans hcip2.1
                      have e1 := (hb.cell (p := ⟨b, off + j * 4 + 1, none⟩) (Nat.lt_of_lt_of_le hbB hB)).trans hcip2.2.1
                      have e2 := (hb.cell (p := ⟨b, off + j * 4 + 2, none⟩) (Nat.lt_of_lt_of_le hbB hB)).trans hcip2.2.2.1
                      have e3 := (hb.cell (p := ⟨b, off + j * 4 + 3, none⟩) (Nat.lt_of_lt_of_le hbB hB)).trans hcip2.2.2.2
                      have HCl := Lib.hid (show clashAt xs k j = ((l2 == l || p2 == p) && decide (f < t2)) by rw [← ep2, ← el2, ← et2, ← Ep.out, ← El.out, ← Ef.out]; rfl)
                      obtain ⟨a0, a1, a2, a3⟩ := hkk.c4
                      have b0 := cell_new a0 (.cells #[.int .i64 p2, .int .i64 l2, .int .i64 f2, .int .i64 t2] 50)
                      have b1 := cell_new a1 (.cells #[.int .i64 p2, .int .i64 l2, .int .i64 f2, .int .i64 t2] 50)
                      have b2 := cell_new a2 (.cells #[.int .i64 p2, .int .i64 l2, .int .i64 f2, .int .i64 t2] 50)
                      have b3 := cell_new a3 (.cells #[.int .i64 p2, .int .i64 l2, .int .i64 f2, .int .i64 t2] 50)
                      have hne : wo.heap.size < wr.heap.size := hkk.lt
                      have K3 := Lib.hid (hkk.alloc (.cells #[.int .i64 p2, .int .i64 l2, .int .i64 f2, .int .i64 t2] 50))
                      have HB3 := Lib.hid (below_new hb (.cells #[.int .i64 p2, .int .i64 l2, .int .i64 f2, .int .i64 t2] 50))
                      have j0 : (0 : Int) ≤ (j : Int) := by omega
                      have j1 : (j : Int) < (k : Int) := by omega
                      clear hc hcip2 ep2 el2 ef2 et2 hkk hb
                      cases hl : (l2 == l) with
                      | true =>
                        by_cases hft : f < t2
                        · have HF := Lib.hid (gc_clash (n := n) hlt hlj (show clashAt xs k j = true by rw [HCl.out]; rw [hl, Bool.true_or, Bool.true_and]; exact decide_eq_true hft))
                          go_wp2_with fail
                          go_ret
                          exact ⟨by rw [HF.out]; rfl, HB3.out⟩
                        · have HF := Lib.hid (show clashAt xs k j = false by rw [HCl.out, decide_eq_false hft, Bool.and_false])
                          go_wp2_with fail
                          go_roundw
                          case rel =>
                            have hR : ∀ a, a < j + 1 → clashAt xs k a = false := fun a ha => by
                              rcases Nat.lt_succ_iff_lt_or_eq.1 ha with h | rfl
                              · exact HNo.out a h
                              · exact HF.out
                            first
                            | exact ⟨j + 1, by omega, by go_num, hR, K3.out, HB3.out⟩
                            | ((repeat apply Exists.intro); exact ⟨⟨j + 1, by omega, rfl, hR, K3.out, HB3.out⟩, rfl⟩)
                          case measure => simp [intOf]; omega
                      | false =>
                        cases hp : (p2 == p) with
                        | true =>
                          by_cases hft : f < t2
                          · have HF := Lib.hid (gc_clash (n := n) hlt hlj (show clashAt xs k j = true by rw [HCl.out]; rw [hp, Bool.or_true, Bool.true_and]; exact decide_eq_true hft))
                            go_wp2_with fail
                            go_ret
                            exact ⟨by rw [HF.out]; rfl, HB3.out⟩
                          · have HF := Lib.hid (show clashAt xs k j = false by rw [HCl.out, decide_eq_false hft, Bool.and_false])
                            go_wp2_with fail
                            go_roundw
                            case rel =>
                              have hR : ∀ a, a < j + 1 → clashAt xs k a = false := fun a ha => by
                                rcases Nat.lt_succ_iff_lt_or_eq.1 ha with h | rfl
                                · exact HNo.out a h
                                · exact HF.out
                              first
                              | exact ⟨j + 1, by omega, by go_num, hR, K3.out, HB3.out⟩
                              | ((repeat apply Exists.intro); exact ⟨⟨j + 1, by omega, rfl, hR, K3.out, HB3.out⟩, rfl⟩)
                            case measure => simp [intOf]; omega
                        | false =>
                          have HF := Lib.hid (show clashAt xs k j = false by rw [HCl.out, hl, hp]; rfl)
                          go_wp2_with fail
                          go_roundw
                          case rel =>
                            have hR : ∀ a, a < j + 1 → clashAt xs k a = false := fun a ha => by
                              rcases Nat.lt_succ_iff_lt_or_eq.1 ha with h | rfl
                              · exact HNo.out a h
                              · exact HF.out
                            first
                            | exact ⟨j + 1, by omega, by go_num, hR, K3.out, HB3.out⟩
                            | ((repeat apply Exists.intro); exact ⟨⟨j + 1, by omega, rfl, hR, K3.out, HB3.out⟩, rfl⟩)
                          case measure => simp [intOf]; omega
                    · obtain rfl : j = k := by omega
                      have HB := Lib.hid hb
                      clear hb hkk
                      go_wp2_with fail
                      go_roundw
                      case rel =>
                        have hR0 : ∀ a, a < j + 1 → caAt xs a = true := fun a ha => by
                          rcases Nat.lt_succ_iff_lt_or_eq.1 ha with h | rfl
                          · exact HA.out a h
                          · exact HG.out
                        have hR1 : ∀ a, a < j + 1 → ordAt xs a = true := fun a ha => by
                          rcases Nat.lt_succ_iff_lt_or_eq.1 ha with h | rfl
                          · exact HOr.out a h
                          · exact HO.out
                        have hR2 : ∀ a q, a < j + 1 → q < a → clashAt xs a q = false := fun a q ha hq => by
                          rcases Nat.lt_succ_iff_lt_or_eq.1 ha with h | rfl
                          · exact HFr.out a q h hq
                          · exact HNo.out q hq
                        first
                        | exact ⟨j + 1, by omega, by go_num, hR0, hR1, hR2, HB.out⟩
                        | ((repeat apply Exists.intro); exact ⟨⟨j + 1, by omega, rfl, hR0, hR1, hR2, HB.out⟩, rfl⟩)
                      case measure => simp [intOf]; omega
              · have hd : decide ((0 : Int) < (k : Int)) = false := by simp; omega
                have hd2 : decide (0 < k) = false := by simp; omega
                have HO := Lib.hid (show ordAt xs k = true by rw [show k = 0 by omega]; exact ord_zero xs)
                have HK0 := Lib.hid hk0
                clear ep el ef et hc hcip hb hk0
                go_wp2_with fail
                go_quiet ((first | (go_at_call 43; exact Calls.quiet_of_same (flip_same (caPerformer_any _ _))) | (go_at_call 38; exact Calls.quiet_of_same (flip_same (caLoad_any _ _))) | (go_at_call 39; exact Calls.quiet_of_same (flip_same (l1In_any _ _ _ _)))))
                have K2 := Lib.hid (K.out.drewN nq)
                have HB2 := Lib.hid (below_drewN HB.out nq)
                clear K HB c0 c1 c2 c3
                go_wp2_with fail
                go_loopw [57] (fun s wq => ∃ j : Nat, j ≤ k ∧ s = .int .i64 j ∧ (∀ a, a < j → clashAt xs k a = false) ∧ Blk wq wo.heap.size 50 #[.int .i64 p, .int .i64 l, .int .i64 f, .int .i64 t] ∧ Below w.heap.size w wq) (fun s _ => k - (intOf s).toNat)
                case atStart => exact ⟨0, Nat.zero_le _, rfl, fun a h => absurd h (by omega), K2.out, HB2.out⟩
                case round =>
                  clear K2 HB2
                  obtain ⟨j, hj, rfl, hno, hkk, hb⟩ := hrel
                  have HNo := Lib.hid hno
                  clear hno
                  by_cases hlj : j < k
                  · have hc := HC.out
                    have hcip2 := hc j (by omega)
                    obtain ⟨p2, ep2⟩ : ∃ a, cP xs j = a := ⟨_, rfl⟩
                    obtain ⟨l2, el2⟩ : ∃ a, cL xs j = a := ⟨_, rfl⟩
                    obtain ⟨f2, ef2⟩ : ∃ a, cF xs j = a := ⟨_, rfl⟩
                    obtain ⟨t2, et2⟩ : ∃ a, cT xs j = a := ⟨_, rfl⟩
                    rw [ep2, el2, ef2, et2] at hcip2
                    have e0 := (hb.cell (p := ⟨b, off + j * 4, none⟩) (Nat.lt_of_lt_of_le hbB hB)).trans hcip2.1
                    have e1 := (hb.cell (p := ⟨b, off + j * 4 + 1, none⟩) (Nat.lt_of_lt_of_le hbB hB)).trans hcip2.2.1
                    have e2 := (hb.cell (p := ⟨b, off + j * 4 + 2, none⟩) (Nat.lt_of_lt_of_le hbB hB)).trans hcip2.2.2.1
                    have e3 := (hb.cell (p := ⟨b, off + j * 4 + 3, none⟩) (Nat.lt_of_lt_of_le hbB hB)).trans hcip2.2.2.2
                    have HCl := Lib.hid (show clashAt xs k j = ((l2 == l || p2 == p) && decide (f < t2)) by rw [← ep2, ← el2, ← et2, ← Ep.out, ← El.out, ← Ef.out]; rfl)
                    obtain ⟨a0, a1, a2, a3⟩ := hkk.c4
                    have b0 := cell_new a0 (.cells #[.int .i64 p2, .int .i64 l2, .int .i64 f2, .int .i64 t2] 50)
                    have b1 := cell_new a1 (.cells #[.int .i64 p2, .int .i64 l2, .int .i64 f2, .int .i64 t2] 50)
                    have b2 := cell_new a2 (.cells #[.int .i64 p2, .int .i64 l2, .int .i64 f2, .int .i64 t2] 50)
                    have b3 := cell_new a3 (.cells #[.int .i64 p2, .int .i64 l2, .int .i64 f2, .int .i64 t2] 50)
                    have hne : wo.heap.size < wr.heap.size := hkk.lt
                    have K3 := Lib.hid (hkk.alloc (.cells #[.int .i64 p2, .int .i64 l2, .int .i64 f2, .int .i64 t2] 50))
                    have HB3 := Lib.hid (below_new hb (.cells #[.int .i64 p2, .int .i64 l2, .int .i64 f2, .int .i64 t2] 50))
                    have j0 : (0 : Int) ≤ (j : Int) := by omega
                    have j1 : (j : Int) < (k : Int) := by omega
                    clear hc hcip2 ep2 el2 ef2 et2 hkk hb
                    cases hl : (l2 == l) with
                    | true =>
                      by_cases hft : f < t2
                      · have HF := Lib.hid (gc_clash (n := n) hlt hlj (show clashAt xs k j = true by rw [HCl.out]; rw [hl, Bool.true_or, Bool.true_and]; exact decide_eq_true hft))
                        go_wp2_with fail
                        go_ret
                        exact ⟨by rw [HF.out]; rfl, HB3.out⟩
                      · have HF := Lib.hid (show clashAt xs k j = false by rw [HCl.out, decide_eq_false hft, Bool.and_false])
                        go_wp2_with fail
                        go_roundw
                        case rel =>
                          have hR : ∀ a, a < j + 1 → clashAt xs k a = false := fun a ha => by
                            rcases Nat.lt_succ_iff_lt_or_eq.1 ha with h | rfl
                            · exact HNo.out a h
                            · exact HF.out
                          first
                          | exact ⟨j + 1, by omega, by go_num, hR, K3.out, HB3.out⟩
                          | ((repeat apply Exists.intro); exact ⟨⟨j + 1, by omega, rfl, hR, K3.out, HB3.out⟩, rfl⟩)
                        case measure => simp [intOf]; omega
                    | false =>
                      cases hp : (p2 == p) with
                      | true =>
                        by_cases hft : f < t2
                        · have HF := Lib.hid (gc_clash (n := n) hlt hlj (show clashAt xs k j = true by rw [HCl.out]; rw [hp, Bool.or_true, Bool.true_and]; exact decide_eq_true hft))
                          go_wp2_with fail
                          go_ret
                          exact ⟨by rw [HF.out]; rfl, HB3.out⟩
                        · have HF := Lib.hid (show clashAt xs k j = false by rw [HCl.out, decide_eq_false hft, Bool.and_false])
                          go_wp2_with fail
                          go_roundw
                          case rel =>
                            have hR : ∀ a, a < j + 1 → clashAt xs k a = false := fun a ha => by
                              rcases Nat.lt_succ_iff_lt_or_eq.1 ha with h | rfl
                              · exact HNo.out a h
                              · exact HF.out
                            first
                            | exact ⟨j + 1, by omega, by go_num, hR, K3.out, HB3.out⟩
                            | ((repeat apply Exists.intro); exact ⟨⟨j + 1, by omega, rfl, hR, K3.out, HB3.out⟩, rfl⟩)
                          case measure => simp [intOf]; omega
                      | false =>
                        have HF := Lib.hid (show clashAt xs k j = false by rw [HCl.out, hl, hp]; rfl)
                        go_wp2_with fail
                        go_roundw
                        case rel =>
                          have hR : ∀ a, a < j + 1 → clashAt xs k a = false := fun a ha => by
                            rcases Nat.lt_succ_iff_lt_or_eq.1 ha with h | rfl
                            · exact HNo.out a h
                            · exact HF.out
                          first
                          | exact ⟨j + 1, by omega, by go_num, hR, K3.out, HB3.out⟩
                          | ((repeat apply Exists.intro); exact ⟨⟨j + 1, by omega, rfl, hR, K3.out, HB3.out⟩, rfl⟩)
                        case measure => simp [intOf]; omega
                  · obtain rfl : j = k := by omega
                    have HB := Lib.hid hb
                    clear hb hkk
                    go_wp2_with fail
                    go_roundw
                    case rel =>
                      have hR0 : ∀ a, a < j + 1 → caAt xs a = true := fun a ha => by
                        rcases Nat.lt_succ_iff_lt_or_eq.1 ha with h | rfl
                        · exact HA.out a h
                        · exact HG.out
                      have hR1 : ∀ a, a < j + 1 → ordAt xs a = true := fun a ha => by
                        rcases Nat.lt_succ_iff_lt_or_eq.1 ha with h | rfl
                        · exact HOr.out a h
                        · exact HO.out
                      have hR2 : ∀ a q, a < j + 1 → q < a → clashAt xs a q = false := fun a q ha hq => by
                        rcases Nat.lt_succ_iff_lt_or_eq.1 ha with h | rfl
                        · exact HFr.out a q h hq
                        · exact HNo.out q hq
                      first
                      | exact ⟨j + 1, by omega, by go_num, hR0, hR1, hR2, HB.out⟩
                      | ((repeat apply Exists.intro); exact ⟨⟨j + 1, by omega, rfl, hR0, hR1, hR2, HB.out⟩, rfl⟩)
                    case measure => simp [intOf]; omega
    · obtain rfl : k = n := by omega
      by_cases h40 : k ≤ 40
      · have HF := Lib.hid (gc_mk (⟨h40, HA.out, HOr.out, fun a j h1 h2 => HFr.out a j h1 h2⟩ : GoodC k xs))
        have hd : decide ((k : Int) ≤ 40) = true := decide_eq_true (by omega)
        have hd2 : decide (k ≤ 40) = true := decide_eq_true h40
        go_wp2_with fail
        go_ret
        exact ⟨by rw [HF.out]; rfl, hb⟩
      · have HF := Lib.hid (gc_long (xs := xs) (Nat.not_le.1 h40))
        have hd : decide ((k : Int) ≤ 40) = false := decide_eq_false (by omega)
        have hd2 : decide (k ≤ 40) = false := decide_eq_false h40
        go_wp2_with fail
        go_ret
        exact ⟨by rw [HF.out]; rfl, hb⟩
end Go.Proofs.YtamehlafmfmgmaaDoor
