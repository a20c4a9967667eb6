/- The contract of the reference's HandOversOf. Condition: the slice can be read, and its length is at most its capacity. -/
import Derived.Test.YtamehlafmfmgmaaDoorHand
import Derived.Test.YtamehlafmfmgmaaDoorCarrierAt
namespace Go.Proofs.YtamehlafmfmgmaaDoor
open Go.RowKit

theorem hoTo_yes {n : Nat} {xs : List Int} {q : Int} {k : Nat} (h : hoAt n xs q k = true) : hoTo n xs q (k + 1) = hoTo n xs q k ++ [cF xs k] := by simp [hoTo, h]
theorem hoTo_no {n : Nat} {xs : List Int} {q : Int} {k : Nat} (h : hoAt n xs q k = false) : hoTo n xs q (k + 1) = hoTo n xs q k := by simp [hoTo, h]
theorem hoAt_zero {n : Nat} {xs : List Int} (hg : GoodC n xs) {q : Int} {k : Nat} (h : cF xs k = 0) : hoAt n xs q k = false := by
  cases hh : hoAt n xs q k with
  | false => rfl
  | true =>
    simp only [hoAt, Bool.and_eq_true, List.any_eq_true, List.mem_range] at hh
    obtain ⟨_, d, hd, hp⟩ := hh
    obtain ⟨_, a2, _⟩ := hoPr_yes hp
    have := good_in hg hd
    omega
theorem idxS_yes {n : Nat} {xs : List Int} {a b c : Int} (h : idxAt n xs a b c < n) : idxV n xs a b c = (idxAt n xs a b c : Int) := by simp [idxV, h]
theorem idxS_no {n : Nat} {xs : List Int} {a b c : Int} (h : ¬ idxAt n xs a b c < n) : idxV n xs a b c = -1 := by simp [idxV, h]
set_option maxRecDepth 100000 in
set_option maxHeartbeats 4000000 in
theorem specHandOversOf_any (v : Value) (n B : Nat) (xs : List Int) (q : Int) (w : World) (hcp : Cap v) (hv : Rd w B 4 v n xs) (hB : B ≤ w.heap.size) (hn : n ≤ 1099511627776) :
    Calls Tryd.prog 21 #[v, .int .i64 q] w fun e w' => ∃ u, e = .returned (.tuple #[u, .bool (hnB n xs q)]) ∧ w'.ownsRow w.heap.size 3 1 u (hnN n xs q) (ints (hnL n xs q)) ∧ Below w.heap.size w w' := by
  obtain ⟨A, c, rfl⟩ := hv.form4
  have Hv := Lib.hid hv
  have Hc := Lib.hid hcp
  clear hv hcp
  cases h1 : gcB n xs with
  | false =>
    have hf := Lib.hid (hn_no (q := q) (show hnB n xs q = false by simp [hnB, h1]))
    go_enter Tryd.func21, Tryd.ntmps21
    go_wp2_with fail
    refine (caGood_any _ n B xs _ Hc.out Hv.out hB hn).mono ?_
    rintro e w1 ⟨rfl, hb1⟩
    go_wp2_with fail
    go_ret2
    rw [hf.out.1, hf.out.2.1, hf.out.2.2]
    exact ⟨_, rfl, World.ownsRow_nil _ _ _ _, hb1⟩
  | true =>
    cases h2 : inB q 1 9 with
    | false =>
      have hf := Lib.hid (hn_no (q := q) (show hnB n xs q = false by simp [hnB, h2]))
      go_enter Tryd.func21, Tryd.ntmps21
      go_wp2_with fail
      refine (caGood_any _ n B xs _ Hc.out Hv.out hB hn).mono ?_
      rintro e w1 ⟨rfl, hb1⟩
      go_wp2_with fail
      refine (caLoad_any _ _).mono ?_
      rintro e w' ⟨rfl, rfl⟩
      go_wp2_with fail
      go_ret2
      rw [hf.out.1, hf.out.2.1, hf.out.2.2]
      exact ⟨_, rfl, World.ownsRow_nil _ _ _ _, hb1⟩
    | true =>
      have hf := Lib.hid (hn_yes (q := q) (show hnB n xs q = true by simp [hnB, h1, h2]))
      have hg := gc_yes h1
      have h40 := hg.len
      have HG := Lib.hid hg
      have Q1 := (inB_yes h2).1
      clear hg
      go_enter Tryd.func21, Tryd.ntmps21
      go_wp2_with fail
      refine (caGood_any _ n B xs _ Hc.out Hv.out hB hn).mono ?_
      rintro e w1 ⟨rfl, hb1⟩
      go_wp2_with fail
      refine (caLoad_any _ _).mono ?_
      rintro e w' ⟨rfl, rfl⟩
      go_wp2_with fail
      go_loopw [6, 20] (fun o s wr => ∃ k : Nat, k ≤ n ∧ s = .int .i64 k ∧ wr.ownsRow w.heap.size 3 1 o (hoTo n xs q k).length (ints (hoTo n xs q k)) ∧ Below w.heap.size w wr) (fun _ s _ => n - (intOf s).toNat)
      case atStart => exact ⟨0, Nat.zero_le _, rfl, World.ownsRow_nil _ _ _ _, hb1⟩
      case round =>
        clear hb1
        obtain ⟨k, hk, rfl, hown, hb⟩ := hrel
        obtain ⟨wo, rfl⟩ : ∃ wo : World, wo = wr := ⟨_, rfl⟩
        by_cases hlt : k < n
        · obtain ⟨b, off, rfl, hbB, hc⟩ := Hv.out.carry (by omega)
          have hcip := hc k (by omega)
          obtain ⟨p, ep⟩ : ∃ a, cP xs k = a := ⟨_, rfl⟩
          obtain ⟨l, el⟩ : ∃ a, cL xs k = a := ⟨_, rfl⟩
          obtain ⟨f, ef⟩ : ∃ a, cF xs k = a := ⟨_, rfl⟩
          obtain ⟨t, et⟩ : ∃ a, cT xs k = a := ⟨_, rfl⟩
          rw [ep, el, ef, et] at hcip
          have c0 := (hb.cell (p := ⟨b, off + k * 4, none⟩) (Nat.lt_of_lt_of_le hbB hB)).trans hcip.1
          have c1 := (hb.cell (p := ⟨b, off + k * 4 + 1, none⟩) (Nat.lt_of_lt_of_le hbB hB)).trans hcip.2.1
          have c2 := (hb.cell (p := ⟨b, off + k * 4 + 2, none⟩) (Nat.lt_of_lt_of_le hbB hB)).trans hcip.2.2.1
          have c3 := (hb.cell (p := ⟨b, off + k * 4 + 3, none⟩) (Nat.lt_of_lt_of_le hbB hB)).trans hcip.2.2.2
          have i0 : (0 : Int) ≤ (k : Int) := by omega
          have i1 : (k : Int) < (n : Int) := by omega
          have K := Lib.hid (Blk.new wo 50 #[.int .i64 p, .int .i64 l, .int .i64 f, .int .i64 t])
          have HB := Lib.hid (below_new hb (.cells #[.int .i64 p, .int .i64 l, .int .i64 f, .int .i64 t] 50))
          have HO := Lib.hid (hown.alloc (.cells #[.int .i64 p, .int .i64 l, .int .i64 f, .int .i64 t] 50))
          have HC := Lib.hid hc
          have Ep := Lib.hid ep
          have El := Lib.hid el
          have Ef := Lib.hid ef
          have hgi := good_in HG.out hlt
          rw [ep, el, ef, et] at hgi
          obtain ⟨_, _, v1, v2, v3⟩ := hgi
          clear hc hcip ep el ef et hb hown
          cases hl : (l != q) with
          | true =>
            have HS := Lib.hid (hoTo_no (n := n) (xs := xs) (q := q) (k := k) (by have : (cL xs k == q) = false := by rw [El.out]; simpa using hl
                                                                                  simp only [hoAt, this, Bool.false_and]))
            go_wp2_with fail
            go_roundw
            case rel =>
              first
              | exact ⟨k + 1, by omega, by go_num, by rw [HS.out]; exact HO.out, HB.out⟩
              | ((repeat apply Exists.intro); exact ⟨⟨k + 1, by omega, rfl, by rw [HS.out]; exact HO.out, HB.out⟩, rfl⟩)
            case measure => simp [intOf]; omega
          | false =>
            have hlq : l = q := by simpa using hl
            cases hz : (f == 0) with
            | true =>
              have HS := Lib.hid (hoTo_no (n := n) (xs := xs) (q := q) (k := k) (hoAt_zero HG.out (by rw [Ef.out]; simpa using hz)))
              clear hlq
              go_wp2_with fail
              go_roundw
              case rel =>
                first
                | exact ⟨k + 1, by omega, by go_num, by rw [HS.out]; exact HO.out, HB.out⟩
                | ((repeat apply Exists.intro); exact ⟨⟨k + 1, by omega, rfl, by rw [HS.out]; exact HO.out, HB.out⟩, rfl⟩)
              case measure => simp [intOf]; omega
            | false =>
              have hf1 : 1 ≤ f := by
                have : f ≠ 0 := by simpa using hz
                omega
              have hsp := hoAt_spec HG.out Q1 hlt (by rw [El.out]; exact hlq) (by rw [Ef.out]; exact hf1)
              rw [Ef.out, Ep.out] at hsp
              have hP := fun W (h : Rd W B 4 (.slice (some ⟨b, off, none⟩) n c) n xs) (hB : B ≤ W.heap.size) => caAt_any _ n B xs q 0 (f - 1) W h hB HG.out
              have hyes := hoTo_yes (n := n) (xs := xs) (q := q) (k := k)
              rw [Ef.out] at hyes
              have HYes := Lib.hid hyes
              have e1 := IntWalk.i64_in (f - 1) (by omega)
              clear hlq hyes
              by_cases hi : idxAt n xs q 0 (f - 1) < n
              · rw [idxS_yes hi] at hP
                obtain ⟨i, ei⟩ : ∃ i, idxAt n xs q 0 (f - 1) = i := ⟨_, rfl⟩
                rw [ei] at hP hi hsp
                have hci := HC.out i hi
                obtain ⟨p2, ep2⟩ : ∃ a, cP xs i = a := ⟨_, rfl⟩
                rw [ep2] at hci hsp
                rw [decide_eq_true hi, Bool.true_and] at hsp
                have HSp := Lib.hid hsp
                have HP := Lib.hid hP
                have c9 := Lib.hid ((HB.out.cell (p := ⟨b, off + i * 4, none⟩) (Nat.lt_of_lt_of_le hbB hB)))
                have j0 : (0 : Int) ≤ (i : Int) := by omega
                have j1 : (i : Int) < (n : Int) := by omega
                clear hP ei ep2 hsp c9
                cases hne : (p2 != p) with
                | false =>
                  have HS := Lib.hid (hoTo_no (HSp.out.trans hne))
                  go_wp2_with fail
                  refine (HP.out _ (Hv.out.below' HB.out hB) (Nat.le_trans hB HB.out.size)).mono ?_
                  rintro e w2 ⟨rfl, hb2⟩
                  have HO2 := Lib.hid (own_below HO.out hb2 (Nat.le_refl _))
                  have K2 := Lib.hid (K.out.on hb2)
                  have HB2 := Lib.hid (below_on HB.out hb2)
                  obtain ⟨a0, a1, a2, a3⟩ := K2.out.c4
                  clear hb2 HB HO K c0 c1 c2 c3
                  go_wp2_with fail
                  have d0 := (HB2.out.cell (p := ⟨b, off + i * 4, none⟩) (Nat.lt_of_lt_of_le hbB hB)).trans hci.1
                  go_quiet (fail)
                  clear a0 a1 a2 a3 d0 hci
                  go_wp2_with fail
                  go_roundw
                  case rel =>
                    first
                    | exact ⟨k + 1, by omega, by go_num, by rw [HS.out]; exact (own_drewN HO2.out _), (below_drewN HB2.out _)⟩
                    | ((repeat apply Exists.intro); exact ⟨⟨k + 1, by omega, rfl, by rw [HS.out]; exact (own_drewN HO2.out _), (below_drewN HB2.out _)⟩, rfl⟩)
                  case measure => simp [intOf]; omega
                | true =>
                  have HS := Lib.hid (HYes.out (HSp.out.trans hne))
                  go_wp2_with fail
                  refine (HP.out _ (Hv.out.below' HB.out hB) (Nat.le_trans hB HB.out.size)).mono ?_
                  rintro e w2 ⟨rfl, hb2⟩
                  have HO2 := Lib.hid (own_below HO.out hb2 (Nat.le_refl _))
                  have K2 := Lib.hid (K.out.on hb2)
                  have HB2 := Lib.hid (below_on HB.out hb2)
                  obtain ⟨a0, a1, a2, a3⟩ := K2.out.c4
                  clear hb2 HB HO K c0 c1 c2 c3
                  go_wp2_with fail
                  have d0 := (HB2.out.cell (p := ⟨b, off + i * 4, none⟩) (Nat.lt_of_lt_of_le hbB hB)).trans hci.1
                  go_quiet (fail)
                  have ho := own_drewN HO2.out nq
                  have hb := below_drewN HB2.out nq
                  have b2 : (w2.drewN nq).cell? ⟨wo.heap.size, 2, none⟩ = some (.int .i64 f) := a2
                  clear a0 a1 a2 a3 d0 hci HO2 HB2 K2
                  generalize w2.drewN nq = w4 at ho hb b2 ⊢
                  have hlen := hoTo_len n xs q k
                  have hsz := hb.size
                  have HO4 := Lib.hid (ho.alloc (.cells #[.int .i64 f] 3))
                  have HB4 := Lib.hid (below_new hb (.cells #[.int .i64 f] 3))
                  have n0 := (Blk.new w4 3 #[.int .i64 f]).c1
                  clear ho hb
                  go_wp2_with (at_builtin; refine app_int rfl _ _ rfl w.heap.size _ _ _ rfl HO4.out w4.heap.size f rfl n0 (by omega) (by simp; omega) ?_; intro v' w3 ho3 hg3)
                  have hb3 : Below w.heap.size w w3 := HB4.out.grown hg3 (by simp; omega) (fun g hg => (HO4.out.lt g hg).1)
                  have HO5 := Lib.hid (show w3.ownsRow w.heap.size 3 1 v' (hoTo n xs q (k + 1)).length (ints (hoTo n xs q (k + 1))) by rw [HS.out, List.length_append]; exact ho3)
                  have HB5 := Lib.hid hb3
                  clear ho3 hb3 hg3 n0 b2
                  go_wp2_with fail
                  go_roundw
                  case rel =>
                    first
                    | exact ⟨k + 1, by omega, by go_num, HO5.out, HB5.out⟩
                    | ((repeat apply Exists.intro); exact ⟨⟨k + 1, by omega, rfl, HO5.out, HB5.out⟩, rfl⟩)
                  case measure => simp [intOf]; omega
              · rw [idxS_no hi] at hP
                rw [decide_eq_false hi, Bool.false_and] at hsp
                have HS := Lib.hid (hoTo_no hsp)
                have HP := Lib.hid hP
                clear hP hsp
                go_wp2_with fail
                refine (HP.out _ (Hv.out.below' HB.out hB) (Nat.le_trans hB HB.out.size)).mono ?_
                rintro e w2 ⟨rfl, hb2⟩
                have HO2 := Lib.hid (own_below HO.out hb2 (Nat.le_refl _))
                have K2 := Lib.hid (K.out.on hb2)
                have HB2 := Lib.hid (below_on HB.out hb2)
                obtain ⟨a0, a1, a2, a3⟩ := K2.out.c4
                clear hb2 HB HO K c0 c1 c2 c3
                go_wp2_with fail
                go_quiet (fail)
                go_wp2_with fail
                go_roundw
                case rel =>
                  first
                  | exact ⟨k + 1, by omega, by go_num, by rw [HS.out]; exact (own_drewN HO2.out _), (below_drewN HB2.out _)⟩
                  | ((repeat apply Exists.intro); exact ⟨⟨k + 1, by omega, rfl, by rw [HS.out]; exact (own_drewN HO2.out _), (below_drewN HB2.out _)⟩, rfl⟩)
                case measure => simp [intOf]; omega
        · obtain rfl : k = n := by omega
          have HB := Lib.hid hb
          have HO := Lib.hid hown
          clear hb hown
          go_wp2_with fail
          go_ret2
          rw [hf.out.1, hf.out.2.1, hf.out.2.2]
          exact ⟨_, rfl, HO.out, HB.out⟩
end Go.Proofs.YtamehlafmfmgmaaDoor
