/- The contract of the program's AreCarries. Condition: the slice can be read, and its length is at most its capacity. -/
import Derived.Test.YtamehlafmfmgmaaDoorCarry
import Derived.Test.YtamehlafmfmgmaaDoorSet
import Derived.Lib.MinMax
import Derived.BigQuiet
import Derived.Deep.QuietTactic
import Derived.Deep.RegionHeld3
import Derived.IntWalk
namespace Go.Proofs.YtamehlafmfmgmaaDoor
open Go.RowKit

/-- The length of a slice is at most its capacity. -/
def Cap (v : Value) : Prop := ∀ A n c, v = .slice A n c → n ≤ c
theorem Own.cap {w : World} {lo hi sz n : Nat} {e : TypeId} {v : Value} {xs : List Int} (h : Own w lo hi e sz v n xs) : Cap v := by
  intro A m c hv
  rcases h.1.2 with ⟨rfl, _⟩ | ⟨g, cap, cur, rfl, _, _, hnc, _⟩
  · simp only [Value.slice.injEq] at hv; omega
  · simp only [Value.slice.injEq] at hv; omega

set_option maxRecDepth 100000 in
set_option maxHeartbeats 4000000 in
theorem AreCarries_any (v : Value) (n B : Nat) (xs : List Int) (w : World) (hcp : Cap v) (hv : Rd w B 4 v n xs) (hB : B ≤ w.heap.size) (hn : n ≤ 1099511627776) :
    Calls Tryd.prog 25 #[v] w fun e w' => e = .returned (.bool (gcB n xs)) ∧ Below w.heap.size w w' := by
  obtain ⟨A, c, rfl⟩ := hv.form4
  have hnc : n ≤ c := hcp _ _ _ rfl
  have Hv := Lib.hid hv
  clear hv hcp
  by_cases hlong : 40 < n
  · have hf := Lib.hid (gc_long (xs := xs) hlong)
    go_enter Tryd.func25, Tryd.ntmps25
    go_wp2_with fail
    go_ret
    exact ⟨by rw [hf.out]; rfl, Below.refl _ _⟩
  · have h40 : n ≤ 40 := by omega
    go_enter Tryd.func25, Tryd.ntmps25
    go_wp2_with fail
    go_loopw [14] (fun s wr => ∃ i : Nat, i ≤ n ∧ s = .int .i64 i ∧ (∀ k, k < i → caAt xs k = true) ∧ Below w.heap.size w wr) (fun s _ => n - (intOf s).toNat)
    case atStart => exact ⟨0, Nat.zero_le _, rfl, fun k h => absurd h (by omega), Below.refl _ _⟩
    case round =>
      obtain ⟨i, hi, rfl, hall, hb⟩ := hrel
      have HA := Lib.hid hall
      clear hall
      by_cases hlt : i < n
      · obtain ⟨b, off, rfl, hbB, hc⟩ := Hv.out.carry (by omega)
        have hcip := hc i (by omega)
        obtain ⟨p, ep⟩ : ∃ a, cP xs i = a := ⟨_, rfl⟩
        obtain ⟨l, el⟩ : ∃ a, cL xs i = a := ⟨_, rfl⟩
        obtain ⟨f, ef⟩ : ∃ a, cF xs i = a := ⟨_, rfl⟩
        obtain ⟨t, et⟩ : ∃ a, cT xs i = a := ⟨_, rfl⟩
        rw [ep, el, ef, et] at hcip
        have c0 := (hb.cell (p := ⟨b, off + i * 4, none⟩) (Nat.lt_of_lt_of_le hbB hB)).trans hcip.1
        have c1 := (hb.cell (p := ⟨b, off + i * 4 + 1, none⟩) (Nat.lt_of_lt_of_le hbB hB)).trans hcip.2.1
        have c2 := (hb.cell (p := ⟨b, off + i * 4 + 2, none⟩) (Nat.lt_of_lt_of_le hbB hB)).trans hcip.2.2.1
        have c3 := (hb.cell (p := ⟨b, off + i * 4 + 3, none⟩) (Nat.lt_of_lt_of_le hbB hB)).trans hcip.2.2.2
        have i0 : (0 : Int) ≤ (i : Int) := by omega
        have i1 : (i : Int) < (n : Int) := by omega
        have HB := Lib.hid (below_new hb (.cells #[.int .i64 p, .int .i64 l, .int .i64 f, .int .i64 t] 50))
        have hca : caAt xs i = caB p l f t := by rw [← ep, ← el, ← ef, ← et]; rfl
        have HCa := Lib.hid hca
        clear hc hcip ep el ef et hb hca
        cases hr : caB p l f t with
        | false =>
          have HP := Lib.hid (fun W => hr ▸ isCarry_any p l f t W)
          have HF := Lib.hid (gc_bad hlt (HCa.out.trans hr))
          go_wp2_with fail
          refine (HP.out _).mono ?_
          rintro e w2 ⟨rfl, hb2⟩
          go_wp2_with fail
          go_ret
          exact ⟨by rw [HF.out]; rfl, below_on HB.out hb2⟩
        | true =>
          have HP := Lib.hid (fun W => hr ▸ isCarry_any p l f t W)
          have HF := Lib.hid (HCa.out.trans hr)
          go_wp2_with fail
          refine (HP.out _).mono ?_
          rintro e w2 ⟨rfl, hb2⟩
          have HB2 := Lib.hid (below_on HB.out hb2)
          clear hb2 c0 c1 c2 c3
          go_wp2_with fail
          go_roundw
          case rel =>
            refine ⟨i + 1, by omega, by go_num, fun k hk => ?_, HB2.out⟩
            rcases Nat.lt_succ_iff_lt_or_eq.1 hk with h | rfl
            · exact HA.out k h
            · exact HF.out
          case measure => simp [intOf]; omega
      · obtain rfl : i = n := by omega
        have HB := Lib.hid hb
        clear hb
        obtain ⟨w0, rfl⟩ : ∃ w0 : World, w0 = wr := ⟨_, rfl⟩
        go_wp2_with fail
        go_loopw [24] (fun s wq => ∃ k : Nat, k ≤ i ∧ s = .int .i64 k ∧ (∀ a, a < k → ordAt xs a = true) ∧ (∀ a j, a < k → j < a → clashAt xs a j = false) ∧ Below w.heap.size w wq) (fun s _ => i - (intOf s).toNat)
        case atStart => exact ⟨0, Nat.zero_le _, rfl, fun a h => absurd h (by omega), fun a j h => absurd h (by omega), HB.out⟩
        case round =>
          clear HB
          obtain ⟨k, hk, rfl, hord, hfree, hb⟩ := hrel
          obtain ⟨wo, rfl⟩ : ∃ wo : World, wo = wr := ⟨_, rfl⟩
          have HOr := Lib.hid hord
          have HFr := Lib.hid hfree
          clear hord hfree
          by_cases hlt : k < i
          · obtain ⟨b, off, rfl, hbB, hc⟩ := Hv.out.carry (by omega)
            have hcip := hc k (by omega)
            obtain ⟨p, ep⟩ : ∃ a, cP xs k = a := ⟨_, rfl⟩
            obtain ⟨l, el⟩ : ∃ a, cL xs k = a := ⟨_, rfl⟩
            obtain ⟨f, ef⟩ : ∃ a, cF xs k = a := ⟨_, rfl⟩
            obtain ⟨t, et⟩ : ∃ a, cT xs k = a := ⟨_, rfl⟩
            rw [ep, el, ef, et] at hcip
            have c0 := (hb.cell (p := ⟨b, off + k * 4, none⟩) (Nat.lt_of_lt_of_le hbB hB)).trans hcip.1
            have c1 := (hb.cell (p := ⟨b, off + k * 4 + 1, none⟩) (Nat.lt_of_lt_of_le hbB hB)).trans hcip.2.1
            have c2 := (hb.cell (p := ⟨b, off + k * 4 + 2, none⟩) (Nat.lt_of_lt_of_le hbB hB)).trans hcip.2.2.1
            have c3 := (hb.cell (p := ⟨b, off + k * 4 + 3, none⟩) (Nat.lt_of_lt_of_le hbB hB)).trans hcip.2.2.2
            have i0 : (0 : Int) ≤ (k : Int) := by omega
            have i1 : (k : Int) < (i : Int) := by omega
            have i2 : (k : Int) ≤ (c : Int) := by omega
            have hcb : caB p l f t = true := by rw [← ep, ← el, ← ef, ← et]; exact HA.out k hlt
            have K := Lib.hid (Blk.new wo 50 #[.int .i64 p, .int .i64 l, .int .i64 f, .int .i64 t])
            have HB := Lib.hid (below_new hb (.cells #[.int .i64 p, .int .i64 l, .int .i64 f, .int .i64 t] 50))
            have HC := Lib.hid hc
            have Ep := Lib.hid ep
            have El := Lib.hid el
            have Ef := Lib.hid ef
            have Et := Lib.hid et
            have HCB := Lib.hid hcb
            by_cases hk0 : 0 < k
            · have hd : decide ((0 : Int) < (k : Int)) = true := by simp; omega
              have hcip1 := hc (k - 1) (by omega)
              obtain ⟨p1, ep1⟩ : ∃ a, cP xs (k - 1) = a := ⟨_, rfl⟩
              obtain ⟨l1, el1⟩ : ∃ a, cL xs (k - 1) = a := ⟨_, rfl⟩
              obtain ⟨f1, ef1⟩ : ∃ a, cF xs (k - 1) = a := ⟨_, rfl⟩
              obtain ⟨t1, et1⟩ : ∃ a, cT xs (k - 1) = a := ⟨_, rfl⟩
              rw [ep1, el1, ef1, et1] at hcip1
              have d0 := (hb.cell (p := ⟨b, off + (k - 1) * 4, none⟩) (Nat.lt_of_lt_of_le hbB hB)).trans hcip1.1
              have d1 := (hb.cell (p := ⟨b, off + (k - 1) * 4 + 1, none⟩) (Nat.lt_of_lt_of_le hbB hB)).trans hcip1.2.1
              have d2 := (hb.cell (p := ⟨b, off + (k - 1) * 4 + 2, none⟩) (Nat.lt_of_lt_of_le hbB hB)).trans hcip1.2.2.1
              have d3 := (hb.cell (p := ⟨b, off + (k - 1) * 4 + 3, none⟩) (Nat.lt_of_lt_of_le hbB hB)).trans hcip1.2.2.2
              have i3 : (0 : Int) ≤ (k : Int) - 1 := by omega
              have i4 : (k : Int) - 1 < (i : Int) := by omega
              have i5 : ((k : Int) - 1).toNat = k - 1 := by omega
              have i6 := IntWalk.i64_in ((k : Int) - 1) (by omega)
              have i7 : (1 : Int) ≤ (k : Int) := by omega
              have i8 : (k : Int) ≤ (i : Int) := by omega
              have i9 : (0 : Int) < (k : Int) := by omega
              have hcb1 : caB p1 l1 f1 t1 = true := by rw [← ep1, ← el1, ← ef1, ← et1]; exact HA.out (k - 1) (by omega)
              have hP := fun W => compareCarries_any p1 l1 f1 t1 p l f t W hcb1 hcb
              have hbf := cmp_bef l1 f1 l f
              have ho := ord_pos (xs := xs) hk0
              rw [el1, ef1, el, ef] at ho
              obtain ⟨q, eq⟩ : ∃ q, cmpV l1 f1 l f = q := ⟨_, rfl⟩
              rw [eq] at hP hbf
              have HP := Lib.hid hP
              have m0 := cell_new d0 (.cells #[.int .i64 p, .int .i64 l, .int .i64 f, .int .i64 t] 50)
              have m1 := cell_new d1 (.cells #[.int .i64 p, .int .i64 l, .int .i64 f, .int .i64 t] 50)
              have m2 := cell_new d2 (.cells #[.int .i64 p, .int .i64 l, .int .i64 f, .int .i64 t] 50)
              have m3 := cell_new d3 (.cells #[.int .i64 p, .int .i64 l, .int .i64 f, .int .i64 t] 50)
              obtain ⟨a0, a1, a2, a3⟩ := K.out.c4
              cases hbe : befB l1 f1 l f with
              | false =>
                have hq : 0 ≤ q := by rw [hbe] at hbf; simpa using hbf
                have HF := Lib.hid (gc_ord (n := i) hlt (ho.trans hbe))
                clear ep el ef et ep1 el1 ef1 et1 eq hc hcb hcb1 hP hbf ho hb d0 d1 d2 d3
                go_wp2_with fail
                go_region_held3 (fun W => W.cell? ⟨b, off + (k - 1) * 4, none⟩ = some (.int .i64 p1) ∧ W.cell? ⟨b, off + (k - 1) * 4 + 1, none⟩ = some (.int .i64 l1) ∧ W.cell? ⟨b, off + (k - 1) * 4 + 2, none⟩ = some (.int .i64 f1) ∧ W.cell? ⟨b, off + (k - 1) * 4 + 3, none⟩ = some (.int .i64 t1) ∧ W.cell? ⟨wo.heap.size, 0, none⟩ = some (.int .i64 p) ∧ W.cell? ⟨wo.heap.size, 1, none⟩ = some (.int .i64 l) ∧ W.cell? ⟨wo.heap.size, 2, none⟩ = some (.int .i64 f) ∧ W.cell? ⟨wo.heap.size, 3, none⟩ = some (.int .i64 t) ∧ Blk W wo.heap.size 50 #[.int .i64 p, .int .i64 l, .int .i64 f, .int .i64 t] ∧ Below w.heap.size w W)
                  (first | exact ⟨m0, m1, m2, m3, a0, a1, a2, a3, K.out.drew, HB.out.drew⟩ | (go_split_ands; exact ⟨cell_on hb2 (by assumption), cell_on hb2 (by assumption), cell_on hb2 (by assumption), cell_on hb2 (by assumption), cell_on hb2 (by assumption), cell_on hb2 (by assumption), cell_on hb2 (by assumption), cell_on hb2 (by assumption), Blk.on (by assumption) hb2, below_on (by assumption) hb2⟩) | go_keep)
                  (first | (go_at_call 46; refine (HP.out _).mono ?_; rintro e w2 ⟨rfl, hb2⟩))
                go_split_ands
                rename_i hk9 hb9
                have HB2 := Lib.hid hb9
                have K2 := Lib.hid hk9
                clear hb9 hk9 c0 c1 c2 c3 m0 m1 m2 m3 a0 a1 a2 a3 K HB
                go_wp2_with fail
                go_ret
                exact ⟨by rw [HF.out]; rfl, HB2.out⟩
              | true =>
                have hq : q < 0 := by rw [hbe] at hbf; simpa using hbf
                have HO := Lib.hid (ho.trans hbe)
                clear ep el ef et ep1 el1 ef1 et1 eq hc hcb hcb1 hP hbf ho hb d0 d1 d2 d3
                go_wp2_with fail
                go_region_held3 (fun W => W.cell? ⟨b, off + (k - 1) * 4, none⟩ = some (.int .i64 p1) ∧ W.cell? ⟨b, off + (k - 1) * 4 + 1, none⟩ = some (.int .i64 l1) ∧ W.cell? ⟨b, off + (k - 1) * 4 + 2, none⟩ = some (.int .i64 f1) ∧ W.cell? ⟨b, off + (k - 1) * 4 + 3, none⟩ = some (.int .i64 t1) ∧ W.cell? ⟨wo.heap.size, 0, none⟩ = some (.int .i64 p) ∧ W.cell? ⟨wo.heap.size, 1, none⟩ = some (.int .i64 l) ∧ W.cell? ⟨wo.heap.size, 2, none⟩ = some (.int .i64 f) ∧ W.cell? ⟨wo.heap.size, 3, none⟩ = some (.int .i64 t) ∧ Blk W wo.heap.size 50 #[.int .i64 p, .int .i64 l, .int .i64 f, .int .i64 t] ∧ Below w.heap.size w W)
                  (first | exact ⟨m0, m1, m2, m3, a0, a1, a2, a3, K.out.drew, HB.out.drew⟩ | (go_split_ands; exact ⟨cell_on hb2 (by assumption), cell_on hb2 (by assumption), cell_on hb2 (by assumption), cell_on hb2 (by assumption), cell_on hb2 (by assumption), cell_on hb2 (by assumption), cell_on hb2 (by assumption), cell_on hb2 (by assumption), Blk.on (by assumption) hb2, below_on (by assumption) hb2⟩) | go_keep)
                  (first | (go_at_call 46; refine (HP.out _).mono ?_; rintro e w2 ⟨rfl, hb2⟩))
                go_split_ands
                rename_i hk9 hb9
                have HB2 := Lib.hid hb9
                have K2 := Lib.hid hk9
                clear hb9 hk9 c0 c1 c2 c3 m0 m1 m2 m3 a0 a1 a2 a3 K HB
                go_wp2_with fail
                go_loopw [45] (fun s wq => ∃ j : Nat, j ≤ k ∧ s = .int .i64 j ∧ (∀ a, a < j → clashAt xs k a = false) ∧ Blk wq wo.heap.size 50 #[.int .i64 p, .int .i64 l, .int .i64 f, .int .i64 t] ∧ Below w.heap.size w wq) (fun s _ => k - (intOf s).toNat)
                case atStart => exact ⟨0, Nat.zero_le _, rfl, fun a h => absurd h (by omega), K2.out, HB2.out⟩
                case round =>
                  clear K2 HB2
                  obtain ⟨j, hj, rfl, hno, hkk, hb⟩ := hrel
                  have HNo := Lib.hid hno
                  clear hno
                  by_cases hlj : j < k
                  · have hc := HC.out
                    have hcip2 := hc j (by omega)
                    obtain ⟨p2, ep2⟩ : ∃ a, cP xs j = a := ⟨_, rfl⟩
                    obtain ⟨l2, el2⟩ : ∃ a, cL xs j = a := ⟨_, rfl⟩
                    obtain ⟨f2, ef2⟩ : ∃ a, cF xs j = a := ⟨_, rfl⟩
                    obtain ⟨t2, et2⟩ : ∃ a, cT xs j = a := ⟨_, rfl⟩
                    rw [ep2, el2, ef2, et2] at hcip2
                    have e0 := (hb.cell (p := ⟨b, off + j * 4, none⟩) (Nat.lt_of_lt_of_le hbB hB)).trans hcip2.1
                    have e1 := (hb.cell (p := ⟨b, off + j * 4 + 1, none⟩) (Nat.lt_of_lt_of_le hbB hB)).trans hcip2.2.1
                    have e2 := (hb.cell (p := ⟨b, off + j * 4 + 2, none⟩) (Nat.lt_of_lt_of_le hbB hB)).trans hcip2.2.2.1
                    have e3 := (hb.cell (p := ⟨b, off + j * 4 + 3, none⟩) (Nat.lt_of_lt_of_le hbB hB)).trans hcip2.2.2.2
                    have g2 := HA.out j (by omega)
                    have hff := ord_from (n := k + 1) (xs := xs) (fun a ha => by
                      rcases Nat.lt_succ_iff_lt_or_eq.1 ha with h | rfl
                      · exact HOr.out a h
                      · exact HO.out) k j (by omega) (by omega)
                    have HCl := Lib.hid (show clashAt xs k j = ((l2 == l || p2 == p) && decide (f < t2)) by rw [← ep2, ← el2, ← et2, ← Ep.out, ← El.out, ← Ef.out]; rfl)
                    have hg2 : caB p2 l2 f2 t2 = true := by rw [← ep2, ← el2, ← ef2, ← et2]; exact g2
                    obtain ⟨_, _, v1, v2, v3⟩ := caB_yes hg2
                    obtain ⟨_, _, v4, v5, v6⟩ := caB_yes HCB.out
                    have hff2 : f2 ≤ f := by rw [← ef2, ← Ef.out]; exact hff
                    obtain ⟨a0, a1, a2, a3⟩ := hkk.c4
                    have b0 := cell_new a0 (.cells #[.int .i64 p2, .int .i64 l2, .int .i64 f2, .int .i64 t2] 50)
                    have b1 := cell_new a1 (.cells #[.int .i64 p2, .int .i64 l2, .int .i64 f2, .int .i64 t2] 50)
                    have b2 := cell_new a2 (.cells #[.int .i64 p2, .int .i64 l2, .int .i64 f2, .int .i64 t2] 50)
                    have b3 := cell_new a3 (.cells #[.int .i64 p2, .int .i64 l2, .int .i64 f2, .int .i64 t2] 50)
                    have hne : wo.heap.size < wr.heap.size := hkk.lt
                    have K3 := Lib.hid (hkk.alloc (.cells #[.int .i64 p2, .int .i64 l2, .int .i64 f2, .int .i64 t2] 50))
                    have HB3 := Lib.hid (below_new hb (.cells #[.int .i64 p2, .int .i64 l2, .int .i64 f2, .int .i64 t2] 50))
                    have j0 : (0 : Int) ≤ (j : Int) := by omega
                    have j1 : (j : Int) < (k : Int) := by omega
                    clear hc hcip2 ep2 el2 ef2 et2 g2 hff hg2 hkk hb
                    cases hl : (l == l2) with
                    | true =>
                      have hl2 : (l2 == l) = true := by rw [← hl]; exact Bool.beq_comm
                      by_cases hft : f < t2
                      · have HF := Lib.hid (gc_clash (n := i) hlt hlj (show clashAt xs k j = true by rw [HCl.out]; rw [hl2, Bool.true_or, Bool.true_and]; exact decide_eq_true hft))
                        have hmm : decide (max f f2 < min t t2) = true := decide_eq_true (by omega)
                        go_wp2_with fail
                        go_ret
                        exact ⟨by rw [HF.out]; rfl, HB3.out⟩
                      · have HF := Lib.hid (show clashAt xs k j = false by rw [HCl.out, decide_eq_false hft, Bool.and_false])
                        have hmm : decide (max f f2 < min t t2) = false := decide_eq_false (by omega)
                        go_wp2_with fail
                        go_roundw
                        case rel =>
                          have hR : ∀ a, a < j + 1 → clashAt xs k a = false := fun a ha => by
                            rcases Nat.lt_succ_iff_lt_or_eq.1 ha with h | rfl
                            · exact HNo.out a h
                            · exact HF.out
                          first
                          | exact ⟨j + 1, by omega, by go_num, hR, K3.out, HB3.out⟩
                          | ((repeat apply Exists.intro); exact ⟨⟨j + 1, by omega, rfl, hR, K3.out, HB3.out⟩, rfl⟩)
                        case measure => simp [intOf]; omega
                    | false =>
                      have hl2 : (l2 == l) = false := by rw [← hl]; exact Bool.beq_comm
                      cases hp : (p == p2) with
                      | true =>
                        have hp2 : (p2 == p) = true := by rw [← hp]; exact Bool.beq_comm
                        by_cases hft : f < t2
                        · have HF := Lib.hid (gc_clash (n := i) hlt hlj (show clashAt xs k j = true by rw [HCl.out]; rw [hp2, Bool.or_true, Bool.true_and]; exact decide_eq_true hft))
                          have hmm : decide (max f f2 < min t t2) = true := decide_eq_true (by omega)
                          go_wp2_with fail
                          go_ret
                          exact ⟨by rw [HF.out]; rfl, HB3.out⟩
                        · have HF := Lib.hid (show clashAt xs k j = false by rw [HCl.out, decide_eq_false hft, Bool.and_false])
                          have hmm : decide (max f f2 < min t t2) = false := decide_eq_false (by omega)
                          go_wp2_with fail
                          go_roundw
                          case rel =>
                            have hR : ∀ a, a < j + 1 → clashAt xs k a = false := fun a ha => by
                              rcases Nat.lt_succ_iff_lt_or_eq.1 ha with h | rfl
                              · exact HNo.out a h
                              · exact HF.out
                            first
                            | exact ⟨j + 1, by omega, by go_num, hR, K3.out, HB3.out⟩
                            | ((repeat apply Exists.intro); exact ⟨⟨j + 1, by omega, rfl, hR, K3.out, HB3.out⟩, rfl⟩)
                          case measure => simp [intOf]; omega
                      | false =>
                        have hp2 : (p2 == p) = false := by rw [← hp]; exact Bool.beq_comm
                        have HF := Lib.hid (show clashAt xs k j = false by rw [HCl.out, hl2, hp2]; rfl)
                        go_wp2_with fail
                        go_roundw
                        case rel =>
                          have hR : ∀ a, a < j + 1 → clashAt xs k a = false := fun a ha => by
                            rcases Nat.lt_succ_iff_lt_or_eq.1 ha with h | rfl
                            · exact HNo.out a h
                            · exact HF.out
                          first
                          | exact ⟨j + 1, by omega, by go_num, hR, K3.out, HB3.out⟩
                          | ((repeat apply Exists.intro); exact ⟨⟨j + 1, by omega, rfl, hR, K3.out, HB3.out⟩, rfl⟩)
                        case measure => simp [intOf]; omega
                  · obtain rfl : j = k := by omega
                    have HB := Lib.hid hb
                    clear hb hkk
                    go_wp2_with fail
                    go_roundw
                    case rel =>
                      have hR1 : ∀ a, a < j + 1 → ordAt xs a = true := fun a ha => by
                        rcases Nat.lt_succ_iff_lt_or_eq.1 ha with h | rfl
                        · exact HOr.out a h
                        · exact HO.out
                      have hR2 : ∀ a q, a < j + 1 → q < a → clashAt xs a q = false := fun a q ha hq => by
                        rcases Nat.lt_succ_iff_lt_or_eq.1 ha with h | rfl
                        · exact HFr.out a q h hq
                        · exact HNo.out q hq
                      first
                      | exact ⟨j + 1, by omega, by go_num, hR1, hR2, HB.out⟩
                      | ((repeat apply Exists.intro); exact ⟨⟨j + 1, by omega, rfl, hR1, hR2, HB.out⟩, rfl⟩)
                    case measure => simp [intOf]; omega
            · have hd : decide ((0 : Int) < (k : Int)) = false := by simp; omega
              have hd2 : decide (0 < k) = false := by simp; omega
              have HO := Lib.hid (show ordAt xs k = true by rw [show k = 0 by omega]; exact ord_zero xs)
              have HK0 := Lib.hid hk0
              clear ep el ef et hc hcip hb hcb hk0
              go_wp2_with fail
              go_quiet (fail)
              have K2 := Lib.hid (K.out.drewN nq)
              have HB2 := Lib.hid (below_drewN HB.out nq)
              clear K HB c0 c1 c2 c3
              go_wp2_with fail
              go_loopw [45] (fun s wq => ∃ j : Nat, j ≤ k ∧ s = .int .i64 j ∧ (∀ a, a < j → clashAt xs k a = false) ∧ Blk wq wo.heap.size 50 #[.int .i64 p, .int .i64 l, .int .i64 f, .int .i64 t] ∧ Below w.heap.size w wq) (fun s _ => k - (intOf s).toNat)
              case atStart => exact ⟨0, Nat.zero_le _, rfl, fun a h => absurd h (by omega), K2.out, HB2.out⟩
              case round =>
                clear K2 HB2
                obtain ⟨j, hj, rfl, hno, hkk, hb⟩ := hrel
                have HNo := Lib.hid hno
                clear hno
                by_cases hlj : j < k
                · have hc := HC.out
                  have hcip2 := hc j (by omega)
                  obtain ⟨p2, ep2⟩ : ∃ a, cP xs j = a := ⟨_, rfl⟩
                  obtain ⟨l2, el2⟩ : ∃ a, cL xs j = a := ⟨_, rfl⟩
                  obtain ⟨f2, ef2⟩ : ∃ a, cF xs j = a := ⟨_, rfl⟩
                  obtain ⟨t2, et2⟩ : ∃ a, cT xs j = a := ⟨_, rfl⟩
                  rw [ep2, el2, ef2, et2] at hcip2
                  have e0 := (hb.cell (p := ⟨b, off + j * 4, none⟩) (Nat.lt_of_lt_of_le hbB hB)).trans hcip2.1
                  have e1 := (hb.cell (p := ⟨b, off + j * 4 + 1, none⟩) (Nat.lt_of_lt_of_le hbB hB)).trans hcip2.2.1
                  have e2 := (hb.cell (p := ⟨b, off + j * 4 + 2, none⟩) (Nat.lt_of_lt_of_le hbB hB)).trans hcip2.2.2.1
                  have e3 := (hb.cell (p := ⟨b, off + j * 4 + 3, none⟩) (Nat.lt_of_lt_of_le hbB hB)).trans hcip2.2.2.2
                  have g2 := HA.out j (by omega)
                  have hff := ord_from (n := k + 1) (xs := xs) (fun a ha => by
                    rcases Nat.lt_succ_iff_lt_or_eq.1 ha with h | rfl
                    · exact HOr.out a h
                    · exact HO.out) k j (by omega) (by omega)
                  have HCl := Lib.hid (show clashAt xs k j = ((l2 == l || p2 == p) && decide (f < t2)) by rw [← ep2, ← el2, ← et2, ← Ep.out, ← El.out, ← Ef.out]; rfl)
                  have hg2 : caB p2 l2 f2 t2 = true := by rw [← ep2, ← el2, ← ef2, ← et2]; exact g2
                  obtain ⟨_, _, v1, v2, v3⟩ := caB_yes hg2
                  obtain ⟨_, _, v4, v5, v6⟩ := caB_yes HCB.out
                  have hff2 : f2 ≤ f := by rw [← ef2, ← Ef.out]; exact hff
                  obtain ⟨a0, a1, a2, a3⟩ := hkk.c4
                  have b0 := cell_new a0 (.cells #[.int .i64 p2, .int .i64 l2, .int .i64 f2, .int .i64 t2] 50)
                  have b1 := cell_new a1 (.cells #[.int .i64 p2, .int .i64 l2, .int .i64 f2, .int .i64 t2] 50)
                  have b2 := cell_new a2 (.cells #[.int .i64 p2, .int .i64 l2, .int .i64 f2, .int .i64 t2] 50)
                  have b3 := cell_new a3 (.cells #[.int .i64 p2, .int .i64 l2, .int .i64 f2, .int .i64 t2] 50)
                  have hne : wo.heap.size < wr.heap.size := hkk.lt
                  have K3 := Lib.hid (hkk.alloc (.cells #[.int .i64 p2, .int .i64 l2, .int .i64 f2, .int .i64 t2] 50))
                  have HB3 := Lib.hid (below_new hb (.cells #[.int .i64 p2, .int .i64 l2, .int .i64 f2, .int .i64 t2] 50))
                  have j0 : (0 : Int) ≤ (j : Int) := by omega
                  have j1 : (j : Int) < (k : Int) := by omega
                  clear hc hcip2 ep2 el2 ef2 et2 g2 hff hg2 hkk hb
                  cases hl : (l == l2) with
                  | true =>
                    have hl2 : (l2 == l) = true := by rw [← hl]; exact Bool.beq_comm
                    by_cases hft : f < t2
                    · have HF := Lib.hid (gc_clash (n := i) hlt hlj (show clashAt xs k j = true by rw [HCl.out]; rw [hl2, Bool.true_or, Bool.true_and]; exact decide_eq_true hft))
                      have hmm : decide (max f f2 < min t t2) = true := decide_eq_true (by omega)
                      go_wp2_with fail
                      go_ret
                      exact ⟨by rw [HF.out]; rfl, HB3.out⟩
                    · have HF := Lib.hid (show clashAt xs k j = false by rw [HCl.out, decide_eq_false hft, Bool.and_false])
                      have hmm : decide (max f f2 < min t t2) = false := decide_eq_false (by omega)
                      go_wp2_with fail
                      go_roundw
                      case rel =>
                        have hR : ∀ a, a < j + 1 → clashAt xs k a = false := fun a ha => by
                          rcases Nat.lt_succ_iff_lt_or_eq.1 ha with h | rfl
                          · exact HNo.out a h
                          · exact HF.out
                        first
                        | exact ⟨j + 1, by omega, by go_num, hR, K3.out, HB3.out⟩
                        | ((repeat apply Exists.intro); exact ⟨⟨j + 1, by omega, rfl, hR, K3.out, HB3.out⟩, rfl⟩)
                      case measure => simp [intOf]; omega
                  | false =>
                    have hl2 : (l2 == l) = false := by rw [← hl]; exact Bool.beq_comm
                    cases hp : (p == p2) with
                    | true =>
                      have hp2 : (p2 == p) = true := by rw [← hp]; exact Bool.beq_comm
                      by_cases hft : f < t2
                      · have HF := Lib.hid (gc_clash (n := i) hlt hlj (show clashAt xs k j = true by rw [HCl.out]; rw [hp2, Bool.or_true, Bool.true_and]; exact decide_eq_true hft))
                        have hmm : decide (max f f2 < min t t2) = true := decide_eq_true (by omega)
                        go_wp2_with fail
                        go_ret
                        exact ⟨by rw [HF.out]; rfl, HB3.out⟩
                      · have HF := Lib.hid (show clashAt xs k j = false by rw [HCl.out, decide_eq_false hft, Bool.and_false])
                        have hmm : decide (max f f2 < min t t2) = false := decide_eq_false (by omega)
                        go_wp2_with fail
                        go_roundw
                        case rel =>
                          have hR : ∀ a, a < j + 1 → clashAt xs k a = false := fun a ha => by
                            rcases Nat.lt_succ_iff_lt_or_eq.1 ha with h | rfl
                            · exact HNo.out a h
                            · exact HF.out
                          first
                          | exact ⟨j + 1, by omega, by go_num, hR, K3.out, HB3.out⟩
                          | ((repeat apply Exists.intro); exact ⟨⟨j + 1, by omega, rfl, hR, K3.out, HB3.out⟩, rfl⟩)
                        case measure => simp [intOf]; omega
                    | false =>
                      have hp2 : (p2 == p) = false := by rw [← hp]; exact Bool.beq_comm
                      have HF := Lib.hid (show clashAt xs k j = false by rw [HCl.out, hl2, hp2]; rfl)
                      go_wp2_with fail
                      go_roundw
                      case rel =>
                        have hR : ∀ a, a < j + 1 → clashAt xs k a = false := fun a ha => by
                          rcases Nat.lt_succ_iff_lt_or_eq.1 ha with h | rfl
                          · exact HNo.out a h
                          · exact HF.out
                        first
                        | exact ⟨j + 1, by omega, by go_num, hR, K3.out, HB3.out⟩
                        | ((repeat apply Exists.intro); exact ⟨⟨j + 1, by omega, rfl, hR, K3.out, HB3.out⟩, rfl⟩)
                      case measure => simp [intOf]; omega
                · obtain rfl : j = k := by omega
                  have HB := Lib.hid hb
                  clear hb hkk
                  go_wp2_with fail
                  go_roundw
                  case rel =>
                    have hR1 : ∀ a, a < j + 1 → ordAt xs a = true := fun a ha => by
                      rcases Nat.lt_succ_iff_lt_or_eq.1 ha with h | rfl
                      · exact HOr.out a h
                      · exact HO.out
                    have hR2 : ∀ a q, a < j + 1 → q < a → clashAt xs a q = false := fun a q ha hq => by
                      rcases Nat.lt_succ_iff_lt_or_eq.1 ha with h | rfl
                      · exact HFr.out a q h hq
                      · exact HNo.out q hq
                    first
                    | exact ⟨j + 1, by omega, by go_num, hR1, hR2, HB.out⟩
                    | ((repeat apply Exists.intro); exact ⟨⟨j + 1, by omega, rfl, hR1, hR2, HB.out⟩, rfl⟩)
                  case measure => simp [intOf]; omega
          · obtain rfl : k = i := by omega
            have HF := Lib.hid (gc_mk (⟨h40, HA.out, HOr.out, fun a j h1 h2 => HFr.out a j h1 h2⟩ : GoodC k xs))
            go_wp2_with fail
            go_ret
            exact ⟨by rw [HF.out]; rfl, hb⟩
end Go.Proofs.YtamehlafmfmgmaaDoor
