/- A contract of the sets of those with whom each performer is in conflict, in the program. Conditions: the transition is good, its slices can be read, and the least distance lies within its bounds. -/
import Derived.Test.YtpikhkdgohapeaaCounts
import Derived.Test.YtpikhkdgohapeaaSetsFn
import Derived.Test.YtpikhkdgohapeaaRowStep
import Derived.Test.YtpikhkdgohapeaaBits
import Derived.StillTailTactics
namespace Go.Proofs.Ytpikhkdgohapeaa
open Go.RowKit

set_option maxRecDepth 100000 in
set_option maxHeartbeats 4000000 in
theorem conflictSets_any (v : Value) (B : Nat) (t : TrN) (L : Int) (w : World) (hv : RdT w B v t) (hB : B ≤ w.heap.size) (hok : TrOk t) (hL0 : 0 ≤ L) (hL : L ≤ 80) :
    Calls Try.prog 63 #[v, .int .i64 L] w fun e w' => ∃ u, e = .returned u ∧ w'.ownsRow w.heap.size 3 1 u t.n (ints (smAll (cfAt t L) t.n)) ∧ Below w.heap.size w w' := by
  have hcp : True := trivial
  obtain ⟨A, ca, C, cb, D, cc, rfl, _, _, _⟩ := hv.form
  have hb0 : Below w.heap.size w (w.alloc (.cells #[.slice A t.n ca, .slice C t.m cb, .int .i64 t.c, .slice D t.p cc] 43)) := below_new (Below.refl _ _) _
  have k0 := Blk.new w 43 #[.slice A t.n ca, .slice C t.m cb, .int .i64 t.c, .slice D t.p cc]
  have Hv := Lib.hid (fun W (hb : Below w.heap.size w W) => hv.below' hb hB)
  have Hc := Lib.hid hcp
  have HB0 := Lib.hid hb0
  have K0 := Lib.hid k0
  obtain ⟨a0, a1, a2, a3⟩ := k0.c4
  clear hv hcp hb0 k0
  have hn1 := hok.n1
  have R := fun W (hb : Below w.heap.size w W) => conflictPairs_any _ B t L W (Hv.out W hb) (Nat.le_trans hB hb.size) hok hL0 hL
  have PA := fun j => pairs_at (p := cfAt t L) (n := t.n) (j := j)
  have hml := (pr_small (p := cfAt t L) hn1).1
  have si := fun j => smAll_in (p := cfAt t L) (n := t.n) hn1 (j := j)
  have HT := Lib.hid (show True from trivial)
  rw [show smAll (cfAt t L) t.n = smTo (prTo (cfAt t L) t.n t.n) t.n (prTo (cfAt t L) t.n t.n).length from rfl]
  obtain ⟨rs, ers⟩ : ∃ r, prTo (cfAt t L) t.n t.n = r := ⟨_, rfl⟩
  rw [ers] at R PA hml si ⊢
  replace PA := Lib.hid PA
  have HR := Lib.hid R
  have SI : Hid (∀ j : Nat, j ≤ rs.length → maskIn (smTo rs t.n j)) := Lib.hid (fun j h => si j h)
  clear R ers si
  have hsz0 : (w.alloc (.cells #[.slice A t.n ca, .slice C t.m cb, .int .i64 t.c, .slice D t.p cc] 43)).heap.size = w.heap.size + 1 := by simp
  go_enter Try.func63, Try.ntmps63
  obtain ⟨i0, hi, hz0, hz1, hz2⟩ := info_parts intInfo
  have hz2' : i0.bytes * t.n ≤ 281474976710656 := by rw [hz2]; omega
  go_wp2_with (at_make; refine wpList_make_full _ rfl (.tmp 10) (.tmp 10) 36 rfl (w.heap.size + 1) 3 i0 (.int .i64 0) 1 Try.underlying36 hi hz0 hz1 .i64 .i64 t.n t.n t.n rfl rfl rfl rfl hz2' (by unfold maxLen; omega) (by first | exact Nat.le_refl _ | simp) ?_; intro w3 hown1 hg1; obtain ⟨d0, d1, d2, d3⟩ := (K0.out.grown hg1 (by simp)).c4)
  rw [Nat.mul_one, madeInts] at hown1
  try rw [hsz0] at hown1
  have hk3 := K0.out.grown hg1 (by simp)
  have hb3 := HB0.out.grown hg1 HB0.out.size (by simp)
  have h3lt : (w.heap.size + 1) < w3.heap.size := (hown1.lt _ rfl).2
  obtain ⟨c0, ec0⟩ : ∃ c, (w.heap.size + 1) = c := ⟨_, rfl⟩
  have hc0 : w.heap.size ≤ c0 := by rw [← ec0]; first | exact HB0.out.size | omega
  rw [ec0] at hown1 h3lt ⊢
  have HO1 := Lib.hid hown1
  have HK3 := Lib.hid hk3
  have HB3 := Lib.hid hb3
  clear hi hz0 hz1 hz2 hz2' hg1 hown1 hk3 hb3 a0 a1 a2 a3 HB0 K0
  refine (HR.out _ HB3.out).mono ?_
  rintro e w4 ⟨u, gs, rfl, hrr, h4⟩
  obtain ⟨U, cu, rfl⟩ := hrr.form
  have HO4 := Lib.hid (own_below HO1.out h4 (Nat.le_refl _))
  have HR4 := Lib.hid hrr
  have HB4 := Lib.hid (below_on HB3.out h4)
  clear hrr h4 HO1 HK3 HB3 d0 d1 d2 d3 HR
  obtain ⟨m, em⟩ : ∃ m, rs.length = m := ⟨_, rfl⟩
  rw [em] at HR4 PA hml SI
  try rw [em] at HT
  try rw [em]
  have EM := Lib.hid em
  clear em
  go_wp2_with fail
  go_loopw [16] (fun s wr => ∃ j : Nat, j ≤ m ∧ s = .int .i64 j ∧ wr.ownsRow c0 3 1 (.slice (some ⟨c0, 0, none⟩) t.n t.n) t.n (ints (smTo rs t.n j)) ∧ Rows wr w3.heap.size (.slice U m cu) m gs rs ∧ Below w.heap.size w wr) (fun s _ => m - (intOf s).toNat)
  case atStart => exact ⟨0, Nat.zero_le _, rfl, HO4.out, HR4.out, HB4.out⟩
  case round =>
    clear HO4 HR4 HB4
    obtain ⟨j, hj, rfl, hown, hrr, hb⟩ := hrel
    by_cases hlt : j < m
    · obtain ⟨b, cp, g, r, e1, k0, hg, -, hrd, hkb, hlo⟩ := hrr.at hlt
      obtain ⟨p, q, hpq, hqn, hpr⟩ := PA.out j hlt
      have hqn2 : q < 12 := Nat.lt_of_lt_of_le hqn hn1
      simp only [Value.slice.injEq, true_and] at e1
      obtain ⟨rfl, rfl⟩ := e1
      rw [hpr] at hrd
      subst hrd
      have hs : smTo rs t.n (j + 1) = orb (orb (smTo rs t.n j) p q) q p := by rw [smTo, hpr]; rfl
      have hin := SI.out j hj
      have hl := smTo_length rs t.n j
      obtain ⟨l, el⟩ : ∃ l, smTo rs t.n j = l := ⟨_, rfl⟩
      rw [el] at hs hown hin hl
      have i0 : (0 : Int) ≤ (j : Int) := by omega
      have i1 : (j : Int) < (m : Int) := by omega
      have i2 : (0 : Int) ≤ (p : Int) := by omega
      have i3 : (p : Int) < (t.n : Int) := by omega
      have i4 : (0 : Int) ≤ (q : Int) := by omega
      have i5 : (q : Int) < (t.n : Int) := by omega
      have gne : g ≠ c0 := by omega
      have HS := Lib.hid hs
      unfold rowV at k0
      have g0 := hkb.cell 0
      have g1 := hkb.cell 1
      obtain ⟨M, eM⟩ : ∃ M : Nat, l.getD p 0 = (M : Int) := Int.eq_ofNat_of_zero_le (hin p).1
      have x0 : (wr).cell? ⟨c0, p, none⟩ = some (.int .i64 (M : Int)) := by rw [← eM]; exact (hown.cellAt p (by omega)).trans (ints_get _ _ (by omega))
      have f0 : (wr).frozen? ⟨c0, p, none⟩ = false := hown.frozenAt p
      have hM : M < 1048576 := by have := (hin p).2; omega
      have hk20 : q < 20 := by omega
      have sh1 := one_shl2 q (by omega)
      have or1 := bit_set2 M q hM hk20
      have hown2 := (hown.stored p (.int .i64 ((M ||| 2 ^ q : Nat) : Int))).1
      rw [ints_set, show l.set p ((M ||| 2 ^ q : Nat) : Int) = orb l p q by unfold orb; rw [eM]; rfl] at hown2
      have HO2 := Lib.hid hown2
      have HR2 := Lib.hid (hrr.kept (only_cell wr c0 p (.int .i64 ((M ||| 2 ^ q : Nat) : Int))) (fun k hk => by
        rcases hk with hk | hk
        · have := (hrr.own.lt k hk).1; omega
        · have := (hrr.mem hk).1; omega))
      have HB2 := Lib.hid (hb.setCell (p := ⟨c0, p, none⟩) hc0 (.int .i64 ((M ||| 2 ^ q : Nat) : Int)))
      have HK2 := Lib.hid (hkb.far (p := ⟨c0, p, none⟩) gne (.int .i64 ((M ||| 2 ^ q : Nat) : Int)))
      have HL2 := Lib.hid hkb
      simp [ints] at g0 g1
      clear hown2 hown hrr hb hkb eM
      clear hg hlo hpr hs el
      go_upto_region 5 with (fail)
      go_cut [5] (fun s wx => s = .slice (some ⟨c0, 0, none⟩) t.n t.n ∧ wx.ownsRow c0 3 1 (.slice (some ⟨c0, 0, none⟩) t.n t.n) t.n (ints (orb l p q)) ∧ Rows wx w3.heap.size (.slice (some ⟨b, 0, none⟩) m cu) m gs rs ∧ Blk wx g 3 (ints [(p : Int), (q : Int)]).toArray ∧ Below w.heap.size w wx)
      case first =>
        refine wp_region_still_tail 12 (by kernel_rfl) (by kernel_rfl) ?_
        simp only [List.take_succ_cons, List.take_zero, List.drop_succ_cons, List.drop_zero]
        repeat (first | still_step | fail)
        try refine wpStill_nil ?_
        go_wp2_with fail
        go_meet
        rw [sh1, or1]
        exact ⟨rfl, HO2.out, HR2.out.drew, HK2.out.drew, HB2.out.drew⟩
      case rest =>
        clear HO2 HR2 HK2 HB2 HL2
        obtain ⟨rfl, hown, hrr, hkb, hb⟩ := hcut
        have hin2 := orb_in (i := p) (k := q) hin (by omega)
        have hl2 : (orb l p q).length = t.n := by rw [orb_length]; exact hl
        clear hin hl
        have hin := hin2
        have hl := hl2
        clear hin2 hl2
        obtain ⟨l2, el2⟩ : ∃ l2, orb l p q = l2 := ⟨_, rfl⟩
        rw [el2] at hin hl hown HS
        have g0 := hkb.cell 0
        have g1 := hkb.cell 1
        obtain ⟨M, eM⟩ : ∃ M : Nat, l2.getD q 0 = (M : Int) := Int.eq_ofNat_of_zero_le (hin q).1
        have x0 : (wc).cell? ⟨c0, q, none⟩ = some (.int .i64 (M : Int)) := by rw [← eM]; exact (hown.cellAt q (by omega)).trans (ints_get _ _ (by omega))
        have f0 : (wc).frozen? ⟨c0, q, none⟩ = false := hown.frozenAt q
        have hM : M < 1048576 := by have := (hin q).2; omega
        have hk20 : p < 20 := by omega
        have sh1 := one_shl2 p (by omega)
        have or1 := bit_set2 M p hM hk20
        have hown2 := (hown.stored q (.int .i64 ((M ||| 2 ^ p : Nat) : Int))).1
        rw [ints_set, show l2.set q ((M ||| 2 ^ p : Nat) : Int) = orb l2 q p by unfold orb; rw [eM]; rfl] at hown2
        have HO2 := Lib.hid hown2
        have HR2 := Lib.hid (hrr.kept (only_cell wc c0 q (.int .i64 ((M ||| 2 ^ p : Nat) : Int))) (fun k hk => by
          rcases hk with hk | hk
          · have := (hrr.own.lt k hk).1; omega
          · have := (hrr.mem hk).1; omega))
        have HB2 := Lib.hid (hb.setCell (p := ⟨c0, q, none⟩) hc0 (.int .i64 ((M ||| 2 ^ p : Nat) : Int)))
        have HK2 := Lib.hid (hkb.far (p := ⟨c0, q, none⟩) gne (.int .i64 ((M ||| 2 ^ p : Nat) : Int)))
        have HL2 := Lib.hid hkb
        simp [ints] at g0 g1
        clear hown2 hown hrr hb hkb eM
        have HO3 := Lib.hid (show (wc.setCell ⟨c0, q, none⟩ (.int .i64 ((M ||| 2 ^ p : Nat) : Int))).ownsRow c0 3 1 (.slice (some ⟨c0, 0, none⟩) t.n t.n) t.n (ints (smTo rs t.n (j + 1))) by rw [HS.out]; exact HO2.out)
        clear hin hl HO2 HK2 HL2
        go_upto_region 6 with (fail)
        refine wp_region_still_tail 12 (by kernel_rfl) (by kernel_rfl) ?_
        simp only [List.take_succ_cons, List.take_zero, List.drop_succ_cons, List.drop_zero]
        repeat (first | still_step | fail)
        try refine wpStill_nil ?_
        go_wp2_with fail
        go_roundw
        case rel => exact ⟨j + 1, by omega, by go_num, HO3.out, HR2.out.drew, HB2.out.drew⟩
        case measure => simp [intOf]; omega
    · obtain rfl : j = m := by omega
      have HO := Lib.hid hown
      have HB := Lib.hid hb
      clear hown hrr hb
      have HOE := Lib.hid (show wr.ownsRow c0 3 1 (.slice (some ⟨c0, 0, none⟩) t.n t.n) t.n (ints (smTo rs t.n rs.length)) by rw [EM.out]; exact HO.out)
      go_wp2_with fail
      go_ret
      exact ⟨_, rfl, own_base HOE.out hc0, HB.out⟩
end Go.Proofs.Ytpikhkdgohapeaa
