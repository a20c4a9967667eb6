/- For all drawn transitions both sides find the same swaps, moves, sums and steps, and what they say of them holds: the walk. Without conditions. -/
import Derived.Test.YtjcepipgjpaclaaPFnSwaps37
import Derived.Test.YtjcepipgjpaclaaPFnSwaps29
import Derived.Test.YtjcepipgjpaclaaPFnSwaps09
import Derived.Test.YtjcepipgjpaclaaPFnSwaps10
namespace Go.Proofs.Ytjcepipgjpaclaa
open Go.RowKit

theorem mo_own {W : World} {lm : Nat} {v : Value} {t : TrN} (h : trB t = true) (ho : W.ownsRow lm 47 5 v (moN t) (ints (moL t))) : W.ownsRow lm 47 5 v t.n (ints (mvTo t t.n)) := by
  obtain ⟨h1, h2⟩ := mo_yes h
  rwa [h1, h2] at ho
set_option maxRecDepth 100000 in
set_option maxHeartbeats 4000000 in
theorem swap_walk (w : World) (A0 : Option Addr) (n0 c0 : Nat) (hr0 : RdB w w.heap.size A0 n0) (hm0 : n0 ≤ maxLen) (A1 : Option Addr) (n1 c1 : Nat) (hr1 : RdB w w.heap.size A1 n1) (hm1 : n1 ≤ maxLen) :
    Calls Try.prog 6 #[.slice A0 n0 c0, .slice A1 n1 c1] w fun e w' => e = .returned (.bool true) ∧ Below w.heap.size w w' := by
  unfold maxLen at hm0 hm1
  have H0 := Lib.hid hr0
  have H1 := Lib.hid hr1
  have B0 := Lib.hid (Below.refl w.heap.size w)
  clear hr0 hr1
  go_enter Try.func6, Try.ntmps6
  go_wp2_with fail
  refine (big_any A0 n0 c0 A1 n1 c1 _).mono ?_
  rintro e w' ⟨bg, rfl, rfl⟩
  cases bg with
  | true =>
    go_wp2_with fail
    go_ret
    exact ⟨rfl, B0.out⟩
  | false =>
    go_wp2_with fail
    refine (DrawBestSwap_any A0 n0 c0 _ H0.out hm0).mono ?_
    rintro e w1 ⟨r, t, rfl, oa, hsz, hb⟩
    replace B0 := Lib.hid (below_on B0.out hb)
    clear hb
    have ST := Lib.hid (show t.small from ⟨by omega, by omega, by omega⟩)
    have HLE := Lib.hid oa.len
    clear hsz
    obtain ⟨At, cat, Ct, cbt, Dt, cct, rfl, -, -, -⟩ := oa.form
    have Ot := Lib.hid oa
    clear oa
    have Kt := Lib.hid (Blk.new w1 27 #[.slice At t.n cat, .slice Ct t.m cbt, .int .i64 t.c, .slice Dt t.p cct])
    replace B0 := Lib.hid (below_new B0.out (.cells #[.slice At t.n cat, .slice Ct t.m cbt, .int .i64 t.c, .slice Dt t.p cct] 27))
    replace Ot := Lib.hid (Ot.out.keep (below_new (Below.refl _ _) (.cells #[.slice At t.n cat, .slice Ct t.m cbt, .int .i64 t.c, .slice Dt t.p cct] 27)))
    obtain ⟨gt, egt⟩ : ∃ q, w1.heap.size = q := ⟨_, rfl⟩
    have EGT := Lib.hid egt
    clear egt
    obtain ⟨tb, gtb⟩ : ∃ q, trB t = q := ⟨_, rfl⟩
    obtain ⟨ob, gob⟩ : ∃ q9, bsB t = q9 := ⟨_, rfl⟩
    have P := fun (W : World) (lo : Nat) (h : OwnA W lo (.agg #[.slice At t.n cat, .slice Ct t.m cbt, .int .i64 t.c, .slice Dt t.p cct]) t) => BestSwap_any (.agg #[.slice At t.n cat, .slice Ct t.m cbt, .int .i64 t.c, .slice Dt t.p cct]) lo t W h ST.out
    rw [gob] at P
    replace P := Lib.hid P
    obtain ⟨k0, k1, k2, k3⟩ := Kt.out.c4
    go_wp2_with fail
    refine (P.out _ _ Ot.out).mono ?_
    rintro e w2 ⟨rfl, hb⟩
    replace B0 := Lib.hid (below_on B0.out hb)
    replace Ot := Lib.hid (Ot.out.keep hb)
    replace Kt := Lib.hid (Kt.out.on hb)
    clear hb
    clear k0 k1 k2 k3
    clear P
    have P := fun (W : World) (lo : Nat) (h : OwnA W lo (.agg #[.slice At t.n cat, .slice Ct t.m cbt, .int .i64 t.c, .slice Dt t.p cct]) t) => specBestSwap_any (.agg #[.slice At t.n cat, .slice Ct t.m cbt, .int .i64 t.c, .slice Dt t.p cct]) lo t W h ST.out
    rw [gob] at P
    replace P := Lib.hid P
    obtain ⟨k0, k1, k2, k3⟩ := Kt.out.c4
    go_wp2_with fail
    refine (P.out _ _ Ot.out).mono ?_
    rintro e w3 ⟨rfl, hb⟩
    replace B0 := Lib.hid (below_on B0.out hb)
    replace Ot := Lib.hid (Ot.out.keep hb)
    replace Kt := Lib.hid (Kt.out.on hb)
    clear hb
    clear k0 k1 k2 k3
    clear P
    have P := fun (W : World) (lo : Nat) (h : OwnA W lo (.agg #[.slice At t.n cat, .slice Ct t.m cbt, .int .i64 t.c, .slice Dt t.p cct]) t) => TransitionMoves_all (.agg #[.slice At t.n cat, .slice Ct t.m cbt, .int .i64 t.c, .slice Dt t.p cct]) W.heap.size t W h.cap h.rd (Nat.le_refl _) ST.out
    rw [gtb] at P
    replace P := Lib.hid P
    obtain ⟨k0, k1, k2, k3⟩ := Kt.out.c4
    go_wp2_with fail
    refine (P.out _ _ Ot.out).mono ?_
    rintro e w4 ⟨vm1, rfl, ho, hb⟩
    replace B0 := Lib.hid (below_on B0.out hb)
    replace Ot := Lib.hid (Ot.out.keep hb)
    replace Kt := Lib.hid (Kt.out.on hb)
    clear hb
    obtain ⟨Sm1, sm1, rfl⟩ := (Rd.of_own ho).form
    have Wm1 := Lib.hid ho
    clear ho
    clear k0 k1 k2 k3
    clear P
    have P := fun (W : World) (lo : Nat) (h : OwnA W lo (.agg #[.slice At t.n cat, .slice Ct t.m cbt, .int .i64 t.c, .slice Dt t.p cct]) t) => specTransitionMoves_all (.agg #[.slice At t.n cat, .slice Ct t.m cbt, .int .i64 t.c, .slice Dt t.p cct]) W.heap.size t W h.cap h.rd (Nat.le_refl _) ST.out
    rw [gtb] at P
    replace P := Lib.hid P
    obtain ⟨k0, k1, k2, k3⟩ := Kt.out.c4
    go_wp2_with fail
    refine (P.out _ _ Ot.out).mono ?_
    rintro e w5 ⟨vm2, rfl, ho, hb⟩
    replace B0 := Lib.hid (below_on B0.out hb)
    replace Ot := Lib.hid (Ot.out.keep hb)
    replace Kt := Lib.hid (Kt.out.on hb)
    replace Wm1 := Lib.hid (own_below Wm1.out hb (Nat.le_refl _))
    clear hb
    obtain ⟨Sm2, sm2, rfl⟩ := (Rd.of_own ho).form
    have Wm2 := Lib.hid ho
    clear ho
    clear k0 k1 k2 k3
    clear P
    have P := fun (W : World) (lo : Nat) (h : OwnA W lo (.agg #[.slice At t.n cat, .slice Ct t.m cbt, .int .i64 t.c, .slice Dt t.p cct]) t) => FarthestMove_any (.agg #[.slice At t.n cat, .slice Ct t.m cbt, .int .i64 t.c, .slice Dt t.p cct]) W.heap.size t W h.cap h.rd (Nat.le_refl _) ST.out
    rw [gtb] at P
    replace P := Lib.hid P
    obtain ⟨k0, k1, k2, k3⟩ := Kt.out.c4
    go_wp2_with fail
    refine (P.out _ _ Ot.out).mono ?_
    rintro e w6 ⟨rfl, hb⟩
    replace B0 := Lib.hid (below_on B0.out hb)
    replace Ot := Lib.hid (Ot.out.keep hb)
    replace Kt := Lib.hid (Kt.out.on hb)
    replace Wm1 := Lib.hid (own_below Wm1.out hb (Nat.le_refl _))
    replace Wm2 := Lib.hid (own_below Wm2.out hb (Nat.le_refl _))
    clear hb
    clear k0 k1 k2 k3
    clear P
    have P := fun (W : World) (lo : Nat) (h : OwnA W lo (.agg #[.slice At t.n cat, .slice Ct t.m cbt, .int .i64 t.c, .slice Dt t.p cct]) t) => specFarthestMove_any (.agg #[.slice At t.n cat, .slice Ct t.m cbt, .int .i64 t.c, .slice Dt t.p cct]) W.heap.size t W h.cap h.rd (Nat.le_refl _) ST.out
    rw [gtb] at P
    replace P := Lib.hid P
    obtain ⟨k0, k1, k2, k3⟩ := Kt.out.c4
    go_wp2_with fail
    refine (P.out _ _ Ot.out).mono ?_
    rintro e w7 ⟨rfl, hb⟩
    replace B0 := Lib.hid (below_on B0.out hb)
    replace Ot := Lib.hid (Ot.out.keep hb)
    replace Kt := Lib.hid (Kt.out.on hb)
    replace Wm1 := Lib.hid (own_below Wm1.out hb (Nat.le_refl _))
    replace Wm2 := Lib.hid (own_below Wm2.out hb (Nat.le_refl _))
    clear hb
    clear k0 k1 k2 k3
    clear P
    have P := fun (W : World) (lo : Nat) (h : OwnA W lo (.agg #[.slice At t.n cat, .slice Ct t.m cbt, .int .i64 t.c, .slice Dt t.p cct]) t) => SquareSum_any (.agg #[.slice At t.n cat, .slice Ct t.m cbt, .int .i64 t.c, .slice Dt t.p cct]) W.heap.size t W h.cap h.rd (Nat.le_refl _) ST.out
    rw [gtb] at P
    replace P := Lib.hid P
    obtain ⟨k0, k1, k2, k3⟩ := Kt.out.c4
    go_wp2_with fail
    refine (P.out _ _ Ot.out).mono ?_
    rintro e w8 ⟨rfl, hb⟩
    replace B0 := Lib.hid (below_on B0.out hb)
    replace Ot := Lib.hid (Ot.out.keep hb)
    replace Kt := Lib.hid (Kt.out.on hb)
    replace Wm1 := Lib.hid (own_below Wm1.out hb (Nat.le_refl _))
    replace Wm2 := Lib.hid (own_below Wm2.out hb (Nat.le_refl _))
    clear hb
    clear k0 k1 k2 k3
    clear P
    have P := fun (W : World) (lo : Nat) (h : OwnA W lo (.agg #[.slice At t.n cat, .slice Ct t.m cbt, .int .i64 t.c, .slice Dt t.p cct]) t) => specSquareSum_any (.agg #[.slice At t.n cat, .slice Ct t.m cbt, .int .i64 t.c, .slice Dt t.p cct]) W.heap.size t W h.cap h.rd (Nat.le_refl _) ST.out
    rw [gtb] at P
    replace P := Lib.hid P
    obtain ⟨k0, k1, k2, k3⟩ := Kt.out.c4
    go_wp2_with fail
    refine (P.out _ _ Ot.out).mono ?_
    rintro e w9 ⟨rfl, hb⟩
    replace B0 := Lib.hid (below_on B0.out hb)
    replace Ot := Lib.hid (Ot.out.keep hb)
    replace Kt := Lib.hid (Kt.out.on hb)
    replace Wm1 := Lib.hid (own_below Wm1.out hb (Nat.le_refl _))
    replace Wm2 := Lib.hid (own_below Wm2.out hb (Nat.le_refl _))
    clear hb
    clear k0 k1 k2 k3
    clear P
    have no : (ob != ob) = false := by simp
    have nt : (tb != tb) = false := by simp
    have n3 : (((bsV t).1 : Int) != ((bsV t).1 : Int)) = false := by simp
    have n4 : (((bsV t).2.1 : Int) != ((bsV t).2.1 : Int)) = false := by simp
    have n5 : ((bsV t).2.2 != (bsV t).2.2) = false := by simp
    have n6 : (faV t != faV t) = false := by simp
    have n7 : (suV t != suV t) = false := by simp
    have hcases : ob = false ∨ (ob = true ∧ tb = true) := by
      cases ob with
      | false => exact .inl rfl
      | true => exact .inr ⟨rfl, by rw [← gtb]; exact (bs_good HLE.out gob).1⟩
    have GTB := Lib.hid gtb
    have GOB := Lib.hid gob
    clear gtb gob
    rcases hcases with rfl | ⟨rfl, rfl⟩
    · cases tb with
      | false =>
        go_wp2_with fail
        refine (pSameMoves_same _ _ (moN t) _ (moL t) _ (Rd.of_own Wm1.out) (Rd.of_own Wm2.out) (Nat.le_refl _) (by have := mo_le ST.out; omega)).mono ?_
        rintro e w10 ⟨rfl, hb⟩
        replace B0 := Lib.hid (below_on B0.out hb)
        replace Ot := Lib.hid (Ot.out.keep hb)
        replace Kt := Lib.hid (Kt.out.on hb)
        replace Wm1 := Lib.hid (own_below Wm1.out hb (Nat.le_refl _))
        replace Wm2 := Lib.hid (own_below Wm2.out hb (Nat.le_refl _))
        clear hb
        have HC := Lib.hid (fun f => sw_d w w10 B0.out gt w.heap.size At Ct Dt cat cbt cct t false _ _ A1 n1 c1 (H1.out.kept B0.out) hm1 ⟨by rw [← EGT.out]; exact Kt.out, Ot.out, ST.out⟩ (fun h => mo_own (GTB.out.trans h) Wm2.out) GTB.out false GOB.out f)
        rw [EGT.out]
        go_upto_if 169 with (fail)
        go_step
        go_step
        go_step
        go_step
        exact wp_of_fn (by kernel_rfl) HC.out
      | true =>
        go_wp2_with fail
        refine (pSameMoves_same _ _ (moN t) _ (moL t) _ (Rd.of_own Wm1.out) (Rd.of_own Wm2.out) (Nat.le_refl _) (by have := mo_le ST.out; omega)).mono ?_
        rintro e w10 ⟨rfl, hb⟩
        replace B0 := Lib.hid (below_on B0.out hb)
        replace Ot := Lib.hid (Ot.out.keep hb)
        replace Kt := Lib.hid (Kt.out.on hb)
        replace Wm1 := Lib.hid (own_below Wm1.out hb (Nat.le_refl _))
        replace Wm2 := Lib.hid (own_below Wm2.out hb (Nat.le_refl _))
        clear hb
        have HC := Lib.hid (fun f => sw_d w w10 B0.out gt w.heap.size At Ct Dt cat cbt cct t true _ _ A1 n1 c1 (H1.out.kept B0.out) hm1 ⟨by rw [← EGT.out]; exact Kt.out, Ot.out, ST.out⟩ (fun h => mo_own (GTB.out.trans h) Wm2.out) GTB.out false GOB.out f)
        rw [EGT.out]
        go_upto_if 169 with (fail)
        go_step
        go_step
        go_step
        go_step
        exact wp_of_fn (by kernel_rfl) HC.out
    · go_wp2_with fail
      refine (pSameMoves_same _ _ (moN t) _ (moL t) _ (Rd.of_own Wm1.out) (Rd.of_own Wm2.out) (Nat.le_refl _) (by have := mo_le ST.out; omega)).mono ?_
      rintro e w10 ⟨rfl, hb⟩
      replace B0 := Lib.hid (below_on B0.out hb)
      replace Ot := Lib.hid (Ot.out.keep hb)
      replace Kt := Lib.hid (Kt.out.on hb)
      replace Wm1 := Lib.hid (own_below Wm1.out hb (Nat.le_refl _))
      replace Wm2 := Lib.hid (own_below Wm2.out hb (Nat.le_refl _))
      clear hb
      have HC := Lib.hid (fun f => sw_d w w10 B0.out gt w.heap.size At Ct Dt cat cbt cct t true _ _ A1 n1 c1 (H1.out.kept B0.out) hm1 ⟨by rw [← EGT.out]; exact Kt.out, Ot.out, ST.out⟩ (fun h => mo_own (GTB.out.trans h) Wm2.out) GTB.out true GOB.out f)
      rw [EGT.out]
      go_upto_if 169 with (fail)
      go_step
      go_step
      go_step
      go_step
      exact wp_of_fn (by kernel_rfl) HC.out
end Go.Proofs.Ytjcepipgjpaclaa
