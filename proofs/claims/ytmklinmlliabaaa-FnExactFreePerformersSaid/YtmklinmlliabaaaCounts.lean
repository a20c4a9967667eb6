/- Contracts of the two ConflictCounts. Conditions: the transition's slices can be read, and are short. -/
import Derived.Test.YtmklinmlliabaaaConf
namespace Go.Proofs.Ytmklinmlliabaaa
open Go.RowKit

theorem only_cell (w : World) (c i : Nat) (u : Value) : Only c (c + 1) w (w.setCell ⟨c, i, none⟩ u) :=
  ⟨rfl, rfl, rfl, by simp, fun k _ ho => Below.heap_setCell w _ u k (by show k ≠ c; omega)⟩
theorem pairs_at {p : Nat → Nat → Bool} {n j : Nat} (h : j < (prTo p n n).length) : ∃ i k : Nat, i < k ∧ k < n ∧ (prTo p n n).getD j [] = [(i : Int), (k : Int)] := by
  obtain ⟨i, k, _, h2, h3, _, h5⟩ := prTo_mem (List.getElem_mem h)
  refine ⟨i, k, h2, h3, ?_⟩
  rw [List.getD_eq_getElem?_getD, List.getElem?_eq_getElem h]
  exact h5
set_option maxRecDepth 100000 in
set_option maxHeartbeats 4000000 in
theorem cfCounts_any (v : Value) (B : Nat) (t : TrN) (L : Int) (w : World) (hv : RdT w B v t) (hB : B ≤ w.heap.size) (hok : TrOk t) (hL0 : 0 ≤ L) (hL : L ≤ 80) :
    Calls Try.prog 45 #[v, .int .i64 L] w fun e w' => ∃ u, e = .returned u ∧ w'.ownsRow w.heap.size 3 1 u t.n (ints (ccTo (prTo (cfAt t L) t.n t.n) t.n (prTo (cfAt t L) t.n t.n).length)) ∧ Below w.heap.size w w' := by
  have hcp : True := trivial
  obtain ⟨A, ca, C, cb, D, cc, rfl, _, _, _⟩ := hv.form
  have hb0 : Below w.heap.size w (w.alloc (.cells #[.slice A t.n ca, .slice C t.m cb, .int .i64 t.c, .slice D t.p cc] 32)) := below_new (Below.refl _ _) _
  have k0 := Blk.new w 32 #[.slice A t.n ca, .slice C t.m cb, .int .i64 t.c, .slice D t.p cc]
  have Hv := Lib.hid (fun W (hb : Below w.heap.size w W) => hv.below' hb hB)
  have Hc := Lib.hid hcp
  have HB0 := Lib.hid hb0
  have K0 := Lib.hid k0
  obtain ⟨a0, a1, a2, a3⟩ := k0.c4
  clear hv hcp hb0 k0
  have hn1 := hok.n1
  have R := fun W (hb : Below w.heap.size w W) => cfPairs_any _ B t L W (Hv.out W hb) (Nat.le_trans hB hb.size) hok hL0 hL
  have PA := fun j => pairs_at (p := cfAt t L) (n := t.n) (j := j)
  have hml := (pr_small (p := cfAt t L) hn1).1
  have HT := Lib.hid (show True from trivial)
  obtain ⟨rs, ers⟩ : ∃ r, prTo (cfAt t L) t.n t.n = r := ⟨_, rfl⟩
  rw [ers] at R PA hml ⊢
  replace PA := Lib.hid PA
  have HR := Lib.hid R
  clear R ers
  have hsz0 : (w.alloc (.cells #[.slice A t.n ca, .slice C t.m cb, .int .i64 t.c, .slice D t.p cc] 32)).heap.size = w.heap.size + 1 := by simp
  go_enter Try.func45, Try.ntmps45
  obtain ⟨i0, hi, hz0, hz1, hz2⟩ := info_parts intInfo
  have hz2' : i0.bytes * t.n ≤ 281474976710656 := by rw [hz2]; omega
  go_wp2_with (at_make; refine wpList_make_full _ rfl (.tmp 10) (.tmp 10) 23 rfl (w.heap.size + 1) 3 i0 (.int .i64 0) 1 Try.underlying23 hi hz0 hz1 .i64 .i64 t.n t.n t.n rfl rfl rfl rfl hz2' (by unfold maxLen; omega) (by first | exact Nat.le_refl _ | simp) ?_; intro w3 hown1 hg1; obtain ⟨d0, d1, d2, d3⟩ := (K0.out.grown hg1 (by simp)).c4)
  rw [Nat.mul_one, madeInts] at hown1
  try rw [hsz0] at hown1
  have hk3 := K0.out.grown hg1 (by simp)
  have hb3 := HB0.out.grown hg1 HB0.out.size (by simp)
  have h3lt : (w.heap.size + 1) < w3.heap.size := (hown1.lt _ rfl).2
  obtain ⟨c0, ec0⟩ : ∃ c, (w.heap.size + 1) = c := ⟨_, rfl⟩
  have hc0 : w.heap.size ≤ c0 := by rw [← ec0]; first | exact HB0.out.size | omega
  rw [ec0] at hown1 h3lt ⊢
  have HO1 := Lib.hid hown1
  have HK3 := Lib.hid hk3
  have HB3 := Lib.hid hb3
  clear hi hz0 hz1 hz2 hz2' hg1 hown1 hk3 hb3 a0 a1 a2 a3 HB0 K0
  refine (HR.out _ HB3.out).mono ?_
  rintro e w4 ⟨u, gs, rfl, hrr, h4⟩
  obtain ⟨U, cu, rfl⟩ := hrr.form
  have HO4 := Lib.hid (own_below HO1.out h4 (Nat.le_refl _))
  have HR4 := Lib.hid hrr
  have HB4 := Lib.hid (below_on HB3.out h4)
  clear hrr h4 HO1 HK3 HB3 d0 d1 d2 d3 HR
  obtain ⟨m, em⟩ : ∃ m, rs.length = m := ⟨_, rfl⟩
  rw [em] at HR4 PA hml
  try rw [em] at HT
  try rw [em]
  have EM := Lib.hid em
  clear em
  go_wp2_with fail
  go_loopw [16] (fun s wr => ∃ j : Nat, j ≤ m ∧ s = .int .i64 j ∧ wr.ownsRow c0 3 1 (.slice (some ⟨c0, 0, none⟩) t.n t.n) t.n (ints (ccTo rs t.n j)) ∧ Rows wr w3.heap.size (.slice U m cu) m gs rs ∧ Below w.heap.size w wr) (fun s _ => m - (intOf s).toNat)
  case atStart => exact ⟨0, Nat.zero_le _, rfl, HO4.out, HR4.out, HB4.out⟩
  case round =>
    clear HO4 HR4 HB4
    obtain ⟨j, hj, rfl, hown, hrr, hb⟩ := hrel
    by_cases hlt : j < m
    · obtain ⟨b, cp, g, r, e1, k0, hg, -, hrd, hkb, hlo⟩ := hrr.at hlt
      obtain ⟨p, q, hpq, hqn, hpr⟩ := PA.out j hlt
      simp only [Value.slice.injEq, true_and] at e1
      obtain ⟨rfl, rfl⟩ := e1
      rw [hpr] at hrd
      subst hrd
      have hs : ccTo rs t.n (j + 1) = bmp (bmp (ccTo rs t.n j) (p : Int)) (q : Int) := by rw [ccTo, hpr]; rfl
      have hin := ccTo_in rs t.n j
      have hl := ccTo_length rs t.n j
      obtain ⟨l, el⟩ : ∃ l, ccTo rs t.n j = l := ⟨_, rfl⟩
      rw [el] at hs hown hin hl
      have g0 := hkb.cell 0
      have g1 := hkb.cell 1
      have gne : g ≠ c0 := by omega
      have x0 : wr.cell? ⟨c0, p, none⟩ = some (.int .i64 (l.getD p 0)) := (hown.cellAt p (by omega)).trans (ints_get _ _ (by omega))
      have f0 : wr.frozen? ⟨c0, p, none⟩ = false := hown.frozenAt p
      have hx := hin p
      obtain ⟨x, ex⟩ : ∃ x, l.getD p 0 = x := ⟨_, rfl⟩
      rw [ex] at x0 hx
      have hown2 := (hown.stored p (.int .i64 (x + 1))).1
      rw [ints_set, show l.set p (x + 1) = bmp l (p : Int) by rw [← ex]; rfl] at hown2
      have hin2 := bmp_in (a := (p : Int)) hin
      have hl2 : (bmp l (p : Int)).length = t.n := by rw [bmp_length]; exact hl
      have hrr2 := hrr.kept (only_cell wr c0 p (.int .i64 (x + 1))) (fun k hk => by
        rcases hk with hk | hk
        · have := (hrr.own.lt k hk).1; omega
        · have := (hrr.mem hk).1; omega)
      have hb2 := hb.setCell (p := ⟨c0, p, none⟩) hc0 (.int .i64 (x + 1))
      have hkb2 := hkb.far (p := ⟨c0, p, none⟩) gne (.int .i64 (x + 1))
      obtain ⟨W, eW⟩ : ∃ W, wr.setCell ⟨c0, p, none⟩ (.int .i64 (x + 1)) = W := ⟨_, rfl⟩
      rw [eW] at hown2 hrr2 hb2 hkb2
      have g2 := hkb2.cell 0
      have g3 := hkb2.cell 1
      have y0 : W.cell? ⟨c0, q, none⟩ = some (.int .i64 ((bmp l (p : Int)).getD q 0)) := (hown2.cellAt q (by omega)).trans (ints_get _ _ (by omega))
      have f1 : W.frozen? ⟨c0, q, none⟩ = false := hown2.frozenAt q
      have hy := hin2 q
      obtain ⟨y, ey⟩ : ∃ y, (bmp l (p : Int)).getD q 0 = y := ⟨_, rfl⟩
      rw [ey] at y0 hy
      have hown3 := (hown2.stored q (.int .i64 (y + 1))).1
      rw [ints_set, show (bmp l (p : Int)).set q (y + 1) = bmp (bmp l (p : Int)) (q : Int) by rw [← ey]; rfl, ← hs] at hown3
      have HO := Lib.hid hown3
      have HR := Lib.hid (hrr2.kept (only_cell W c0 q (.int .i64 (y + 1))) (fun k hk => by
        rcases hk with hk | hk
        · have := (hrr2.own.lt k hk).1; omega
        · have := (hrr2.mem hk).1; omega))
      have HB := Lib.hid (hb2.setCell (p := ⟨c0, q, none⟩) hc0 (.int .i64 (y + 1)))
      simp [ints] at g0 g1 g2 g3
      unfold rowV at k0
      have i0 : (0 : Int) ≤ (j : Int) := by omega
      have i1 : (j : Int) < (m : Int) := by omega
      have i2 : (0 : Int) ≤ (p : Int) := by omega
      have i3 : (p : Int) < (t.n : Int) := by omega
      have i4 : (0 : Int) ≤ (q : Int) := by omega
      have i5 : (q : Int) < (t.n : Int) := by omega
      have v1 := IntWalk.i64_in (x + 1) (by omega)
      have v2 := IntWalk.i64_in (y + 1) (by omega)
      clear hg hrr hkb hlo hpr hs hin hl el hown hx ex hown2 hin2 hl2 hrr2 hb2 hkb2 hy ey hown3 hb gne
      go_wp2_with fail
      go_roundw
      case rel => exact ⟨j + 1, by omega, by go_num, HO.out, HR.out, HB.out⟩
      case measure => simp [intOf]; omega
    · obtain rfl : j = m := by omega
      have HO := Lib.hid hown
      have HB := Lib.hid hb
      clear hown hrr hb
      have HOE := Lib.hid (show wr.ownsRow c0 3 1 (.slice (some ⟨c0, 0, none⟩) t.n t.n) t.n (ints (ccTo rs t.n rs.length)) by rw [EM.out]; exact HO.out)
      go_wp2_with fail
      go_ret
      exact ⟨_, rfl, own_base HOE.out hc0, HB.out⟩
set_option maxRecDepth 100000 in
set_option maxHeartbeats 4000000 in
theorem ConflictCounts_any (v : Value) (B : Nat) (t : TrN) (L : Int) (w : World) (hcp : CapT v) (hv : RdT w B v t) (hB : B ≤ w.heap.size) (hs : t.small) :
    Calls Try.prog 20 #[v, .int .i64 L] w fun e w' => ∃ u, e = .returned (.tuple #[u, .bool (ccB t L)]) ∧ w'.ownsRow w.heap.size 3 1 u (ccN t L) (ints (ccL t L)) ∧ Below w.heap.size w w' := by
  obtain ⟨A, ca, C, cb, D, cc, rfl, _, _, _⟩ := hv.form
  have hb0 : Below w.heap.size w (w.alloc (.cells #[.slice A t.n ca, .slice C t.m cb, .int .i64 t.c, .slice D t.p cc] 32)) := below_new (Below.refl _ _) _
  have k0 := Blk.new w 32 #[.slice A t.n ca, .slice C t.m cb, .int .i64 t.c, .slice D t.p cc]
  have Hv := Lib.hid (fun W (hb : Below w.heap.size w W) => hv.below' hb hB)
  have Hc := Lib.hid hcp
  have HB0 := Lib.hid hb0
  have K0 := Lib.hid k0
  obtain ⟨a0, a1, a2, a3⟩ := k0.c4
  clear hv hcp hb0 k0
  have P := IsTransition_any _ B t _ Hc.out (Hv.out _ HB0.out) (Nat.le_trans hB HB0.out.size) hs
  have Q := fun W => isLeast_any L W
  have hT : cpB t L = (trB t && inB L 0 80) := rfl
  cases b1 : trB t with
  | false =>
    have HT := Lib.hid (cc_no (show cpB t L = false by rw [hT, b1]; rfl))
    rw [b1] at P
    have HP := Lib.hid P
    clear P Q hT b1
    go_enter Try.func20, Try.ntmps20
    go_wp2_with fail
    refine HP.out.mono ?_
    rintro e w2 ⟨rfl, h2⟩
    have HB1 := Lib.hid (below_on HB0.out h2)
    have K1 := Lib.hid (K0.out.on h2)
    clear h2 a0 a1 a2 a3 HB0 K0
    have HB0 := HB1
    have K0 := K1
    clear HB1 K1
    obtain ⟨a0, a1, a2, a3⟩ := K0.out.c4
    go_wp2_with fail
    go_ret2
    rw [HT.out.1, HT.out.2.1, HT.out.2.2]
    exact ⟨_, rfl, World.ownsRow_nil _ _ _ _, HB0.out⟩
  | true =>
    cases b2 : inB L 0 80 with
    | false =>
      have HT := Lib.hid (cc_no (show cpB t L = false by rw [hT, b1, b2]; rfl))
      rw [b1] at P
      rw [b2] at Q
      have HP := Lib.hid P
      have HQ := Lib.hid Q
      clear P Q hT b1 b2
      go_enter Try.func20, Try.ntmps20
      go_wp2_with fail
      refine HP.out.mono ?_
      rintro e w2 ⟨rfl, h2⟩
      have HB1 := Lib.hid (below_on HB0.out h2)
      have K1 := Lib.hid (K0.out.on h2)
      clear h2 a0 a1 a2 a3 HB0 K0
      have HB0 := HB1
      have K0 := K1
      clear HB1 K1
      obtain ⟨a0, a1, a2, a3⟩ := K0.out.c4
      go_wp2_with fail
      refine (HQ.out _).mono ?_
      rintro e w3 ⟨rfl, rfl⟩
      go_wp2_with fail
      go_ret2
      rw [HT.out.1, HT.out.2.1, HT.out.2.2]
      exact ⟨_, rfl, World.ownsRow_nil _ _ _ _, HB0.out⟩
    | true =>
      have hcb : cpB t L = true := by rw [hT, b1, b2]; rfl
      have hcc := cc_yes hcb
      have hcy := cp_yes hcb
      rw [hcy.2.1, hcy.2.2] at hcc
      have hok := tr_ok b1
      have hn1 := hok.n1
      have R := fun W (hb : Below w.heap.size w W) => conflictPairs_any _ B t L W (Hv.out W hb) (Nat.le_trans hB hb.size) hok (inB_yes b2).1 (inB_yes b2).2
      have PA := fun j => pairs_at (p := cfAt t L) (n := t.n) (j := j)
      have hml := (pr_small (p := cfAt t L) hn1).1
      rw [b1] at P
      rw [b2] at Q
      obtain ⟨rs, ers⟩ : ∃ r, prTo (cfAt t L) t.n t.n = r := ⟨_, rfl⟩
      rw [ers] at R PA hml hcc
      replace PA := Lib.hid PA
      have HT := Lib.hid hcc
      have HR := Lib.hid R
      have HP := Lib.hid P
      have HQ := Lib.hid Q
      clear P Q hT b1 b2 hcb hcc hcy R ers hok
      go_enter Try.func20, Try.ntmps20
      go_wp2_with fail
      refine HP.out.mono ?_
      rintro e w2 ⟨rfl, h2⟩
      have HB1 := Lib.hid (below_on HB0.out h2)
      have K1 := Lib.hid (K0.out.on h2)
      clear h2 a0 a1 a2 a3 HB0 K0
      have HB0 := HB1
      have K0 := K1
      clear HB1 K1
      obtain ⟨a0, a1, a2, a3⟩ := K0.out.c4
      go_wp2_with fail
      refine (HQ.out _).mono ?_
      rintro e w3 ⟨rfl, rfl⟩
      obtain ⟨i0, hi, hz0, hz1, hz2⟩ := info_parts intInfo
      have hz2' : i0.bytes * t.n ≤ 281474976710656 := by rw [hz2]; omega
      go_wp2_with (at_make; refine wpList_make_full _ rfl (.tmp 19) (.tmp 19) 23 rfl w2.heap.size 3 i0 (.int .i64 0) 1 Try.underlying23 hi hz0 hz1 .i64 .i64 t.n t.n t.n rfl rfl rfl rfl hz2' (by unfold maxLen; omega) (by first | exact Nat.le_refl _ | simp) ?_; intro w3 hown1 hg1; obtain ⟨d0, d1, d2, d3⟩ := (K0.out.grown hg1 (by simp)).c4)
      rw [Nat.mul_one, madeInts] at hown1
      try rw [hsz0] at hown1
      have hk3 := K0.out.grown hg1 (by simp)
      have hb3 := HB0.out.grown hg1 HB0.out.size (by simp)
      have h3lt : w2.heap.size < w3.heap.size := (hown1.lt _ rfl).2
      obtain ⟨c0, ec0⟩ : ∃ c, w2.heap.size = c := ⟨_, rfl⟩
      have hc0 : w.heap.size ≤ c0 := by rw [← ec0]; first | exact HB0.out.size | omega
      rw [ec0] at hown1 h3lt ⊢
      have HO1 := Lib.hid hown1
      have HK3 := Lib.hid hk3
      have HB3 := Lib.hid hb3
      clear hi hz0 hz1 hz2 hz2' hg1 hown1 hk3 hb3 a0 a1 a2 a3 HB0 K0
      refine (HR.out _ HB3.out).mono ?_
      rintro e w4 ⟨u, gs, rfl, hrr, h4⟩
      obtain ⟨U, cu, rfl⟩ := hrr.form
      have HO4 := Lib.hid (own_below HO1.out h4 (Nat.le_refl _))
      have HR4 := Lib.hid hrr
      have HB4 := Lib.hid (below_on HB3.out h4)
      clear hrr h4 HO1 HK3 HB3 d0 d1 d2 d3 HR
      obtain ⟨m, em⟩ : ∃ m, rs.length = m := ⟨_, rfl⟩
      rw [em] at HR4 PA hml
      try rw [em] at HT
      try rw [em]
      have EM := Lib.hid em
      clear em
      go_wp2_with fail
      go_loopw [25] (fun s wr => ∃ j : Nat, j ≤ m ∧ s = .int .i64 j ∧ wr.ownsRow c0 3 1 (.slice (some ⟨c0, 0, none⟩) t.n t.n) t.n (ints (ccTo rs t.n j)) ∧ Rows wr w3.heap.size (.slice U m cu) m gs rs ∧ Below w.heap.size w wr) (fun s _ => m - (intOf s).toNat)
      case atStart => exact ⟨0, Nat.zero_le _, rfl, HO4.out, HR4.out, HB4.out⟩
      case round =>
        clear HO4 HR4 HB4
        obtain ⟨j, hj, rfl, hown, hrr, hb⟩ := hrel
        by_cases hlt : j < m
        · obtain ⟨b, cp, g, r, e1, k0, hg, -, hrd, hkb, hlo⟩ := hrr.at hlt
          obtain ⟨p, q, hpq, hqn, hpr⟩ := PA.out j hlt
          simp only [Value.slice.injEq, true_and] at e1
          obtain ⟨rfl, rfl⟩ := e1
          rw [hpr] at hrd
          subst hrd
          have hs : ccTo rs t.n (j + 1) = bmp (bmp (ccTo rs t.n j) (p : Int)) (q : Int) := by rw [ccTo, hpr]; rfl
          have hin := ccTo_in rs t.n j
          have hl := ccTo_length rs t.n j
          obtain ⟨l, el⟩ : ∃ l, ccTo rs t.n j = l := ⟨_, rfl⟩
          rw [el] at hs hown hin hl
          have g0 := hkb.cell 0
          have g1 := hkb.cell 1
          have gne : g ≠ c0 := by omega
          have x0 : wr.cell? ⟨c0, p, none⟩ = some (.int .i64 (l.getD p 0)) := (hown.cellAt p (by omega)).trans (ints_get _ _ (by omega))
          have f0 : wr.frozen? ⟨c0, p, none⟩ = false := hown.frozenAt p
          have hx := hin p
          obtain ⟨x, ex⟩ : ∃ x, l.getD p 0 = x := ⟨_, rfl⟩
          rw [ex] at x0 hx
          have hown2 := (hown.stored p (.int .i64 (x + 1))).1
          rw [ints_set, show l.set p (x + 1) = bmp l (p : Int) by rw [← ex]; rfl] at hown2
          have hin2 := bmp_in (a := (p : Int)) hin
          have hl2 : (bmp l (p : Int)).length = t.n := by rw [bmp_length]; exact hl
          have hrr2 := hrr.kept (only_cell wr c0 p (.int .i64 (x + 1))) (fun k hk => by
            rcases hk with hk | hk
            · have := (hrr.own.lt k hk).1; omega
            · have := (hrr.mem hk).1; omega)
          have hb2 := hb.setCell (p := ⟨c0, p, none⟩) hc0 (.int .i64 (x + 1))
          have hkb2 := hkb.far (p := ⟨c0, p, none⟩) gne (.int .i64 (x + 1))
          obtain ⟨W, eW⟩ : ∃ W, wr.setCell ⟨c0, p, none⟩ (.int .i64 (x + 1)) = W := ⟨_, rfl⟩
          rw [eW] at hown2 hrr2 hb2 hkb2
          have g2 := hkb2.cell 0
          have g3 := hkb2.cell 1
          have y0 : W.cell? ⟨c0, q, none⟩ = some (.int .i64 ((bmp l (p : Int)).getD q 0)) := (hown2.cellAt q (by omega)).trans (ints_get _ _ (by omega))
          have f1 : W.frozen? ⟨c0, q, none⟩ = false := hown2.frozenAt q
          have hy := hin2 q
          obtain ⟨y, ey⟩ : ∃ y, (bmp l (p : Int)).getD q 0 = y := ⟨_, rfl⟩
          rw [ey] at y0 hy
          have hown3 := (hown2.stored q (.int .i64 (y + 1))).1
          rw [ints_set, show (bmp l (p : Int)).set q (y + 1) = bmp (bmp l (p : Int)) (q : Int) by rw [← ey]; rfl, ← hs] at hown3
          have HO := Lib.hid hown3
          have HR := Lib.hid (hrr2.kept (only_cell W c0 q (.int .i64 (y + 1))) (fun k hk => by
            rcases hk with hk | hk
            · have := (hrr2.own.lt k hk).1; omega
            · have := (hrr2.mem hk).1; omega))
          have HB := Lib.hid (hb2.setCell (p := ⟨c0, q, none⟩) hc0 (.int .i64 (y + 1)))
          simp [ints] at g0 g1 g2 g3
          unfold rowV at k0
          have i0 : (0 : Int) ≤ (j : Int) := by omega
          have i1 : (j : Int) < (m : Int) := by omega
          have i2 : (0 : Int) ≤ (p : Int) := by omega
          have i3 : (p : Int) < (t.n : Int) := by omega
          have i4 : (0 : Int) ≤ (q : Int) := by omega
          have i5 : (q : Int) < (t.n : Int) := by omega
          have v1 := IntWalk.i64_in (x + 1) (by omega)
          have v2 := IntWalk.i64_in (y + 1) (by omega)
          clear hg hrr hkb hlo hpr hs hin hl el hown hx ex hown2 hin2 hl2 hrr2 hb2 hkb2 hy ey hown3 hb gne
          go_wp2_with fail
          go_roundw
          case rel => exact ⟨j + 1, by omega, by go_num, HO.out, HR.out, HB.out⟩
          case measure => simp [intOf]; omega
        · obtain rfl : j = m := by omega
          have HO := Lib.hid hown
          have HB := Lib.hid hb
          clear hown hrr hb
          go_wp2_with fail
          go_ret2
          rw [HT.out.1, HT.out.2.1, HT.out.2.2]
          exact ⟨_, rfl, own_base HO.out hc0, HB.out⟩
set_option maxHeartbeats 1000000 in
theorem specConflictCounts_any (v : Value) (B : Nat) (t : TrN) (L : Int) (w : World) (hcp : CapT v) (hv : RdT w B v t) (hB : B ≤ w.heap.size) (hs : t.small) :
    Calls Try.prog 19 #[v, .int .i64 L] w fun e w' => ∃ u, e = .returned (.tuple #[u, .bool (ccB t L)]) ∧ w'.ownsRow w.heap.size 3 1 u (ccN t L) (ints (ccL t L)) ∧ Below w.heap.size w w' := by
  obtain ⟨A, ca, C, cb, D, cc, rfl, _, _, _⟩ := hv.form
  have hb0 : Below w.heap.size w (w.alloc (.cells #[.slice A t.n ca, .slice C t.m cb, .int .i64 t.c, .slice D t.p cc] 32)) := below_new (Below.refl _ _) _
  have k0 := Blk.new w 32 #[.slice A t.n ca, .slice C t.m cb, .int .i64 t.c, .slice D t.p cc]
  have Hv := Lib.hid (fun W (hb : Below w.heap.size w W) => hv.below' hb hB)
  have Hc := Lib.hid hcp
  have HB0 := Lib.hid hb0
  have K0 := Lib.hid k0
  obtain ⟨a0, a1, a2, a3⟩ := k0.c4
  clear hv hcp hb0 k0
  have P := cfAsked_any _ B t L _ Hc.out (Hv.out _ HB0.out) (Nat.le_trans hB HB0.out.size) hs
  cases b1 : cpB t L with
  | false =>
    have HT := Lib.hid (cc_no b1)
    rw [b1] at P
    have HP := Lib.hid P
    clear P b1
    go_enter Try.func19, Try.ntmps19
    go_wp2_with fail
    refine HP.out.mono ?_
    rintro e w2 ⟨rfl, h2⟩
    have HB1 := Lib.hid (below_on HB0.out h2)
    have K1 := Lib.hid (K0.out.on h2)
    clear h2 a0 a1 a2 a3 HB0 K0
    have HB0 := HB1
    have K0 := K1
    clear HB1 K1
    obtain ⟨a0, a1, a2, a3⟩ := K0.out.c4
    go_wp2_with fail
    go_ret2
    rw [HT.out.1, HT.out.2.1, HT.out.2.2]
    exact ⟨_, rfl, World.ownsRow_nil _ _ _ _, HB0.out⟩
  | true =>
    have hcc := cc_yes b1
    have hcy := cp_yes b1
    rw [hcy.2.1, hcy.2.2] at hcc
    have hci := cp_in b1
    have HR := Lib.hid (fun W (hb : Below w.heap.size w W) => cfCounts_any _ B t L W (Hv.out W hb) (Nat.le_trans hB hb.size) (tr_ok hci.1) hci.2.1 hci.2.2)
    rw [b1] at P
    have HT := Lib.hid hcc
    have HP := Lib.hid P
    clear P b1 hcc hcy hci
    go_enter Try.func19, Try.ntmps19
    go_wp2_with fail
    refine HP.out.mono ?_
    rintro e w2 ⟨rfl, h2⟩
    have HB1 := Lib.hid (below_on HB0.out h2)
    have K1 := Lib.hid (K0.out.on h2)
    clear h2 a0 a1 a2 a3 HB0 K0
    have HB0 := HB1
    have K0 := K1
    clear HB1 K1
    obtain ⟨a0, a1, a2, a3⟩ := K0.out.c4
    go_wp2_with fail
    refine (HR.out _ HB0.out).mono ?_
    rintro e w3 ⟨u, rfl, ho, h3⟩
    have HO := Lib.hid (own_base ho HB0.out.size)
    have HB := Lib.hid (HB0.out.trans (h3.mono HB0.out.size))
    clear ho h3
    go_wp2_with fail
    go_ret2
    rw [HT.out.1, HT.out.2.1, HT.out.2.2]
    exact ⟨_, rfl, HO.out, HB.out⟩
end Go.Proofs.Ytmklinmlliabaaa
