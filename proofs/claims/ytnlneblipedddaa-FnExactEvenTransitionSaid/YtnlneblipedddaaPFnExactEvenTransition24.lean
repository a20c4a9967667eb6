/- Contracts of a transition in new memory in the program, and of the swap of two places on both sides. Conditions: the transition is good, and its slices can be read. The contract of putting a number into a sorted list. Conditions: the list is owned, sorted, each number once, at most 1000 numbers. A contract of the reference's LeastGreatest. Conditions: at most twelve rows of as many costs, each between 0 and 2100000, in memory that can be read. The contract of a transition in new memory in the program: its slices lie in memory of their own. Conditions: slices that can be read, none of them empty. -/
import Derived.Test.YtnlneblipedddaaPFnExactEvenTransition18
import Derived.Test.YtnlneblipedddaaPFnExactEvenTransition23
import Derived.Test.YtnlneblipedddaaPFnExactEvenTransition21
import Derived.Test.YtnlneblipedddaaPFnExactEvenTransition04
import Derived.Test.YtnlneblipedddaaPFnExactEvenTransition09
import Derived.Test.YtnlneblipedddaaPFnExactEvenTransition03
import Derived.Test.YtnlneblipedddaaPFnExactEvenTransition12
namespace Go.Proofs.Ytnlneblipedddaa
open Go.RowKit

theorem part_of_rd {w W : World} {B sz n : Nat} {v : Value} {xs : List Int} (h : Rd w B sz v n xs) (hn : 0 < n) (hb : Below B w W) : Part W sz v n xs := by
  obtain ⟨hl, A, c, rfl, h⟩ := h
  obtain ⟨b, off, rfl, hbB, hc⟩ := h hn
  refine ⟨hl, .inr ⟨_, _, rfl, fun j hj => ?_⟩⟩
  rw [addAt]
  exact (hb.cell (p := ⟨b, off + j, none⟩) hbB).trans (hc j hj)
set_option maxHeartbeats 1000000 in
theorem copyInts_rd (v : Value) (B n : Nat) (xs : List Int) (w : World) (hv : Rd w B 1 v n xs) (hB : B ≤ w.heap.size) (hn0 : 0 < n) (hn : n ≤ 1000) :
    Calls Try.prog 65 #[v] w fun e w' => ∃ u, e = .returned u ∧ w'.ownsRow w.heap.size 3 1 u n (ints xs) ∧ Below w.heap.size w w' := by
  have HE := Lib.hid (show (w.alloc (.cells #[] 3)).ownsRow w.heap.size 3 1 (.slice (some ⟨w.heap.size, 0, none⟩) 0 0) 0 (ints []) from own_empty w 3 1)
  have HB := Lib.hid (below_new (Below.refl w.heap.size w) (.cells #[] 3))
  have HP := Lib.hid (part_of_rd hv hn0 (HB.out.mono hB))
  obtain ⟨A, c, rfl⟩ := hv.form
  clear hv
  go_enter Try.func65, Try.ntmps65
  go_wp2_with (at_builtin; refine wpList_plain rfl (fun _ hk => wp_intpart _ _ rfl w.heap.size _ 0 [] rfl HE.out _ n xs rfl HP.out (by omega) HB.out.size (fun v9 w9 hr9 hg9 => hk _ _ ?_)))
  have HB9 := Lib.hid (HB.out.grown hg9 HB.out.size (fun k hk => (HE.out.lt k hk).1))
  have HO9 := Lib.hid (own_cast hr9 (Nat.zero_add n) (List.nil_append xs).symm)
  clear hr9 hg9
  go_wp2_with fail
  go_ret
  exact ⟨_, rfl, HO9.out, HB9.out⟩
set_option maxRecDepth 100000 in
set_option maxHeartbeats 4000000 in
theorem newTransition_rd (v u q : Value) (B n m p : Nat) (xs ys ps : List Int) (c : Int) (w : World) (hv : Rd w B 2 v n xs) (hu : Rd w B 2 u m ys) (hq : Rd w B 1 q p ps) (hB : B ≤ w.heap.size) (hn : n ≤ 1000) (hm : m ≤ 1000) (hp : p ≤ 1000) (n0 : 0 < n) (m0 : 0 < m) (p0 : 0 < p) :
    Calls Try.prog 34 #[v, u, .int .i64 c, q] w fun e w' => ∃ r, e = .returned r ∧ OwnA w' w.heap.size r ⟨n, xs, m, ys, c, p, ps⟩ ∧ Below w.heap.size w w' := by
  have hsz : (w.alloc (.cells #[.slice none 0 0, .slice none 0 0, .int .i64 0, .slice none 0 0] 29)).heap.size = w.heap.size + 1 := by simp
  have K0 := Lib.hid ((Blk.new w 29 #[.slice none 0 0, .slice none 0 0, .int .i64 0, .slice none 0 0]).alloc (.cells #[] 75))
  have HB0 := Lib.hid (below_new (below_new (Below.refl w.heap.size w) (.cells #[.slice none 0 0, .slice none 0 0, .int .i64 0, .slice none 0 0] 29)) (.cells #[] 75))
  have he := own_empty (w.alloc (.cells #[.slice none 0 0, .slice none 0 0, .int .i64 0, .slice none 0 0] 29)) 75 2
  rw [hsz] at he
  have HE := Lib.hid (own_base (base' := w.heap.size) he (by omega))
  have PV := Lib.hid (fun (W : World) (hb : Below w.heap.size w W) => part_of_rd hv n0 (hb.mono hB))
  have PU := Lib.hid (fun (W : World) (hb : Below w.heap.size w W) => part_of_rd hu m0 (hb.mono hB))
  have PQ := Lib.hid (fun (W : World) (hb : Below w.heap.size w W) => hq.below' hb hB)
  obtain ⟨A, ca, rfl⟩ := hv.form
  obtain ⟨C, cb, rfl⟩ := hu.form
  obtain ⟨D, cc, rfl⟩ := hq.form
  clear hv hu hq he hsz
  go_enter Try.func34, Try.ntmps34
  go_wp2_with (first
    | (at_builtin
       refine app_part rfl _ _ rfl w.heap.size _ 0 [] rfl HE.out _ n xs rfl (PV.out _ HB0.out) (by omega) HB0.out.size ?_
       intro v1 w1 hr1 hg1
       have hne1 := own_blk_ne HE.out K0.out (by decide)
       have K1 := Lib.hid ((K0.out.grown hg1 (fun e => hne1 e.symm)).alloc (.cells #[] 75))
       have hb1 := HB0.out.grown hg1 HB0.out.size (fun k hk => (HE.out.lt k hk).1)
       have o1 := own_cast hr1 (Nat.zero_add n) (List.nil_append xs).symm
       obtain ⟨A1, c1, rfl⟩ := (Rd.of_own o1).form
       have hl1 := o1.lt
       have O1 := Lib.hid (o1.alloc (.cells #[] 75))
       have HB1 := Lib.hid (below_new hb1 (.cells #[] 75))
       have HE2 := Lib.hid (own_base (base' := w.heap.size) (own_empty w1 75 2) hb1.size)
       have HL1 := Lib.hid hl1
       clear hr1 hg1 o1 hb1 hl1 HE HB0 K0 hne1)
    | (at_builtin
       refine app_part rfl _ _ rfl w.heap.size _ 0 [] rfl HE2.out _ m ys rfl (PU.out _ HB1.out) (by omega) HB1.out.size ?_
       intro v2 w2 hr2 hg2
       have hne2 := own_blk_ne HE2.out K1.out (by decide)
       have K2 := Lib.hid (K1.out.grown hg2 (fun e => hne2 e.symm))
       have hb2 := HB1.out.grown hg2 HB1.out.size (fun k hk => (HE2.out.lt k hk).1)
       have o12 := O1.out.kept hg2 (by
         cases hv : (Value.slice A1 n c1).ownBlock with
         | none => exact .inl rfl
         | some k =>
           refine .inr fun e => ?_
           have h1 := (HL1.out k hv).2
           have h2 : k = w1.heap.size := Option.some.inj e
           omega)
       have o2 := own_cast hr2 (Nat.zero_add m) (List.nil_append ys).symm
       obtain ⟨A2, c2, rfl⟩ := (Rd.of_own o2).form
       have O12 := Lib.hid o12
       have O2 := Lib.hid o2
       have HB2 := Lib.hid hb2))
  have P3 := Lib.hid (copyInts_rd _ B p ps _ (PQ.out _ hb2) (Nat.le_trans hB hb2.size) p0 hp)
  clear hr2 hg2 o12 o2 hb2 HE2 HB1 K1 hne2 O1
  refine P3.out.mono ?_
  rintro e w4 ⟨u3, rfl, o3, b3⟩
  obtain ⟨A3, c3, rfl⟩ := (Rd.of_own o3).form
  have k3 := K2.out.on b3
  have O13 := Lib.hid (own_below O12.out b3 (Nat.le_refl _))
  have O23 := Lib.hid (own_below O2.out b3 (Nat.le_refl _))
  have O3 := Lib.hid (own_base (base' := w.heap.size) o3 HB2.out.size)
  have HB3 := Lib.hid (below_on HB2.out b3)
  obtain ⟨f0, f1, f2, f3⟩ := k3.c4
  have g0 := k3.frozen 0
  have g1 := k3.frozen 1
  have g2 := k3.frozen 2
  have g3 := k3.frozen 3
  have K3 := Lib.hid k3
  clear o3 b3 K2 HB2 O12 O2 k3
  go_wp2_with fail
  obtain ⟨m0, m1, m2, m3⟩ := (blk_set4 K3.out (.slice A1 n c1) (.slice A2 m c2) (.int .i64 c) (.slice A3 p c3)).c4
  exact bodyPost_ret (v := .agg #[.slice A1 n c1, .slice A2 m c2, .int .i64 c, .slice A3 p c3]) (by simp [results, Try.results34, go_sem, m0, m1, m2, m3]) rfl
    ⟨_, rfl, ⟨_, _, _, rfl, own_set4 O13.out K3.out (by decide) _ _ _ _, own_set4 O23.out K3.out (by decide) _ _ _ _, own_set4 O3.out K3.out (by decide) _ _ _ _⟩, below_set4 HB3.out (Nat.le_refl _) _ _ _ _⟩
theorem cell_far {W : World} {bu i : Nat} {v x : Value} {a : Addr} (h : W.cell? a = some x) (hne : a.block ≠ bu) : (W.setCell ⟨bu, i, none⟩ v).cell? a = some x :=
  (World.cell?_of_block (a := a) ((only_st W bu i v).block a.block (block_lt_of_cell h) (by omega))).trans h
theorem own_cellset {w : World} {lo b1 bu i sz n m c : Nat} {e : TypeId} {v : Value} {xs ys : List Value} {x : Value} (h : w.ownsRow lo e sz v n xs) (k : w.ownsRow b1 3 1 (.slice (some ⟨bu, 0, none⟩) m c) m ys) (hne : e ≠ 3) : (w.setCell ⟨bu, i, none⟩ x).ownsRow lo e sz v n xs := by
  refine own_kept h (only_st w bu i x) fun j hj => ?_
  rcases own_own_ne h k hne with h0 | h0
  · rw [h0] at hj; cases hj
  · have : j ≠ bu := fun e => h0 (by rw [hj, e]; rfl)
    omega
set_option maxRecDepth 100000 in
set_option maxHeartbeats 4000000 in
theorem swapPlaces_any (v : Value) (lo : Nat) (t : TrN) (i k : Nat) (w : World) (hv : OwnA w lo v t) (hok : TrOk t) (hi : i < t.n) (hk : k < t.n) :
    Calls Try.prog 54 #[v, .int .i64 (i : Int), .int .i64 (k : Int)] w fun e w' => ∃ r, e = .returned r ∧ OwnA w' w.heap.size r (swT t i k) ∧ Below w.heap.size w w' := by
  have n0 := hok.n0
  have n1 := hok.n1
  have hmE := hok.m
  have hpE := hok.p
  obtain ⟨A, ca, C, cb, D, cc, rfl, ha, hb, hc⟩ := hv.form
  have hpl : t.ps.length = t.n := by have := hc.1; rw [ints_length] at this; omega
  rw [hmE] at hb ⊢
  rw [hpE] at hc ⊢
  have hsw : swT t i k = ⟨t.n, t.xs, t.n, t.ys, t.c, t.n, (t.ps.set i (t.ps.getD k 0)).set k (t.ps.getD i 0)⟩ := by simp [swT, hmE, hpE]
  have HSW := Lib.hid hsw
  obtain ⟨bD, cD, eD, hbD0, hbD⟩ : ∃ b c, Value.slice D t.n cc = .slice (some ⟨b, 0, none⟩) t.n c ∧ lo ≤ b ∧ b < w.heap.size := by
    have hl := hc.lt
    rcases hc.2 with ⟨h1, h0⟩ | ⟨g, cap, cur, h1, _⟩
    · exact absurd h0 (by omega)
    · exact ⟨g, cap, h1, hl g (by rw [h1]; rfl)⟩
  simp only [Value.slice.injEq, true_and] at eD
  obtain ⟨rfl, rfl⟩ := eD
  have HCI := Lib.hid (fun (V : World) (h : Below w.heap.size w V) (j : Nat) (hj : j < t.n) => ((h.cell (p := ⟨bD, j, none⟩) hbD).trans ((hc.cellAt j (by omega)).trans (ints_get t.ps j (by omega))) : V.cell? ⟨bD, j, none⟩ = some (.int .i64 (t.ps.getD j 0))))
  obtain ⟨pk, epk⟩ : ∃ q, t.ps.getD k 0 = q := ⟨_, rfl⟩
  obtain ⟨pi, epi⟩ : ∃ q, t.ps.getD i 0 = q := ⟨_, rfl⟩
  have HPK := Lib.hid epk
  have HPI := Lib.hid epi
  rw [epk, epi] at HSW
  have K0 := Lib.hid ((Blk.new w 29 #[.slice A t.n ca, .slice C t.n cb, .int .i64 t.c, .slice (some ⟨bD, 0, none⟩) t.n cc]).alloc (.cells #[.slice none 0 0, .slice none 0 0, .int .i64 0, .slice none 0 0] 29))
  have KR := Lib.hid (Blk.new2 w (.cells #[.slice A t.n ca, .slice C t.n cb, .int .i64 t.c, .slice (some ⟨bD, 0, none⟩) t.n cc] 29) 29 #[.slice none 0 0, .slice none 0 0, .int .i64 0, .slice none 0 0])
  have HB0 := Lib.hid (below_new (below_new (Below.refl w.heap.size w) (.cells #[.slice A t.n ca, .slice C t.n cb, .int .i64 t.c, .slice (some ⟨bD, 0, none⟩) t.n cc] 29)) (.cells #[.slice none 0 0, .slice none 0 0, .int .i64 0, .slice none 0 0] 29))
  have i0 : (0 : Int) ≤ (i : Int) := by omega
  have i1 : (i : Int) < (t.n : Int) := by omega
  have k0 : (0 : Int) ≤ (k : Int) := by omega
  have k1 : (k : Int) < (t.n : Int) := by omega
  obtain ⟨a0, a1, a2, a3⟩ := K0.out.c4
  have P := Lib.hid (newTransition_rd _ _ _ w.heap.size t.n t.n t.n t.xs t.ys t.ps t.c _ ((Rd.of_own ha).below' HB0.out (Nat.le_refl _)) ((Rd.of_own hb).below' HB0.out (Nat.le_refl _)) ((Rd.of_own hc).below' HB0.out (Nat.le_refl _)) HB0.out.size (by omega) (by omega) (by omega) (by omega) (by omega) (by omega))
  clear hv ha hb hc hsw epk epi hmE hpE hok
  go_enter Try.func54, Try.ntmps54
  go_wp2_with fail
  refine P.out.mono ?_
  rintro e w2 ⟨r, rfl, oa, hb2⟩
  have hz2 := HB0.out.size
  have hzz : ((w.alloc (.cells #[.slice A t.n ca, .slice C t.n cb, .int .i64 t.c, .slice (some ⟨bD, 0, none⟩) t.n cc] 29)).alloc (.cells #[.slice none 0 0, .slice none 0 0, .int .i64 0, .slice none 0 0] 29)).heap.size = w.heap.size + 2 := by simp
  obtain ⟨A1, c1, A2, c2, A3, c3, rfl, o1, o2, o3⟩ := oa.form
  simp only at o1 o2 o3
  rw [hzz] at o1 o2 o3
  obtain ⟨bu, cu, eu, hbu0, hbu⟩ : ∃ b c, Value.slice A3 t.n c3 = .slice (some ⟨b, 0, none⟩) t.n c ∧ w.heap.size + 2 ≤ b ∧ b < w2.heap.size := by
    have hl := o3.lt
    rcases o3.2 with ⟨h1, h0⟩ | ⟨g, cap, cur, h1, _⟩
    · exact absurd h0 (by omega)
    · exact ⟨g, cap, h1, hl g (by rw [h1]; rfl)⟩
  simp only [Value.slice.injEq, true_and] at eu
  obtain ⟨rfl, rfl⟩ := eu
  replace K0 := Lib.hid ((K0.out.on hb2).alloc (.cells #[.slice A1 t.n c1, .slice A2 t.n c2, .int .i64 t.c, .slice (some ⟨bu, 0, none⟩) t.n c3] 29))
  replace KR := Lib.hid ((KR.out.on hb2).alloc (.cells #[.slice A1 t.n c1, .slice A2 t.n c2, .int .i64 t.c, .slice (some ⟨bu, 0, none⟩) t.n c3] 29))
  have K7 := Lib.hid (Blk.new w2 29 #[.slice A1 t.n c1, .slice A2 t.n c2, .int .i64 t.c, .slice (some ⟨bu, 0, none⟩) t.n c3])
  have HB1 := Lib.hid (below_new (below_on HB0.out hb2) (.cells #[.slice A1 t.n c1, .slice A2 t.n c2, .int .i64 t.c, .slice (some ⟨bu, 0, none⟩) t.n c3] 29))
  have O1 := Lib.hid (o1.alloc (.cells #[.slice A1 t.n c1, .slice A2 t.n c2, .int .i64 t.c, .slice (some ⟨bu, 0, none⟩) t.n c3] 29))
  have O2 := Lib.hid (o2.alloc (.cells #[.slice A1 t.n c1, .slice A2 t.n c2, .int .i64 t.c, .slice (some ⟨bu, 0, none⟩) t.n c3] 29))
  have O3 := Lib.hid (o3.alloc (.cells #[.slice A1 t.n c1, .slice A2 t.n c2, .int .i64 t.c, .slice (some ⟨bu, 0, none⟩) t.n c3] 29))
  clear a0 a1 a2 a3 o1 o2 o3 oa hz2 hzz HB0 hb2
  go_wp2_with fail
  replace K0 := Lib.hid (K0.out.drewN 1)
  replace KR := Lib.hid (KR.out.drewN 1)
  replace K7 := Lib.hid (K7.out.drewN 1)
  replace HB1 := Lib.hid (below_drewN HB1.out 1)
  replace O1 := Lib.hid (own_drewN O1.out 1)
  replace O2 := Lib.hid (own_drewN O2.out 1)
  replace O3 := Lib.hid (own_drewN O3.out 1)
  obtain ⟨-, -, -, z0⟩ := K7.out.c4
  have y0 := (O3.out.cellAt k (by omega)).trans (ints_get _ k (by omega))
  have y1 := (O3.out.cellAt i (by omega)).trans (ints_get _ i (by omega))
  rw [HPK.out] at y0
  rw [HPI.out] at y1
  refine wp_region_held_drew (S := fun W => W.cell? ⟨w2.heap.size, 3, none⟩ = some (.slice (some ⟨bu, 0, none⟩) t.n c3)) (by kernel_rfl) z0 (fun hHeld => ?_)
  clear z0
  have eV1 : ∀ Z : World, Z.drewN 1 = Z.drew := fun _ => rfl
  rw [eV1] at K0 KR K7 HB1 O1 O2 O3 y0 y1
  obtain ⟨V, eV⟩ : ∃ V0 : World, (w2.alloc (.cells #[.slice A1 t.n c1, .slice A2 t.n c2, .int .i64 t.c, .slice (some ⟨bu, 0, none⟩) t.n c3] 29)).drew = V0 := ⟨_, rfl⟩
  rw [eV] at K0 KR K7 HB1 O1 O2 O3 hHeld y0 y1 ⊢
  clear eV eV1
  refine take_at (i := 0) (oi := _) 17 (v := .pointer (some ⟨w2.heap.size, 3, none⟩)) rfl rfl (by kernel_rfl) (by kernel_rfl) (by kernel_rfl) (fun _ _ _ h => h) (Or.inl ⟨by rfl, ?_⟩) hHeld ?_
  · (intro w hSw; (try dsimp only at hSw); go_split_ands; go_simp)
  simp only [List.setIfInBounds_toArray, List.set_cons_zero, List.set_cons_succ]
  refine take_at (i := 1) (oi := _) 18 (v := .slice (some ⟨bu, 0, none⟩) t.n c3) rfl rfl (by kernel_rfl) (by kernel_rfl) (by kernel_rfl) (fun _ _ _ h => h) (Or.inl ⟨by rfl, ?_⟩) hHeld ?_
  · (intro w hSw; (try dsimp only at hSw); go_split_ands; go_simp)
  simp only [List.setIfInBounds_toArray, List.set_cons_zero, List.set_cons_succ]
  refine take_at (i := 2) (oi := _) 19 (v := .int .i64 (i : Int)) rfl rfl (by kernel_rfl) (by kernel_rfl) (by kernel_rfl) (fun _ _ _ h => h) (Or.inl ⟨by rfl, ?_⟩) hHeld ?_
  · (intro w hSw; (try dsimp only at hSw); go_split_ands; go_simp)
  simp only [List.setIfInBounds_toArray, List.set_cons_zero, List.set_cons_succ]
  refine take_at (i := 3) (oi := _) 20 (v := .pointer (some ⟨w2.heap.size, 3, none⟩)) rfl rfl (by kernel_rfl) (by kernel_rfl) (by kernel_rfl) (fun _ _ _ h => h) (Or.inl ⟨by rfl, ?_⟩) hHeld ?_
  · (intro w hSw; (try dsimp only at hSw); go_split_ands; go_simp)
  simp only [List.setIfInBounds_toArray, List.set_cons_zero, List.set_cons_succ]
  refine take_at (i := 4) (oi := _) 21 (v := .slice (some ⟨bu, 0, none⟩) t.n c3) rfl rfl (by kernel_rfl) (by kernel_rfl) (by kernel_rfl) (fun _ _ _ h => h) (Or.inl ⟨by rfl, ?_⟩) hHeld ?_
  · (intro w hSw; (try dsimp only at hSw); go_split_ands; go_simp)
  simp only [List.setIfInBounds_toArray, List.set_cons_zero, List.set_cons_succ]
  refine take_at (i := 5) (oi := _) 22 (v := .int .i64 (k : Int)) rfl rfl (by kernel_rfl) (by kernel_rfl) (by kernel_rfl) (fun _ _ _ h => h) (Or.inl ⟨by rfl, ?_⟩) hHeld ?_
  · (intro w hSw; (try dsimp only at hSw); go_split_ands; go_simp)
  simp only [List.setIfInBounds_toArray, List.set_cons_zero, List.set_cons_succ]
  refine take_at (i := 6) (oi := _) 23 (v := .pointer (some ⟨w2.heap.size, 3, none⟩)) rfl rfl (by kernel_rfl) (by kernel_rfl) (by kernel_rfl) (fun _ _ _ h => h) (Or.inl ⟨by rfl, ?_⟩) hHeld ?_
  · (intro w hSw; (try dsimp only at hSw); go_split_ands; go_simp)
  simp only [List.setIfInBounds_toArray, List.set_cons_zero, List.set_cons_succ]
  refine take_at (i := 7) (oi := _) 24 (v := .slice (some ⟨bu, 0, none⟩) t.n c3) rfl rfl (by kernel_rfl) (by kernel_rfl) (by kernel_rfl) (fun _ _ _ h => h) (Or.inl ⟨by rfl, ?_⟩) hHeld ?_
  · (intro w hSw; (try dsimp only at hSw); go_split_ands; go_simp)
  simp only [List.setIfInBounds_toArray, List.set_cons_zero, List.set_cons_succ]
  refine take_at (i := 8) (oi := _) 25 (v := .int .i64 (k : Int)) rfl rfl (by kernel_rfl) (by kernel_rfl) (by kernel_rfl) (fun _ _ _ h => h) (Or.inl ⟨by rfl, ?_⟩) hHeld ?_
  · (intro w hSw; (try dsimp only at hSw); go_split_ands; go_simp)
  simp only [List.setIfInBounds_toArray, List.set_cons_zero, List.set_cons_succ]
  refine take_at (i := 9) (oi := _) 26 (v := .pointer (some ⟨bu, k, none⟩)) rfl rfl (by kernel_rfl) (by kernel_rfl) (by kernel_rfl) (fun _ _ _ h => h) (Or.inl ⟨by rfl, ?_⟩) hHeld ?_
  · (intro w hSw; (try dsimp only at hSw); go_split_ands; go_simp)
  simp only [List.setIfInBounds_toArray, List.set_cons_zero, List.set_cons_succ]
  refine take_at (i := 11) (oi := _) 28 (v := .pointer (some ⟨w2.heap.size, 3, none⟩)) rfl rfl (by kernel_rfl) (by kernel_rfl) (by kernel_rfl) (fun _ _ _ h => h) (Or.inl ⟨by rfl, ?_⟩) hHeld ?_
  · (intro w hSw; (try dsimp only at hSw); go_split_ands; go_simp)
  simp only [List.setIfInBounds_toArray, List.set_cons_zero, List.set_cons_succ]
  refine take_at (i := 12) (oi := _) 29 (v := .slice (some ⟨bu, 0, none⟩) t.n c3) rfl rfl (by kernel_rfl) (by kernel_rfl) (by kernel_rfl) (fun _ _ _ h => h) (Or.inl ⟨by rfl, ?_⟩) hHeld ?_
  · (intro w hSw; (try dsimp only at hSw); go_split_ands; go_simp)
  simp only [List.setIfInBounds_toArray, List.set_cons_zero, List.set_cons_succ]
  refine take_at (i := 13) (oi := _) 30 (v := .int .i64 (i : Int)) rfl rfl (by kernel_rfl) (by kernel_rfl) (by kernel_rfl) (fun _ _ _ h => h) (Or.inl ⟨by rfl, ?_⟩) hHeld ?_
  · (intro w hSw; (try dsimp only at hSw); go_split_ands; go_simp)
  simp only [List.setIfInBounds_toArray, List.set_cons_zero, List.set_cons_succ]
  refine take_at (i := 14) (oi := _) 31 (v := .pointer (some ⟨bu, i, none⟩)) rfl rfl (by kernel_rfl) (by kernel_rfl) (by kernel_rfl) (fun _ _ _ h => h) (Or.inl ⟨by rfl, ?_⟩) hHeld ?_
  · (intro w hSw; (try dsimp only at hSw); go_split_ands; go_simp)
  simp only [List.setIfInBounds_toArray, List.set_cons_zero, List.set_cons_succ]
  refine wpAnyH_ready (rs := [10, 15]) (by kernel_rfl) (by simp) ?_
  refine AllReadyH.cons (o := _) rfl (fun K9 hK => ?_) (AllReadyH.cons (o := _) rfl (fun K9 hK => ?_) AllReadyH.nil)
  · go_simp
    refine hK.out _ _ hHeld (fun hHeld => ?_)
    clear hK K9
    try simp only [Act.put, List.setIfInBounds_toArray, List.set_cons_zero, List.set_cons_succ]
    refine wpAnyH_ready (rs := [15]) (by kernel_rfl) (by simp) ?_
    refine AllReadyH.cons (o := _) rfl (fun K9 hK => ?_) AllReadyH.nil
    go_simp
    refine hK.out _ _ hHeld (fun hHeld => ?_)
    clear hK K9
    try simp only [Act.put, List.setIfInBounds_toArray, List.set_cons_zero, List.set_cons_succ]
    refine take_at (i := 16) (oi := _) 33 (v := .pointer (some ⟨bu, i, none⟩)) rfl rfl (by kernel_rfl) (by kernel_rfl) (by kernel_rfl) (fun _ _ _ h => h) (Or.inl ⟨by rfl, ?_⟩) hHeld ?_
    · (intro w hSw; (try dsimp only at hSw); go_split_ands; go_simp)
    simp only [List.setIfInBounds_toArray, List.set_cons_zero, List.set_cons_succ]
    have f0 := O3.out.frozenAt i
    have d0 := (O3.out.cellAt i (by omega)).trans (ints_get _ i (by omega))
    have hst := (O3.out.stored i (.int .i64 pk)).1
    rw [ints_set] at hst
    replace K0 := Lib.hid (K0.out.far (p := ⟨bu, i, none⟩) (by show w.heap.size ≠ bu; omega) (.int .i64 pk))
    replace KR := Lib.hid (KR.out.far (p := ⟨bu, i, none⟩) (by show w.heap.size + 1 ≠ bu; omega) (.int .i64 pk))
    replace K7 := Lib.hid (K7.out.far (p := ⟨bu, i, none⟩) (by show w2.heap.size ≠ bu; omega) (.int .i64 pk))
    replace HB1 := Lib.hid (HB1.out.setCell (p := ⟨bu, i, none⟩) (by show w.heap.size ≤ bu; omega) (.int .i64 pk))
    replace O1 := Lib.hid (own_cellset (i := i) (x := .int .i64 pk) O1.out O3.out (by decide))
    replace O2 := Lib.hid (own_cellset (i := i) (x := .int .i64 pk) O2.out O3.out (by decide))
    replace O3 := Lib.hid hst
    clear hst
    refine wpAnyH_ready (rs := [17]) (by kernel_rfl) (by simp) ?_
    refine AllReadyH.cons (o := _) rfl (fun K9 hK => ?_) AllReadyH.nil
    go_simp
    refine hK.out _ _ (cell_far hHeld (by show w2.heap.size ≠ bu; omega)) (fun hHeld => ?_)
    clear hK K9 f0 d0
    obtain ⟨V, eV⟩ : ∃ V0 : World, (V.setCell ⟨bu, i, none⟩ (.int .i64 pk)) = V0 := ⟨_, rfl⟩
    rw [eV] at K0 KR K7 HB1 O1 O2 O3 hHeld ⊢
    clear eV
    try simp only [Act.put, List.setIfInBounds_toArray, List.set_cons_zero, List.set_cons_succ]
    refine take_at (i := 18) (oi := _) 34 (v := .pointer (some ⟨bu, k, none⟩)) rfl rfl (by kernel_rfl) (by kernel_rfl) (by kernel_rfl) (fun _ _ _ h => h) (Or.inl ⟨by rfl, ?_⟩) hHeld ?_
    · (intro w hSw; (try dsimp only at hSw); go_split_ands; go_simp)
    simp only [List.setIfInBounds_toArray, List.set_cons_zero, List.set_cons_succ]
    have f0 := O3.out.frozenAt k
    have d0 := (O3.out.cellAt k (by omega)).trans (ints_get _ k (by rw [List.length_set]; omega))
    have hst := (O3.out.stored k (.int .i64 pi)).1
    rw [ints_set] at hst
    replace K0 := Lib.hid (K0.out.far (p := ⟨bu, k, none⟩) (by show w.heap.size ≠ bu; omega) (.int .i64 pi))
    replace KR := Lib.hid (KR.out.far (p := ⟨bu, k, none⟩) (by show w.heap.size + 1 ≠ bu; omega) (.int .i64 pi))
    replace K7 := Lib.hid (K7.out.far (p := ⟨bu, k, none⟩) (by show w2.heap.size ≠ bu; omega) (.int .i64 pi))
    replace HB1 := Lib.hid (HB1.out.setCell (p := ⟨bu, k, none⟩) (by show w.heap.size ≤ bu; omega) (.int .i64 pi))
    replace O1 := Lib.hid (own_cellset (i := k) (x := .int .i64 pi) O1.out O3.out (by decide))
    replace O2 := Lib.hid (own_cellset (i := k) (x := .int .i64 pi) O2.out O3.out (by decide))
    replace O3 := Lib.hid hst
    clear hst
    refine wpAnyH_ready (rs := [19]) (by kernel_rfl) (by simp) ?_
    refine AllReadyH.cons (o := _) rfl (fun K9 hK => ?_) AllReadyH.nil
    go_simp
    refine hK.out _ _ (cell_far hHeld (by show w2.heap.size ≠ bu; omega)) (fun hHeld => ?_)
    clear hK K9 f0 d0
    try simp only [Act.put, List.setIfInBounds_toArray, List.set_cons_zero, List.set_cons_succ]
    refine wpAnyH_done (by kernel_rfl) ?_ _
    clear hHeld
    obtain ⟨V, eV⟩ : ∃ V0 : World, (V.setCell ⟨bu, k, none⟩ (.int .i64 pi)) = V0 := ⟨_, rfl⟩
    rw [eV] at K0 KR K7 HB1 O1 O2 O3  ⊢
    clear eV
    obtain ⟨a0, a1, a2, a3⟩ := K7.out.c4
    obtain ⟨r0, r1, r2, r3⟩ := KR.out.c4
    have f0 := KR.out.frozen 0
    have f1 := KR.out.frozen 1
    have f2 := KR.out.frozen 2
    have f3 := KR.out.frozen 3
    have Q1 := Lib.hid (own_set4 O1.out KR.out (by decide) (.slice A1 t.n c1) (.slice A2 t.n c2) (.int .i64 t.c) (.slice (some ⟨bu, 0, none⟩) t.n c3))
    have Q2 := Lib.hid (own_set4 O2.out KR.out (by decide) (.slice A1 t.n c1) (.slice A2 t.n c2) (.int .i64 t.c) (.slice (some ⟨bu, 0, none⟩) t.n c3))
    have Q3 := Lib.hid (own_set4 O3.out KR.out (by decide) (.slice A1 t.n c1) (.slice A2 t.n c2) (.int .i64 t.c) (.slice (some ⟨bu, 0, none⟩) t.n c3))
    have HB9 := Lib.hid (below_set4 HB1.out (show w.heap.size ≤ w.heap.size + 1 by omega) (.slice A1 t.n c1) (.slice A2 t.n c2) (.int .i64 t.c) (.slice (some ⟨bu, 0, none⟩) t.n c3))
    have KS := Lib.hid (blk_set4 KR.out (.slice A1 t.n c1) (.slice A2 t.n c2) (.int .i64 t.c) (.slice (some ⟨bu, 0, none⟩) t.n c3))
    go_wp2_with fail
    obtain ⟨m0, m1, m2, m3⟩ := KS.out.c4
    exact bodyPost_ret (v := .agg #[.slice A1 t.n c1, .slice A2 t.n c2, .int .i64 t.c, .slice (some ⟨bu, 0, none⟩) t.n c3]) (by simp [results, Try.results54, go_sem, m0, m1, m2, m3]) rfl
      ⟨_, rfl, by rw [HSW.out]; exact ⟨_, _, _, rfl, own_base Q1.out (by omega), own_base Q2.out (by omega), own_base Q3.out (by omega)⟩, HB9.out⟩
  · go_simp
    refine hK.out _ _ hHeld (fun hHeld => ?_)
    clear hK K9
    try simp only [Act.put, List.setIfInBounds_toArray, List.set_cons_zero, List.set_cons_succ]
    refine wpAnyH_ready (rs := [10]) (by kernel_rfl) (by simp) ?_
    refine AllReadyH.cons (o := _) rfl (fun K9 hK => ?_) AllReadyH.nil
    go_simp
    refine hK.out _ _ hHeld (fun hHeld => ?_)
    clear hK K9
    try simp only [Act.put, List.setIfInBounds_toArray, List.set_cons_zero, List.set_cons_succ]
    refine take_at (i := 16) (oi := _) 33 (v := .pointer (some ⟨bu, i, none⟩)) rfl rfl (by kernel_rfl) (by kernel_rfl) (by kernel_rfl) (fun _ _ _ h => h) (Or.inl ⟨by rfl, ?_⟩) hHeld ?_
    · (intro w hSw; (try dsimp only at hSw); go_split_ands; go_simp)
    simp only [List.setIfInBounds_toArray, List.set_cons_zero, List.set_cons_succ]
    have f0 := O3.out.frozenAt i
    have d0 := (O3.out.cellAt i (by omega)).trans (ints_get _ i (by omega))
    have hst := (O3.out.stored i (.int .i64 pk)).1
    rw [ints_set] at hst
    replace K0 := Lib.hid (K0.out.far (p := ⟨bu, i, none⟩) (by show w.heap.size ≠ bu; omega) (.int .i64 pk))
    replace KR := Lib.hid (KR.out.far (p := ⟨bu, i, none⟩) (by show w.heap.size + 1 ≠ bu; omega) (.int .i64 pk))
    replace K7 := Lib.hid (K7.out.far (p := ⟨bu, i, none⟩) (by show w2.heap.size ≠ bu; omega) (.int .i64 pk))
    replace HB1 := Lib.hid (HB1.out.setCell (p := ⟨bu, i, none⟩) (by show w.heap.size ≤ bu; omega) (.int .i64 pk))
    replace O1 := Lib.hid (own_cellset (i := i) (x := .int .i64 pk) O1.out O3.out (by decide))
    replace O2 := Lib.hid (own_cellset (i := i) (x := .int .i64 pk) O2.out O3.out (by decide))
    replace O3 := Lib.hid hst
    clear hst
    refine wpAnyH_ready (rs := [17]) (by kernel_rfl) (by simp) ?_
    refine AllReadyH.cons (o := _) rfl (fun K9 hK => ?_) AllReadyH.nil
    go_simp
    refine hK.out _ _ (cell_far hHeld (by show w2.heap.size ≠ bu; omega)) (fun hHeld => ?_)
    clear hK K9 f0 d0
    obtain ⟨V, eV⟩ : ∃ V0 : World, (V.setCell ⟨bu, i, none⟩ (.int .i64 pk)) = V0 := ⟨_, rfl⟩
    rw [eV] at K0 KR K7 HB1 O1 O2 O3 hHeld ⊢
    clear eV
    try simp only [Act.put, List.setIfInBounds_toArray, List.set_cons_zero, List.set_cons_succ]
    refine take_at (i := 18) (oi := _) 34 (v := .pointer (some ⟨bu, k, none⟩)) rfl rfl (by kernel_rfl) (by kernel_rfl) (by kernel_rfl) (fun _ _ _ h => h) (Or.inl ⟨by rfl, ?_⟩) hHeld ?_
    · (intro w hSw; (try dsimp only at hSw); go_split_ands; go_simp)
    simp only [List.setIfInBounds_toArray, List.set_cons_zero, List.set_cons_succ]
    have f0 := O3.out.frozenAt k
    have d0 := (O3.out.cellAt k (by omega)).trans (ints_get _ k (by rw [List.length_set]; omega))
    have hst := (O3.out.stored k (.int .i64 pi)).1
    rw [ints_set] at hst
    replace K0 := Lib.hid (K0.out.far (p := ⟨bu, k, none⟩) (by show w.heap.size ≠ bu; omega) (.int .i64 pi))
    replace KR := Lib.hid (KR.out.far (p := ⟨bu, k, none⟩) (by show w.heap.size + 1 ≠ bu; omega) (.int .i64 pi))
    replace K7 := Lib.hid (K7.out.far (p := ⟨bu, k, none⟩) (by show w2.heap.size ≠ bu; omega) (.int .i64 pi))
    replace HB1 := Lib.hid (HB1.out.setCell (p := ⟨bu, k, none⟩) (by show w.heap.size ≤ bu; omega) (.int .i64 pi))
    replace O1 := Lib.hid (own_cellset (i := k) (x := .int .i64 pi) O1.out O3.out (by decide))
    replace O2 := Lib.hid (own_cellset (i := k) (x := .int .i64 pi) O2.out O3.out (by decide))
    replace O3 := Lib.hid hst
    clear hst
    refine wpAnyH_ready (rs := [19]) (by kernel_rfl) (by simp) ?_
    refine AllReadyH.cons (o := _) rfl (fun K9 hK => ?_) AllReadyH.nil
    go_simp
    refine hK.out _ _ (cell_far hHeld (by show w2.heap.size ≠ bu; omega)) (fun hHeld => ?_)
    clear hK K9 f0 d0
    try simp only [Act.put, List.setIfInBounds_toArray, List.set_cons_zero, List.set_cons_succ]
    refine wpAnyH_done (by kernel_rfl) ?_ _
    clear hHeld
    obtain ⟨V, eV⟩ : ∃ V0 : World, (V.setCell ⟨bu, k, none⟩ (.int .i64 pi)) = V0 := ⟨_, rfl⟩
    rw [eV] at K0 KR K7 HB1 O1 O2 O3  ⊢
    clear eV
    obtain ⟨a0, a1, a2, a3⟩ := K7.out.c4
    obtain ⟨r0, r1, r2, r3⟩ := KR.out.c4
    have f0 := KR.out.frozen 0
    have f1 := KR.out.frozen 1
    have f2 := KR.out.frozen 2
    have f3 := KR.out.frozen 3
    have Q1 := Lib.hid (own_set4 O1.out KR.out (by decide) (.slice A1 t.n c1) (.slice A2 t.n c2) (.int .i64 t.c) (.slice (some ⟨bu, 0, none⟩) t.n c3))
    have Q2 := Lib.hid (own_set4 O2.out KR.out (by decide) (.slice A1 t.n c1) (.slice A2 t.n c2) (.int .i64 t.c) (.slice (some ⟨bu, 0, none⟩) t.n c3))
    have Q3 := Lib.hid (own_set4 O3.out KR.out (by decide) (.slice A1 t.n c1) (.slice A2 t.n c2) (.int .i64 t.c) (.slice (some ⟨bu, 0, none⟩) t.n c3))
    have HB9 := Lib.hid (below_set4 HB1.out (show w.heap.size ≤ w.heap.size + 1 by omega) (.slice A1 t.n c1) (.slice A2 t.n c2) (.int .i64 t.c) (.slice (some ⟨bu, 0, none⟩) t.n c3))
    have KS := Lib.hid (blk_set4 KR.out (.slice A1 t.n c1) (.slice A2 t.n c2) (.int .i64 t.c) (.slice (some ⟨bu, 0, none⟩) t.n c3))
    go_wp2_with fail
    obtain ⟨m0, m1, m2, m3⟩ := KS.out.c4
    exact bodyPost_ret (v := .agg #[.slice A1 t.n c1, .slice A2 t.n c2, .int .i64 t.c, .slice (some ⟨bu, 0, none⟩) t.n c3]) (by simp [results, Try.results54, go_sem, m0, m1, m2, m3]) rfl
      ⟨_, rfl, by rw [HSW.out]; exact ⟨_, _, _, rfl, own_base Q1.out (by omega), own_base Q2.out (by omega), own_base Q3.out (by omega)⟩, HB9.out⟩
end Go.Proofs.Ytnlneblipedddaa

namespace Go.Proofs.Ytnlneblipedddaa
open Go.RowKit

theorem part_take {w W : World} {lo B k b c z : Nat} {xs : List Int} (h : w.ownsRow lo 3 1 (.slice (some ⟨b, 0, none⟩) k c) k (ints xs)) (hb : Below B w W) (hbB : b < B) (hz : z ≤ k) : Part W 1 (.slice (some ⟨b, 0, none⟩) z c) z (xs.take z) := by
  have hl : xs.length = k := by have := h.1; rw [ints_length] at this; omega
  refine ⟨by rw [List.length_take]; omega, .inr ⟨_, _, rfl, fun j hj => ?_⟩⟩
  rw [addAt, Nat.zero_add]
  refine (hb.cell (p := ⟨b, j, none⟩) hbB).trans ((h.cellAt j (by omega)).trans ((ints_get xs j (by omega)).trans ?_))
  simp [List.getD_eq_getElem?_getD, show j < z by omega]
set_option maxRecDepth 100000 in
set_option maxHeartbeats 4000000 in
theorem l1Put_any (v : Value) (lo : Nat) (L : List Int) (x : Int) (w : World) (hv : w.ownsRow lo 3 1 v L.length (ints L)) (hlo : lo ≤ w.heap.size) (hk : L.length ≤ 1000) (hs : Srt L) :
    Calls Try.prog 76 #[v, .int .i64 x] w fun e w' => ∃ u, e = .returned u ∧ ∃ R, w'.ownsRow lo 3 1 u R.length (ints R) ∧ Srt R ∧ (∀ y, y ∈ R ↔ y = x ∨ y ∈ L) ∧ R.length ≤ L.length + 1 ∧ Below w.heap.size w w' := by
  obtain ⟨A, c, rfl⟩ := (Rd.of_own hv).form
  have HV := Lib.hid hv
  have HS := Lib.hid hs
  have hcap := own_cap hv _ _ _ rfl
  have HE := Lib.hid (show (w.alloc (.cells #[] 3)).ownsRow w.heap.size 3 1 (.slice (some ⟨w.heap.size, 0, none⟩) 0 0) 0 (ints []) from own_empty w 3 1)
  have HB0 := Lib.hid (below_new (Below.refl w.heap.size w) (.cells #[] 3))
  obtain ⟨N, eN⟩ : ∃ N, L.length = N := ⟨_, rfl⟩
  have HN := Lib.hid eN
  rw [eN] at HV hcap hk ⊢
  clear hv hs eN
  go_enter Try.func76, Try.ntmps76
  go_wp2_with fail
  go_loopw [5] (fun i wr => ∃ k : Nat, k ≤ N ∧ i = .int .i64 k ∧ (∀ j, j < k → L.getD j 0 < x) ∧ w = wr) (fun i _ => N - (intOf i).toNat)
  case atStart => exact ⟨0, by omega, rfl, fun j hj => absurd hj (by omega), rfl⟩
  case round =>
    obtain ⟨k, hkN, rfl, hlow, rfl⟩ := hrel
    by_cases hlt : k < N
    · have k0 : (0 : Int) ≤ (k : Int) := by omega
      have k1 : (k : Int) < (N : Int) := by omega
      obtain ⟨bl, rfl, hbl⟩ := own_start HV.out (by omega)
      have c0 := (HV.out.cellAt k (by omega)).trans (ints_get L k (by rw [HN.out]; omega))
      obtain ⟨y, ey⟩ : ∃ y, L.getD k 0 = y := ⟨_, rfl⟩
      rw [ey] at c0
      have hbB := (HV.out.lt bl rfl).2
      by_cases h1 : y < x
      · have HNX := Lib.hid (show ∀ j, j < k + 1 → L.getD j 0 < x from fun j hj => by
          by_cases e : j = k
          · subst e; omega
          · exact hlow j (by omega))
        clear hlow ey
        go_wp2_with fail
        go_roundw
        case rel => exact ⟨k + 1, by omega, by go_num, HNX.out, by trivial⟩
        case measure => simp [intOf]; omega
      · have HLOW := Lib.hid hlow
        by_cases h2 : y = x
        · have HY := Lib.hid (show L.getD k 0 = x by omega)
          have e1 : (y == x) = true := by simpa using h2
          clear hlow ey h2
          go_wp2_with fail
          go_ret
          refine ⟨_, rfl, L, ?_, HS.out, fun z => put_same (by rw [HN.out]; exact hlt) HY.out, by rw [HN.out]; omega, Below.refl _ _⟩
          rw [HN.out]
          exact HV.out
        · have e1 : (y == x) = false := by simpa using h2
          have HX := Lib.hid (show x < L.getD k 0 by omega)
          clear hlow ey h2
          have hkc : k ≤ c := by omega
          have hkc2 : ¬ c < k := by omega
          have hkn2 : ¬ N < k := by omega
          have hnc2 : ¬ c < N := by omega
          have hkc3 : ¬ k = c := by omega
          have k2 : (k : Int) ≤ (c : Int) := by omega
          have k3 : (k : Int) ≤ (N : Int) := by omega
          have HP1 := Lib.hid (fun (W : World) (hb : Below w.heap.size w W) => (part_take HV.out hb hbB (Nat.le_of_lt hlt)))
          have HP2 := Lib.hid (fun (W : World) (hb : Below w.heap.size w W) => (part_drop HV.out hb hbB (Nat.le_of_lt hlt)))
          go_wp2_with (first
            | (at_builtin
               refine wpList_plain rfl (fun _ hk => wp_intpart _ _ rfl w.heap.size _ 0 [] rfl HE.out _ k (L.take k) rfl (HP1.out _ HB0.out) (by omega) HB0.out.size (fun v1 w1 hr1 hg1 => hk _ _ ?_))
               have hb1 := HB0.out.grown hg1 HB0.out.size (fun k hk => (HE.out.lt k hk).1)
               have o1 := own_cast hr1 (Nat.zero_add k) (List.nil_append (L.take k)).symm
               obtain ⟨A1, c1, rfl⟩ := (Rd.of_own o1).form
               have O1 := Lib.hid (o1.alloc (.cells #[.int .i64 x] 3))
               have HB1 := Lib.hid (below_new hb1 (.cells #[.int .i64 x] 3))
               have n0 := (Blk.new w1 3 #[.int .i64 x]).c1
               have hz1 := hb1.size
               clear hr1 hg1 o1 hb1 HE HB0)
            | (at_builtin
               refine app_int rfl _ _ rfl w.heap.size _ k (L.take k) rfl O1.out w1.heap.size x rfl n0 (by omega) HB1.out.size ?_
               intro v2 w2 hr2 hg2
               have HB2 := Lib.hid (HB1.out.grown hg2 HB1.out.size (fun k hk => (O1.out.lt k hk).1))
               obtain ⟨A2, c2, rfl⟩ := (Rd.of_own hr2).form
               have O2 := Lib.hid hr2
               clear hr2 hg2 O1 HB1 n0)
            | (at_builtin
               refine wpList_plain rfl (fun _ hk => wp_intpart _ _ rfl w.heap.size _ (k + 1) (L.take k ++ [x]) rfl O2.out _ (N - k) (L.drop k) rfl (HP2.out _ HB2.out) (by omega) HB2.out.size (fun v3 w3 hr3 hg3 => hk _ _ ?_))
               have HB3 := Lib.hid (HB2.out.grown hg3 HB2.out.size (fun k hk => (O2.out.lt k hk).1))
               have o3 := own_cast (m := N + 1) hr3 (by omega) rfl
               have O3 := Lib.hid o3
               obtain ⟨A3, c3, rfl⟩ := (Rd.of_own o3).form
               clear hr3 hg3 O2 HB2 o3))
          have hln := HN.out
          go_ret
          refine ⟨_, rfl, putL L x k, ?_, putL_srt HS.out HLOW.out (fun _ => HX.out) (by omega), fun y => putL_mem, by rw [putL_length (by omega)]; omega, HB3.out⟩
          have hpl := putL_length (L := L) (x := x) (k := k) (by omega)
          exact own_base (own_cast O3.out (by omega) rfl) hlo
    · obtain rfl : k = N := by omega
      have HLOW := Lib.hid hlow
      have HNO := Lib.hid (show k < L.length → x < L.getD k 0 from fun h => absurd h (by rw [HN.out]; omega))
      clear hlow
      rcases HV.out.2 with ⟨hv, -⟩ | ⟨bl, cap, cur, hv, -⟩
      · simp only [Value.slice.injEq] at hv
        obtain ⟨rfl, rfl, rfl⟩ := hv
        have HL := Lib.hid (show L = [] from List.length_eq_zero_iff.1 HN.out)
        have HP1 := Lib.hid (fun (W : World) (hb : Below w.heap.size w W) => (show Part W 1 (.slice none 0 0) 0 (L.take 0) from ⟨by simp, .inl ⟨rfl, rfl⟩⟩))
        have HP2 := Lib.hid (fun (W : World) (hb : Below w.heap.size w W) => (show Part W 1 (.slice none 0 0) (0 - 0) (L.drop 0) from ⟨by rw [HL.out]; rfl, .inl ⟨rfl, rfl⟩⟩))
        go_wp2_with (first
          | (at_builtin
             refine wpList_plain rfl (fun _ hk => wp_intpart _ _ rfl w.heap.size _ 0 [] rfl HE.out _ 0 (L.take 0) rfl (HP1.out _ HB0.out) (by omega) HB0.out.size (fun v1 w1 hr1 hg1 => hk _ _ ?_))
             have hb1 := HB0.out.grown hg1 HB0.out.size (fun k hk => (HE.out.lt k hk).1)
             have o1 := own_cast hr1 (Nat.zero_add 0) (List.nil_append (L.take 0)).symm
             obtain ⟨A1, c1, rfl⟩ := (Rd.of_own o1).form
             have O1 := Lib.hid (o1.alloc (.cells #[.int .i64 x] 3))
             have HB1 := Lib.hid (below_new hb1 (.cells #[.int .i64 x] 3))
             have n0 := (Blk.new w1 3 #[.int .i64 x]).c1
             have hz1 := hb1.size
             clear hr1 hg1 o1 hb1 HE HB0)
          | (at_builtin
             refine app_int rfl _ _ rfl w.heap.size _ 0 (L.take 0) rfl O1.out w1.heap.size x rfl n0 (by omega) HB1.out.size ?_
             intro v2 w2 hr2 hg2
             have HB2 := Lib.hid (HB1.out.grown hg2 HB1.out.size (fun k hk => (O1.out.lt k hk).1))
             obtain ⟨A2, c2, rfl⟩ := (Rd.of_own hr2).form
             have O2 := Lib.hid hr2
             clear hr2 hg2 O1 HB1 n0)
          | (at_builtin
             refine wpList_plain rfl (fun _ hk => wp_intpart _ _ rfl w.heap.size _ (0 + 1) (L.take 0 ++ [x]) rfl O2.out _ (0 - 0) (L.drop 0) rfl (HP2.out _ HB2.out) (by omega) HB2.out.size (fun v3 w3 hr3 hg3 => hk _ _ ?_))
             have HB3 := Lib.hid (HB2.out.grown hg3 HB2.out.size (fun k hk => (O2.out.lt k hk).1))
             have o3 := own_cast (m := 0 + 1) hr3 (by omega) rfl
             have O3 := Lib.hid o3
             obtain ⟨A3, c3, rfl⟩ := (Rd.of_own o3).form
             clear hr3 hg3 O2 HB2 o3))
        have hln := HN.out
        go_ret
        refine ⟨_, rfl, putL L x 0, ?_, putL_srt HS.out HLOW.out HNO.out (by omega), fun y => putL_mem, by rw [putL_length (by omega)]; omega, HB3.out⟩
        have hpl := putL_length (L := L) (x := x) (k := 0) (by omega)
        exact own_base (own_cast O3.out (by omega) rfl) hlo
      · simp only [Value.slice.injEq, true_and] at hv
        obtain ⟨rfl, rfl⟩ := hv
        have hbB := (HV.out.lt bl rfl).2
        have hkc2 : ¬ c < k := by omega
        have k2 : (k : Int) ≤ (c : Int) := by omega
        have k0 : (0 : Int) ≤ (k : Int) := by omega
        by_cases hck : c = k
        · subst hck
          have HP1 := Lib.hid (fun (W : World) (hb : Below w.heap.size w W) => (part_take HV.out hb hbB (Nat.le_refl _)))
          have HP2 := Lib.hid (fun (W : World) (hb : Below w.heap.size w W) => (show Part W 1 (.slice (some ⟨bl, 0, none⟩) 0 0) (c - c) (L.drop c) from ⟨by simp [HN.out], .inr ⟨_, 0, by rw [Nat.sub_self], fun j hj => absurd hj (by omega)⟩⟩))
          go_wp2_with (first
            | (at_builtin
               refine wpList_plain rfl (fun _ hk => wp_intpart _ _ rfl w.heap.size _ 0 [] rfl HE.out _ c (L.take c) rfl (HP1.out _ HB0.out) (by omega) HB0.out.size (fun v1 w1 hr1 hg1 => hk _ _ ?_))
               have hb1 := HB0.out.grown hg1 HB0.out.size (fun k hk => (HE.out.lt k hk).1)
               have o1 := own_cast hr1 (Nat.zero_add c) (List.nil_append (L.take c)).symm
               obtain ⟨A1, c1, rfl⟩ := (Rd.of_own o1).form
               have O1 := Lib.hid (o1.alloc (.cells #[.int .i64 x] 3))
               have HB1 := Lib.hid (below_new hb1 (.cells #[.int .i64 x] 3))
               have n0 := (Blk.new w1 3 #[.int .i64 x]).c1
               have hz1 := hb1.size
               clear hr1 hg1 o1 hb1 HE HB0)
            | (at_builtin
               refine app_int rfl _ _ rfl w.heap.size _ c (L.take c) rfl O1.out w1.heap.size x rfl n0 (by omega) HB1.out.size ?_
               intro v2 w2 hr2 hg2
               have HB2 := Lib.hid (HB1.out.grown hg2 HB1.out.size (fun k hk => (O1.out.lt k hk).1))
               obtain ⟨A2, c2, rfl⟩ := (Rd.of_own hr2).form
               have O2 := Lib.hid hr2
               clear hr2 hg2 O1 HB1 n0)
            | (at_builtin
               refine wpList_plain rfl (fun _ hk => wp_intpart _ _ rfl w.heap.size _ (c + 1) (L.take c ++ [x]) rfl O2.out _ (c - c) (L.drop c) rfl (HP2.out _ HB2.out) (by omega) HB2.out.size (fun v3 w3 hr3 hg3 => hk _ _ ?_))
               have HB3 := Lib.hid (HB2.out.grown hg3 HB2.out.size (fun k hk => (O2.out.lt k hk).1))
               have o3 := own_cast (m := c + 1) hr3 (by omega) rfl
               have O3 := Lib.hid o3
               obtain ⟨A3, c3, rfl⟩ := (Rd.of_own o3).form
               clear hr3 hg3 O2 HB2 o3))
          have hln := HN.out
          go_ret
          refine ⟨_, rfl, putL L x c, ?_, putL_srt HS.out HLOW.out HNO.out (by omega), fun y => putL_mem, by rw [putL_length (by omega)]; omega, HB3.out⟩
          have hpl := putL_length (L := L) (x := x) (k := c) (by omega)
          exact own_base (own_cast O3.out (by omega) rfl) hlo
        · have hck2 : ¬ k = c := by omega
          have HP1 := Lib.hid (fun (W : World) (hb : Below w.heap.size w W) => (part_take HV.out hb hbB (Nat.le_refl _)))
          have HP2 := Lib.hid (fun (W : World) (hb : Below w.heap.size w W) => (show Part W 1 (.slice (some ⟨bl, k, none⟩) 0 (c - k)) (k - k) (L.drop k) from by have hp := part_drop HV.out hb hbB (Nat.le_refl k); simp only [Nat.sub_self] at hp ⊢; exact hp))
          go_wp2_with (first
            | (at_builtin
               refine wpList_plain rfl (fun _ hk => wp_intpart _ _ rfl w.heap.size _ 0 [] rfl HE.out _ k (L.take k) rfl (HP1.out _ HB0.out) (by omega) HB0.out.size (fun v1 w1 hr1 hg1 => hk _ _ ?_))
               have hb1 := HB0.out.grown hg1 HB0.out.size (fun k hk => (HE.out.lt k hk).1)
               have o1 := own_cast hr1 (Nat.zero_add k) (List.nil_append (L.take k)).symm
               obtain ⟨A1, c1, rfl⟩ := (Rd.of_own o1).form
               have O1 := Lib.hid (o1.alloc (.cells #[.int .i64 x] 3))
               have HB1 := Lib.hid (below_new hb1 (.cells #[.int .i64 x] 3))
               have n0 := (Blk.new w1 3 #[.int .i64 x]).c1
               have hz1 := hb1.size
               clear hr1 hg1 o1 hb1 HE HB0)
            | (at_builtin
               refine app_int rfl _ _ rfl w.heap.size _ k (L.take k) rfl O1.out w1.heap.size x rfl n0 (by omega) HB1.out.size ?_
               intro v2 w2 hr2 hg2
               have HB2 := Lib.hid (HB1.out.grown hg2 HB1.out.size (fun k hk => (O1.out.lt k hk).1))
               obtain ⟨A2, c2, rfl⟩ := (Rd.of_own hr2).form
               have O2 := Lib.hid hr2
               clear hr2 hg2 O1 HB1 n0)
            | (at_builtin
               refine wpList_plain rfl (fun _ hk => wp_intpart _ _ rfl w.heap.size _ (k + 1) (L.take k ++ [x]) rfl O2.out _ (k - k) (L.drop k) rfl (HP2.out _ HB2.out) (by omega) HB2.out.size (fun v3 w3 hr3 hg3 => hk _ _ ?_))
               have HB3 := Lib.hid (HB2.out.grown hg3 HB2.out.size (fun k hk => (O2.out.lt k hk).1))
               have o3 := own_cast (m := k + 1) hr3 (by omega) rfl
               have O3 := Lib.hid o3
               obtain ⟨A3, c3, rfl⟩ := (Rd.of_own o3).form
               clear hr3 hg3 O2 HB2 o3))
          have hln := HN.out
          go_ret
          refine ⟨_, rfl, putL L x k, ?_, putL_srt HS.out HLOW.out HNO.out (by omega), fun y => putL_mem, by rw [putL_length (by omega)]; omega, HB3.out⟩
          have hpl := putL_length (L := L) (x := x) (k := k) (by omega)
          exact own_base (own_cast O3.out (by omega) rfl) hlo
end Go.Proofs.Ytnlneblipedddaa

namespace Go.Proofs.Ytnlneblipedddaa
open Go.RowKit

set_option maxRecDepth 100000 in
set_option maxHeartbeats 4000000 in
theorem specLeastGreatest_any (B n : Nat) (v : Value) (rs : List (List Int)) (w : World) (h : RdR w B v n rs) (hB : B ≤ w.heap.size) (hn0 : 1 ≤ n) (hn : n ≤ 12) (hl : rs.length = n) (hr : Sq n rs) (hC : CostOk (cst rs)) :
    Calls Try.prog 42 #[v] w fun e w' => ∃ u, e = .returned (.tuple #[u, .int .i64 (evM (cst rs) n), .bool true]) ∧ w'.ownsRow w.heap.size 3 1 u n (ints (evL (cst rs) n)) ∧ Below w.heap.size w w' := by
  have PG := Lib.hid (maGood_yes B n v rs w h hn0 hn hr hC)
  have PW := Lib.hid (fun (W : World) (m : Int) (hm : 0 ≤ m) (hb : Below w.heap.size w W) => maWithin_any B n v rs m W (h.below' hb hB) (Nat.le_trans hB hb.size) hn0 hn hl hr hm)
  obtain ⟨A, c, rfl, hrr⟩ := h
  obtain ⟨b, off, rfl, hbB, hrow⟩ := hrr (by omega)
  have HROWS := Lib.hid hrow
  have HSQ := Lib.hid hr
  have HC := Lib.hid hC
  have hWE := wn_end hC hn
  obtain ⟨T, eT⟩ : ∃ T, cst rs = T := ⟨_, rfl⟩
  have HT := Lib.hid eT
  rw [eT] at HC hWE PW ⊢
  have HWE := Lib.hid hWE
  have hbw : b < w.heap.size := by omega
  clear hrr hrow hr hC hWE eT hl
  go_enter Try.func42, Try.ntmps42
  go_wp2_with fail
  refine PG.out.mono ?_
  rintro e w' ⟨rfl, rfl⟩
  clear PG
  go_wp2_with fail
  go_loopw [5, 18] (fun o i wr => ∃ (k : Nat) (L : List Int), k ≤ n ∧ i = .int .i64 k ∧ wr.ownsRow w.heap.size 3 1 o L.length (ints L) ∧ L.length ≤ k * 12 ∧ Seen T n k 0 L ∧ Below w.heap.size w wr) (fun _ i _ => n - (intOf i).toNat)
  case atStart => exact ⟨0, [], by omega, rfl, World.ownsRow_nil _ _ _ _, by simp, Seen.nil T n, Below.refl _ _⟩
  case round =>
    obtain ⟨i, L, hi, rfl, hown, hlen, hseen, hb⟩ := hrel
    obtain ⟨Ao, co, rfl⟩ := (Rd.of_own hown).form
    have HO := Lib.hid hown
    have HB := Lib.hid hb
    have HS := Lib.hid hseen
    clear hown hb hseen
    by_cases hlt : i < n
    · obtain ⟨sv, k0, -, A2, c2, rfl, hx⟩ := HROWS.out i hlt
      rw [HSQ.out i hlt] at k0 hx
      obtain ⟨g, o2, rfl, hgB, hx⟩ := hx (by omega)
      have HX := Lib.hid hx
      have HGW := Lib.hid (show g < w.heap.size by omega)
      have HRC := Lib.hid (show ∀ j, (rs.getD i []).getD j 0 = T i j from fun j => by rw [← HT.out]; rfl)
      have r0 := (HB.out.cell (p := ⟨b, off + i, none⟩) hbw).trans k0
      have i0 : (0 : Int) ≤ (i : Int) := by omega
      have i1 : (i : Int) < (n : Int) := by omega
      clear hx k0
      go_wp2_with fail
      go_loopw [5, 24] (fun o s wr => ∃ (k : Nat) (L : List Int), k ≤ n ∧ s = .int .i64 k ∧ wr.ownsRow w.heap.size 3 1 o L.length (ints L) ∧ L.length ≤ i * 12 + k ∧ Seen T n i k L ∧ Below w.heap.size w wr) (fun _ s _ => n - (intOf s).toNat)
      case atStart => exact ⟨0, L, by omega, rfl, HO.out, hlen, HS.out, HB.out⟩
      case round =>
        clear r0 HO HB HS hlen
        obtain ⟨k, L, hk, rfl, hown, hlen, hseen, hb⟩ := hrel
        obtain ⟨Ao, co, rfl⟩ := (Rd.of_own hown).form
        have HO := Lib.hid hown
        have HB := Lib.hid hb
        have HS := Lib.hid hseen
        clear hown hb hseen
        by_cases hlk : k < n
        · have x1 := HX.out k (by omega)
          rw [HRC.out] at x1
          replace x1 := (HB.out.cell (p := ⟨g, o2 + k, none⟩) HGW.out).trans x1
          have P := Lib.hid (l1Put_any _ w.heap.size L (T i k) wr HO.out HB.out.size (by omega) HS.out.1)
          obtain ⟨x, ex⟩ : ∃ x, T i k = x := ⟨_, rfl⟩
          have EX := Lib.hid ex
          rw [ex] at x1 P
          have k0 : (0 : Int) ≤ (k : Int) := by omega
          have k1 : (k : Int) < (n : Int) := by omega
          clear ex
          go_wp2_with fail
          refine P.out.mono ?_
          rintro e w2 ⟨u, rfl, R, ho, hs, hm, hl2, hb⟩
          have HB2 := Lib.hid (below_on HB.out hb)
          have HO2 := Lib.hid ho
          have HS2 := Lib.hid (HS.out.next hlk hs (fun y => by rw [EX.out]; exact hm y))
          obtain ⟨Au, cu, rfl⟩ := (Rd.of_own ho).form
          clear ho hs hm hb HB HO HS P x1
          go_wp2_with fail
          go_roundw
          case rel => exact ⟨k + 1, R, by omega, by go_num, HO2.out, by omega, HS2.out, HB2.out⟩
          case measure => simp [intOf]; omega
        · obtain rfl : k = n := by omega
          go_wp2_with fail
          go_roundw
          case rel => exact ⟨i + 1, L, by omega, by go_num, HO.out, by omega, HS.out.row, HB.out⟩
          case measure => simp [intOf]; omega
    · obtain rfl : i = n := by omega
      obtain ⟨p, hp, hpe⟩ := seen_all HC.out hn0 HS.out
      have HMID := Lib.hid (fun j hj => seen_mid HC.out hn HS.out hp hpe (j := j) hj)
      have HOK := Lib.hid (fun j hj => (seen_ok HC.out HS.out (j := j) hj).1)
      obtain ⟨N, eN⟩ : ∃ N, L.length = N := ⟨_, rfl⟩
      have HLN := Lib.hid eN
      rw [eN] at HO hlen hp HMID HOK ⊢
      obtain ⟨lb, rfl, hlb⟩ := own_start HO.out (by omega)
      have hlbW := (HO.out.lt lb rfl).2
      obtain ⟨wo, ewo⟩ : ∃ wo, wr = wo := ⟨_, rfl⟩
      rw [ewo] at HO HB hlbW ⊢
      clear ewo
      have HCELL := Lib.hid (fun (W : World) (hb : Below wo.heap.size wo W) (j : Nat) (hj : j < N) => ((hb.cell (p := ⟨lb, j, none⟩) hlbW).trans ((HO.out.cellAt j (by omega)).trans (ints_get L j (by rw [HLN.out]; exact hj))) : W.cell? ⟨lb, j, none⟩ = some (.int .i64 (L.getD j 0))))
      have HPE := Lib.hid hpe
      have s1 : (N : Int) - 1 = ((N - 1 : Nat) : Int) := by omega
      obtain ⟨Z, eZ⟩ : ∃ Z, N - 1 = Z := ⟨_, rfl⟩
      rw [eZ] at s1
      have s2 := IntWalk.i64_in (Z : Int) (by omega)
      have hZ : Z < N := by omega
      have hpZ : p ≤ Z := by omega
      have hZ2 : Z ≤ 144 := by omega
      clear eN hpe eZ hlb HS
      go_wp2_with fail
      go_loopw [10, 11] (fun a d wq => ∃ lo hi : Nat, a = .int .i64 lo ∧ d = .int .i64 hi ∧ lo ≤ p ∧ p ≤ hi ∧ hi ≤ Z ∧ Below wo.heap.size wo wq) (fun a d _ => (intOf d).toNat - (intOf a).toNat)
      case atStart => exact ⟨0, Z, rfl, rfl, by omega, hpZ, by omega, Below.refl _ _⟩
      case round =>
        obtain ⟨lo, hi, rfl, rfl, hlo, hhi, hhZ, hbq⟩ := hrel
        have HBQ := Lib.hid hbq
        have HBA := Lib.hid (below_on HB.out hbq)
        clear hbq
        by_cases hlh : lo < hi
        · obtain ⟨m1, m2⟩ := half_mid hlh
          obtain ⟨mid, em⟩ : ∃ mid, (lo + hi) / 2 = mid := ⟨_, rfl⟩
          rw [em] at m1 m2
          have q1 : ((lo : Int) + (hi : Int)).tdiv 2 = (mid : Int) := by rw [Int.tdiv_eq_ediv_of_nonneg (by omega), ← em]; omega
          have q2 := IntWalk.i64_in ((lo : Int) + (hi : Int)) (by omega)
          have q3 := IntWalk.i64_in (mid : Int) (by omega)
          have q4 : (0 : Int) ≤ (mid : Int) := by omega
          have q5 : (mid : Int) < (N : Int) := by omega
          have c0 := HCELL.out _ HBQ.out mid (by omega)
          have hmid := HMID.out mid (by omega)
          have P := Lib.hid (PW.out wr (L.getD mid 0) (HOK.out mid (by omega)) HBA.out)
          have hnw : wnN T (L.getD mid 0) i = if p ≤ mid then i else 0 := by
            unfold wnN
            rw [hmid]
            by_cases e : p ≤ mid <;> simp [e]
          obtain ⟨x, ex⟩ : ∃ x, L.getD mid 0 = x := ⟨_, rfl⟩
          rw [ex] at c0 P hnw
          clear em ex hmid
          by_cases hpm : p ≤ mid
          · rw [if_pos hpm] at hnw
            rw [hnw] at P
            clear hnw
            have d0 : decide ((0 : Int) < (i : Int)) = true := by simp; omega
            have d1 : (0 : Int) < (i : Int) := by omega
            go_wp2_with fail
            refine P.out.mono ?_
            rintro e w2 ⟨u, rfl, ho, hb⟩
            obtain ⟨Au, cu, rfl⟩ := (Rd.of_own ho).form
            have HB2 := Lib.hid (below_on HBQ.out hb)
            clear ho hb
            go_wp2_with fail
            go_roundw
            case rel => exact ⟨lo, mid, rfl, by go_num, hlo, hpm, by omega, HB2.out⟩
            case measure => simp [intOf]; omega
          · rw [if_neg hpm] at hnw
            rw [hnw] at P
            clear hnw
            go_wp2_with fail
            refine P.out.mono ?_
            rintro e w2 ⟨u, rfl, ho, hb⟩
            obtain ⟨Au, cu, rfl⟩ := (Rd.of_own ho).form
            have HB2 := Lib.hid (below_on HBQ.out hb)
            clear ho hb
            go_wp2_with fail
            go_roundw
            case rel => exact ⟨mid + 1, hi, by go_num, rfl, by omega, hhi, hhZ, HB2.out⟩
            case measure => simp [intOf]; omega
        · obtain rfl : lo = p := by omega
          have c0 := HCELL.out _ HBQ.out lo (by omega)
          have P := Lib.hid (PW.out wr.drew (L.getD lo 0) (HOK.out lo (by omega)) (below_drewN HBA.out 1))
          have hcl : ∀ W : World, Below wr.drew.heap.size wr.drew W → W.cell? ⟨lb, lo, none⟩ = some (.int .i64 (L.getD lo 0)) := fun W hb => HCELL.out W (below_on (below_drewN HBQ.out 1) hb) lo (by omega)
          rw [HPE.out] at c0 P hcl
          have HCL := Lib.hid hcl
          have q0 : (0 : Int) ≤ (lo : Int) := by omega
          have q1 : (lo : Int) < (N : Int) := by omega
          obtain ⟨m, em⟩ : ∃ m, evM T i = m := ⟨_, rfl⟩
          have EM := Lib.hid em
          rw [em] at c0 P HCL HWE
          clear em hcl
          go_wp2_with fail
          refine wp_region_held_drew (S := fun W => W.cell? ⟨lb, lo, none⟩ = some (.int .i64 m)) (by kernel_rfl) c0 (fun hHeld => ?_)
          clear c0
          refine take_at (i := 0) (oi := _) 54 (v := .slice (some ⟨b, off, none⟩) i c) rfl rfl (by kernel_rfl) (by kernel_rfl) (by kernel_rfl) (fun _ _ _ h => h) (Or.inl ⟨by rfl, ?_⟩) hHeld ?_
          · (intro w hSw; (try dsimp only at hSw); go_split_ands; go_simp)
          simp only [List.setIfInBounds_toArray, List.set_cons_zero, List.set_cons_succ]
          refine take_at (i := 1) (oi := _) 55 (v := .slice (some ⟨lb, 0, none⟩) N co) rfl rfl (by kernel_rfl) (by kernel_rfl) (by kernel_rfl) (fun _ _ _ h => h) (Or.inl ⟨by rfl, ?_⟩) hHeld ?_
          · (intro w hSw; (try dsimp only at hSw); go_split_ands; go_simp)
          simp only [List.setIfInBounds_toArray, List.set_cons_zero, List.set_cons_succ]
          refine take_at (i := 2) (oi := _) 56 (v := .int .i64 (lo : Int)) rfl rfl (by kernel_rfl) (by kernel_rfl) (by kernel_rfl) (fun _ _ _ h => h) (Or.inl ⟨by rfl, ?_⟩) hHeld ?_
          · (intro w hSw; (try dsimp only at hSw); go_split_ands; go_simp)
          simp only [List.setIfInBounds_toArray, List.set_cons_zero, List.set_cons_succ]
          refine take_at (i := 3) (oi := _) 57 (v := .pointer (some ⟨lb, lo, none⟩)) rfl rfl (by kernel_rfl) (by kernel_rfl) (by kernel_rfl) (fun _ _ _ h => h) (Or.inl ⟨by rfl, ?_⟩) hHeld ?_
          · (intro w hSw; (try dsimp only at hSw); go_split_ands; go_simp)
          simp only [List.setIfInBounds_toArray, List.set_cons_zero, List.set_cons_succ]
          refine take_at (i := 4) (oi := _) 58 (v := .int .i64 m) rfl rfl (by kernel_rfl) (by kernel_rfl) (by kernel_rfl) (fun _ _ _ h => h) (Or.inl ⟨by rfl, ?_⟩) hHeld ?_
          · (intro w hSw; (try dsimp only at hSw); go_split_ands; go_simp)
          simp only [List.setIfInBounds_toArray, List.set_cons_zero, List.set_cons_succ]
          refine take_at (i := 6) (oi := _) 60 (v := .slice (some ⟨lb, 0, none⟩) N co) rfl rfl (by kernel_rfl) (by kernel_rfl) (by kernel_rfl) (fun _ _ _ h => h) (Or.inl ⟨by rfl, ?_⟩) hHeld ?_
          · (intro w hSw; (try dsimp only at hSw); go_split_ands; go_simp)
          simp only [List.setIfInBounds_toArray, List.set_cons_zero, List.set_cons_succ]
          refine take_at (i := 7) (oi := _) 61 (v := .int .i64 (lo : Int)) rfl rfl (by kernel_rfl) (by kernel_rfl) (by kernel_rfl) (fun _ _ _ h => h) (Or.inl ⟨by rfl, ?_⟩) hHeld ?_
          · (intro w hSw; (try dsimp only at hSw); go_split_ands; go_simp)
          simp only [List.setIfInBounds_toArray, List.set_cons_zero, List.set_cons_succ]
          refine take_at (i := 8) (oi := _) 62 (v := .pointer (some ⟨lb, lo, none⟩)) rfl rfl (by kernel_rfl) (by kernel_rfl) (by kernel_rfl) (fun _ _ _ h => h) (Or.inl ⟨by rfl, ?_⟩) hHeld ?_
          · (intro w hSw; (try dsimp only at hSw); go_split_ands; go_simp)
          simp only [List.setIfInBounds_toArray, List.set_cons_zero, List.set_cons_succ]
          refine take_at (i := 9) (oi := _) 63 (v := .int .i64 m) rfl rfl (by kernel_rfl) (by kernel_rfl) (by kernel_rfl) (fun _ _ _ h => h) (Or.inl ⟨by rfl, ?_⟩) hHeld ?_
          · (intro w hSw; (try dsimp only at hSw); go_split_ands; go_simp)
          simp only [List.setIfInBounds_toArray, List.set_cons_zero, List.set_cons_succ]
          refine wpAnyH_ready (rs := [5]) (by kernel_rfl) (by simp) ?_
          refine AllReadyH.cons (o := _) rfl (fun K9 hK => ?_) AllReadyH.nil
          go_simp
          refine P.out.mono ?_
          rintro e w2 ⟨u, rfl, ho, hb⟩
          have HB2 := Lib.hid (below_on (below_drewN HBA.out 1) hb)
          have HO2 := Lib.hid (own_base (base' := w.heap.size) ho (below_drewN HBA.out 1).size)
          refine hK.out _ _ (HCL.out _ hb) (fun hHeld => ?_)
          clear hK K9 ho hb
          try simp only [Act.put, List.setIfInBounds_toArray, List.set_cons_zero, List.set_cons_succ]
          refine wpAnyH_ready (rs := [10]) (by kernel_rfl) (by simp) ?_
          refine AllReadyH.cons (o := _) rfl (fun K9 hK => ?_) AllReadyH.nil
          go_simp
          refine hK.out _ _ hHeld (fun hHeld => ?_)
          clear hK K9
          try simp only [Act.put, List.setIfInBounds_toArray, List.set_cons_zero, List.set_cons_succ]
          refine wpAnyH_ready (rs := [11]) (by kernel_rfl) (by simp) ?_
          refine AllReadyH.cons (o := _) rfl (fun K9 hK => ?_) AllReadyH.nil
          go_simp
          refine hK.out _ _ hHeld (fun hHeld => ?_)
          clear hK K9
          try simp only [Act.put, List.setIfInBounds_toArray, List.set_cons_zero, List.set_cons_succ]
          refine wpAnyH_ready (rs := [12]) (by kernel_rfl) (by simp) ?_
          refine AllReadyH.cons (o := _) rfl (fun K9 hK => ?_) AllReadyH.nil
          go_simp
          refine hK.out _ _ hHeld (fun hHeld => ?_)
          clear hK K9
          try simp only [Act.put, List.setIfInBounds_toArray, List.set_cons_zero, List.set_cons_succ]
          refine wpAnyH_done (by kernel_rfl) ?_ _
          clear hHeld
          go_wp2_with fail
          go_ret3
          refine ⟨u, by rw [EM.out]; rfl, ?_, HB2.out⟩
          have := HO2.out
          rw [HWE.out.1, HWE.out.2] at this
          exact this
end Go.Proofs.Ytnlneblipedddaa

namespace Go.Proofs.Ytnlneblipedddaa
open Go.RowKit

set_option maxRecDepth 100000 in
set_option maxHeartbeats 4000000 in
theorem newTransition_own (v u q : Value) (B n m p : Nat) (xs ys ps : List Int) (c : Int) (w : World) (hv : Rd w B 2 v n xs) (hu : Rd w B 2 u m ys) (hq : Rd w B 1 q p ps) (hB : B ≤ w.heap.size) (hn : n ≤ 1000) (hm : m ≤ 1000) (hp : p ≤ 1000) (n0 : 0 < n) (m0 : 0 < m) (p0 : 0 < p) :
    Calls Try.prog 34 #[v, u, .int .i64 c, q] w fun e w' => ∃ r, e = .returned r ∧ OwnT w' w.heap.size w'.heap.size r ⟨n, xs, m, ys, c, p, ps⟩ ∧ Below w.heap.size w w' := by
  have hsz : (w.alloc (.cells #[.slice none 0 0, .slice none 0 0, .int .i64 0, .slice none 0 0] 29)).heap.size = w.heap.size + 1 := by simp
  have K0 := Lib.hid ((Blk.new w 29 #[.slice none 0 0, .slice none 0 0, .int .i64 0, .slice none 0 0]).alloc (.cells #[] 75))
  have HB0 := Lib.hid (below_new (below_new (Below.refl w.heap.size w) (.cells #[.slice none 0 0, .slice none 0 0, .int .i64 0, .slice none 0 0] 29)) (.cells #[] 75))
  have he := own_empty (w.alloc (.cells #[.slice none 0 0, .slice none 0 0, .int .i64 0, .slice none 0 0] 29)) 75 2
  rw [hsz] at he
  have HE := Lib.hid (own_base (base' := w.heap.size) he (by omega))
  have PV := Lib.hid (fun (W : World) (hb : Below w.heap.size w W) => part_of_rd hv n0 (hb.mono hB))
  have PU := Lib.hid (fun (W : World) (hb : Below w.heap.size w W) => part_of_rd hu m0 (hb.mono hB))
  have PQ := Lib.hid (fun (W : World) (hb : Below w.heap.size w W) => hq.below' hb hB)
  obtain ⟨A, ca, rfl⟩ := hv.form
  obtain ⟨C, cb, rfl⟩ := hu.form
  obtain ⟨D, cc, rfl⟩ := hq.form
  clear hv hu hq he hsz
  go_enter Try.func34, Try.ntmps34
  go_wp2_with (first
    | (at_builtin
       refine app_part rfl _ _ rfl w.heap.size _ 0 [] rfl HE.out _ n xs rfl (PV.out _ HB0.out) (by omega) HB0.out.size ?_
       intro v1 w1 hr1 hg1
       have hne1 := own_blk_ne HE.out K0.out (by decide)
       have K1 := Lib.hid ((K0.out.grown hg1 (fun e => hne1 e.symm)).alloc (.cells #[] 75))
       have hb1 := HB0.out.grown hg1 HB0.out.size (fun k hk => (HE.out.lt k hk).1)
       have o1 := own_cast hr1 (Nat.zero_add n) (List.nil_append xs).symm
       obtain ⟨A1, c1, rfl⟩ := (Rd.of_own o1).form
       have hl1 := o1.lt
       have O1 := Lib.hid (o1.alloc (.cells #[] 75))
       have HB1 := Lib.hid (below_new hb1 (.cells #[] 75))
       have HE2 := Lib.hid (own_empty w1 75 2)
       have HZ1 := Lib.hid hb1.size
       have HL1 := Lib.hid hl1
       clear hr1 hg1 o1 hb1 hl1 HE HB0 K0 hne1)
    | (at_builtin
       refine app_part rfl _ _ rfl w1.heap.size _ 0 [] rfl HE2.out _ m ys rfl (PU.out _ HB1.out) (by omega) (by simp) ?_
       intro v2 w2 hr2 hg2
       have hne2 := own_blk_ne HE2.out K1.out (by decide)
       have K2 := Lib.hid (K1.out.grown hg2 (fun e => hne2 e.symm))
       have hb2 := HB1.out.grown hg2 HB1.out.size (fun k hk => Nat.le_trans HZ1.out (HE2.out.lt k hk).1)
       have o12 := O1.out.kept hg2 (by
         cases hv : (Value.slice A1 n c1).ownBlock with
         | none => exact .inl rfl
         | some k =>
           refine .inr fun e => ?_
           have h1 := (HL1.out k hv).2
           have h2 : k = w1.heap.size := Option.some.inj e
           omega)
       have o2 := own_cast hr2 (Nat.zero_add m) (List.nil_append ys).symm
       obtain ⟨A2, c2, rfl⟩ := (Rd.of_own o2).form
       have O12 := Lib.hid o12
       have O2 := Lib.hid o2
       have HL2 := Lib.hid o2.lt
       have HZ2 := Lib.hid (show w1.heap.size ≤ w2.heap.size by have := hg2.size; simp at this; omega)
       have HB2 := Lib.hid hb2))
  have P3 := Lib.hid (copyInts_rd _ B p ps _ (PQ.out _ hb2) (Nat.le_trans hB hb2.size) p0 hp)
  clear hr2 hg2 o12 o2 hb2 HE2 HB1 K1 hne2 O1
  refine P3.out.mono ?_
  rintro e w4 ⟨u3, rfl, o3, b3⟩
  obtain ⟨A3, c3, rfl⟩ := (Rd.of_own o3).form
  have k3 := K2.out.on b3
  have O13 := Lib.hid (own_below O12.out b3 (Nat.le_refl _))
  have O23 := Lib.hid (own_below O2.out b3 (Nat.le_refl _))
  have O3 := Lib.hid o3
  have HZ3 := Lib.hid b3.size
  have HB3 := Lib.hid (below_on HB2.out b3)
  obtain ⟨f0, f1, f2, f3⟩ := k3.c4
  have g0 := k3.frozen 0
  have g1 := k3.frozen 1
  have g2 := k3.frozen 2
  have g3 := k3.frozen 3
  have K3 := Lib.hid k3
  clear o3 b3 K2 HB2 O12 O2 k3
  go_wp2_with fail
  obtain ⟨m0, m1, m2, m3⟩ := (blk_set4 K3.out (.slice A1 n c1) (.slice A2 m c2) (.int .i64 c) (.slice A3 p c3)).c4
  exact bodyPost_ret (v := .agg #[.slice A1 n c1, .slice A2 m c2, .int .i64 c, .slice A3 p c3]) (by simp [results, Try.results34, go_sem, m0, m1, m2, m3]) rfl
    ⟨_, rfl, ⟨_, _, _, w1.heap.size, w2.heap.size, rfl, HZ1.out, HZ2.out, by simp only [World.size_setCell]; exact HZ3.out, ⟨own_set4 O13.out K3.out (by decide) _ _ _ _, fun k hk => (HL1.out k hk).2⟩, ⟨own_set4 O23.out K3.out (by decide) _ _ _ _, fun k hk => (HL2.out k hk).2⟩, Own.of (own_set4 O3.out K3.out (by decide) _ _ _ _)⟩, below_set4 HB3.out (Nat.le_refl _) _ _ _ _⟩
end Go.Proofs.Ytnlneblipedddaa
