/- Contracts of a transition in new memory in the program, and of the swap of two places on both sides. Conditions: the transition is good, and its slices can be read. -/
import Derived.Test.YtjcepipgjpaclaaPFnSwaps28
import Derived.Test.YtjcepipgjpaclaaPFnSwaps20
import Derived.Test.YtjcepipgjpaclaaPFnSwaps03
import Derived.Test.YtjcepipgjpaclaaPFnSwaps12
namespace Go.Proofs.Ytjcepipgjpaclaa
open Go.RowKit

theorem part_of_rd {w W : World} {B sz n : Nat} {v : Value} {xs : List Int} (h : Rd w B sz v n xs) (hn : 0 < n) (hb : Below B w W) : Part W sz v n xs := by
  obtain ⟨hl, A, c, rfl, h⟩ := h
  obtain ⟨b, off, rfl, hbB, hc⟩ := h hn
  refine ⟨hl, .inr ⟨_, _, rfl, fun j hj => ?_⟩⟩
  rw [addAt]
  exact (hb.cell (p := ⟨b, off + j, none⟩) hbB).trans (hc j hj)
set_option maxHeartbeats 1000000 in
theorem copyInts_rd (v : Value) (B n : Nat) (xs : List Int) (w : World) (hv : Rd w B 1 v n xs) (hB : B ≤ w.heap.size) (hn0 : 0 < n) (hn : n ≤ 1000) :
    Calls Try.prog 137 #[v] w fun e w' => ∃ u, e = .returned u ∧ w'.ownsRow w.heap.size 3 1 u n (ints xs) ∧ Below w.heap.size w w' := by
  have HE := Lib.hid (show (w.alloc (.cells #[] 3)).ownsRow w.heap.size 3 1 (.slice (some ⟨w.heap.size, 0, none⟩) 0 0) 0 (ints []) from own_empty w 3 1)
  have HB := Lib.hid (below_new (Below.refl w.heap.size w) (.cells #[] 3))
  have HP := Lib.hid (part_of_rd hv hn0 (HB.out.mono hB))
  obtain ⟨A, c, rfl⟩ := hv.form
  clear hv
  go_enter Try.func137, Try.ntmps137
  go_wp2_with (at_builtin; refine wpList_plain rfl (fun _ hk => wp_intpart _ _ rfl w.heap.size _ 0 [] rfl HE.out _ n xs rfl HP.out (by omega) HB.out.size (fun v9 w9 hr9 hg9 => hk _ _ ?_)))
  have HB9 := Lib.hid (HB.out.grown hg9 HB.out.size (fun k hk => (HE.out.lt k hk).1))
  have HO9 := Lib.hid (own_cast hr9 (Nat.zero_add n) (List.nil_append xs).symm)
  clear hr9 hg9
  go_wp2_with fail
  go_ret
  exact ⟨_, rfl, HO9.out, HB9.out⟩
set_option maxRecDepth 100000 in
set_option maxHeartbeats 4000000 in
theorem newTransition_rd (v u q : Value) (B n m p : Nat) (xs ys ps : List Int) (c : Int) (w : World) (hv : Rd w B 2 v n xs) (hu : Rd w B 2 u m ys) (hq : Rd w B 1 q p ps) (hB : B ≤ w.heap.size) (hn : n ≤ 1000) (hm : m ≤ 1000) (hp : p ≤ 1000) (n0 : 0 < n) (m0 : 0 < m) (p0 : 0 < p) :
    Calls Try.prog 87 #[v, u, .int .i64 c, q] w fun e w' => ∃ r, e = .returned r ∧ OwnA w' w.heap.size r ⟨n, xs, m, ys, c, p, ps⟩ ∧ Below w.heap.size w w' := by
  have hsz : (w.alloc (.cells #[.slice none 0 0, .slice none 0 0, .int .i64 0, .slice none 0 0] 27)).heap.size = w.heap.size + 1 := by simp
  have K0 := Lib.hid ((Blk.new w 27 #[.slice none 0 0, .slice none 0 0, .int .i64 0, .slice none 0 0]).alloc (.cells #[] 45))
  have HB0 := Lib.hid (below_new (below_new (Below.refl w.heap.size w) (.cells #[.slice none 0 0, .slice none 0 0, .int .i64 0, .slice none 0 0] 27)) (.cells #[] 45))
  have he := own_empty (w.alloc (.cells #[.slice none 0 0, .slice none 0 0, .int .i64 0, .slice none 0 0] 27)) 45 2
  rw [hsz] at he
  have HE := Lib.hid (own_base (base' := w.heap.size) he (by omega))
  have PV := Lib.hid (fun (W : World) (hb : Below w.heap.size w W) => part_of_rd hv n0 (hb.mono hB))
  have PU := Lib.hid (fun (W : World) (hb : Below w.heap.size w W) => part_of_rd hu m0 (hb.mono hB))
  have PQ := Lib.hid (fun (W : World) (hb : Below w.heap.size w W) => hq.below' hb hB)
  obtain ⟨A, ca, rfl⟩ := hv.form
  obtain ⟨C, cb, rfl⟩ := hu.form
  obtain ⟨D, cc, rfl⟩ := hq.form
  clear hv hu hq he hsz
  go_enter Try.func87, Try.ntmps87
  go_wp2_with (first
    | (at_builtin
       refine app_part rfl _ _ rfl w.heap.size _ 0 [] rfl HE.out _ n xs rfl (PV.out _ HB0.out) (by omega) HB0.out.size ?_
       intro v1 w1 hr1 hg1
       have hne1 := own_blk_ne HE.out K0.out (by decide)
       have K1 := Lib.hid ((K0.out.grown hg1 (fun e => hne1 e.symm)).alloc (.cells #[] 45))
       have hb1 := HB0.out.grown hg1 HB0.out.size (fun k hk => (HE.out.lt k hk).1)
       have o1 := own_cast hr1 (Nat.zero_add n) (List.nil_append xs).symm
       obtain ⟨A1, c1, rfl⟩ := (Rd.of_own o1).form
       have hl1 := o1.lt
       have O1 := Lib.hid (o1.alloc (.cells #[] 45))
       have HB1 := Lib.hid (below_new hb1 (.cells #[] 45))
       have HE2 := Lib.hid (own_base (base' := w.heap.size) (own_empty w1 45 2) hb1.size)
       have HL1 := Lib.hid hl1
       clear hr1 hg1 o1 hb1 hl1 HE HB0 K0 hne1)
    | (at_builtin
       refine app_part rfl _ _ rfl w.heap.size _ 0 [] rfl HE2.out _ m ys rfl (PU.out _ HB1.out) (by omega) HB1.out.size ?_
       intro v2 w2 hr2 hg2
       have hne2 := own_blk_ne HE2.out K1.out (by decide)
       have K2 := Lib.hid (K1.out.grown hg2 (fun e => hne2 e.symm))
       have hb2 := HB1.out.grown hg2 HB1.out.size (fun k hk => (HE2.out.lt k hk).1)
       have o12 := O1.out.kept hg2 (by
         cases hv : (Value.slice A1 n c1).ownBlock with
         | none => exact .inl rfl
         | some k =>
           refine .inr fun e => ?_
           have h1 := (HL1.out k hv).2
           have h2 : k = w1.heap.size := Option.some.inj e
           omega)
       have o2 := own_cast hr2 (Nat.zero_add m) (List.nil_append ys).symm
       obtain ⟨A2, c2, rfl⟩ := (Rd.of_own o2).form
       have O12 := Lib.hid o12
       have O2 := Lib.hid o2
       have HB2 := Lib.hid hb2))
  have P3 := Lib.hid (copyInts_rd _ B p ps _ (PQ.out _ hb2) (Nat.le_trans hB hb2.size) p0 hp)
  clear hr2 hg2 o12 o2 hb2 HE2 HB1 K1 hne2 O1
  refine P3.out.mono ?_
  rintro e w4 ⟨u3, rfl, o3, b3⟩
  obtain ⟨A3, c3, rfl⟩ := (Rd.of_own o3).form
  have k3 := K2.out.on b3
  have O13 := Lib.hid (own_below O12.out b3 (Nat.le_refl _))
  have O23 := Lib.hid (own_below O2.out b3 (Nat.le_refl _))
  have O3 := Lib.hid (own_base (base' := w.heap.size) o3 HB2.out.size)
  have HB3 := Lib.hid (below_on HB2.out b3)
  obtain ⟨f0, f1, f2, f3⟩ := k3.c4
  have g0 := k3.frozen 0
  have g1 := k3.frozen 1
  have g2 := k3.frozen 2
  have g3 := k3.frozen 3
  have K3 := Lib.hid k3
  clear o3 b3 K2 HB2 O12 O2 k3
  go_wp2_with fail
  obtain ⟨m0, m1, m2, m3⟩ := (blk_set4 K3.out (.slice A1 n c1) (.slice A2 m c2) (.int .i64 c) (.slice A3 p c3)).c4
  exact bodyPost_ret (v := .agg #[.slice A1 n c1, .slice A2 m c2, .int .i64 c, .slice A3 p c3]) (by simp [results, Try.results87, go_sem, m0, m1, m2, m3]) rfl
    ⟨_, rfl, ⟨_, _, _, rfl, own_set4 O13.out K3.out (by decide) _ _ _ _, own_set4 O23.out K3.out (by decide) _ _ _ _, own_set4 O3.out K3.out (by decide) _ _ _ _⟩, below_set4 HB3.out (Nat.le_refl _) _ _ _ _⟩
theorem cell_far {W : World} {bu i : Nat} {v x : Value} {a : Addr} (h : W.cell? a = some x) (hne : a.block ≠ bu) : (W.setCell ⟨bu, i, none⟩ v).cell? a = some x :=
  (World.cell?_of_block (a := a) ((only_st W bu i v).block a.block (block_lt_of_cell h) (by omega))).trans h
theorem own_cellset {w : World} {lo b1 bu i sz n m c : Nat} {e : TypeId} {v : Value} {xs ys : List Value} {x : Value} (h : w.ownsRow lo e sz v n xs) (k : w.ownsRow b1 3 1 (.slice (some ⟨bu, 0, none⟩) m c) m ys) (hne : e ≠ 3) : (w.setCell ⟨bu, i, none⟩ x).ownsRow lo e sz v n xs := by
  refine own_kept h (only_st w bu i x) fun j hj => ?_
  rcases own_own_ne h k hne with h0 | h0
  · rw [h0] at hj; cases hj
  · have : j ≠ bu := fun e => h0 (by rw [hj, e]; rfl)
    omega
set_option maxRecDepth 100000 in
set_option maxHeartbeats 4000000 in
theorem asSwap_any (v : Value) (lo : Nat) (t : TrN) (i k : Nat) (w : World) (hv : OwnA w lo v t) (hok : TrOk t) (hi : i < t.n) (hk : k < t.n) :
    Calls Try.prog 110 #[v, .int .i64 (i : Int), .int .i64 (k : Int)] w fun e w' => ∃ r, e = .returned r ∧ OwnA w' w.heap.size r (swT t i k) ∧ Below w.heap.size w w' := by
  have n0 := hok.n0
  have n1 := hok.n1
  have hmE := hok.m
  have hpE := hok.p
  obtain ⟨A, ca, C, cb, D, cc, rfl, ha, hb, hc⟩ := hv.form
  have hpl : t.ps.length = t.n := by have := hc.1; rw [ints_length] at this; omega
  rw [hmE] at hb ⊢
  rw [hpE] at hc ⊢
  have hsw : swT t i k = ⟨t.n, t.xs, t.n, t.ys, t.c, t.n, (t.ps.set i (t.ps.getD k 0)).set k (t.ps.getD i 0)⟩ := by simp [swT, hmE, hpE]
  have HSW := Lib.hid hsw
  obtain ⟨bD, cD, eD, hbD0, hbD⟩ : ∃ b c, Value.slice D t.n cc = .slice (some ⟨b, 0, none⟩) t.n c ∧ lo ≤ b ∧ b < w.heap.size := by
    have hl := hc.lt
    rcases hc.2 with ⟨h1, h0⟩ | ⟨g, cap, cur, h1, _⟩
    · exact absurd h0 (by omega)
    · exact ⟨g, cap, h1, hl g (by rw [h1]; rfl)⟩
  simp only [Value.slice.injEq, true_and] at eD
  obtain ⟨rfl, rfl⟩ := eD
  have HCI := Lib.hid (fun (V : World) (h : Below w.heap.size w V) (j : Nat) (hj : j < t.n) => ((h.cell (p := ⟨bD, j, none⟩) hbD).trans ((hc.cellAt j (by omega)).trans (ints_get t.ps j (by omega))) : V.cell? ⟨bD, j, none⟩ = some (.int .i64 (t.ps.getD j 0))))
  obtain ⟨pk, epk⟩ : ∃ q, t.ps.getD k 0 = q := ⟨_, rfl⟩
  obtain ⟨pi, epi⟩ : ∃ q, t.ps.getD i 0 = q := ⟨_, rfl⟩
  have HPK := Lib.hid epk
  have HPI := Lib.hid epi
  rw [epk, epi] at HSW
  have K0 := Lib.hid ((Blk.new w 27 #[.slice A t.n ca, .slice C t.n cb, .int .i64 t.c, .slice (some ⟨bD, 0, none⟩) t.n cc]).alloc (.cells #[.slice none 0 0, .slice none 0 0, .int .i64 0, .slice none 0 0] 27))
  have KR := Lib.hid (Blk.new2 w (.cells #[.slice A t.n ca, .slice C t.n cb, .int .i64 t.c, .slice (some ⟨bD, 0, none⟩) t.n cc] 27) 27 #[.slice none 0 0, .slice none 0 0, .int .i64 0, .slice none 0 0])
  have HB0 := Lib.hid (below_new (below_new (Below.refl w.heap.size w) (.cells #[.slice A t.n ca, .slice C t.n cb, .int .i64 t.c, .slice (some ⟨bD, 0, none⟩) t.n cc] 27)) (.cells #[.slice none 0 0, .slice none 0 0, .int .i64 0, .slice none 0 0] 27))
  have i0 : (0 : Int) ≤ (i : Int) := by omega
  have i1 : (i : Int) < (t.n : Int) := by omega
  have k0 : (0 : Int) ≤ (k : Int) := by omega
  have k1 : (k : Int) < (t.n : Int) := by omega
  obtain ⟨a0, a1, a2, a3⟩ := K0.out.c4
  have P := Lib.hid (asWith_any _ _ _ lo lo t.n t.n t.n t.xs t.ys t.ps t.c _ ((ha.alloc (.cells #[.slice A t.n ca, .slice C t.n cb, .int .i64 t.c, .slice (some ⟨bD, 0, none⟩) t.n cc] 27)).alloc (.cells #[.slice none 0 0, .slice none 0 0, .int .i64 0, .slice none 0 0] 27)) ((hb.alloc (.cells #[.slice A t.n ca, .slice C t.n cb, .int .i64 t.c, .slice (some ⟨bD, 0, none⟩) t.n cc] 27)).alloc (.cells #[.slice none 0 0, .slice none 0 0, .int .i64 0, .slice none 0 0] 27)) ((hc.alloc (.cells #[.slice A t.n ca, .slice C t.n cb, .int .i64 t.c, .slice (some ⟨bD, 0, none⟩) t.n cc] 27)).alloc (.cells #[.slice none 0 0, .slice none 0 0, .int .i64 0, .slice none 0 0] 27)) (by omega) (by omega) (by omega))
  clear hv ha hb hc hsw epk epi hmE hpE hpl hok
  go_enter Try.func110, Try.ntmps110
  go_wp2_with fail
  refine P.out.mono ?_
  rintro e w2 ⟨r, rfl, oa, hb2⟩
  have hz2 := HB0.out.size
  have hzz : ((w.alloc (.cells #[.slice A t.n ca, .slice C t.n cb, .int .i64 t.c, .slice (some ⟨bD, 0, none⟩) t.n cc] 27)).alloc (.cells #[.slice none 0 0, .slice none 0 0, .int .i64 0, .slice none 0 0] 27)).heap.size = w.heap.size + 2 := by simp
  obtain ⟨A1, c1, A2, c2, A3, c3, rfl, o1, o2, o3⟩ := oa.form
  simp only at o1 o2 o3
  rw [hzz] at o1 o2 o3
  obtain ⟨bu, cu, eu, hbu0, hbu⟩ : ∃ b c, Value.slice A3 t.n c3 = .slice (some ⟨b, 0, none⟩) t.n c ∧ w.heap.size + 2 ≤ b ∧ b < w2.heap.size := by
    have hl := o3.lt
    rcases o3.2 with ⟨h1, h0⟩ | ⟨g, cap, cur, h1, _⟩
    · exact absurd h0 (by omega)
    · exact ⟨g, cap, h1, hl g (by rw [h1]; rfl)⟩
  simp only [Value.slice.injEq, true_and] at eu
  obtain ⟨rfl, rfl⟩ := eu
  replace K0 := Lib.hid ((K0.out.on hb2).alloc (.cells #[.slice A1 t.n c1, .slice A2 t.n c2, .int .i64 t.c, .slice (some ⟨bu, 0, none⟩) t.n c3] 27))
  replace KR := Lib.hid ((KR.out.on hb2).alloc (.cells #[.slice A1 t.n c1, .slice A2 t.n c2, .int .i64 t.c, .slice (some ⟨bu, 0, none⟩) t.n c3] 27))
  have K7 := Lib.hid (Blk.new w2 27 #[.slice A1 t.n c1, .slice A2 t.n c2, .int .i64 t.c, .slice (some ⟨bu, 0, none⟩) t.n c3])
  have HB1 := Lib.hid (below_new (below_on HB0.out hb2) (.cells #[.slice A1 t.n c1, .slice A2 t.n c2, .int .i64 t.c, .slice (some ⟨bu, 0, none⟩) t.n c3] 27))
  have O1 := Lib.hid (o1.alloc (.cells #[.slice A1 t.n c1, .slice A2 t.n c2, .int .i64 t.c, .slice (some ⟨bu, 0, none⟩) t.n c3] 27))
  have O2 := Lib.hid (o2.alloc (.cells #[.slice A1 t.n c1, .slice A2 t.n c2, .int .i64 t.c, .slice (some ⟨bu, 0, none⟩) t.n c3] 27))
  have O3 := Lib.hid (o3.alloc (.cells #[.slice A1 t.n c1, .slice A2 t.n c2, .int .i64 t.c, .slice (some ⟨bu, 0, none⟩) t.n c3] 27))
  clear a0 a1 a2 a3 o1 o2 o3 oa hz2 hzz HB0 hb2
  go_wp2_with fail
  replace K0 := Lib.hid (K0.out.drewN 1)
  replace KR := Lib.hid (KR.out.drewN 1)
  replace K7 := Lib.hid (K7.out.drewN 1)
  replace HB1 := Lib.hid (below_drewN HB1.out 1)
  replace O1 := Lib.hid (own_drewN O1.out 1)
  replace O2 := Lib.hid (own_drewN O2.out 1)
  replace O3 := Lib.hid (own_drewN O3.out 1)
  obtain ⟨-, -, -, z0⟩ := K7.out.c4
  obtain ⟨-, -, -, z1⟩ := K0.out.c4
  have z2 := HCI.out _ HB1.out k hk
  rw [HPK.out] at z2
  refine wp_region_held_drew (S := fun W => W.cell? ⟨w2.heap.size, 3, none⟩ = some (.slice (some ⟨bu, 0, none⟩) t.n c3) ∧ W.cell? ⟨w.heap.size, 3, none⟩ = some (.slice (some ⟨bD, 0, none⟩) t.n cc) ∧ W.cell? ⟨bD, k, none⟩ = some (.int .i64 pk)) (by kernel_rfl) ⟨z0, z1, z2⟩ (fun hHeld => ?_)
  clear z0 z1 z2
  have eV1 : ∀ Z : World, Z.drewN 1 = Z.drew := fun _ => rfl
  rw [eV1] at K0 KR K7 HB1 O1 O2 O3 
  obtain ⟨V, eV⟩ : ∃ V0 : World, (w2.alloc (.cells #[.slice A1 t.n c1, .slice A2 t.n c2, .int .i64 t.c, .slice (some ⟨bu, 0, none⟩) t.n c3] 27)).drew = V0 := ⟨_, rfl⟩
  rw [eV] at K0 KR K7 HB1 O1 O2 O3 hHeld  ⊢
  clear eV eV1
  refine take_at (i := 0) (oi := _) 17 (v := .pointer (some ⟨w2.heap.size, 3, none⟩)) rfl rfl (by kernel_rfl) (by kernel_rfl) (by kernel_rfl) (fun _ _ _ h => h) (Or.inl ⟨by rfl, ?_⟩) hHeld ?_
  · (intro w hSw; (try dsimp only at hSw); go_split_ands; go_simp)
  simp only [List.setIfInBounds_toArray, List.set_cons_zero, List.set_cons_succ]
  refine take_at (i := 1) (oi := _) 18 (v := .slice (some ⟨bu, 0, none⟩) t.n c3) rfl rfl (by kernel_rfl) (by kernel_rfl) (by kernel_rfl) (fun _ _ _ h => h) (Or.inl ⟨by rfl, ?_⟩) hHeld ?_
  · (intro w hSw; (try dsimp only at hSw); go_split_ands; go_simp)
  simp only [List.setIfInBounds_toArray, List.set_cons_zero, List.set_cons_succ]
  refine take_at (i := 2) (oi := _) 19 (v := .int .i64 (i : Int)) rfl rfl (by kernel_rfl) (by kernel_rfl) (by kernel_rfl) (fun _ _ _ h => h) (Or.inl ⟨by rfl, ?_⟩) hHeld ?_
  · (intro w hSw; (try dsimp only at hSw); go_split_ands; go_simp)
  simp only [List.setIfInBounds_toArray, List.set_cons_zero, List.set_cons_succ]
  refine take_at (i := 3) (oi := _) 20 (v := .pointer (some ⟨w.heap.size, 3, none⟩)) rfl rfl (by kernel_rfl) (by kernel_rfl) (by kernel_rfl) (fun _ _ _ h => h) (Or.inl ⟨by rfl, ?_⟩) hHeld ?_
  · (intro w hSw; (try dsimp only at hSw); go_split_ands; go_simp)
  simp only [List.setIfInBounds_toArray, List.set_cons_zero, List.set_cons_succ]
  refine take_at (i := 4) (oi := _) 21 (v := .slice (some ⟨bD, 0, none⟩) t.n cc) rfl rfl (by kernel_rfl) (by kernel_rfl) (by kernel_rfl) (fun _ _ _ h => h) (Or.inl ⟨by rfl, ?_⟩) hHeld ?_
  · (intro w hSw; (try dsimp only at hSw); go_split_ands; go_simp)
  simp only [List.setIfInBounds_toArray, List.set_cons_zero, List.set_cons_succ]
  refine take_at (i := 5) (oi := _) 22 (v := .int .i64 (k : Int)) rfl rfl (by kernel_rfl) (by kernel_rfl) (by kernel_rfl) (fun _ _ _ h => h) (Or.inl ⟨by rfl, ?_⟩) hHeld ?_
  · (intro w hSw; (try dsimp only at hSw); go_split_ands; go_simp)
  simp only [List.setIfInBounds_toArray, List.set_cons_zero, List.set_cons_succ]
  refine take_at (i := 6) (oi := _) 23 (v := .pointer (some ⟨bD, k, none⟩)) rfl rfl (by kernel_rfl) (by kernel_rfl) (by kernel_rfl) (fun _ _ _ h => h) (Or.inl ⟨by rfl, ?_⟩) hHeld ?_
  · (intro w hSw; (try dsimp only at hSw); go_split_ands; go_simp)
  simp only [List.setIfInBounds_toArray, List.set_cons_zero, List.set_cons_succ]
  refine take_at (i := 7) (oi := _) 24 (v := .int .i64 pk) rfl rfl (by kernel_rfl) (by kernel_rfl) (by kernel_rfl) (fun _ _ _ h => h) (Or.inl ⟨by rfl, ?_⟩) hHeld ?_
  · (intro w hSw; (try dsimp only at hSw); go_split_ands; go_simp)
  simp only [List.setIfInBounds_toArray, List.set_cons_zero, List.set_cons_succ]
  refine take_at (i := 8) (oi := _) 25 (v := .pointer (some ⟨bu, i, none⟩)) rfl rfl (by kernel_rfl) (by kernel_rfl) (by kernel_rfl) (fun _ _ _ h => h) (Or.inl ⟨by rfl, ?_⟩) hHeld ?_
  · (intro w hSw; (try dsimp only at hSw); go_split_ands; go_simp)
  simp only [List.setIfInBounds_toArray, List.set_cons_zero, List.set_cons_succ]
  have f0 := O3.out.frozenAt i
  have d0 := (O3.out.cellAt i (by omega)).trans (ints_get _ i (by have := O3.out.1; rw [ints_length] at this; omega))
  have hst := (O3.out.stored i (.int .i64 pk)).1
  rw [ints_set] at hst
  replace K0 := Lib.hid (K0.out.far (p := ⟨bu, i, none⟩) (by show w.heap.size ≠ bu; omega) (.int .i64 pk))
  replace KR := Lib.hid (KR.out.far (p := ⟨bu, i, none⟩) (by show w.heap.size + 1 ≠ bu; omega) (.int .i64 pk))
  replace K7 := Lib.hid (K7.out.far (p := ⟨bu, i, none⟩) (by show w2.heap.size ≠ bu; omega) (.int .i64 pk))
  replace HB1 := Lib.hid (HB1.out.setCell (p := ⟨bu, i, none⟩) (by show w.heap.size ≤ bu; omega) (.int .i64 pk))
  replace O1 := Lib.hid (own_cellset (i := i) (x := .int .i64 pk) O1.out O3.out (by decide))
  replace O2 := Lib.hid (own_cellset (i := i) (x := .int .i64 pk) O2.out O3.out (by decide))
  replace O3 := Lib.hid hst
  clear hst
  refine wpAnyH_ready (rs := [9]) (by kernel_rfl) (by simp) ?_
  refine AllReadyH.cons (o := _) rfl (fun K9 hK => ?_) AllReadyH.nil
  go_simp
  obtain ⟨h0, h1, h2⟩ := hHeld
  refine hK.out _ _ ⟨cell_far h0 (by show w2.heap.size ≠ bu; omega), cell_far h1 (by show w.heap.size ≠ bu; omega), cell_far h2 (by show bD ≠ bu; omega)⟩ (fun hHeld => ?_)
  clear hK K9 h0 h1 h2 f0 d0
  try simp only [Act.put, List.setIfInBounds_toArray, List.set_cons_zero, List.set_cons_succ]
  refine wpAnyH_done (by kernel_rfl) ?_ _
  clear hHeld
  obtain ⟨V, eV⟩ : ∃ V0 : World, (V.setCell ⟨bu, i, none⟩ (.int .i64 pk)) = V0 := ⟨_, rfl⟩
  rw [eV] at K0 KR K7 HB1 O1 O2 O3  ⊢
  clear eV
  go_wp2_with fail
  replace K0 := Lib.hid (K0.out.drewN 1)
  replace KR := Lib.hid (KR.out.drewN 1)
  replace K7 := Lib.hid (K7.out.drewN 1)
  replace HB1 := Lib.hid (below_drewN HB1.out 1)
  replace O1 := Lib.hid (own_drewN O1.out 1)
  replace O2 := Lib.hid (own_drewN O2.out 1)
  replace O3 := Lib.hid (own_drewN O3.out 1)
  obtain ⟨-, -, -, z0⟩ := K7.out.c4
  obtain ⟨-, -, -, z1⟩ := K0.out.c4
  have z2 := HCI.out _ HB1.out i hi
  rw [HPI.out] at z2
  refine wp_region_held_drew (S := fun W => W.cell? ⟨w2.heap.size, 3, none⟩ = some (.slice (some ⟨bu, 0, none⟩) t.n c3) ∧ W.cell? ⟨w.heap.size, 3, none⟩ = some (.slice (some ⟨bD, 0, none⟩) t.n cc) ∧ W.cell? ⟨bD, i, none⟩ = some (.int .i64 pi)) (by kernel_rfl) ⟨z0, z1, z2⟩ (fun hHeld => ?_)
  clear z0 z1 z2
  have eV1 : ∀ Z : World, Z.drewN 1 = Z.drew := fun _ => rfl
  rw [eV1] at K0 KR K7 HB1 O1 O2 O3 
  obtain ⟨V, eV⟩ : ∃ V0 : World, V.drew = V0 := ⟨_, rfl⟩
  rw [eV] at K0 KR K7 HB1 O1 O2 O3 hHeld  ⊢
  clear eV eV1
  refine take_at (i := 0) (oi := _) 26 (v := .pointer (some ⟨w2.heap.size, 3, none⟩)) rfl rfl (by kernel_rfl) (by kernel_rfl) (by kernel_rfl) (fun _ _ _ h => h) (Or.inl ⟨by rfl, ?_⟩) hHeld ?_
  · (intro w hSw; (try dsimp only at hSw); go_split_ands; go_simp)
  simp only [List.setIfInBounds_toArray, List.set_cons_zero, List.set_cons_succ]
  refine take_at (i := 1) (oi := _) 27 (v := .slice (some ⟨bu, 0, none⟩) t.n c3) rfl rfl (by kernel_rfl) (by kernel_rfl) (by kernel_rfl) (fun _ _ _ h => h) (Or.inl ⟨by rfl, ?_⟩) hHeld ?_
  · (intro w hSw; (try dsimp only at hSw); go_split_ands; go_simp)
  simp only [List.setIfInBounds_toArray, List.set_cons_zero, List.set_cons_succ]
  refine take_at (i := 2) (oi := _) 28 (v := .int .i64 (k : Int)) rfl rfl (by kernel_rfl) (by kernel_rfl) (by kernel_rfl) (fun _ _ _ h => h) (Or.inl ⟨by rfl, ?_⟩) hHeld ?_
  · (intro w hSw; (try dsimp only at hSw); go_split_ands; go_simp)
  simp only [List.setIfInBounds_toArray, List.set_cons_zero, List.set_cons_succ]
  refine take_at (i := 3) (oi := _) 29 (v := .pointer (some ⟨w.heap.size, 3, none⟩)) rfl rfl (by kernel_rfl) (by kernel_rfl) (by kernel_rfl) (fun _ _ _ h => h) (Or.inl ⟨by rfl, ?_⟩) hHeld ?_
  · (intro w hSw; (try dsimp only at hSw); go_split_ands; go_simp)
  simp only [List.setIfInBounds_toArray, List.set_cons_zero, List.set_cons_succ]
  refine take_at (i := 4) (oi := _) 30 (v := .slice (some ⟨bD, 0, none⟩) t.n cc) rfl rfl (by kernel_rfl) (by kernel_rfl) (by kernel_rfl) (fun _ _ _ h => h) (Or.inl ⟨by rfl, ?_⟩) hHeld ?_
  · (intro w hSw; (try dsimp only at hSw); go_split_ands; go_simp)
  simp only [List.setIfInBounds_toArray, List.set_cons_zero, List.set_cons_succ]
  refine take_at (i := 5) (oi := _) 31 (v := .int .i64 (i : Int)) rfl rfl (by kernel_rfl) (by kernel_rfl) (by kernel_rfl) (fun _ _ _ h => h) (Or.inl ⟨by rfl, ?_⟩) hHeld ?_
  · (intro w hSw; (try dsimp only at hSw); go_split_ands; go_simp)
  simp only [List.setIfInBounds_toArray, List.set_cons_zero, List.set_cons_succ]
  refine take_at (i := 6) (oi := _) 32 (v := .pointer (some ⟨bD, i, none⟩)) rfl rfl (by kernel_rfl) (by kernel_rfl) (by kernel_rfl) (fun _ _ _ h => h) (Or.inl ⟨by rfl, ?_⟩) hHeld ?_
  · (intro w hSw; (try dsimp only at hSw); go_split_ands; go_simp)
  simp only [List.setIfInBounds_toArray, List.set_cons_zero, List.set_cons_succ]
  refine take_at (i := 7) (oi := _) 33 (v := .int .i64 pi) rfl rfl (by kernel_rfl) (by kernel_rfl) (by kernel_rfl) (fun _ _ _ h => h) (Or.inl ⟨by rfl, ?_⟩) hHeld ?_
  · (intro w hSw; (try dsimp only at hSw); go_split_ands; go_simp)
  simp only [List.setIfInBounds_toArray, List.set_cons_zero, List.set_cons_succ]
  refine take_at (i := 8) (oi := _) 34 (v := .pointer (some ⟨bu, k, none⟩)) rfl rfl (by kernel_rfl) (by kernel_rfl) (by kernel_rfl) (fun _ _ _ h => h) (Or.inl ⟨by rfl, ?_⟩) hHeld ?_
  · (intro w hSw; (try dsimp only at hSw); go_split_ands; go_simp)
  simp only [List.setIfInBounds_toArray, List.set_cons_zero, List.set_cons_succ]
  have f0 := O3.out.frozenAt k
  have d0 := (O3.out.cellAt k (by omega)).trans (ints_get _ k (by have := O3.out.1; rw [ints_length] at this; omega))
  have hst := (O3.out.stored k (.int .i64 pi)).1
  rw [ints_set] at hst
  replace K0 := Lib.hid (K0.out.far (p := ⟨bu, k, none⟩) (by show w.heap.size ≠ bu; omega) (.int .i64 pi))
  replace KR := Lib.hid (KR.out.far (p := ⟨bu, k, none⟩) (by show w.heap.size + 1 ≠ bu; omega) (.int .i64 pi))
  replace K7 := Lib.hid (K7.out.far (p := ⟨bu, k, none⟩) (by show w2.heap.size ≠ bu; omega) (.int .i64 pi))
  replace HB1 := Lib.hid (HB1.out.setCell (p := ⟨bu, k, none⟩) (by show w.heap.size ≤ bu; omega) (.int .i64 pi))
  replace O1 := Lib.hid (own_cellset (i := k) (x := .int .i64 pi) O1.out O3.out (by decide))
  replace O2 := Lib.hid (own_cellset (i := k) (x := .int .i64 pi) O2.out O3.out (by decide))
  replace O3 := Lib.hid hst
  clear hst
  refine wpAnyH_ready (rs := [9]) (by kernel_rfl) (by simp) ?_
  refine AllReadyH.cons (o := _) rfl (fun K9 hK => ?_) AllReadyH.nil
  go_simp
  obtain ⟨h0, h1, h2⟩ := hHeld
  refine hK.out _ _ ⟨cell_far h0 (by show w2.heap.size ≠ bu; omega), cell_far h1 (by show w.heap.size ≠ bu; omega), cell_far h2 (by show bD ≠ bu; omega)⟩ (fun hHeld => ?_)
  clear hK K9 h0 h1 h2 f0 d0
  try simp only [Act.put, List.setIfInBounds_toArray, List.set_cons_zero, List.set_cons_succ]
  refine wpAnyH_done (by kernel_rfl) ?_ _
  clear hHeld
  obtain ⟨V, eV⟩ : ∃ V0 : World, (V.setCell ⟨bu, k, none⟩ (.int .i64 pi)) = V0 := ⟨_, rfl⟩
  rw [eV] at K0 KR K7 HB1 O1 O2 O3  ⊢
  clear eV
  obtain ⟨a0, a1, a2, a3⟩ := K7.out.c4
  obtain ⟨r0, r1, r2, r3⟩ := KR.out.c4
  have f0 := KR.out.frozen 0
  have f1 := KR.out.frozen 1
  have f2 := KR.out.frozen 2
  have f3 := KR.out.frozen 3
  have Q1 := Lib.hid (own_set4 O1.out KR.out (by decide) (.slice A1 t.n c1) (.slice A2 t.n c2) (.int .i64 t.c) (.slice (some ⟨bu, 0, none⟩) t.n c3))
  have Q2 := Lib.hid (own_set4 O2.out KR.out (by decide) (.slice A1 t.n c1) (.slice A2 t.n c2) (.int .i64 t.c) (.slice (some ⟨bu, 0, none⟩) t.n c3))
  have Q3 := Lib.hid (own_set4 O3.out KR.out (by decide) (.slice A1 t.n c1) (.slice A2 t.n c2) (.int .i64 t.c) (.slice (some ⟨bu, 0, none⟩) t.n c3))
  have HB9 := Lib.hid (below_set4 HB1.out (show w.heap.size ≤ w.heap.size + 1 by omega) (.slice A1 t.n c1) (.slice A2 t.n c2) (.int .i64 t.c) (.slice (some ⟨bu, 0, none⟩) t.n c3))
  have KS := Lib.hid (blk_set4 KR.out (.slice A1 t.n c1) (.slice A2 t.n c2) (.int .i64 t.c) (.slice (some ⟨bu, 0, none⟩) t.n c3))
  go_wp2_with fail
  obtain ⟨m0, m1, m2, m3⟩ := KS.out.c4
  exact bodyPost_ret (v := .agg #[.slice A1 t.n c1, .slice A2 t.n c2, .int .i64 t.c, .slice (some ⟨bu, 0, none⟩) t.n c3]) (by simp [results, Try.results110, go_sem, m0, m1, m2, m3]) rfl
    ⟨_, rfl, by rw [HSW.out]; exact ⟨_, _, _, rfl, own_base Q1.out (by omega), own_base Q2.out (by omega), own_base Q3.out (by omega)⟩, HB9.out⟩
set_option maxRecDepth 100000 in
set_option maxHeartbeats 4000000 in
theorem swapPlaces_any (v : Value) (lo : Nat) (t : TrN) (i k : Nat) (w : World) (hv : OwnA w lo v t) (hok : TrOk t) (hi : i < t.n) (hk : k < t.n) :
    Calls Try.prog 101 #[v, .int .i64 (i : Int), .int .i64 (k : Int)] w fun e w' => ∃ r, e = .returned r ∧ OwnA w' w.heap.size r (swT t i k) ∧ Below w.heap.size w w' := by
  have n0 := hok.n0
  have n1 := hok.n1
  have hmE := hok.m
  have hpE := hok.p
  obtain ⟨A, ca, C, cb, D, cc, rfl, ha, hb, hc⟩ := hv.form
  have hpl : t.ps.length = t.n := by have := hc.1; rw [ints_length] at this; omega
  rw [hmE] at hb ⊢
  rw [hpE] at hc ⊢
  have hsw : swT t i k = ⟨t.n, t.xs, t.n, t.ys, t.c, t.n, (t.ps.set i (t.ps.getD k 0)).set k (t.ps.getD i 0)⟩ := by simp [swT, hmE, hpE]
  have HSW := Lib.hid hsw
  obtain ⟨bD, cD, eD, hbD0, hbD⟩ : ∃ b c, Value.slice D t.n cc = .slice (some ⟨b, 0, none⟩) t.n c ∧ lo ≤ b ∧ b < w.heap.size := by
    have hl := hc.lt
    rcases hc.2 with ⟨h1, h0⟩ | ⟨g, cap, cur, h1, _⟩
    · exact absurd h0 (by omega)
    · exact ⟨g, cap, h1, hl g (by rw [h1]; rfl)⟩
  simp only [Value.slice.injEq, true_and] at eD
  obtain ⟨rfl, rfl⟩ := eD
  have HCI := Lib.hid (fun (V : World) (h : Below w.heap.size w V) (j : Nat) (hj : j < t.n) => ((h.cell (p := ⟨bD, j, none⟩) hbD).trans ((hc.cellAt j (by omega)).trans (ints_get t.ps j (by omega))) : V.cell? ⟨bD, j, none⟩ = some (.int .i64 (t.ps.getD j 0))))
  obtain ⟨pk, epk⟩ : ∃ q, t.ps.getD k 0 = q := ⟨_, rfl⟩
  obtain ⟨pi, epi⟩ : ∃ q, t.ps.getD i 0 = q := ⟨_, rfl⟩
  have HPK := Lib.hid epk
  have HPI := Lib.hid epi
  rw [epk, epi] at HSW
  have K0 := Lib.hid ((Blk.new w 27 #[.slice A t.n ca, .slice C t.n cb, .int .i64 t.c, .slice (some ⟨bD, 0, none⟩) t.n cc]).alloc (.cells #[.slice none 0 0, .slice none 0 0, .int .i64 0, .slice none 0 0] 27))
  have KR := Lib.hid (Blk.new2 w (.cells #[.slice A t.n ca, .slice C t.n cb, .int .i64 t.c, .slice (some ⟨bD, 0, none⟩) t.n cc] 27) 27 #[.slice none 0 0, .slice none 0 0, .int .i64 0, .slice none 0 0])
  have HB0 := Lib.hid (below_new (below_new (Below.refl w.heap.size w) (.cells #[.slice A t.n ca, .slice C t.n cb, .int .i64 t.c, .slice (some ⟨bD, 0, none⟩) t.n cc] 27)) (.cells #[.slice none 0 0, .slice none 0 0, .int .i64 0, .slice none 0 0] 27))
  have i0 : (0 : Int) ≤ (i : Int) := by omega
  have i1 : (i : Int) < (t.n : Int) := by omega
  have k0 : (0 : Int) ≤ (k : Int) := by omega
  have k1 : (k : Int) < (t.n : Int) := by omega
  obtain ⟨a0, a1, a2, a3⟩ := K0.out.c4
  have P := Lib.hid (newTransition_rd _ _ _ w.heap.size t.n t.n t.n t.xs t.ys t.ps t.c _ ((Rd.of_own ha).below' HB0.out (Nat.le_refl _)) ((Rd.of_own hb).below' HB0.out (Nat.le_refl _)) ((Rd.of_own hc).below' HB0.out (Nat.le_refl _)) HB0.out.size (by omega) (by omega) (by omega) (by omega) (by omega) (by omega))
  clear hv ha hb hc hsw epk epi hmE hpE hok
  go_enter Try.func101, Try.ntmps101
  go_wp2_with fail
  refine P.out.mono ?_
  rintro e w2 ⟨r, rfl, oa, hb2⟩
  have hz2 := HB0.out.size
  have hzz : ((w.alloc (.cells #[.slice A t.n ca, .slice C t.n cb, .int .i64 t.c, .slice (some ⟨bD, 0, none⟩) t.n cc] 27)).alloc (.cells #[.slice none 0 0, .slice none 0 0, .int .i64 0, .slice none 0 0] 27)).heap.size = w.heap.size + 2 := by simp
  obtain ⟨A1, c1, A2, c2, A3, c3, rfl, o1, o2, o3⟩ := oa.form
  simp only at o1 o2 o3
  rw [hzz] at o1 o2 o3
  obtain ⟨bu, cu, eu, hbu0, hbu⟩ : ∃ b c, Value.slice A3 t.n c3 = .slice (some ⟨b, 0, none⟩) t.n c ∧ w.heap.size + 2 ≤ b ∧ b < w2.heap.size := by
    have hl := o3.lt
    rcases o3.2 with ⟨h1, h0⟩ | ⟨g, cap, cur, h1, _⟩
    · exact absurd h0 (by omega)
    · exact ⟨g, cap, h1, hl g (by rw [h1]; rfl)⟩
  simp only [Value.slice.injEq, true_and] at eu
  obtain ⟨rfl, rfl⟩ := eu
  replace K0 := Lib.hid ((K0.out.on hb2).alloc (.cells #[.slice A1 t.n c1, .slice A2 t.n c2, .int .i64 t.c, .slice (some ⟨bu, 0, none⟩) t.n c3] 27))
  replace KR := Lib.hid ((KR.out.on hb2).alloc (.cells #[.slice A1 t.n c1, .slice A2 t.n c2, .int .i64 t.c, .slice (some ⟨bu, 0, none⟩) t.n c3] 27))
  have K7 := Lib.hid (Blk.new w2 27 #[.slice A1 t.n c1, .slice A2 t.n c2, .int .i64 t.c, .slice (some ⟨bu, 0, none⟩) t.n c3])
  have HB1 := Lib.hid (below_new (below_on HB0.out hb2) (.cells #[.slice A1 t.n c1, .slice A2 t.n c2, .int .i64 t.c, .slice (some ⟨bu, 0, none⟩) t.n c3] 27))
  have O1 := Lib.hid (o1.alloc (.cells #[.slice A1 t.n c1, .slice A2 t.n c2, .int .i64 t.c, .slice (some ⟨bu, 0, none⟩) t.n c3] 27))
  have O2 := Lib.hid (o2.alloc (.cells #[.slice A1 t.n c1, .slice A2 t.n c2, .int .i64 t.c, .slice (some ⟨bu, 0, none⟩) t.n c3] 27))
  have O3 := Lib.hid (o3.alloc (.cells #[.slice A1 t.n c1, .slice A2 t.n c2, .int .i64 t.c, .slice (some ⟨bu, 0, none⟩) t.n c3] 27))
  clear a0 a1 a2 a3 o1 o2 o3 oa hz2 hzz HB0 hb2
  go_wp2_with fail
  replace K0 := Lib.hid (K0.out.drewN 1)
  replace KR := Lib.hid (KR.out.drewN 1)
  replace K7 := Lib.hid (K7.out.drewN 1)
  replace HB1 := Lib.hid (below_drewN HB1.out 1)
  replace O1 := Lib.hid (own_drewN O1.out 1)
  replace O2 := Lib.hid (own_drewN O2.out 1)
  replace O3 := Lib.hid (own_drewN O3.out 1)
  obtain ⟨-, -, -, z0⟩ := K7.out.c4
  have y0 := (O3.out.cellAt k (by omega)).trans (ints_get _ k (by omega))
  have y1 := (O3.out.cellAt i (by omega)).trans (ints_get _ i (by omega))
  rw [HPK.out] at y0
  rw [HPI.out] at y1
  refine wp_region_held_drew (S := fun W => W.cell? ⟨w2.heap.size, 3, none⟩ = some (.slice (some ⟨bu, 0, none⟩) t.n c3)) (by kernel_rfl) z0 (fun hHeld => ?_)
  clear z0
  have eV1 : ∀ Z : World, Z.drewN 1 = Z.drew := fun _ => rfl
  rw [eV1] at K0 KR K7 HB1 O1 O2 O3 y0 y1
  obtain ⟨V, eV⟩ : ∃ V0 : World, (w2.alloc (.cells #[.slice A1 t.n c1, .slice A2 t.n c2, .int .i64 t.c, .slice (some ⟨bu, 0, none⟩) t.n c3] 27)).drew = V0 := ⟨_, rfl⟩
  rw [eV] at K0 KR K7 HB1 O1 O2 O3 hHeld y0 y1 ⊢
  clear eV eV1
  refine take_at (i := 0) (oi := _) 17 (v := .pointer (some ⟨w2.heap.size, 3, none⟩)) rfl rfl (by kernel_rfl) (by kernel_rfl) (by kernel_rfl) (fun _ _ _ h => h) (Or.inl ⟨by rfl, ?_⟩) hHeld ?_
  · (intro w hSw; (try dsimp only at hSw); go_split_ands; go_simp)
  simp only [List.setIfInBounds_toArray, List.set_cons_zero, List.set_cons_succ]
  refine take_at (i := 1) (oi := _) 18 (v := .slice (some ⟨bu, 0, none⟩) t.n c3) rfl rfl (by kernel_rfl) (by kernel_rfl) (by kernel_rfl) (fun _ _ _ h => h) (Or.inl ⟨by rfl, ?_⟩) hHeld ?_
  · (intro w hSw; (try dsimp only at hSw); go_split_ands; go_simp)
  simp only [List.setIfInBounds_toArray, List.set_cons_zero, List.set_cons_succ]
  refine take_at (i := 2) (oi := _) 19 (v := .int .i64 (i : Int)) rfl rfl (by kernel_rfl) (by kernel_rfl) (by kernel_rfl) (fun _ _ _ h => h) (Or.inl ⟨by rfl, ?_⟩) hHeld ?_
  · (intro w hSw; (try dsimp only at hSw); go_split_ands; go_simp)
  simp only [List.setIfInBounds_toArray, List.set_cons_zero, List.set_cons_succ]
  refine take_at (i := 3) (oi := _) 20 (v := .pointer (some ⟨w2.heap.size, 3, none⟩)) rfl rfl (by kernel_rfl) (by kernel_rfl) (by kernel_rfl) (fun _ _ _ h => h) (Or.inl ⟨by rfl, ?_⟩) hHeld ?_
  · (intro w hSw; (try dsimp only at hSw); go_split_ands; go_simp)
  simp only [List.setIfInBounds_toArray, List.set_cons_zero, List.set_cons_succ]
  refine take_at (i := 4) (oi := _) 21 (v := .slice (some ⟨bu, 0, none⟩) t.n c3) rfl rfl (by kernel_rfl) (by kernel_rfl) (by kernel_rfl) (fun _ _ _ h => h) (Or.inl ⟨by rfl, ?_⟩) hHeld ?_
  · (intro w hSw; (try dsimp only at hSw); go_split_ands; go_simp)
  simp only [List.setIfInBounds_toArray, List.set_cons_zero, List.set_cons_succ]
  refine take_at (i := 5) (oi := _) 22 (v := .int .i64 (k : Int)) rfl rfl (by kernel_rfl) (by kernel_rfl) (by kernel_rfl) (fun _ _ _ h => h) (Or.inl ⟨by rfl, ?_⟩) hHeld ?_
  · (intro w hSw; (try dsimp only at hSw); go_split_ands; go_simp)
  simp only [List.setIfInBounds_toArray, List.set_cons_zero, List.set_cons_succ]
  refine take_at (i := 6) (oi := _) 23 (v := .pointer (some ⟨w2.heap.size, 3, none⟩)) rfl rfl (by kernel_rfl) (by kernel_rfl) (by kernel_rfl) (fun _ _ _ h => h) (Or.inl ⟨by rfl, ?_⟩) hHeld ?_
  · (intro w hSw; (try dsimp only at hSw); go_split_ands; go_simp)
  simp only [List.setIfInBounds_toArray, List.set_cons_zero, List.set_cons_succ]
  refine take_at (i := 7) (oi := _) 24 (v := .slice (some ⟨bu, 0, none⟩) t.n c3) rfl rfl (by kernel_rfl) (by kernel_rfl) (by kernel_rfl) (fun _ _ _ h => h) (Or.inl ⟨by rfl, ?_⟩) hHeld ?_
  · (intro w hSw; (try dsimp only at hSw); go_split_ands; go_simp)
  simp only [List.setIfInBounds_toArray, List.set_cons_zero, List.set_cons_succ]
  refine take_at (i := 8) (oi := _) 25 (v := .int .i64 (k : Int)) rfl rfl (by kernel_rfl) (by kernel_rfl) (by kernel_rfl) (fun _ _ _ h => h) (Or.inl ⟨by rfl, ?_⟩) hHeld ?_
  · (intro w hSw; (try dsimp only at hSw); go_split_ands; go_simp)
  simp only [List.setIfInBounds_toArray, List.set_cons_zero, List.set_cons_succ]
  refine take_at (i := 9) (oi := _) 26 (v := .pointer (some ⟨bu, k, none⟩)) rfl rfl (by kernel_rfl) (by kernel_rfl) (by kernel_rfl) (fun _ _ _ h => h) (Or.inl ⟨by rfl, ?_⟩) hHeld ?_
  · (intro w hSw; (try dsimp only at hSw); go_split_ands; go_simp)
  simp only [List.setIfInBounds_toArray, List.set_cons_zero, List.set_cons_succ]
  refine take_at (i := 11) (oi := _) 28 (v := .pointer (some ⟨w2.heap.size, 3, none⟩)) rfl rfl (by kernel_rfl) (by kernel_rfl) (by kernel_rfl) (fun _ _ _ h => h) (Or.inl ⟨by rfl, ?_⟩) hHeld ?_
  · (intro w hSw; (try dsimp only at hSw); go_split_ands; go_simp)
  simp only [List.setIfInBounds_toArray, List.set_cons_zero, List.set_cons_succ]
  refine take_at (i := 12) (oi := _) 29 (v := .slice (some ⟨bu, 0, none⟩) t.n c3) rfl rfl (by kernel_rfl) (by kernel_rfl) (by kernel_rfl) (fun _ _ _ h => h) (Or.inl ⟨by rfl, ?_⟩) hHeld ?_
  · (intro w hSw; (try dsimp only at hSw); go_split_ands; go_simp)
  simp only [List.setIfInBounds_toArray, List.set_cons_zero, List.set_cons_succ]
  refine take_at (i := 13) (oi := _) 30 (v := .int .i64 (i : Int)) rfl rfl (by kernel_rfl) (by kernel_rfl) (by kernel_rfl) (fun _ _ _ h => h) (Or.inl ⟨by rfl, ?_⟩) hHeld ?_
  · (intro w hSw; (try dsimp only at hSw); go_split_ands; go_simp)
  simp only [List.setIfInBounds_toArray, List.set_cons_zero, List.set_cons_succ]
  refine take_at (i := 14) (oi := _) 31 (v := .pointer (some ⟨bu, i, none⟩)) rfl rfl (by kernel_rfl) (by kernel_rfl) (by kernel_rfl) (fun _ _ _ h => h) (Or.inl ⟨by rfl, ?_⟩) hHeld ?_
  · (intro w hSw; (try dsimp only at hSw); go_split_ands; go_simp)
  simp only [List.setIfInBounds_toArray, List.set_cons_zero, List.set_cons_succ]
  refine wpAnyH_ready (rs := [10, 15]) (by kernel_rfl) (by simp) ?_
  refine AllReadyH.cons (o := _) rfl (fun K9 hK => ?_) (AllReadyH.cons (o := _) rfl (fun K9 hK => ?_) AllReadyH.nil)
  · go_simp
    refine hK.out _ _ hHeld (fun hHeld => ?_)
    clear hK K9
    try simp only [Act.put, List.setIfInBounds_toArray, List.set_cons_zero, List.set_cons_succ]
    refine wpAnyH_ready (rs := [15]) (by kernel_rfl) (by simp) ?_
    refine AllReadyH.cons (o := _) rfl (fun K9 hK => ?_) AllReadyH.nil
    go_simp
    refine hK.out _ _ hHeld (fun hHeld => ?_)
    clear hK K9
    try simp only [Act.put, List.setIfInBounds_toArray, List.set_cons_zero, List.set_cons_succ]
    refine take_at (i := 16) (oi := _) 33 (v := .pointer (some ⟨bu, i, none⟩)) rfl rfl (by kernel_rfl) (by kernel_rfl) (by kernel_rfl) (fun _ _ _ h => h) (Or.inl ⟨by rfl, ?_⟩) hHeld ?_
    · (intro w hSw; (try dsimp only at hSw); go_split_ands; go_simp)
    simp only [List.setIfInBounds_toArray, List.set_cons_zero, List.set_cons_succ]
    have f0 := O3.out.frozenAt i
    have d0 := (O3.out.cellAt i (by omega)).trans (ints_get _ i (by omega))
    have hst := (O3.out.stored i (.int .i64 pk)).1
    rw [ints_set] at hst
    replace K0 := Lib.hid (K0.out.far (p := ⟨bu, i, none⟩) (by show w.heap.size ≠ bu; omega) (.int .i64 pk))
    replace KR := Lib.hid (KR.out.far (p := ⟨bu, i, none⟩) (by show w.heap.size + 1 ≠ bu; omega) (.int .i64 pk))
    replace K7 := Lib.hid (K7.out.far (p := ⟨bu, i, none⟩) (by show w2.heap.size ≠ bu; omega) (.int .i64 pk))
    replace HB1 := Lib.hid (HB1.out.setCell (p := ⟨bu, i, none⟩) (by show w.heap.size ≤ bu; omega) (.int .i64 pk))
    replace O1 := Lib.hid (own_cellset (i := i) (x := .int .i64 pk) O1.out O3.out (by decide))
    replace O2 := Lib.hid (own_cellset (i := i) (x := .int .i64 pk) O2.out O3.out (by decide))
    replace O3 := Lib.hid hst
    clear hst
    refine wpAnyH_ready (rs := [17]) (by kernel_rfl) (by simp) ?_
    refine AllReadyH.cons (o := _) rfl (fun K9 hK => ?_) AllReadyH.nil
    go_simp
    refine hK.out _ _ (cell_far hHeld (by show w2.heap.size ≠ bu; omega)) (fun hHeld => ?_)
    clear hK K9 f0 d0
    obtain ⟨V, eV⟩ : ∃ V0 : World, (V.setCell ⟨bu, i, none⟩ (.int .i64 pk)) = V0 := ⟨_, rfl⟩
    rw [eV] at K0 KR K7 HB1 O1 O2 O3 hHeld ⊢
    clear eV
    try simp only [Act.put, List.setIfInBounds_toArray, List.set_cons_zero, List.set_cons_succ]
    refine take_at (i := 18) (oi := _) 34 (v := .pointer (some ⟨bu, k, none⟩)) rfl rfl (by kernel_rfl) (by kernel_rfl) (by kernel_rfl) (fun _ _ _ h => h) (Or.inl ⟨by rfl, ?_⟩) hHeld ?_
    · (intro w hSw; (try dsimp only at hSw); go_split_ands; go_simp)
    simp only [List.setIfInBounds_toArray, List.set_cons_zero, List.set_cons_succ]
    have f0 := O3.out.frozenAt k
    have d0 := (O3.out.cellAt k (by omega)).trans (ints_get _ k (by rw [List.length_set]; omega))
    have hst := (O3.out.stored k (.int .i64 pi)).1
    rw [ints_set] at hst
    replace K0 := Lib.hid (K0.out.far (p := ⟨bu, k, none⟩) (by show w.heap.size ≠ bu; omega) (.int .i64 pi))
    replace KR := Lib.hid (KR.out.far (p := ⟨bu, k, none⟩) (by show w.heap.size + 1 ≠ bu; omega) (.int .i64 pi))
    replace K7 := Lib.hid (K7.out.far (p := ⟨bu, k, none⟩) (by show w2.heap.size ≠ bu; omega) (.int .i64 pi))
    replace HB1 := Lib.hid (HB1.out.setCell (p := ⟨bu, k, none⟩) (by show w.heap.size ≤ bu; omega) (.int .i64 pi))
    replace O1 := Lib.hid (own_cellset (i := k) (x := .int .i64 pi) O1.out O3.out (by decide))
    replace O2 := Lib.hid (own_cellset (i := k) (x := .int .i64 pi) O2.out O3.out (by decide))
    replace O3 := Lib.hid hst
    clear hst
    refine wpAnyH_ready (rs := [19]) (by kernel_rfl) (by simp) ?_
    refine AllReadyH.cons (o := _) rfl (fun K9 hK => ?_) AllReadyH.nil
    go_simp
    refine hK.out _ _ (cell_far hHeld (by show w2.heap.size ≠ bu; omega)) (fun hHeld => ?_)
    clear hK K9 f0 d0
    try simp only [Act.put, List.setIfInBounds_toArray, List.set_cons_zero, List.set_cons_succ]
    refine wpAnyH_done (by kernel_rfl) ?_ _
    clear hHeld
    obtain ⟨V, eV⟩ : ∃ V0 : World, (V.setCell ⟨bu, k, none⟩ (.int .i64 pi)) = V0 := ⟨_, rfl⟩
    rw [eV] at K0 KR K7 HB1 O1 O2 O3  ⊢
    clear eV
    obtain ⟨a0, a1, a2, a3⟩ := K7.out.c4
    obtain ⟨r0, r1, r2, r3⟩ := KR.out.c4
    have f0 := KR.out.frozen 0
    have f1 := KR.out.frozen 1
    have f2 := KR.out.frozen 2
    have f3 := KR.out.frozen 3
    have Q1 := Lib.hid (own_set4 O1.out KR.out (by decide) (.slice A1 t.n c1) (.slice A2 t.n c2) (.int .i64 t.c) (.slice (some ⟨bu, 0, none⟩) t.n c3))
    have Q2 := Lib.hid (own_set4 O2.out KR.out (by decide) (.slice A1 t.n c1) (.slice A2 t.n c2) (.int .i64 t.c) (.slice (some ⟨bu, 0, none⟩) t.n c3))
    have Q3 := Lib.hid (own_set4 O3.out KR.out (by decide) (.slice A1 t.n c1) (.slice A2 t.n c2) (.int .i64 t.c) (.slice (some ⟨bu, 0, none⟩) t.n c3))
    have HB9 := Lib.hid (below_set4 HB1.out (show w.heap.size ≤ w.heap.size + 1 by omega) (.slice A1 t.n c1) (.slice A2 t.n c2) (.int .i64 t.c) (.slice (some ⟨bu, 0, none⟩) t.n c3))
    have KS := Lib.hid (blk_set4 KR.out (.slice A1 t.n c1) (.slice A2 t.n c2) (.int .i64 t.c) (.slice (some ⟨bu, 0, none⟩) t.n c3))
    go_wp2_with fail
    obtain ⟨m0, m1, m2, m3⟩ := KS.out.c4
    exact bodyPost_ret (v := .agg #[.slice A1 t.n c1, .slice A2 t.n c2, .int .i64 t.c, .slice (some ⟨bu, 0, none⟩) t.n c3]) (by simp [results, Try.results101, go_sem, m0, m1, m2, m3]) rfl
      ⟨_, rfl, by rw [HSW.out]; exact ⟨_, _, _, rfl, own_base Q1.out (by omega), own_base Q2.out (by omega), own_base Q3.out (by omega)⟩, HB9.out⟩
  · go_simp
    refine hK.out _ _ hHeld (fun hHeld => ?_)
    clear hK K9
    try simp only [Act.put, List.setIfInBounds_toArray, List.set_cons_zero, List.set_cons_succ]
    refine wpAnyH_ready (rs := [10]) (by kernel_rfl) (by simp) ?_
    refine AllReadyH.cons (o := _) rfl (fun K9 hK => ?_) AllReadyH.nil
    go_simp
    refine hK.out _ _ hHeld (fun hHeld => ?_)
    clear hK K9
    try simp only [Act.put, List.setIfInBounds_toArray, List.set_cons_zero, List.set_cons_succ]
    refine take_at (i := 16) (oi := _) 33 (v := .pointer (some ⟨bu, i, none⟩)) rfl rfl (by kernel_rfl) (by kernel_rfl) (by kernel_rfl) (fun _ _ _ h => h) (Or.inl ⟨by rfl, ?_⟩) hHeld ?_
    · (intro w hSw; (try dsimp only at hSw); go_split_ands; go_simp)
    simp only [List.setIfInBounds_toArray, List.set_cons_zero, List.set_cons_succ]
    have f0 := O3.out.frozenAt i
    have d0 := (O3.out.cellAt i (by omega)).trans (ints_get _ i (by omega))
    have hst := (O3.out.stored i (.int .i64 pk)).1
    rw [ints_set] at hst
    replace K0 := Lib.hid (K0.out.far (p := ⟨bu, i, none⟩) (by show w.heap.size ≠ bu; omega) (.int .i64 pk))
    replace KR := Lib.hid (KR.out.far (p := ⟨bu, i, none⟩) (by show w.heap.size + 1 ≠ bu; omega) (.int .i64 pk))
    replace K7 := Lib.hid (K7.out.far (p := ⟨bu, i, none⟩) (by show w2.heap.size ≠ bu; omega) (.int .i64 pk))
    replace HB1 := Lib.hid (HB1.out.setCell (p := ⟨bu, i, none⟩) (by show w.heap.size ≤ bu; omega) (.int .i64 pk))
    replace O1 := Lib.hid (own_cellset (i := i) (x := .int .i64 pk) O1.out O3.out (by decide))
    replace O2 := Lib.hid (own_cellset (i := i) (x := .int .i64 pk) O2.out O3.out (by decide))
    replace O3 := Lib.hid hst
    clear hst
    refine wpAnyH_ready (rs := [17]) (by kernel_rfl) (by simp) ?_
    refine AllReadyH.cons (o := _) rfl (fun K9 hK => ?_) AllReadyH.nil
    go_simp
    refine hK.out _ _ (cell_far hHeld (by show w2.heap.size ≠ bu; omega)) (fun hHeld => ?_)
    clear hK K9 f0 d0
    obtain ⟨V, eV⟩ : ∃ V0 : World, (V.setCell ⟨bu, i, none⟩ (.int .i64 pk)) = V0 := ⟨_, rfl⟩
    rw [eV] at K0 KR K7 HB1 O1 O2 O3 hHeld ⊢
    clear eV
    try simp only [Act.put, List.setIfInBounds_toArray, List.set_cons_zero, List.set_cons_succ]
    refine take_at (i := 18) (oi := _) 34 (v := .pointer (some ⟨bu, k, none⟩)) rfl rfl (by kernel_rfl) (by kernel_rfl) (by kernel_rfl) (fun _ _ _ h => h) (Or.inl ⟨by rfl, ?_⟩) hHeld ?_
    · (intro w hSw; (try dsimp only at hSw); go_split_ands; go_simp)
    simp only [List.setIfInBounds_toArray, List.set_cons_zero, List.set_cons_succ]
    have f0 := O3.out.frozenAt k
    have d0 := (O3.out.cellAt k (by omega)).trans (ints_get _ k (by rw [List.length_set]; omega))
    have hst := (O3.out.stored k (.int .i64 pi)).1
    rw [ints_set] at hst
    replace K0 := Lib.hid (K0.out.far (p := ⟨bu, k, none⟩) (by show w.heap.size ≠ bu; omega) (.int .i64 pi))
    replace KR := Lib.hid (KR.out.far (p := ⟨bu, k, none⟩) (by show w.heap.size + 1 ≠ bu; omega) (.int .i64 pi))
    replace K7 := Lib.hid (K7.out.far (p := ⟨bu, k, none⟩) (by show w2.heap.size ≠ bu; omega) (.int .i64 pi))
    replace HB1 := Lib.hid (HB1.out.setCell (p := ⟨bu, k, none⟩) (by show w.heap.size ≤ bu; omega) (.int .i64 pi))
    replace O1 := Lib.hid (own_cellset (i := k) (x := .int .i64 pi) O1.out O3.out (by decide))
    replace O2 := Lib.hid (own_cellset (i := k) (x := .int .i64 pi) O2.out O3.out (by decide))
    replace O3 := Lib.hid hst
    clear hst
    refine wpAnyH_ready (rs := [19]) (by kernel_rfl) (by simp) ?_
    refine AllReadyH.cons (o := _) rfl (fun K9 hK => ?_) AllReadyH.nil
    go_simp
    refine hK.out _ _ (cell_far hHeld (by show w2.heap.size ≠ bu; omega)) (fun hHeld => ?_)
    clear hK K9 f0 d0
    try simp only [Act.put, List.setIfInBounds_toArray, List.set_cons_zero, List.set_cons_succ]
    refine wpAnyH_done (by kernel_rfl) ?_ _
    clear hHeld
    obtain ⟨V, eV⟩ : ∃ V0 : World, (V.setCell ⟨bu, k, none⟩ (.int .i64 pi)) = V0 := ⟨_, rfl⟩
    rw [eV] at K0 KR K7 HB1 O1 O2 O3  ⊢
    clear eV
    obtain ⟨a0, a1, a2, a3⟩ := K7.out.c4
    obtain ⟨r0, r1, r2, r3⟩ := KR.out.c4
    have f0 := KR.out.frozen 0
    have f1 := KR.out.frozen 1
    have f2 := KR.out.frozen 2
    have f3 := KR.out.frozen 3
    have Q1 := Lib.hid (own_set4 O1.out KR.out (by decide) (.slice A1 t.n c1) (.slice A2 t.n c2) (.int .i64 t.c) (.slice (some ⟨bu, 0, none⟩) t.n c3))
    have Q2 := Lib.hid (own_set4 O2.out KR.out (by decide) (.slice A1 t.n c1) (.slice A2 t.n c2) (.int .i64 t.c) (.slice (some ⟨bu, 0, none⟩) t.n c3))
    have Q3 := Lib.hid (own_set4 O3.out KR.out (by decide) (.slice A1 t.n c1) (.slice A2 t.n c2) (.int .i64 t.c) (.slice (some ⟨bu, 0, none⟩) t.n c3))
    have HB9 := Lib.hid (below_set4 HB1.out (show w.heap.size ≤ w.heap.size + 1 by omega) (.slice A1 t.n c1) (.slice A2 t.n c2) (.int .i64 t.c) (.slice (some ⟨bu, 0, none⟩) t.n c3))
    have KS := Lib.hid (blk_set4 KR.out (.slice A1 t.n c1) (.slice A2 t.n c2) (.int .i64 t.c) (.slice (some ⟨bu, 0, none⟩) t.n c3))
    go_wp2_with fail
    obtain ⟨m0, m1, m2, m3⟩ := KS.out.c4
    exact bodyPost_ret (v := .agg #[.slice A1 t.n c1, .slice A2 t.n c2, .int .i64 t.c, .slice (some ⟨bu, 0, none⟩) t.n c3]) (by simp [results, Try.results101, go_sem, m0, m1, m2, m3]) rfl
      ⟨_, rfl, by rw [HSW.out]; exact ⟨_, _, _, rfl, own_base Q1.out (by omega), own_base Q2.out (by omega), own_base Q3.out (by omega)⟩, HB9.out⟩
end Go.Proofs.Ytjcepipgjpaclaa
