/- A contract of the reference's rows of clashes. Conditions: the transition is good, its slices can be read, and the least distance lies within its bounds. -/
import Derived.Test.YtpikhkdgohapeaaClashes
import Derived.Test.YtpikhkdgohapeaaTake
namespace Go.Proofs.Ytpikhkdgohapeaa
open Go.RowKit

set_option maxRecDepth 100000 in
set_option maxHeartbeats 4000000 in
theorem cfClashes_any (v : Value) (B : Nat) (t : TrN) (L : Int) (w : World) (hv : RdT w B v t) (hB : B ≤ w.heap.size) (hok : TrOk t) (hL0 : 0 ≤ L) (hL : L ≤ 80) :
    Calls Try.prog 85 #[v, .int .i64 L] w fun e w' => ∃ b, e = .returned (.slice (some ⟨b, 0, none⟩) t.n t.n) ∧ RagR w' w'.heap.size b t.n (clAll (cfAt t L) t.n) ∧ Below w.heap.size w w' := by
  have hcp : True := trivial
  obtain ⟨A, ca, C, cb, D, cc, rfl, _, _, _⟩ := hv.form
  have hb0 : Below w.heap.size w (w.alloc (.cells #[.slice A t.n ca, .slice C t.m cb, .int .i64 t.c, .slice D t.p cc] 43)) := below_new (Below.refl _ _) _
  have k0 := Blk.new w 43 #[.slice A t.n ca, .slice C t.m cb, .int .i64 t.c, .slice D t.p cc]
  have Hv := Lib.hid (fun W (hb : Below w.heap.size w W) => hv.below' hb hB)
  have Hc := Lib.hid hcp
  have HB0 := Lib.hid hb0
  have K0 := Lib.hid k0
  obtain ⟨a0, a1, a2, a3⟩ := k0.c4
  clear hv hcp hb0 k0
  have hn1 := hok.n1
  have R := fun W (hb : Below w.heap.size w W) => cfPairs_any _ B t L W (Hv.out W hb) (Nat.le_trans hB hb.size) hok hL0 hL
  have PA := fun j => pairs_at (p := cfAt t L) (n := t.n) (j := j)
  have hml := (pr_small (p := cfAt t L) hn1).1
  have hcq := fun j (hj : j < (prTo (cfAt t L) t.n t.n).length) => (pair_at hj).2.1
  rw [show clAll (cfAt t L) t.n = clTo (prTo (cfAt t L) t.n t.n) t.n (prTo (cfAt t L) t.n t.n).length from rfl]
  obtain ⟨rs, ers⟩ : ∃ r, prTo (cfAt t L) t.n t.n = r := ⟨_, rfl⟩
  rw [ers] at R PA hml hcq ⊢
  replace PA := Lib.hid PA
  have HR := Lib.hid R
  have HCQ := Lib.hid hcq
  clear R ers hok hcq
  have hsz0 : (w.alloc (.cells #[.slice A t.n ca, .slice C t.m cb, .int .i64 t.c, .slice D t.p cc] 43)).heap.size = w.heap.size + 1 := by simp
  go_enter Try.func85, Try.ntmps85
  obtain ⟨i0, hi, hz0, hz1, hz2⟩ := info_parts (show (Try.prog.info? 36).map (fun i => (i.zero, i.size, i.bytes)) = some (some (.slice none 0 0), 1, 24) by kernel_rfl)
  have hz2' : i0.bytes * t.n ≤ 281474976710656 := by rw [hz2]; omega
  go_wp2_with (at_make; refine wpList_make_full _ rfl (.tmp 10) (.tmp 10) 94 rfl (w.heap.size + 1) 36 i0 (.slice none 0 0) 1 Try.underlying94 hi hz0 hz1 .i64 .i64 t.n t.n t.n rfl rfl rfl rfl hz2' (by unfold maxLen; omega) (by first | exact Nat.le_refl _ | simp) ?_; intro w3 hown1 hg1; obtain ⟨d0, d1, d2, d3⟩ := (K0.out.grown hg1 (by simp)).c4)
  rw [Nat.mul_one, madeRows] at hown1
  rw [hsz0] at hown1
  have hb3 := HB0.out.grown hg1 HB0.out.size (by simp)
  obtain ⟨c0, ec0⟩ : ∃ c, w.heap.size + 1 = c := ⟨_, rfl⟩
  have hc0 : w.heap.size ≤ c0 := by omega
  rw [ec0] at hown1 ⊢
  have h3lt : c0 < w3.heap.size := (hown1.lt _ rfl).2
  have HO1 := Lib.hid (own_base hown1 hc0)
  have HB3 := Lib.hid hb3
  clear hi hz0 hz1 hz2 hz2' hg1 hown1 hb3 a0 a1 a2 a3 HB0 K0 hsz0
  refine (HR.out _ HB3.out).mono ?_
  rintro e w4 ⟨u, gs, rfl, hrr, h4⟩
  obtain ⟨U, cu, rfl⟩ := hrr.form
  obtain ⟨HI, eHI⟩ : ∃ h, w4.heap.size = h := ⟨_, rfl⟩
  have h34 : w3.heap.size ≤ HI := by rw [← eHI]; exact h4.size
  have HG := Lib.hid (Rag.made (own_below HO1.out h4 (Nat.le_refl _)) (hi := HI) ⟨hc0, by omega⟩)
  have HPI := Lib.hid (show ∀ k, (Value.slice U rs.length cu).ownBlock = some k ∨ k ∈ gs → w3.heap.size ≤ k ∧ k < HI from fun k hk => by
    rw [← eHI]
    rcases hk with hk | hk
    · exact hrr.own.lt k hk
    · exact hrr.mem hk)
  have HR4 := Lib.hid hrr
  have HB4 := Lib.hid (below_on HB3.out h4)
  have HI4 := Lib.hid (Nat.le_of_eq eHI.symm)
  clear hrr h4 HO1 HB3 d0 d1 d2 d3 HR eHI
  obtain ⟨m, em⟩ : ∃ m, rs.length = m := ⟨_, rfl⟩
  rw [em] at HR4 PA hml HCQ HPI ⊢
  have EM := Lib.hid em
  clear em
  go_wp2_with fail
  go_loopw [16] (fun s wr => ∃ (j : Nat) (ss : List Value), j ≤ m ∧ s = .int .i64 j ∧ Rag wr w.heap.size HI c0 t.n ss (clTo rs t.n j) ∧ Rows wr w3.heap.size (.slice U m cu) m gs rs ∧ HI ≤ wr.heap.size ∧ Below w.heap.size w wr) (fun s _ => m - (intOf s).toNat)
  case atStart => exact ⟨0, _, Nat.zero_le _, rfl, HG.out, HR4.out, HI4.out, HB4.out⟩
  case round =>
    clear HG HR4 HB4 HI4
    obtain ⟨j, ss, hj, rfl, hrag, hrr, hhi, hb⟩ := hrel
    by_cases hlt : j < m
    · obtain ⟨b, cp, g, r, e1, k0, hg, -, hrd, hkb, hlo⟩ := hrr.at hlt
      obtain ⟨p, q, hpq, hqn, hpr⟩ := PA.out j hlt
      simp only [Value.slice.injEq, true_and] at e1
      obtain ⟨rfl, rfl⟩ := e1
      rw [hpr] at hrd
      subst hrd
      have hst : clTo rs t.n (j + 1) = (clTo rs t.n j).set q ((clTo rs t.n j).getD q [] ++ [p]) := by rw [clTo, hpr]; rfl
      have hcl := clTo_length rs t.n j
      have hrl := clTo_len HCQ.out hj q
      obtain ⟨cl, ecl⟩ : ∃ c, clTo rs t.n j = c := ⟨_, rfl⟩
      rw [ecl] at hst hcl hrl hrag
      have hgp := HPI.out g (.inr (List.mem_of_getElem? hg))
      have hq2 : q < ss.length := by rw [hrag.ls]; exact hqn
      obtain ⟨s, hs⟩ : ∃ s, ss[q]? = some s := ⟨_, List.getElem?_eq_getElem hq2⟩
      have x0 : wr.cell? ⟨c0, q, none⟩ = some s := (hrag.own.cellAt q (by omega)).trans hs
      have hrow := hrag.row q s hs
      obtain ⟨ro, ero⟩ : ∃ r, cl.getD q [] = r := ⟨_, rfl⟩
      rw [ero] at hrow hst hrl
      have ERO := Lib.hid ero
      clear ero
      obtain ⟨A1, c1, rfl⟩ := (Rd.of_own hrow).form
      have hsk : ∀ k, (Value.slice A1 ro.length c1).ownBlock = some k → HI ≤ k := fun k hk => (hrow.lt k hk).1
      have HNG := Lib.hid (show some g ≠ (Value.slice A1 ro.length c1).ownBlock from fun e => by have := hsk g e.symm; omega)
      have HNC := Lib.hid (show some c0 ≠ (Value.slice A1 ro.length c1).ownBlock from fun e => by have := hsk c0 e.symm; omega)
      have g0 := hkb.cell 0
      have g1 := hkb.cell 1
      simp [ints] at g0 g1
      unfold rowV at k0
      have HRA := Lib.hid (hrag.below (below_new (Below.refl _ _) (.cells #[.int .i64 (p : Int)] 3)))
      have HRO := Lib.hid (hrow.alloc (.cells #[.int .i64 (p : Int)] 3))
      have HKA := Lib.hid (hkb.alloc (.cells #[.int .i64 (p : Int)] 3))
      have HOA := Lib.hid (hrag.own.alloc (.cells #[.int .i64 (p : Int)] 3))
      have HBK := Lib.hid (Blk.new wr 3 #[.int .i64 (p : Int)])
      have HRR := Lib.hid (hrr.alloc (.cells #[.int .i64 (p : Int)] 3))
      have HBA := Lib.hid (below_new hb (.cells #[.int .i64 (p : Int)] 3))
      have HSS := Lib.hid hs
      have x1 := cell_new x0 (.cells #[.int .i64 (p : Int)] 3)
      have HSZ := Lib.hid (show HI ≤ (wr.alloc (.cells #[.int .i64 (p : Int)] 3)).heap.size from Nat.le_trans hhi (by simp))
      have HNP := Lib.hid (show ∀ k, (Value.slice (some ⟨b, 0, none⟩) m cu).ownBlock = some k ∨ k ∈ gs → some k ≠ (Value.slice A1 ro.length c1).ownBlock from fun k hk e => by
        have := hsk k e.symm
        have := HPI.out k hk
        omega)
      have HNB := Lib.hid (show ∀ k, (Value.slice A1 ro.length c1).ownBlock = some k → w.heap.size ≤ k from fun k hk => by
        have := hsk k hk; have := hb.size; omega)
      have HST := Lib.hid hst
      have i0 : (0 : Int) ≤ (j : Int) := by omega
      have i1 : (j : Int) < (m : Int) := by omega
      have i2 : (0 : Int) ≤ (p : Int) := by omega
      have i4 : (0 : Int) ≤ (q : Int) := by omega
      have i5 : (q : Int) < (t.n : Int) := by omega
      have HCL := Lib.hid hcl
      have HRL := Lib.hid hrl
      have hgc : g ≠ c0 := by omega
      clear hrag hrow hkb hrr hb hs hst hcl hrl hsk hg hgp hpr hlo ecl hq2
      go_wp2_with fail
      refine wp_region_held_drew (S := fun W => W.cell? ⟨g, 0, none⟩ = some (.int .i64 (p : Int)) ∧ W.cell? ⟨g, 1, none⟩ = some (.int .i64 (q : Int))) (by kernel_rfl) ⟨g0, g1⟩ (fun hHeld => ?_)
      refine take_at (i := 0) (oi := _) 20 (v := .slice (some ⟨c0, 0, none⟩) t.n t.n) rfl rfl (by kernel_rfl) (by kernel_rfl) (by kernel_rfl) (fun _ _ _ h => h) (Or.inl ⟨by rfl, ?_⟩) hHeld ?_
      · (intro w hSw; (try dsimp only at hSw); go_split_ands; go_simp)
      simp only [List.setIfInBounds_toArray, List.set_cons_zero, List.set_cons_succ]
      refine take_at (i := 1) (oi := _) 21 (v := .slice (some ⟨g, 0, none⟩) 2 2) rfl rfl (by kernel_rfl) (by kernel_rfl) (by kernel_rfl) (fun _ _ _ h => h) (Or.inl ⟨by rfl, ?_⟩) hHeld ?_
      · (intro w hSw; (try dsimp only at hSw); go_split_ands; go_simp)
      simp only [List.setIfInBounds_toArray, List.set_cons_zero, List.set_cons_succ]
      refine take_at (i := 2) (oi := _) 22 (v := .pointer (some ⟨g, 1, none⟩)) rfl rfl (by kernel_rfl) (by kernel_rfl) (by kernel_rfl) (fun _ _ _ h => h) (Or.inl ⟨by rfl, ?_⟩) hHeld ?_
      · (intro w hSw; (try dsimp only at hSw); go_split_ands; go_simp)
      simp only [List.setIfInBounds_toArray, List.set_cons_zero, List.set_cons_succ]
      refine take_at (i := 3) (oi := _) 23 (v := .int .i64 (q : Int)) rfl rfl (by kernel_rfl) (by kernel_rfl) (by kernel_rfl) (fun _ _ _ h => h) (Or.inl ⟨by rfl, ?_⟩) hHeld ?_
      · (intro w hSw; (try dsimp only at hSw); go_split_ands; go_simp)
      simp only [List.setIfInBounds_toArray, List.set_cons_zero, List.set_cons_succ]
      refine take_at (i := 4) (oi := _) 24 (v := .slice (some ⟨c0, 0, none⟩) t.n t.n) rfl rfl (by kernel_rfl) (by kernel_rfl) (by kernel_rfl) (fun _ _ _ h => h) (Or.inl ⟨by rfl, ?_⟩) hHeld ?_
      · (intro w hSw; (try dsimp only at hSw); go_split_ands; go_simp)
      simp only [List.setIfInBounds_toArray, List.set_cons_zero, List.set_cons_succ]
      refine take_at (i := 5) (oi := _) 25 (v := .slice (some ⟨g, 0, none⟩) 2 2) rfl rfl (by kernel_rfl) (by kernel_rfl) (by kernel_rfl) (fun _ _ _ h => h) (Or.inl ⟨by rfl, ?_⟩) hHeld ?_
      · (intro w hSw; (try dsimp only at hSw); go_split_ands; go_simp)
      simp only [List.setIfInBounds_toArray, List.set_cons_zero, List.set_cons_succ]
      refine take_at (i := 6) (oi := _) 26 (v := .pointer (some ⟨g, 1, none⟩)) rfl rfl (by kernel_rfl) (by kernel_rfl) (by kernel_rfl) (fun _ _ _ h => h) (Or.inl ⟨by rfl, ?_⟩) hHeld ?_
      · (intro w hSw; (try dsimp only at hSw); go_split_ands; go_simp)
      simp only [List.setIfInBounds_toArray, List.set_cons_zero, List.set_cons_succ]
      refine take_at (i := 7) (oi := _) 27 (v := .int .i64 (q : Int)) rfl rfl (by kernel_rfl) (by kernel_rfl) (by kernel_rfl) (fun _ _ _ h => h) (Or.inl ⟨by rfl, ?_⟩) hHeld ?_
      · (intro w hSw; (try dsimp only at hSw); go_split_ands; go_simp)
      simp only [List.setIfInBounds_toArray, List.set_cons_zero, List.set_cons_succ]
      refine take_at (i := 8) (oi := _) 28 (v := .pointer (some ⟨c0, q, none⟩)) rfl rfl (by kernel_rfl) (by kernel_rfl) (by kernel_rfl) (fun _ _ _ h => h) (Or.inl ⟨by rfl, ?_⟩) hHeld ?_
      · (intro w hSw; (try dsimp only at hSw); go_split_ands; go_simp)
      simp only [List.setIfInBounds_toArray, List.set_cons_zero, List.set_cons_succ]
      refine take_at (i := 10) (oi := _) 30 (v := .slice (some ⟨g, 0, none⟩) 2 2) rfl rfl (by kernel_rfl) (by kernel_rfl) (by kernel_rfl) (fun _ _ _ h => h) (Or.inl ⟨by rfl, ?_⟩) hHeld ?_
      · (intro w hSw; (try dsimp only at hSw); go_split_ands; go_simp)
      simp only [List.setIfInBounds_toArray, List.set_cons_zero, List.set_cons_succ]
      refine take_at (i := 11) (oi := _) 31 (v := .pointer (some ⟨g, 0, none⟩)) rfl rfl (by kernel_rfl) (by kernel_rfl) (by kernel_rfl) (fun _ _ _ h => h) (Or.inl ⟨by rfl, ?_⟩) hHeld ?_
      · (intro w hSw; (try dsimp only at hSw); go_split_ands; go_simp)
      simp only [List.setIfInBounds_toArray, List.set_cons_zero, List.set_cons_succ]
      refine take_at (i := 12) (oi := _) 32 (v := .int .i64 (p : Int)) rfl rfl (by kernel_rfl) (by kernel_rfl) (by kernel_rfl) (fun _ _ _ h => h) (Or.inl ⟨by rfl, ?_⟩) hHeld ?_
      · (intro w hSw; (try dsimp only at hSw); go_split_ands; go_simp)
      simp only [List.setIfInBounds_toArray, List.set_cons_zero, List.set_cons_succ]
      refine wpAnyH_ready (rs := [9, 13]) (by kernel_rfl) (by simp) ?_
      refine AllReadyH.cons (o := _) rfl (fun K hK => ?_) (AllReadyH.cons (o := _) rfl (fun K hK => ?_) AllReadyH.nil)
      · go_simp
        refine hK.out _ _ ⟨g0, g1⟩ (fun hHeld => ?_)
        clear hK K
        refine wpAnyH_ready (rs := [13]) (by kernel_rfl) (by simp) ?_
        refine AllReadyH.cons (o := _) rfl (fun K hK => ?_) AllReadyH.nil
        go_simp
        refine hK.out _ _ ⟨cell_new g0 _, cell_new g1 _⟩ (fun hHeld => ?_)
        clear hK K
        refine wpAnyH_ready (rs := [14]) (by kernel_rfl) (by simp) ?_
        refine AllReadyH.cons (o := _) rfl (fun K hK => ?_) AllReadyH.nil
        refine step_int rfl _ _ rfl HI _ _ (nats ro) rfl HRO.out wr.heap.size (p : Int) rfl HBK.out (by have := HRL.out; omega) HSZ.out ?_
        intro b9 cap9 w9 hr9 hg9 hor9
        have hk9 := HKA.out.grown (grown_of hg9) HNG.out
        have hw9 := HOA.out.kept (grown_of hg9) (.inr HNC.out)
        have y0 := (hw9.cellAt q (by omega)).trans HSS.out
        have y1 := hw9.frozenAt q
        refine hK.out _ _ ⟨hk9.cell 0, hk9.cell 1⟩ (fun hHeld => ?_)
        clear hK K
        try simp only [Act.put, List.setIfInBounds_toArray, List.set_cons_zero, List.set_cons_succ]
        refine take_at (i := 15) (oi := _) 35 (v := .pointer (some ⟨c0, q, none⟩)) rfl rfl (by kernel_rfl) (by kernel_rfl) (by kernel_rfl) (fun _ _ _ h => h) (Or.inl ⟨by rfl, ?_⟩) hHeld ?_
        · (intro w hSw; (try dsimp only at hSw); go_split_ands; go_simp)
        try simp only [Act.put, List.setIfInBounds_toArray, List.set_cons_zero, List.set_cons_succ]
        refine wpAnyH_ready (rs := [16]) (by kernel_rfl) (by simp) ?_
        refine AllReadyH.cons (o := _) rfl (fun K hK => ?_) AllReadyH.nil
        go_simp
        refine hK.out _ _ ⟨(hk9.far (p := ⟨c0, q, none⟩) hgc _).cell 0, (hk9.far (p := ⟨c0, q, none⟩) hgc _).cell 1⟩ (fun hHeld => ?_)
        clear hK K
        refine wpAnyH_done (by kernel_rfl) ?_ _
        have hgr := grown_of hg9
        have HR9 := Lib.hid (show Rag (w9.setCell ⟨c0, q, none⟩ (.slice (some ⟨b9, 0, none⟩) (ro.length + 1) cap9)) w.heap.size HI c0 t.n (ss.set q (.slice (some ⟨b9, 0, none⟩) (ro.length + 1) cap9)) (clTo rs t.n (j + 1)) by
          rw [HST.out]
          have h9 := HRA.out.put (x := p) hqn HCL.out HSS.out HSZ.out (by rw [ERO.out]; exact hr9) hgr hor9 rfl
          rw [ERO.out] at h9
          exact h9)
        have HW9 := Lib.hid ((HRR.out.grown hgr HNP.out).kept (only_cell w9 c0 q (.slice (some ⟨b9, 0, none⟩) (ro.length + 1) cap9)) (fun k hk => by
          have := HPI.out k hk
          omega))
        have HH9 := Lib.hid (show HI ≤ (w9.setCell ⟨c0, q, none⟩ (.slice (some ⟨b9, 0, none⟩) (ro.length + 1) cap9)).heap.size from Nat.le_trans (Nat.le_trans HSZ.out hgr.size) (by simp))
        have HB9 := Lib.hid ((HBA.out.grown hgr HBA.out.size HNB.out).setCell (p := ⟨c0, q, none⟩) hc0 (.slice (some ⟨b9, 0, none⟩) (ro.length + 1) cap9))
        clear hr9 hg9 hor9 hk9 hw9 y0 y1 hgr g0 g1 x0 x1 k0
        go_wp2_with fail
        go_roundw
        case rel => exact ⟨j + 1, _, by omega, by go_num, HR9.out, HW9.out, HH9.out, HB9.out⟩
        case measure => simp [intOf]; omega
      · go_simp
        refine hK.out _ _ ⟨cell_new g0 _, cell_new g1 _⟩ (fun hHeld => ?_)
        clear hK K
        refine wpAnyH_ready (rs := [9]) (by kernel_rfl) (by simp) ?_
        refine AllReadyH.cons (o := _) rfl (fun K hK => ?_) AllReadyH.nil
        go_simp
        refine hK.out _ _ ⟨cell_new g0 _, cell_new g1 _⟩ (fun hHeld => ?_)
        clear hK K
        refine wpAnyH_ready (rs := [14]) (by kernel_rfl) (by simp) ?_
        refine AllReadyH.cons (o := _) rfl (fun K hK => ?_) AllReadyH.nil
        refine step_int rfl _ _ rfl HI _ _ (nats ro) rfl HRO.out wr.heap.size (p : Int) rfl HBK.out (by have := HRL.out; omega) HSZ.out ?_
        intro b9 cap9 w9 hr9 hg9 hor9
        have hk9 := HKA.out.grown (grown_of hg9) HNG.out
        have hw9 := HOA.out.kept (grown_of hg9) (.inr HNC.out)
        have y0 := (hw9.cellAt q (by omega)).trans HSS.out
        have y1 := hw9.frozenAt q
        refine hK.out _ _ ⟨hk9.cell 0, hk9.cell 1⟩ (fun hHeld => ?_)
        clear hK K
        try simp only [Act.put, List.setIfInBounds_toArray, List.set_cons_zero, List.set_cons_succ]
        refine take_at (i := 15) (oi := _) 35 (v := .pointer (some ⟨c0, q, none⟩)) rfl rfl (by kernel_rfl) (by kernel_rfl) (by kernel_rfl) (fun _ _ _ h => h) (Or.inl ⟨by rfl, ?_⟩) hHeld ?_
        · (intro w hSw; (try dsimp only at hSw); go_split_ands; go_simp)
        try simp only [Act.put, List.setIfInBounds_toArray, List.set_cons_zero, List.set_cons_succ]
        refine wpAnyH_ready (rs := [16]) (by kernel_rfl) (by simp) ?_
        refine AllReadyH.cons (o := _) rfl (fun K hK => ?_) AllReadyH.nil
        go_simp
        refine hK.out _ _ ⟨(hk9.far (p := ⟨c0, q, none⟩) hgc _).cell 0, (hk9.far (p := ⟨c0, q, none⟩) hgc _).cell 1⟩ (fun hHeld => ?_)
        clear hK K
        refine wpAnyH_done (by kernel_rfl) ?_ _
        have hgr := grown_of hg9
        have HR9 := Lib.hid (show Rag (w9.setCell ⟨c0, q, none⟩ (.slice (some ⟨b9, 0, none⟩) (ro.length + 1) cap9)) w.heap.size HI c0 t.n (ss.set q (.slice (some ⟨b9, 0, none⟩) (ro.length + 1) cap9)) (clTo rs t.n (j + 1)) by
          rw [HST.out]
          have h9 := HRA.out.put (x := p) hqn HCL.out HSS.out HSZ.out (by rw [ERO.out]; exact hr9) hgr hor9 rfl
          rw [ERO.out] at h9
          exact h9)
        have HW9 := Lib.hid ((HRR.out.grown hgr HNP.out).kept (only_cell w9 c0 q (.slice (some ⟨b9, 0, none⟩) (ro.length + 1) cap9)) (fun k hk => by
          have := HPI.out k hk
          omega))
        have HH9 := Lib.hid (show HI ≤ (w9.setCell ⟨c0, q, none⟩ (.slice (some ⟨b9, 0, none⟩) (ro.length + 1) cap9)).heap.size from Nat.le_trans (Nat.le_trans HSZ.out hgr.size) (by simp))
        have HB9 := Lib.hid ((HBA.out.grown hgr HBA.out.size HNB.out).setCell (p := ⟨c0, q, none⟩) hc0 (.slice (some ⟨b9, 0, none⟩) (ro.length + 1) cap9))
        clear hr9 hg9 hor9 hk9 hw9 y0 y1 hgr g0 g1 x0 x1 k0
        go_wp2_with fail
        go_roundw
        case rel => exact ⟨j + 1, _, by omega, by go_num, HR9.out, HW9.out, HH9.out, HB9.out⟩
        case measure => simp [intOf]; omega
    · obtain rfl : j = m := by omega
      have HG := Lib.hid hrag.read
      have HB := Lib.hid hb
      clear hrag hrr hb
      go_wp2_with fail
      go_ret
      exact ⟨c0, rfl, by rw [EM.out]; exact HG.out, HB.out⟩
end Go.Proofs.Ytpikhkdgohapeaa
