/- A move that is drawn. Condition: the source's bytes can be read. -/
import Derived.Test.YtcpbcmebfiilmaaCurAny
import Derived.Test.YtcpbcmebfiilmaaCutFn2
import Derived.Test.YtcpbcmebfiilmaaTake
import Derived.Test.YtcpbcmebfiilmaaSet
import Derived.Deep.DeepCutAuto
namespace Go.Proofs.Ytcpbcmebfiilmaa
open Go.RowKit

/-- A move is handed out, and nothing but block g has changed. -/
def HandsMove (B g N : Nat) (w : World) (e : Ending) (w' : World) : Prop := ∃ x y z u c : Int, e = .returned (Value.agg #[Value.int .i64 x, Value.int .i64 y, Value.int .i64 z, Value.int .i64 u, Value.int .i64 c]) ∧ Cur w' B g N ∧ w.grownBy w' (some g)
def AnyInt (w : World) (e : Ending) (w' : World) : Prop := ∃ m : Int, e = .returned (.int .i64 m) ∧ w = w'
theorem least_int (a b : Int) (w : World) : Calls Try.prog 52 #[.int .i64 a, .int .i64 b] w (AnyInt w) := by
  by_cases h : a < b
  · go_enter Try.func52, Try.ntmps52
    go_wp2_with fail
    go_ret
    exact ⟨_, rfl, rfl⟩
  · go_enter Try.func52, Try.ntmps52
    go_wp2_with fail
    go_ret
    exact ⟨_, rfl, rfl⟩
theorem most_int (a b : Int) (w : World) : Calls Try.prog 53 #[.int .i64 a, .int .i64 b] w (AnyInt w) := by
  by_cases h : b < a
  · go_enter Try.func53, Try.ntmps53
    go_wp2_with fail
    go_ret
    exact ⟨_, rfl, rfl⟩
  · go_enter Try.func53, Try.ntmps53
    go_wp2_with fail
    go_ret
    exact ⟨_, rfl, rfl⟩
theorem Blk.mv5 {w : World} {g : Nat} {t : TypeId} {a b c d e : Value} (h : Blk w g t #[a, b, c, d, e]) (p q r s u : Value) :
    Blk (((((w.setCell ⟨g, 0, none⟩ p).setCell ⟨g, 1, none⟩ q).setCell ⟨g, 2, none⟩ r).setCell ⟨g, 3, none⟩ s).setCell ⟨g, 4, none⟩ u) g t #[p, q, r, s, u] := by
  have := ((((h.set_ 0 p).set_ 1 q).set_ 2 r).set_ 3 s).set_ 4 u
  simpa using this
theorem Blk.mv01 {w : World} {g : Nat} {t : TypeId} {a b c d e : Value} (h : Blk w g t #[a, b, c, d, e]) (p q : Value) : Blk ((w.setCell ⟨g, 0, none⟩ p).setCell ⟨g, 1, none⟩ q) g t #[p, q, c, d, e] := by
  have := (h.set_ 0 p).set_ 1 q
  simpa using this
theorem Blk.mv23 {w : World} {g : Nat} {t : TypeId} {a b c d e : Value} (h : Blk w g t #[a, b, c, d, e]) (p q : Value) : Blk ((w.setCell ⟨g, 2, none⟩ p).setCell ⟨g, 3, none⟩ q) g t #[a, b, p, q, e] := by
  have := (h.set_ 2 p).set_ 3 q
  simpa using this
theorem Blk.mv4 {w : World} {g : Nat} {t : TypeId} {a b c d e : Value} (h : Blk w g t #[a, b, c, d, e]) (p : Value) : Blk (w.setCell ⟨g, 4, none⟩ p) g t #[a, b, c, d, p] := by
  have := h.set_ 4 p
  simpa using this

set_option maxRecDepth 100000 in
set_option maxHeartbeats 8000000 in
theorem move_any (B g N : Nat) (w : World) (h : Cur w B g N) (hN : N ≤ 900000000) : Calls Try.prog 43 #[.pointer (some ⟨g, 0, none⟩)] w (HandsMove B g (N + 60) w) := by
  have hlt := h.lt
  have hgk : w.heap.size ≠ g := by omega
  have C := Lib.hid (h.alloc (.cells #[.int .i64 0, .int .i64 0, .int .i64 0, .int .i64 0, .int .i64 0] 27))
  have K := Lib.hid (Blk.new w 27 #[.int .i64 0, .int .i64 0, .int .i64 0, .int .i64 0, .int .i64 0])
  have G := Lib.hid (only_alloc (World.grownBy.refl w (some g)) (.cells #[.int .i64 0, .int .i64 0, .int .i64 0, .int .i64 0, .int .i64 0] 27))
  clear h
  go_enter Try.func43, Try.ntmps43
  go_wp2_with fail
  refine (spot_any B g N _ C.out (by omega)).mono ?_
  rintro e w1 ⟨x, y, -, rfl, hc, hg⟩
  replace C := Lib.hid hc
  replace G := Lib.hid (grow_trans G.out hg)
  replace K := Lib.hid (K.out.grown' hg hgk)
  clear hc hg
  go_wp2_with fail
  refine (pick_any B g (N + 12) 64 _ C.out (by omega) (by omega)).mono ?_
  rintro e w2 ⟨x2, x20, x21, rfl, hc, hg⟩
  simp [pickHi] at x21
  replace C := Lib.hid hc
  replace G := Lib.hid (grow_trans G.out hg)
  replace K := Lib.hid (K.out.grown' hg hgk)
  clear hc hg
  have e1 := IntWalk.i64_in (1 + x2) (by omega)
  have A := Lib.hid (Blk.new w2 3 (ints [1, 2, 4, 8, 8, 12, 16, 1 + x2]).toArray)
  have hl2 := C.out.lt
  replace C := Lib.hid (C.out.alloc (.cells (ints [1, 2, 4, 8, 8, 12, 16, 1 + x2]).toArray 3))
  replace G := Lib.hid (only_alloc G.out (.cells (ints [1, 2, 4, 8, 8, 12, 16, 1 + x2]).toArray 3))
  replace K := Lib.hid (K.out.alloc (.cells (ints [1, 2, 4, 8, 8, 12, 16, 1 + x2]).toArray 3))
  go_wp2_with fail
  refine (among_blk B g (N + 14) w2.heap.size _ [1, 2, 4, 8, 8, 12, 16, 1 + x2] 0 64 _ C.out (by omega) hl2 A.out (by simp) (by simp) (by simp; omega)).mono ?_
  rintro e w3 ⟨c, c0, c1, rfl, hc, hg⟩
  replace C := Lib.hid hc
  replace G := Lib.hid (grow_trans G.out hg)
  replace K := Lib.hid (K.out.grown' hg hgk)
  have hgt : w3.heap.size ≠ g := Nat.ne_of_gt C.out.lt
  have hkt : w.heap.size ≠ w3.heap.size := Nat.ne_of_lt K.out.lt
  have hwt : w.heap.size ≤ w3.heap.size := Nat.le_of_lt K.out.lt
  have hglt : g < w3.heap.size := C.out.lt
  have T := Lib.hid (Blk.new w3 27 #[.int .i64 x, .int .i64 y, .int .i64 0, .int .i64 0, .int .i64 c])
  replace C := Lib.hid (C.out.alloc (.cells #[.int .i64 x, .int .i64 y, .int .i64 0, .int .i64 0, .int .i64 c] 27))
  replace G := Lib.hid (only_alloc G.out (.cells #[.int .i64 x, .int .i64 y, .int .i64 0, .int .i64 0, .int .i64 c] 27))
  replace K := Lib.hid (K.out.alloc (.cells #[.int .i64 x, .int .i64 y, .int .i64 0, .int .i64 0, .int .i64 c] 27))
  clear hc hg A e1 x20 x21 c0 c1 hl2
  go_upto_region 2 with (fail)
  refine wp_cut (fun a' wk => ∃ f : Nat → Value, (Cur wk B g (N + 24) ∧ w.grownBy wk (some g) ∧ Blk wk w.heap.size 27 #[.int .i64 0, .int .i64 0, .int .i64 0, .int .i64 0, .int .i64 0] ∧ ∃ p q : Int, Blk wk w3.heap.size 27 #[.int .i64 x, .int .i64 y, .int .i64 p, .int .i64 q, .int .i64 c]) ∧ a' = ⟨#[.pointer (some ⟨g, 0, none⟩), f 1, .pointer (some ⟨w.heap.size, 0, none⟩), .pointer (some ⟨w3.heap.size, 0, none⟩), f 4, f 5, f 6, f 7, f 8, f 9, f 10, f 11, f 12, f 13, f 14, f 15, f 16, f 17, f 18, f 19, f 20, f 21, f 22, f 23, f 24, f 25, f 26, f 27, f 28, f 29, f 30, f 31, f 32, f 33, f 34, f 35, f 36, f 37, f 38, f 39, f 40, f 41, f 42, f 43, f 44, f 45, f 46, f 47, f 48, f 49, f 50, f 51, f 52, f 53], []⟩) ?rest ?first
  case first =>
    intro _ _ _ _
    refine wp_region_held_drew (S := fun W => W.cell? ⟨w3.heap.size, 0, none⟩ = some (.int .i64 x) ∧ W.cell? ⟨w3.heap.size, 1, none⟩ = some (.int .i64 y)) (by kernel_rfl) ⟨T.out.cell 0, T.out.cell 1⟩ (fun hHeld => ?_)
    refine take_at (i := 0) (oi := _) 13 (v := .pointer (some ⟨w3.heap.size, 0, none⟩)) rfl rfl (by kernel_rfl) (by kernel_rfl) (by kernel_rfl) (fun _ _ _ h => h) (Or.inl ⟨by rfl, ?_⟩) hHeld ?_
    · (intro w hSw; (try dsimp only at hSw); go_split_ands; go_simp)
    simp only [List.setIfInBounds_toArray, List.set_cons_zero, List.set_cons_succ]
    refine take_at (i := 1) (oi := _) 14 (v := .pointer (some ⟨w3.heap.size, 0, none⟩)) rfl rfl (by kernel_rfl) (by kernel_rfl) (by kernel_rfl) (fun _ _ _ h => h) (Or.inl ⟨by rfl, ?_⟩) hHeld ?_
    · (intro w hSw; (try dsimp only at hSw); go_split_ands; go_simp)
    simp only [List.setIfInBounds_toArray, List.set_cons_zero, List.set_cons_succ]
    refine take_at (i := 2) (oi := _) 15 (v := .int .i64 x) rfl rfl (by kernel_rfl) (by kernel_rfl) (by kernel_rfl) (fun _ _ _ h => h) (Or.inl ⟨by rfl, ?_⟩) hHeld ?_
    · (intro w hSw; (try dsimp only at hSw); go_split_ands; go_simp)
    simp only [List.setIfInBounds_toArray, List.set_cons_zero, List.set_cons_succ]
    refine take_at (i := 3) (oi := _) 16 (v := .pointer (some ⟨g, 0, none⟩)) rfl rfl (by kernel_rfl) (by kernel_rfl) (by kernel_rfl) (fun _ _ _ h => h) (Or.inl ⟨by rfl, ?_⟩) hHeld ?_
    · (intro w hSw; (try dsimp only at hSw); go_split_ands; go_simp)
    simp only [List.setIfInBounds_toArray, List.set_cons_zero, List.set_cons_succ]
    refine take_at (i := 4) (oi := _) 17 (v := .pointer (some ⟨g, 0, none⟩)) rfl rfl (by kernel_rfl) (by kernel_rfl) (by kernel_rfl) (fun _ _ _ h => h) (Or.inl ⟨by rfl, ?_⟩) hHeld ?_
    · (intro w hSw; (try dsimp only at hSw); go_split_ands; go_simp)
    simp only [List.setIfInBounds_toArray, List.set_cons_zero, List.set_cons_succ]
    refine take_at (i := 10) (oi := _) 23 (v := .pointer (some ⟨w3.heap.size, 0, none⟩)) rfl rfl (by kernel_rfl) (by kernel_rfl) (by kernel_rfl) (fun _ _ _ h => h) (Or.inl ⟨by rfl, ?_⟩) hHeld ?_
    · (intro w hSw; (try dsimp only at hSw); go_split_ands; go_simp)
    simp only [List.setIfInBounds_toArray, List.set_cons_zero, List.set_cons_succ]
    refine take_at (i := 11) (oi := _) 24 (v := .pointer (some ⟨w3.heap.size, 1, none⟩)) rfl rfl (by kernel_rfl) (by kernel_rfl) (by kernel_rfl) (fun _ _ _ h => h) (Or.inl ⟨by rfl, ?_⟩) hHeld ?_
    · (intro w hSw; (try dsimp only at hSw); go_split_ands; go_simp)
    simp only [List.setIfInBounds_toArray, List.set_cons_zero, List.set_cons_succ]
    refine take_at (i := 12) (oi := _) 25 (v := .int .i64 y) rfl rfl (by kernel_rfl) (by kernel_rfl) (by kernel_rfl) (fun _ _ _ h => h) (Or.inl ⟨by rfl, ?_⟩) hHeld ?_
    · (intro w hSw; (try dsimp only at hSw); go_split_ands; go_simp)
    simp only [List.setIfInBounds_toArray, List.set_cons_zero, List.set_cons_succ]
    refine take_at (i := 13) (oi := _) 26 (v := .pointer (some ⟨g, 0, none⟩)) rfl rfl (by kernel_rfl) (by kernel_rfl) (by kernel_rfl) (fun _ _ _ h => h) (Or.inl ⟨by rfl, ?_⟩) hHeld ?_
    · (intro w hSw; (try dsimp only at hSw); go_split_ands; go_simp)
    simp only [List.setIfInBounds_toArray, List.set_cons_zero, List.set_cons_succ]
    refine take_at (i := 14) (oi := _) 27 (v := .pointer (some ⟨g, 0, none⟩)) rfl rfl (by kernel_rfl) (by kernel_rfl) (by kernel_rfl) (fun _ _ _ h => h) (Or.inl ⟨by rfl, ?_⟩) hHeld ?_
    · (intro w hSw; (try dsimp only at hSw); go_split_ands; go_simp)
    simp only [List.setIfInBounds_toArray, List.set_cons_zero, List.set_cons_succ]
    replace C := Lib.hid (show Cur (w3.alloc (.cells #[.int .i64 x, .int .i64 y, .int .i64 0, .int .i64 0, .int .i64 c] 27)).drew B g (N + 16) from C.out)
    replace K := Lib.hid (show Blk (w3.alloc (.cells #[.int .i64 x, .int .i64 y, .int .i64 0, .int .i64 0, .int .i64 c] 27)).drew w.heap.size 27 #[.int .i64 0, .int .i64 0, .int .i64 0, .int .i64 0, .int .i64 0] from K.out)
    replace T := Lib.hid (show Blk (w3.alloc (.cells #[.int .i64 x, .int .i64 y, .int .i64 0, .int .i64 0, .int .i64 c] 27)).drew w3.heap.size 27 #[.int .i64 x, .int .i64 y, .int .i64 0, .int .i64 0, .int .i64 c] from T.out)
    replace G := Lib.hid (show w.grownBy (w3.alloc (.cells #[.int .i64 x, .int .i64 y, .int .i64 0, .int .i64 0, .int .i64 c] 27)).drew (some g) from ⟨G.out.os, G.out.tape, G.out.output, G.out.size, G.out.block⟩)
    refine wpAnyH_ready (rs := [5]) (by kernel_rfl) (by simp) ?_
    refine AllReadyH.cons (o := _) rfl (fun K9 hK => ?_) AllReadyH.nil
    go_simp
    refine (pick_any B g (N + 16) 200 _ C.out (by omega) (by omega)).mono ?_
    rintro e9 v5 ⟨a, a0, a1, rfl, hc, hg⟩
    simp [pickHi] at a1
    replace C := Lib.hid hc
    replace G := Lib.hid (grow_trans G.out hg)
    replace K := Lib.hid (K.out.grown' hg hgk)
    replace T := Lib.hid (T.out.grown' hg hgt)
    clear hc hg
    refine hK.out _ _ ⟨T.out.cell 0, T.out.cell 1⟩ (fun hHeld => ?_)
    clear hK K9
    refine wpAnyH_ready (rs := [6]) (by kernel_rfl) (by simp) ?_
    refine AllReadyH.cons (o := _) rfl (fun K9 hK => ?_) AllReadyH.nil
    go_simp
    have E := Lib.hid (Blk.new v5 3 (ints [0, 8, 12, 16, 64, a]).toArray)
    have HE := Lib.hid (show g < v5.heap.size from C.out.lt)
    replace C := Lib.hid (C.out.alloc (.cells (ints [0, 8, 12, 16, 64, a]).toArray 3))
    replace G := Lib.hid (only_alloc G.out (.cells (ints [0, 8, 12, 16, 64, a]).toArray 3))
    replace K := Lib.hid (K.out.alloc (.cells (ints [0, 8, 12, 16, 64, a]).toArray 3))
    replace T := Lib.hid (T.out.alloc (.cells (ints [0, 8, 12, 16, 64, a]).toArray 3))
    refine hK.out _ _ ⟨T.out.cell 0, T.out.cell 1⟩ (fun hHeld => ?_)
    clear hK K9
    refine wpAnyH_ready (rs := [7]) (by kernel_rfl) (by simp) ?_
    refine AllReadyH.cons (o := _) rfl (fun K9 hK => ?_) AllReadyH.nil
    go_simp
    refine (among_blk B g (N + 18) v5.heap.size _ [0, 8, 12, 16, 64, a] 0 200 _ C.out (by omega) HE.out E.out (by simp) (by simp) (by simp; omega)).mono ?_
    rintro e9 v7 ⟨b, b0, b1, rfl, hc, hg⟩
    replace C := Lib.hid hc
    replace G := Lib.hid (grow_trans G.out hg)
    replace K := Lib.hid (K.out.grown' hg hgk)
    replace T := Lib.hid (T.out.grown' hg hgt)
    clear hc hg
    clear E HE
    refine hK.out _ _ ⟨T.out.cell 0, T.out.cell 1⟩ (fun hHeld => ?_)
    clear hK K9
    refine wpAnyH_ready (rs := [8]) (by kernel_rfl) (by simp) ?_
    refine AllReadyH.cons (o := _) rfl (fun K9 hK => ?_) AllReadyH.nil
    go_simp
    refine hK.out _ _ ⟨T.out.cell 0, T.out.cell 1⟩ (fun hHeld => ?_)
    clear hK K9
    refine wpAnyH_ready (rs := [9]) (by kernel_rfl) (by simp) ?_
    refine AllReadyH.cons (o := _) rfl (fun K9 hK => ?_) AllReadyH.nil
    go_simp
    refine (least_int _ _ _).mono ?_
    rintro e9 w9 ⟨m9, rfl, rfl⟩
    refine hK.out _ _ ⟨T.out.cell 0, T.out.cell 1⟩ (fun hHeld => ?_)
    clear hK K9
    refine wpAnyH_ready (rs := [15]) (by kernel_rfl) (by simp) ?_
    refine AllReadyH.cons (o := _) rfl (fun K9 hK => ?_) AllReadyH.nil
    go_simp
    refine (pick_any B g (N + 20) 200 _ C.out (by omega) (by omega)).mono ?_
    rintro e9 v15 ⟨d, d0, d1, rfl, hc, hg⟩
    simp [pickHi] at d1
    replace C := Lib.hid hc
    replace G := Lib.hid (grow_trans G.out hg)
    replace K := Lib.hid (K.out.grown' hg hgk)
    replace T := Lib.hid (T.out.grown' hg hgt)
    clear hc hg
    refine hK.out _ _ ⟨T.out.cell 0, T.out.cell 1⟩ (fun hHeld => ?_)
    clear hK K9
    refine wpAnyH_ready (rs := [16]) (by kernel_rfl) (by simp) ?_
    refine AllReadyH.cons (o := _) rfl (fun K9 hK => ?_) AllReadyH.nil
    go_simp
    have E := Lib.hid (Blk.new v15 3 (ints [0, 8, 16, 64, d]).toArray)
    have HE := Lib.hid (show g < v15.heap.size from C.out.lt)
    replace C := Lib.hid (C.out.alloc (.cells (ints [0, 8, 16, 64, d]).toArray 3))
    replace G := Lib.hid (only_alloc G.out (.cells (ints [0, 8, 16, 64, d]).toArray 3))
    replace K := Lib.hid (K.out.alloc (.cells (ints [0, 8, 16, 64, d]).toArray 3))
    replace T := Lib.hid (T.out.alloc (.cells (ints [0, 8, 16, 64, d]).toArray 3))
    refine hK.out _ _ ⟨T.out.cell 0, T.out.cell 1⟩ (fun hHeld => ?_)
    clear hK K9
    refine wpAnyH_ready (rs := [17]) (by kernel_rfl) (by simp) ?_
    refine AllReadyH.cons (o := _) rfl (fun K9 hK => ?_) AllReadyH.nil
    go_simp
    refine (among_blk B g (N + 22) v15.heap.size _ [0, 8, 16, 64, d] 0 200 _ C.out (by omega) HE.out E.out (by simp) (by simp) (by simp; omega)).mono ?_
    rintro e9 v17 ⟨f, f0, f1, rfl, hc, hg⟩
    replace C := Lib.hid hc
    replace G := Lib.hid (grow_trans G.out hg)
    replace K := Lib.hid (K.out.grown' hg hgk)
    replace T := Lib.hid (T.out.grown' hg hgt)
    clear hc hg
    clear E HE
    refine hK.out _ _ ⟨T.out.cell 0, T.out.cell 1⟩ (fun hHeld => ?_)
    clear hK K9
    refine wpAnyH_ready (rs := [18]) (by kernel_rfl) (by simp) ?_
    refine AllReadyH.cons (o := _) rfl (fun K9 hK => ?_) AllReadyH.nil
    go_simp
    refine hK.out _ _ ⟨T.out.cell 0, T.out.cell 1⟩ (fun hHeld => ?_)
    clear hK K9
    refine wpAnyH_ready (rs := [19]) (by kernel_rfl) (by simp) ?_
    refine AllReadyH.cons (o := _) rfl (fun K9 hK => ?_) AllReadyH.nil
    go_simp
    refine (most_int _ _ _).mono ?_
    rintro e9 w9 ⟨m19, rfl, rfl⟩
    refine hK.out _ _ ⟨T.out.cell 0, T.out.cell 1⟩ (fun hHeld => ?_)
    clear hK K9
    refine wpAnyH_ready (rs := [20]) (by kernel_rfl) (by simp) ?_
    refine AllReadyH.cons (o := _) rfl (fun K9 hK => ?_) AllReadyH.nil
    go_simp
    refine hK.out _ _ ⟨T.out.cell 0, T.out.cell 1⟩ (fun hHeld => ?_)
    clear hK K9
    refine take_at (i := 21) (oi := _) 34 (v := .pointer (some ⟨w3.heap.size, 2, none⟩)) rfl rfl (by kernel_rfl) (by kernel_rfl) (by kernel_rfl) (fun _ _ _ h => h) (Or.inl ⟨by rfl, ?_⟩) hHeld ?_
    · (intro w hSw; (try dsimp only at hSw); go_split_ands; go_simp)
    simp only [List.setIfInBounds_toArray, List.set_cons_zero, List.set_cons_succ]
    obtain ⟨t0, t1, t2, t3, t4⟩ := T.out.c5
    have y2 := T.out.frozen 2
    have y3 := T.out.frozen 3
    refine wpAnyH_ready (rs := [22]) (by kernel_rfl) (by simp) ?_
    refine AllReadyH.cons (o := _) rfl (fun K9 hK => ?_) AllReadyH.nil
    go_simp
    have HC := Lib.hid ((C.out.setCell (p := ⟨w3.heap.size, 2, none⟩) hglt (.int .i64 m9)).setCell (p := ⟨w3.heap.size, 3, none⟩) hglt (.int .i64 m19))
    have HG := Lib.hid (only_set (p := ⟨w3.heap.size, 3, none⟩) (only_set (p := ⟨w3.heap.size, 2, none⟩) G.out hwt (.int .i64 m9)) hwt (.int .i64 m19))
    have HK := Lib.hid ((K.out.far (p := ⟨w3.heap.size, 2, none⟩) hkt (.int .i64 m9)).far (p := ⟨w3.heap.size, 3, none⟩) hkt (.int .i64 m19))
    have HT := Lib.hid (T.out.mv23 (.int .i64 m9) (.int .i64 m19))
    refine hK.out _ _ ⟨HT.out.cell 0, HT.out.cell 1⟩ (fun hHeld => ?_)
    clear hK K9
    refine wpAnyH_done (by kernel_rfl) ?_ _
    clear t0 t1 t2 t3 t4 y2 y3
    go_wp2_with fail
    refine Met.intro ?_
    go_step
    exact meet_at ⟨HC.out.le (by omega), HG.out, HK.out, m9, m19, HT.out⟩ (by kernel_rfl)
  case rest =>
    rintro _ wc ⟨f, ⟨hC, hG, hK, p, q, hT⟩, hA⟩
    subst hA
    dsimp only
    replace C := Lib.hid hC
    replace G := Lib.hid hG
    replace K := Lib.hid hK
    replace T := Lib.hid hT
    clear hC hG hK hT
    go_wp2_with fail
    refine (pick_any B g (N + 24) 24 _ C.out (by omega) (by omega)).mono ?_
    rintro e w4 ⟨r, r0, r1, rfl, hc, hg⟩
    replace C := Lib.hid hc
    replace G := Lib.hid (grow_trans G.out hg)
    replace K := Lib.hid (K.out.grown' hg hgk)
    replace T := Lib.hid (T.out.grown' hg hgt)
    clear hc hg
    clear r0 r1
    obtain ⟨t0, t1, t2, t3, t4⟩ := T.out.c5
    have y0 := T.out.frozen 0
    have y1 := T.out.frozen 1
    have y2 := T.out.frozen 2
    have y3 := T.out.frozen 3
    have y4 := T.out.frozen 4
    cases h0 : (r == 0) with
    | true =>
      have A := Lib.hid (Blk.new w4 3 (ints [0, 64, 65]).toArray)
      have hl4 := C.out.lt
      replace C := Lib.hid (C.out.alloc (.cells (ints [0, 64, 65]).toArray 3))
      replace G := Lib.hid (only_alloc G.out (.cells (ints [0, 64, 65]).toArray 3))
      replace K := Lib.hid (K.out.alloc (.cells (ints [0, 64, 65]).toArray 3))
      replace T := Lib.hid (T.out.alloc (.cells (ints [0, 64, 65]).toArray 3))
      go_wp2_with fail
      refine (among_blk B g (N + 26) w4.heap.size _ [0, 64, 65] 0 65 _ C.out (by omega) hl4 A.out (by simp) (by simp) (by simp)).mono ?_
      rintro e w5 ⟨c, -, -, rfl, hc, hg⟩
      replace C := Lib.hid hc
      replace G := Lib.hid (grow_trans G.out hg)
      replace K := Lib.hid (K.out.grown' hg hgk)
      replace T := Lib.hid (T.out.grown' hg hgt)
      clear hc hg
      clear t0 t1 t2 t3 t4 y0 y1 y2 y3 y4 A
      obtain ⟨t0, t1, t2, t3, t4⟩ := T.out.c5
      have y4 := T.out.frozen 4
      go_upto_region 10 with (fail)
      replace T := Lib.hid (T.out.mv4 (.int .i64 c))
      replace C := Lib.hid (C.out.setCell (p := ⟨w3.heap.size, 4, none⟩) hglt (.int .i64 c))
      replace G := Lib.hid (only_set (p := ⟨w3.heap.size, 4, none⟩) G.out hwt (.int .i64 c))
      replace K := Lib.hid (K.out.far (p := ⟨w3.heap.size, 4, none⟩) hkt (.int .i64 c))
      generalize World.setCell w5 ⟨w3.heap.size, 4, none⟩ (Value.int .i64 c) = w6 at C G K T ⊢
      clear t0 t1 t2 t3 t4 y4 h0
      obtain ⟨b0, b1, b2, b3, b4⟩ := T.out.c5
      obtain ⟨a0, a1, a2, a3, a4⟩ := K.out.c5
      have z0 := K.out.frozen 0
      have z1 := K.out.frozen 1
      have z2 := K.out.frozen 2
      have z3 := K.out.frozen 3
      have z4 := K.out.frozen 4
      go_wp2_with fail
      obtain ⟨m0, m1, m2, m3, m4⟩ := (K.out.mv5 (.int .i64 x) (.int .i64 y) (.int .i64 p) (.int .i64 q) (.int .i64 c)).c5
      exact bodyPost_ret (v := (Value.agg #[Value.int .i64 x, Value.int .i64 y, Value.int .i64 p, Value.int .i64 q, Value.int .i64 c])) (by simp [results, Try.results43, go_sem, m0, m1, m2, m3, m4]) rfl
        ⟨x, y, p, q, c, rfl, (((((C.out.setCell (p := ⟨w.heap.size, 0, none⟩) hlt _).setCell (p := ⟨w.heap.size, 1, none⟩) hlt _).setCell (p := ⟨w.heap.size, 2, none⟩) hlt _).setCell (p := ⟨w.heap.size, 3, none⟩) hlt _).setCell (p := ⟨w.heap.size, 4, none⟩) hlt _).le (by omega),
          only_set (p := ⟨w.heap.size, 4, none⟩) (only_set (p := ⟨w.heap.size, 3, none⟩) (only_set (p := ⟨w.heap.size, 2, none⟩) (only_set (p := ⟨w.heap.size, 1, none⟩) (only_set (p := ⟨w.heap.size, 0, none⟩) G.out (Nat.le_refl _) _) (Nat.le_refl _) _) (Nat.le_refl _) _) (Nat.le_refl _) _) (Nat.le_refl _) _⟩
    | false =>
      cases h1 : (r == 1) with
      | true =>
        go_wp2_with fail
        refine (anySpot_any B g (N + 26) _ C.out (by omega)).mono ?_
        rintro e w5 ⟨i, j, -, rfl, hc, hg⟩
        replace C := Lib.hid hc
        replace G := Lib.hid (grow_trans G.out hg)
        replace K := Lib.hid (K.out.grown' hg hgk)
        replace T := Lib.hid (T.out.grown' hg hgt)
        clear hc hg
        clear t0 t1 t2 t3 t4 y0 y1 y2 y3 y4
        obtain ⟨t0, t1, t2, t3, t4⟩ := T.out.c5
        have y0 := T.out.frozen 0
        have y1 := T.out.frozen 1
        go_upto_region 10 with (fail)
        replace T := Lib.hid (T.out.mv01 (.int .i64 i) (.int .i64 j))
        replace C := Lib.hid ((C.out.setCell (p := ⟨w3.heap.size, 0, none⟩) hglt (.int .i64 i)).setCell (p := ⟨w3.heap.size, 1, none⟩) hglt (.int .i64 j))
        replace G := Lib.hid (only_set (p := ⟨w3.heap.size, 1, none⟩) (only_set (p := ⟨w3.heap.size, 0, none⟩) G.out hwt (.int .i64 i)) hwt (.int .i64 j))
        replace K := Lib.hid ((K.out.far (p := ⟨w3.heap.size, 0, none⟩) hkt (.int .i64 i)).far (p := ⟨w3.heap.size, 1, none⟩) hkt (.int .i64 j))
        generalize World.setCell (World.setCell w5 ⟨w3.heap.size, 0, none⟩ (Value.int .i64 i)) ⟨w3.heap.size, 1, none⟩ (Value.int .i64 j) = w6 at C G K T ⊢
        clear t0 t1 t2 t3 t4 y0 y1 h0 h1
        obtain ⟨b0, b1, b2, b3, b4⟩ := T.out.c5
        obtain ⟨a0, a1, a2, a3, a4⟩ := K.out.c5
        have z0 := K.out.frozen 0
        have z1 := K.out.frozen 1
        have z2 := K.out.frozen 2
        have z3 := K.out.frozen 3
        have z4 := K.out.frozen 4
        go_wp2_with fail
        obtain ⟨m0, m1, m2, m3, m4⟩ := (K.out.mv5 (.int .i64 i) (.int .i64 j) (.int .i64 p) (.int .i64 q) (.int .i64 c)).c5
        exact bodyPost_ret (v := (Value.agg #[Value.int .i64 i, Value.int .i64 j, Value.int .i64 p, Value.int .i64 q, Value.int .i64 c])) (by simp [results, Try.results43, go_sem, m0, m1, m2, m3, m4]) rfl
          ⟨i, j, p, q, c, rfl, (((((C.out.setCell (p := ⟨w.heap.size, 0, none⟩) hlt _).setCell (p := ⟨w.heap.size, 1, none⟩) hlt _).setCell (p := ⟨w.heap.size, 2, none⟩) hlt _).setCell (p := ⟨w.heap.size, 3, none⟩) hlt _).setCell (p := ⟨w.heap.size, 4, none⟩) hlt _).le (by omega),
            only_set (p := ⟨w.heap.size, 4, none⟩) (only_set (p := ⟨w.heap.size, 3, none⟩) (only_set (p := ⟨w.heap.size, 2, none⟩) (only_set (p := ⟨w.heap.size, 1, none⟩) (only_set (p := ⟨w.heap.size, 0, none⟩) G.out (Nat.le_refl _) _) (Nat.le_refl _) _) (Nat.le_refl _) _) (Nat.le_refl _) _) (Nat.le_refl _) _⟩
      | false =>
        cases h2 : (r == 2) with
        | true =>
          go_wp2_with fail
          refine (anySpot_any B g (N + 26) _ C.out (by omega)).mono ?_
          rintro e w5 ⟨i, j, -, rfl, hc, hg⟩
          replace C := Lib.hid hc
          replace G := Lib.hid (grow_trans G.out hg)
          replace K := Lib.hid (K.out.grown' hg hgk)
          replace T := Lib.hid (T.out.grown' hg hgt)
          clear hc hg
          clear t0 t1 t2 t3 t4 y0 y1 y2 y3 y4
          obtain ⟨t0, t1, t2, t3, t4⟩ := T.out.c5
          have y2 := T.out.frozen 2
          have y3 := T.out.frozen 3
          go_upto_region 10 with (fail)
          replace T := Lib.hid (T.out.mv23 (.int .i64 i) (.int .i64 j))
          replace C := Lib.hid ((C.out.setCell (p := ⟨w3.heap.size, 2, none⟩) hglt (.int .i64 i)).setCell (p := ⟨w3.heap.size, 3, none⟩) hglt (.int .i64 j))
          replace G := Lib.hid (only_set (p := ⟨w3.heap.size, 3, none⟩) (only_set (p := ⟨w3.heap.size, 2, none⟩) G.out hwt (.int .i64 i)) hwt (.int .i64 j))
          replace K := Lib.hid ((K.out.far (p := ⟨w3.heap.size, 2, none⟩) hkt (.int .i64 i)).far (p := ⟨w3.heap.size, 3, none⟩) hkt (.int .i64 j))
          generalize World.setCell (World.setCell w5 ⟨w3.heap.size, 2, none⟩ (Value.int .i64 i)) ⟨w3.heap.size, 3, none⟩ (Value.int .i64 j) = w6 at C G K T ⊢
          clear t0 t1 t2 t3 t4 y2 y3 h0 h1 h2
          obtain ⟨b0, b1, b2, b3, b4⟩ := T.out.c5
          obtain ⟨a0, a1, a2, a3, a4⟩ := K.out.c5
          have z0 := K.out.frozen 0
          have z1 := K.out.frozen 1
          have z2 := K.out.frozen 2
          have z3 := K.out.frozen 3
          have z4 := K.out.frozen 4
          go_wp2_with fail
          obtain ⟨m0, m1, m2, m3, m4⟩ := (K.out.mv5 (.int .i64 x) (.int .i64 y) (.int .i64 i) (.int .i64 j) (.int .i64 c)).c5
          exact bodyPost_ret (v := (Value.agg #[Value.int .i64 x, Value.int .i64 y, Value.int .i64 i, Value.int .i64 j, Value.int .i64 c])) (by simp [results, Try.results43, go_sem, m0, m1, m2, m3, m4]) rfl
            ⟨x, y, i, j, c, rfl, (((((C.out.setCell (p := ⟨w.heap.size, 0, none⟩) hlt _).setCell (p := ⟨w.heap.size, 1, none⟩) hlt _).setCell (p := ⟨w.heap.size, 2, none⟩) hlt _).setCell (p := ⟨w.heap.size, 3, none⟩) hlt _).setCell (p := ⟨w.heap.size, 4, none⟩) hlt _).le (by omega),
              only_set (p := ⟨w.heap.size, 4, none⟩) (only_set (p := ⟨w.heap.size, 3, none⟩) (only_set (p := ⟨w.heap.size, 2, none⟩) (only_set (p := ⟨w.heap.size, 1, none⟩) (only_set (p := ⟨w.heap.size, 0, none⟩) G.out (Nat.le_refl _) _) (Nat.le_refl _) _) (Nat.le_refl _) _) (Nat.le_refl _) _) (Nat.le_refl _) _⟩
        | false =>
          go_upto_region 10 with (fail)
          clear t0 t1 t2 t3 t4 y0 y1 y2 y3 y4 h0 h1 h2
          obtain ⟨b0, b1, b2, b3, b4⟩ := T.out.c5
          obtain ⟨a0, a1, a2, a3, a4⟩ := K.out.c5
          have z0 := K.out.frozen 0
          have z1 := K.out.frozen 1
          have z2 := K.out.frozen 2
          have z3 := K.out.frozen 3
          have z4 := K.out.frozen 4
          go_wp2_with fail
          obtain ⟨m0, m1, m2, m3, m4⟩ := (K.out.mv5 (.int .i64 x) (.int .i64 y) (.int .i64 p) (.int .i64 q) (.int .i64 c)).c5
          exact bodyPost_ret (v := (Value.agg #[Value.int .i64 x, Value.int .i64 y, Value.int .i64 p, Value.int .i64 q, Value.int .i64 c])) (by simp [results, Try.results43, go_sem, m0, m1, m2, m3, m4]) rfl
            ⟨x, y, p, q, c, rfl, (((((C.out.setCell (p := ⟨w.heap.size, 0, none⟩) hlt _).setCell (p := ⟨w.heap.size, 1, none⟩) hlt _).setCell (p := ⟨w.heap.size, 2, none⟩) hlt _).setCell (p := ⟨w.heap.size, 3, none⟩) hlt _).setCell (p := ⟨w.heap.size, 4, none⟩) hlt _).le (by omega),
              only_set (p := ⟨w.heap.size, 4, none⟩) (only_set (p := ⟨w.heap.size, 3, none⟩) (only_set (p := ⟨w.heap.size, 2, none⟩) (only_set (p := ⟨w.heap.size, 1, none⟩) (only_set (p := ⟨w.heap.size, 0, none⟩) G.out (Nat.le_refl _) _) (Nat.le_refl _) _) (Nat.le_refl _) _) (Nat.le_refl _) _) (Nat.le_refl _) _⟩
end Go.Proofs.Ytcpbcmebfiilmaa
