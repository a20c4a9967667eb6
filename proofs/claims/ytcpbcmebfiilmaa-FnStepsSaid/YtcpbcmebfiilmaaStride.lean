/- A move in any direction that is drawn: in whatever order its parts are made. Condition: the source's bytes can be read. -/
import Derived.Test.YtcpbcmebfiilmaaCurFacing
import Derived.Test.YtcpbcmebfiilmaaMoveDraw
import Derived.Test.YtcpbcmebfiilmaaAnyOrder
import Derived.Test.YtcpbcmebfiilmaaCutFn2
import Derived.Test.YtcpbcmebfiilmaaTake
import Derived.Test.YtcpbcmebfiilmaaSet
import Derived.Deep.DeepCutAuto
namespace Go.Proofs.Ytcpbcmebfiilmaa
open Go.RowKit

theorem was {l : Array Bool} {i j : Nat} (hi : i < l.size) (hj : j ≠ i) (h : (l.setIfInBounds i true).getD j false = true) : l.getD j false = true := by
  rw [getD_set _ _ _ _ hi, if_neg hj] at h; exact h
theorem Blk.sd5 {w : World} {g : Nat} {t : TypeId} {a b c d e : Value} (h : Blk w g t #[a, b, c, d, e]) (p q r s u : Value) :
    Blk (((((w.setCell ⟨g, 0, none⟩ p).setCell ⟨g, 1, none⟩ q).setCell ⟨g, 2, none⟩ r).setCell ⟨g, 3, none⟩ s).setCell ⟨g, 4, none⟩ u) g t #[p, q, r, s, u] := by
  have := ((((h.set_ 0 p).set_ 1 q).set_ 2 r).set_ 3 s).set_ 4 u
  simpa using this
theorem Blk.ap5 {w : World} {g k : Nat} {t : TypeId} {cs : Array Value} (h : Blk w k t cs) (hne : k ≠ g) (p q r s u : Value) :
    Blk (((((w.setCell ⟨g, 0, none⟩ p).setCell ⟨g, 1, none⟩ q).setCell ⟨g, 2, none⟩ r).setCell ⟨g, 3, none⟩ s).setCell ⟨g, 4, none⟩ u) k t cs :=
  ((((h.far (p := ⟨g, 0, none⟩) hne p).far (p := ⟨g, 1, none⟩) hne q).far (p := ⟨g, 2, none⟩) hne r).far (p := ⟨g, 3, none⟩) hne s).far (p := ⟨g, 4, none⟩) hne u
theorem cur_ap5 {w : World} {g B m N : Nat} (h : Cur w B m N) (hm : m < g) (p q r s u : Value) :
    Cur (((((w.setCell ⟨g, 0, none⟩ p).setCell ⟨g, 1, none⟩ q).setCell ⟨g, 2, none⟩ r).setCell ⟨g, 3, none⟩ s).setCell ⟨g, 4, none⟩ u) B m N :=
  ((((h.setCell (p := ⟨g, 0, none⟩) hm p).setCell (p := ⟨g, 1, none⟩) hm q).setCell (p := ⟨g, 2, none⟩) hm r).setCell (p := ⟨g, 3, none⟩) hm s).setCell (p := ⟨g, 4, none⟩) hm u
theorem only_ap5 {w a0 : World} {g : Nat} {row : Option Nat} (h : a0.grownBy w row) (hp : a0.heap.size ≤ g) (p q r s u : Value) :
    a0.grownBy (((((w.setCell ⟨g, 0, none⟩ p).setCell ⟨g, 1, none⟩ q).setCell ⟨g, 2, none⟩ r).setCell ⟨g, 3, none⟩ s).setCell ⟨g, 4, none⟩ u) row :=
  only_set (p := ⟨g, 4, none⟩) (only_set (p := ⟨g, 3, none⟩) (only_set (p := ⟨g, 2, none⟩) (only_set (p := ⟨g, 1, none⟩) (only_set (p := ⟨g, 0, none⟩) h hp p) hp q) hp r) hp s) hp u

theorem blk_ne {w : World} {k g : Nat} {t t' : TypeId} {cs cs' : Array Value} (h : Blk w g t cs) (h' : Blk w k t' cs') (hne : t ≠ t') : k ≠ g := by
  intro e
  subst e
  have := h.symm.trans h'
  simp only [Option.some.injEq, Obj.cells.injEq] at this
  exact hne this.2.1
/-- How many of the four drawings have come up. -/
def asked (l : Array Bool) : Nat := (l.getD 5 false).toNat + (l.getD 11 false).toNat + (l.getD 17 false).toNat + (l.getD 19 false).toNat
theorem asked_other {l : Array Bool} {i : Nat} (hi : i < l.size) (h5 : 5 ≠ i) (h11 : 11 ≠ i) (h17 : 17 ≠ i) (h19 : 19 ≠ i) : asked (l.setIfInBounds i true) = asked l := by
  unfold asked; rw [getD_set _ _ _ _ hi, getD_set _ _ _ _ hi, getD_set _ _ _ _ hi, getD_set _ _ _ _ hi, if_neg h5, if_neg h11, if_neg h17, if_neg h19]
theorem un {l : Array Bool} {i : Nat} (h : l.getD i true = false) : l.getD i false = false := by
  rcases Nat.lt_or_ge i l.size with g | g
  · simpa [Array.getD_eq_getD_getElem?, Array.getElem?_eq_getElem g] using h
  · simp [Array.getD_eq_getD_getElem?, Array.getElem?_eq_none g] at h
theorem asked_call {l : Array Bool} {i : Nat} (hi : i < l.size) (hu : l.getD i true = false) (hc : i = 5 ∨ i = 11 ∨ i = 17 ∨ i = 19) : asked (l.setIfInBounds i true) = asked l + 1 := by
  have hu := un hu
  unfold asked; rw [getD_set _ _ _ _ hi, getD_set _ _ _ _ hi, getD_set _ _ _ _ hi, getD_set _ _ _ _ hi]
  rcases hc with rfl | rfl | rfl | rfl <;> rw [hu] <;> simp <;> omega
theorem asked_le (l : Array Bool) : asked l ≤ 4 := by
  unfold asked
  cases l.getD 5 false <;> cases l.getD 11 false <;> cases l.getD 17 false <;> cases l.getD 19 false <;> simp
/-- What each operation of the region has left, if it has come up. -/
def St (w0 : World) (B g N kb lb ab : Nat) (a b d : Int) (l : Array Bool) (A : Act) (W : World) : Prop :=
  ∃ f : Nat → Value, ((Cur W B g (N + 6 + 2 * asked l) ∧ w0.grownBy W (some g) ∧ Blk W lb 25 #[.int .i64 a, .int .i64 b] ∧ Blk W ab 3 (ints [0, 0, 8, -8, 20, -20, 40, -40, 50, -50, 100, -100, d]).toArray ∧ Blk W kb 27 #[.int .i64 0, .int .i64 0, .int .i64 0, .int .i64 0, .int .i64 0]) ∧ (l.getD 5 false = true → ∃ e : Int, f 22 = .int .i64 e) ∧ (l.getD 6 false = true → ∃ e : Int, f 23 = .int .i64 e) ∧ (l.getD 11 false = true → ∃ e : Int, f 28 = .int .i64 e) ∧ (l.getD 12 false = true → ∃ e : Int, f 29 = .int .i64 e) ∧ (l.getD 13 false = true → ∃ x y : Int, f 30 = (Value.agg #[Value.int .i64 x, Value.int .i64 y])) ∧ (l.getD 16 false = true → ∃ k : Nat, f 33 = .slice (some ⟨k, 0, none⟩) 2 2 ∧ Blk W k 3 (ints [0, 65]).toArray ∧ g < k) ∧ (l.getD 17 false = true → ∃ p : Int, f 34 = .int .i64 p ∧ 0 ≤ p ∧ p ≤ 65) ∧ (l.getD 18 false = true → ∃ (k : Nat) (p : Int), f 35 = .slice (some ⟨k, 0, none⟩) 7 7 ∧ Blk W k 3 (ints [1, 2, 4, 8, 16, 64, p]).toArray ∧ g < k ∧ 0 ≤ p ∧ p ≤ 65) ∧ (l.getD 19 false = true → ∃ q : Int, f 36 = .int .i64 q) ∧ (l.getD 20 false = true → ∃ x y z u c : Int, f 37 = (Value.agg #[Value.int .i64 x, Value.int .i64 y, Value.int .i64 z, Value.int .i64 u, Value.int .i64 c])) ∧ (l.getD 21 false = true → ∃ (k : Nat) (x y z u c : Int), f 5 = .pointer (some ⟨k, 0, none⟩) ∧ Blk W k 27 #[.int .i64 x, .int .i64 y, .int .i64 z, .int .i64 u, .int .i64 c] ∧ g < k ∧ kb < k)) ∧ A = ⟨#[.pointer (some ⟨g, 0, none⟩), f 1, .pointer (some ⟨kb, 0, none⟩), f 3, f 4, f 5, f 6, f 7, f 8, f 9, f 10, f 11, f 12, f 13, f 14, f 15, f 16, (Value.agg #[Value.int .i64 a, Value.int .i64 b]), f 18, .int .i64 a, .pointer (some ⟨g, 0, none⟩), .slice (some ⟨ab, 0, none⟩) 13 13, f 22, f 23, f 24, .int .i64 b, .pointer (some ⟨g, 0, none⟩), .slice (some ⟨ab, 0, none⟩) 13 13, f 28, f 29, f 30, .pointer (some ⟨g, 0, none⟩), .pointer (some ⟨g, 0, none⟩), f 33, f 34, f 35, f 36, f 37, f 38, f 39, f 40, f 41, f 42], []⟩
/-- f, with v in place d. -/
def up (f : Nat → Value) (d : Nat) (v : Value) : Nat → Value := fun n => if n = d then v else f n
theorem up_ne {f : Nat → Value} {d n : Nat} {v : Value} (h : n ≠ d) : up f d v n = f n := by unfold up; rw [if_neg h]
theorem up_eq (f : Nat → Value) (d : Nat) (v : Value) : up f d v d = v := by unfold up; rw [if_pos rfl]
set_option maxRecDepth 100000 in
set_option maxHeartbeats 8000000 in
theorem stride_any (B g N : Nat) (w : World) (h : Cur w B g N) (hN : N ≤ 800000000) : Calls Try.prog 21 #[.pointer (some ⟨g, 0, none⟩)] w (HandsMove B g (N + 80) w) := by
  have hlt := h.lt
  have C0 := Lib.hid (h.alloc (.cells #[.int .i64 0, .int .i64 0, .int .i64 0, .int .i64 0, .int .i64 0] 27))
  have K0 := Lib.hid (Blk.new w 27 #[.int .i64 0, .int .i64 0, .int .i64 0, .int .i64 0, .int .i64 0])
  have G0 := Lib.hid (only_alloc (World.grownBy.refl w (some g)) (.cells #[.int .i64 0, .int .i64 0, .int .i64 0, .int .i64 0, .int .i64 0] 27))
  clear h
  go_enter Try.func21, Try.ntmps21
  go_wp2_with fail
  refine (pick_any B g (N + 0) 500 _ C0.out (by omega) (by omega)).mono ?_
  rintro e w1 ⟨x1, x10, x11, rfl, hc, hg⟩
  simp [pickHi] at x11
  have C1 := Lib.hid hc
  have K1 := Lib.hid (K0.out.grown' hg (by omega))
  have G1 := Lib.hid (grow_trans G0.out hg)
  clear hc hg
  go_wp2_with fail
  refine (pick_any B g (N + 2) 200 _ C1.out (by omega) (by omega)).mono ?_
  rintro e w2 ⟨x2, x20, x21, rfl, hc, hg⟩
  simp [pickHi] at x21
  have C2 := Lib.hid hc
  have K2 := Lib.hid (K1.out.grown' hg (by omega))
  have G2 := Lib.hid (grow_trans G1.out hg)
  clear hc hg
  obtain ⟨a, ea⟩ : ∃ a, 300 + x1 = a := ⟨_, rfl⟩
  obtain ⟨b, eb⟩ : ∃ a, 200 + x2 = a := ⟨_, rfl⟩
  have ha : 300 ≤ a ∧ a ≤ 799 := by omega
  have hb : 200 ≤ b ∧ b ≤ 399 := by omega
  have a1 := IntWalk.i64_in (300 + x1) (by omega)
  have b1 := IntWalk.i64_in (200 + x2) (by omega)
  rw [ea] at a1
  rw [eb] at b1
  clear x10 x11 x20 x21
  have L29 := Lib.hid (Blk.new w2 25 #[.int .i64 a, .int .i64 b])
  have C29 := Lib.hid (C2.out.alloc (.cells #[.int .i64 a, .int .i64 b] 25))
  have K29 := Lib.hid (K2.out.alloc (.cells #[.int .i64 a, .int .i64 b] 25))
  have G29 := Lib.hid (only_alloc G2.out (.cells #[.int .i64 a, .int .i64 b] 25))
  go_wp2_with fail
  refine (pick_any B g (N + 4) 200 _ C29.out (by omega) (by omega)).mono ?_
  rintro e w3 ⟨x3, x30, x31, rfl, hc, hg⟩
  simp [pickHi] at x31
  have hwl : g < w2.heap.size := C2.out.lt
  have C3 := Lib.hid hc
  have K3 := Lib.hid (K29.out.grown' hg (by omega))
  have L3 := Lib.hid (L29.out.grown' hg (by omega))
  have G3 := Lib.hid (grow_trans G29.out hg)
  clear hc hg C29 K29 L29 G29
  have c1 := IntWalk.i64_in (x3 - 100) (by omega)
  obtain ⟨d, ed⟩ : ∃ a, x3 - 100 = a := ⟨_, rfl⟩
  rw [ed] at c1
  have hd : -100 ≤ d ∧ d ≤ 99 := by omega
  have A := Lib.hid ((Blk.new w3 3 (ints [0, 0, 8, -8, 20, -20, 40, -40, 50, -50, 100, -100, d]).toArray))
  have C := Lib.hid (C3.out.alloc (.cells (ints [0, 0, 8, -8, 20, -20, 40, -40, 50, -50, 100, -100, d]).toArray 3))
  have K := Lib.hid (K3.out.alloc (.cells (ints [0, 0, 8, -8, 20, -20, 40, -40, 50, -50, 100, -100, d]).toArray 3))
  have L := Lib.hid (L3.out.alloc (.cells (ints [0, 0, 8, -8, 20, -20, 40, -40, 50, -50, 100, -100, d]).toArray 3))
  have G := Lib.hid (only_alloc G3.out (.cells (ints [0, 0, 8, -8, 20, -20, 40, -40, 50, -50, 100, -100, d]).toArray 3))
  have hga : g < w3.heap.size := C3.out.lt
  have hgl : w2.heap.size ≠ g := by omega
  have hgk : w.heap.size ≠ g := by omega
  clear C3 K3 L3 G3 C2 K2 G2
  go_upto_region 3 with (fail)
  refine wp_cut (fun a' wk => ∃ f : Nat → Value, (∃ (mb : Nat) (x y z u c : Int), f 5 = .pointer (some ⟨mb, 0, none⟩) ∧ Blk wk mb 27 #[.int .i64 x, .int .i64 y, .int .i64 z, .int .i64 u, .int .i64 c] ∧ g < mb ∧ Cur wk B g (N + 14) ∧ w.grownBy wk (some g) ∧ Blk wk w.heap.size 27 #[.int .i64 0, .int .i64 0, .int .i64 0, .int .i64 0, .int .i64 0]) ∧ a' = ⟨#[.pointer (some ⟨g, 0, none⟩), f 1, .pointer (some ⟨w.heap.size, 0, none⟩), f 3, f 4, f 5, f 6, f 7, f 8, f 9, f 10, f 11, f 12, f 13, f 14, f 15, f 16, f 17, f 18, f 19, f 20, f 21, f 22, f 23, f 24, f 25, f 26, f 27, f 28, f 29, f 30, f 31, f 32, f 33, f 34, f 35, f 36, f 37, f 38, f 39, f 40, f 41, f 42], []⟩) ?rest ?first
  case rest =>
    rintro _ wc ⟨f, ⟨mb, x, y, z, u, c, q5, hM, hgm, hC, hG, hK⟩, hA⟩
    subst hA
    dsimp only
    have M := Lib.hid hM
    have C := Lib.hid hC
    have G := Lib.hid hG
    have K := Lib.hid hK
    clear hM hC hG hK
    have hmg : mb ≠ g := Nat.ne_of_gt hgm
    go_wp2_with fail
    refine (one_any B g (N + 14) 16 _ C.out (by omega) (by omega)).mono ?_
    rintro e w4 ⟨t, rfl, hc, hg⟩
    replace C := Lib.hid hc
    replace G := Lib.hid (grow_trans G.out hg)
    replace M := Lib.hid (M.out.grown' hg hmg)
    replace K := Lib.hid (K.out.grown' hg hgk)
    clear hc hg
    cases t with
    | true =>
      go_wp2_with fail
      refine (move_any B g (N + 14 + 2) _ C.out (by omega)).mono ?_
      rintro e w5 ⟨x, y, z, u, c, rfl, hc, hg⟩
      replace C := Lib.hid hc
      replace G := Lib.hid (grow_trans G.out hg)
      replace K := Lib.hid (K.out.grown' hg hgk)
      clear hc hg M
      obtain ⟨a0, a1, a2, a3, a4⟩ := K.out.c5
      have z0 := K.out.frozen 0
      have z1 := K.out.frozen 1
      have z2 := K.out.frozen 2
      have z3 := K.out.frozen 3
      have z4 := K.out.frozen 4
      go_wp2_with fail
      obtain ⟨m0, m1, m2, m3, m4⟩ := (K.out.sd5 (.int .i64 x) (.int .i64 y) (.int .i64 z) (.int .i64 u) (.int .i64 c)).c5
      exact bodyPost_ret (v := (Value.agg #[Value.int .i64 x, Value.int .i64 y, Value.int .i64 z, Value.int .i64 u, Value.int .i64 c])) (by simp [results, Try.results21, go_sem, m0, m1, m2, m3, m4]) rfl
        ⟨x, y, z, u, c, rfl, (cur_ap5 C.out hlt _ _ _ _ _).le (by omega), only_ap5 G.out (Nat.le_refl _) _ _ _ _ _⟩
    | false =>
      obtain ⟨b0, b1, b2, b3, b4⟩ := M.out.c5
      obtain ⟨a0, a1, a2, a3, a4⟩ := K.out.c5
      have z0 := K.out.frozen 0
      have z1 := K.out.frozen 1
      have z2 := K.out.frozen 2
      have z3 := K.out.frozen 3
      have z4 := K.out.frozen 4
      go_wp2_with fail
      obtain ⟨m0, m1, m2, m3, m4⟩ := (K.out.sd5 (.int .i64 x) (.int .i64 y) (.int .i64 z) (.int .i64 u) (.int .i64 c)).c5
      exact bodyPost_ret (v := (Value.agg #[Value.int .i64 x, Value.int .i64 y, Value.int .i64 z, Value.int .i64 u, Value.int .i64 c])) (by simp [results, Try.results21, go_sem, m0, m1, m2, m3, m4]) rfl
        ⟨x, y, z, u, c, rfl, (cur_ap5 C.out hlt _ _ _ _ _).le (by omega), only_ap5 G.out (Nat.le_refl _) _ _ _ _ _⟩
  case first =>
  intro _ _ _ _
  refine wp_region_held_drew (S := fun W => W.cell? ⟨w2.heap.size, 0, none⟩ = some (.int .i64 a) ∧ W.cell? ⟨w2.heap.size, 1, none⟩ = some (.int .i64 b)) (by kernel_rfl) L.out.c2 (fun hHeld => ?_)
  refine take_at (i := 0) (oi := _) 17 (v := (Value.agg #[Value.int .i64 a, Value.int .i64 b])) rfl rfl (by kernel_rfl) (by kernel_rfl) (by kernel_rfl) (fun _ _ _ h => h) (Or.inl ⟨by rfl, ?_⟩) hHeld ?_
  · (intro w hSw; (try dsimp only at hSw); go_split_ands; go_simp)
  simp only [List.setIfInBounds_toArray, List.set_cons_zero, List.set_cons_succ]
  refine take_at (i := 1) (oi := _) 18 (v := .pointer (some ⟨w2.heap.size, 0, none⟩)) rfl rfl (by kernel_rfl) (by kernel_rfl) (by kernel_rfl) (fun _ _ _ h => h) (Or.inl ⟨by rfl, ?_⟩) hHeld ?_
  · (intro w hSw; (try dsimp only at hSw); go_split_ands; go_simp)
  simp only [List.setIfInBounds_toArray, List.set_cons_zero, List.set_cons_succ]
  refine take_at (i := 2) (oi := _) 19 (v := .int .i64 a) rfl rfl (by kernel_rfl) (by kernel_rfl) (by kernel_rfl) (fun _ _ _ h => h) (Or.inl ⟨by rfl, ?_⟩) hHeld ?_
  · (intro w hSw; (try dsimp only at hSw); go_split_ands; go_simp)
  simp only [List.setIfInBounds_toArray, List.set_cons_zero, List.set_cons_succ]
  refine take_at (i := 3) (oi := _) 20 (v := .pointer (some ⟨g, 0, none⟩)) rfl rfl (by kernel_rfl) (by kernel_rfl) (by kernel_rfl) (fun _ _ _ h => h) (Or.inl ⟨by rfl, ?_⟩) hHeld ?_
  · (intro w hSw; (try dsimp only at hSw); go_split_ands; go_simp)
  simp only [List.setIfInBounds_toArray, List.set_cons_zero, List.set_cons_succ]
  refine take_at (i := 4) (oi := _) 21 (v := .slice (some ⟨w3.heap.size, 0, none⟩) 13 13) rfl rfl (by kernel_rfl) (by kernel_rfl) (by kernel_rfl) (fun _ _ _ h => h) (Or.inl ⟨by rfl, ?_⟩) hHeld ?_
  · (intro w hSw; (try dsimp only at hSw); go_split_ands; go_simp)
  simp only [List.setIfInBounds_toArray, List.set_cons_zero, List.set_cons_succ]
  refine take_at (i := 7) (oi := _) 24 (v := .pointer (some ⟨w2.heap.size, 1, none⟩)) rfl rfl (by kernel_rfl) (by kernel_rfl) (by kernel_rfl) (fun _ _ _ h => h) (Or.inl ⟨by rfl, ?_⟩) hHeld ?_
  · (intro w hSw; (try dsimp only at hSw); go_split_ands; go_simp)
  simp only [List.setIfInBounds_toArray, List.set_cons_zero, List.set_cons_succ]
  refine take_at (i := 8) (oi := _) 25 (v := .int .i64 b) rfl rfl (by kernel_rfl) (by kernel_rfl) (by kernel_rfl) (fun _ _ _ h => h) (Or.inl ⟨by rfl, ?_⟩) hHeld ?_
  · (intro w hSw; (try dsimp only at hSw); go_split_ands; go_simp)
  simp only [List.setIfInBounds_toArray, List.set_cons_zero, List.set_cons_succ]
  refine take_at (i := 9) (oi := _) 26 (v := .pointer (some ⟨g, 0, none⟩)) rfl rfl (by kernel_rfl) (by kernel_rfl) (by kernel_rfl) (fun _ _ _ h => h) (Or.inl ⟨by rfl, ?_⟩) hHeld ?_
  · (intro w hSw; (try dsimp only at hSw); go_split_ands; go_simp)
  simp only [List.setIfInBounds_toArray, List.set_cons_zero, List.set_cons_succ]
  refine take_at (i := 10) (oi := _) 27 (v := .slice (some ⟨w3.heap.size, 0, none⟩) 13 13) rfl rfl (by kernel_rfl) (by kernel_rfl) (by kernel_rfl) (fun _ _ _ h => h) (Or.inl ⟨by rfl, ?_⟩) hHeld ?_
  · (intro w hSw; (try dsimp only at hSw); go_split_ands; go_simp)
  simp only [List.setIfInBounds_toArray, List.set_cons_zero, List.set_cons_succ]
  refine take_at (i := 14) (oi := _) 31 (v := .pointer (some ⟨g, 0, none⟩)) rfl rfl (by kernel_rfl) (by kernel_rfl) (by kernel_rfl) (fun _ _ _ h => h) (Or.inl ⟨by rfl, ?_⟩) hHeld ?_
  · (intro w hSw; (try dsimp only at hSw); go_split_ands; go_simp)
  simp only [List.setIfInBounds_toArray, List.set_cons_zero, List.set_cons_succ]
  refine take_at (i := 15) (oi := _) 32 (v := .pointer (some ⟨g, 0, none⟩)) rfl rfl (by kernel_rfl) (by kernel_rfl) (by kernel_rfl) (fun _ _ _ h => h) (Or.inl ⟨by rfl, ?_⟩) hHeld ?_
  · (intro w hSw; (try dsimp only at hSw); go_split_ands; go_simp)
  simp only [List.setIfInBounds_toArray, List.set_cons_zero, List.set_cons_succ]
  refine any_order (I := St w B g N w.heap.size w2.heap.size w3.heap.size a b d) (rs := [5, 6, 11, 12, 13, 16, 17, 18, 19, 20, 21, 22]) (by kernel_rfl) ?keeps ?fin _ _ _ _ ?c1 ?c2 ?c3 ?c4
  case c1 => rfl
  case c2 => exact of_decide_eq_true (by kernel_rfl)
  case c3 => exact of_decide_eq_true (by kernel_rfl)
  case c4 =>
    exact meet_at ⟨⟨C.out.le (by omega), ⟨G.out.os, G.out.tape, G.out.output, G.out.size, G.out.block⟩, L.out, A.out, K.out⟩, (fun h => absurd h (ne_of_beq_false (by kernel_rfl))), (fun h => absurd h (ne_of_beq_false (by kernel_rfl))), (fun h => absurd h (ne_of_beq_false (by kernel_rfl))), (fun h => absurd h (ne_of_beq_false (by kernel_rfl))), (fun h => absurd h (ne_of_beq_false (by kernel_rfl))), (fun h => absurd h (ne_of_beq_false (by kernel_rfl))), (fun h => absurd h (ne_of_beq_false (by kernel_rfl))), (fun h => absurd h (ne_of_beq_false (by kernel_rfl))), (fun h => absurd h (ne_of_beq_false (by kernel_rfl))), (fun h => absurd h (ne_of_beq_false (by kernel_rfl))), (fun h => absurd h (ne_of_beq_false (by kernel_rfl)))⟩ (by kernel_rfl)
  case fin =>
    intro l A W hsz hall ⟨f, ⟨⟨hC, hG, hL, hX, hK⟩, f5, f6, f11, f12, f13, f16, f17, f18, f19, f20, f21⟩, hA⟩
    subst hA
    dsimp only
    have h21 : l.getD 21 false = true := by
      have h := hall 21 (by decide)
      have hs : 21 < l.size := by rw [hsz]; decide
      simpa [Array.getD_eq_getD_getElem?, Array.getElem?_eq_getElem hs] using h
    obtain ⟨k, x, y, z, u, c, q, bk, nk, nb⟩ := f21 h21
    have ha := asked_le l
    have HC := Lib.hid hC
    clear f5 f6 f11 f12 f13 f16 f17 f18 f19 f20 f21 hC hall hsz h21 C K L A G
    go_wp2_with fail
    refine Met.intro ?_
    go_step
    exact meet_at ⟨k, x, y, z, u, c, rfl, bk, nk, HC.out.le (by omega), hG, hK⟩ (by kernel_rfl)
  case keeps =>
    have hab : w3.heap.size ≠ g := Nat.ne_of_gt hga
    have hkb := hgk
    have hlb := hgl
    clear C K L A G hgk hgl hHeld
    refine (KeepAll.cons (o := _) rfl ?k5 (KeepAll.cons (o := _) rfl ?k6 (KeepAll.cons (o := _) rfl ?k11 (KeepAll.cons (o := _) rfl ?k12 (KeepAll.cons (o := _) rfl ?k13 (KeepAll.cons (o := _) rfl ?k16 (KeepAll.cons (o := _) rfl ?k17 (KeepAll.cons (o := _) rfl ?k18 (KeepAll.cons (o := _) rfl ?k19 (KeepAll.cons (o := _) rfl ?k20 (KeepAll.cons (o := _) rfl ?k21 (KeepAll.cons (o := _) rfl ?k22 KeepAll.nil))))))))))))
    case k5 =>
      intro l A W hsz hun haft ⟨f, ⟨⟨C, G, L, X, K⟩, f5, f6, f11, f12, f13, f16, f17, f18, f19, f20, f21⟩, hA⟩ K9 hK
      subst hA
      have hi : 5 < l.size := by rw [hsz]; decide
      clear haft
      have hlt := C.lt
      have HKL := K.lt
      have CC := Lib.hid C
      have GG := Lib.hid G
      have LL := Lib.hid L
      have XX := Lib.hid X
      have KK := Lib.hid K
      have F5 := Lib.hid f5
      have F6 := Lib.hid f6
      have F11 := Lib.hid f11
      have F12 := Lib.hid f12
      have F13 := Lib.hid f13
      have F16 := Lib.hid f16
      have F17 := Lib.hid f17
      have F18 := Lib.hid f18
      have F19 := Lib.hid f19
      have F20 := Lib.hid f20
      have F21 := Lib.hid f21
      clear C G L X K f5 f6 f11 f12 f13 f16 f17 f18 f19 f20 f21
      have ha := asked_le l
      go_simp
      refine (among_blk B g (N + 6 + 2 * asked l) _ _ [0, 0, 8, -8, 20, -20, 40, -40, 50, -50, 100, -100, d] (-100) 100 _ CC.out (by omega) hga XX.out (by simp) (by simp) (by simp; try omega)).mono ?_
      rintro e9 V ⟨e, e0, e1, rfl, hc, hg⟩
      refine hK.out _ _ ((LL.out.grown' hg hlb).c2) ?_
      unfold St
      refine ⟨(up f 22 ?v5), ?facts5, ?eq5⟩
      case eq5 => rfl
      case facts5 => exact ⟨⟨by rw [asked_call hi hun (by simp)]; exact hc.le (by omega), grow_trans GG.out hg, (LL.out.grown' hg hlb), (XX.out.grown' hg hab), (KK.out.grown' hg hkb)⟩, fun _ => by rw [up_eq]; exact ⟨e, rfl⟩,
        fun h => by rw [up_ne (show (23 : Nat) ≠ 22 by decide)]; exact F6.out (was hi (by decide) h),
        fun h => by rw [up_ne (show (28 : Nat) ≠ 22 by decide)]; exact F11.out (was hi (by decide) h),
        fun h => by rw [up_ne (show (29 : Nat) ≠ 22 by decide)]; exact F12.out (was hi (by decide) h),
        fun h => by rw [up_ne (show (30 : Nat) ≠ 22 by decide)]; exact F13.out (was hi (by decide) h),
        fun h => by rw [up_ne (show (33 : Nat) ≠ 22 by decide)]; obtain ⟨k, q, bk, nk⟩ := F16.out (was hi (by decide) h); exact ⟨k, q, (bk.grown' hg (Nat.ne_of_gt nk)), nk⟩,
        fun h => by rw [up_ne (show (34 : Nat) ≠ 22 by decide)]; exact F17.out (was hi (by decide) h),
        fun h => by rw [up_ne (show (35 : Nat) ≠ 22 by decide)]; obtain ⟨k, p, q, bk, nk, r⟩ := F18.out (was hi (by decide) h); exact ⟨k, p, q, (bk.grown' hg (Nat.ne_of_gt nk)), nk, r⟩,
        fun h => by rw [up_ne (show (36 : Nat) ≠ 22 by decide)]; exact F19.out (was hi (by decide) h),
        fun h => by rw [up_ne (show (37 : Nat) ≠ 22 by decide)]; exact F20.out (was hi (by decide) h),
        fun h => by rw [up_ne (show (5 : Nat) ≠ 22 by decide)]; obtain ⟨k, x, y, z, u, c, q, bk, nk, nb⟩ := F21.out (was hi (by decide) h); exact ⟨k, x, y, z, u, c, q, (bk.grown' hg (Nat.ne_of_gt nk)), nk, nb⟩⟩
    case k6 =>
      intro l A W hsz hun haft ⟨f, ⟨⟨C, G, L, X, K⟩, f5, f6, f11, f12, f13, f16, f17, f18, f19, f20, f21⟩, hA⟩ K9 hK
      subst hA
      have hi : 6 < l.size := by rw [hsz]; decide
      have h5 : l.getD 5 false = true := by
        simp [Region.binds] at haft ⊢
        first | exact haft | exact haft.1 | exact haft.2 | exact haft.2.1 | exact haft.2.2 | exact haft.2.2.1 | exact haft.2.2.2 | exact haft.1.1 | exact haft.1.2 | exact haft.2.2.2.1 | exact haft.2.2.2.2
      obtain ⟨e5, q5⟩ := f5 h5
      clear haft
      have hlt := C.lt
      have HKL := K.lt
      have CC := Lib.hid C
      have GG := Lib.hid G
      have LL := Lib.hid L
      have XX := Lib.hid X
      have KK := Lib.hid K
      have F5 := Lib.hid f5
      have F6 := Lib.hid f6
      have F11 := Lib.hid f11
      have F12 := Lib.hid f12
      have F13 := Lib.hid f13
      have F16 := Lib.hid f16
      have F17 := Lib.hid f17
      have F18 := Lib.hid f18
      have F19 := Lib.hid f19
      have F20 := Lib.hid f20
      have F21 := Lib.hid f21
      clear C G L X K f5 f6 f11 f12 f13 f16 f17 f18 f19 f20 f21
      have ha := asked_le l
      go_simp
      refine hK.out _ _ (LL.out.c2) ?_
      unfold St
      refine ⟨(up (up f 22 (.int .i64 e5)) 23 ?v6), ?facts6, ?eq6⟩
      case eq6 => rfl
      case facts6 => exact ⟨⟨by rw [asked_other hi (by simp) (by simp) (by simp) (by simp)]; exact CC.out, GG.out, LL.out, XX.out, KK.out⟩, fun _ => by rw [up_ne (show (22 : Nat) ≠ 23 by decide), up_eq]; exact ⟨e5, rfl⟩,
        fun _ => by rw [up_eq]; exact ⟨_, rfl⟩,
        fun h => by rw [up_ne (show (28 : Nat) ≠ 23 by decide), up_ne (show (28 : Nat) ≠ 22 by decide)]; exact F11.out (was hi (by decide) h),
        fun h => by rw [up_ne (show (29 : Nat) ≠ 23 by decide), up_ne (show (29 : Nat) ≠ 22 by decide)]; exact F12.out (was hi (by decide) h),
        fun h => by rw [up_ne (show (30 : Nat) ≠ 23 by decide), up_ne (show (30 : Nat) ≠ 22 by decide)]; exact F13.out (was hi (by decide) h),
        fun h => by rw [up_ne (show (33 : Nat) ≠ 23 by decide), up_ne (show (33 : Nat) ≠ 22 by decide)]; exact F16.out (was hi (by decide) h),
        fun h => by rw [up_ne (show (34 : Nat) ≠ 23 by decide), up_ne (show (34 : Nat) ≠ 22 by decide)]; exact F17.out (was hi (by decide) h),
        fun h => by rw [up_ne (show (35 : Nat) ≠ 23 by decide), up_ne (show (35 : Nat) ≠ 22 by decide)]; exact F18.out (was hi (by decide) h),
        fun h => by rw [up_ne (show (36 : Nat) ≠ 23 by decide), up_ne (show (36 : Nat) ≠ 22 by decide)]; exact F19.out (was hi (by decide) h),
        fun h => by rw [up_ne (show (37 : Nat) ≠ 23 by decide), up_ne (show (37 : Nat) ≠ 22 by decide)]; exact F20.out (was hi (by decide) h),
        fun h => by rw [up_ne (show (5 : Nat) ≠ 23 by decide), up_ne (show (5 : Nat) ≠ 22 by decide)]; exact F21.out (was hi (by decide) h)⟩
    case k11 =>
      intro l A W hsz hun haft ⟨f, ⟨⟨C, G, L, X, K⟩, f5, f6, f11, f12, f13, f16, f17, f18, f19, f20, f21⟩, hA⟩ K9 hK
      subst hA
      have hi : 11 < l.size := by rw [hsz]; decide
      clear haft
      have hlt := C.lt
      have HKL := K.lt
      have CC := Lib.hid C
      have GG := Lib.hid G
      have LL := Lib.hid L
      have XX := Lib.hid X
      have KK := Lib.hid K
      have F5 := Lib.hid f5
      have F6 := Lib.hid f6
      have F11 := Lib.hid f11
      have F12 := Lib.hid f12
      have F13 := Lib.hid f13
      have F16 := Lib.hid f16
      have F17 := Lib.hid f17
      have F18 := Lib.hid f18
      have F19 := Lib.hid f19
      have F20 := Lib.hid f20
      have F21 := Lib.hid f21
      clear C G L X K f5 f6 f11 f12 f13 f16 f17 f18 f19 f20 f21
      have ha := asked_le l
      go_simp
      refine (among_blk B g (N + 6 + 2 * asked l) _ _ [0, 0, 8, -8, 20, -20, 40, -40, 50, -50, 100, -100, d] (-100) 100 _ CC.out (by omega) hga XX.out (by simp) (by simp) (by simp; try omega)).mono ?_
      rintro e9 V ⟨e, e0, e1, rfl, hc, hg⟩
      refine hK.out _ _ ((LL.out.grown' hg hlb).c2) ?_
      unfold St
      refine ⟨(up f 28 ?v11), ?facts11, ?eq11⟩
      case eq11 => rfl
      case facts11 => exact ⟨⟨by rw [asked_call hi hun (by simp)]; exact hc.le (by omega), grow_trans GG.out hg, (LL.out.grown' hg hlb), (XX.out.grown' hg hab), (KK.out.grown' hg hkb)⟩, fun h => by rw [up_ne (show (22 : Nat) ≠ 28 by decide)]; exact F5.out (was hi (by decide) h),
        fun h => by rw [up_ne (show (23 : Nat) ≠ 28 by decide)]; exact F6.out (was hi (by decide) h),
        fun _ => by rw [up_eq]; exact ⟨e, rfl⟩,
        fun h => by rw [up_ne (show (29 : Nat) ≠ 28 by decide)]; exact F12.out (was hi (by decide) h),
        fun h => by rw [up_ne (show (30 : Nat) ≠ 28 by decide)]; exact F13.out (was hi (by decide) h),
        fun h => by rw [up_ne (show (33 : Nat) ≠ 28 by decide)]; obtain ⟨k, q, bk, nk⟩ := F16.out (was hi (by decide) h); exact ⟨k, q, (bk.grown' hg (Nat.ne_of_gt nk)), nk⟩,
        fun h => by rw [up_ne (show (34 : Nat) ≠ 28 by decide)]; exact F17.out (was hi (by decide) h),
        fun h => by rw [up_ne (show (35 : Nat) ≠ 28 by decide)]; obtain ⟨k, p, q, bk, nk, r⟩ := F18.out (was hi (by decide) h); exact ⟨k, p, q, (bk.grown' hg (Nat.ne_of_gt nk)), nk, r⟩,
        fun h => by rw [up_ne (show (36 : Nat) ≠ 28 by decide)]; exact F19.out (was hi (by decide) h),
        fun h => by rw [up_ne (show (37 : Nat) ≠ 28 by decide)]; exact F20.out (was hi (by decide) h),
        fun h => by rw [up_ne (show (5 : Nat) ≠ 28 by decide)]; obtain ⟨k, x, y, z, u, c, q, bk, nk, nb⟩ := F21.out (was hi (by decide) h); exact ⟨k, x, y, z, u, c, q, (bk.grown' hg (Nat.ne_of_gt nk)), nk, nb⟩⟩
    case k12 =>
      intro l A W hsz hun haft ⟨f, ⟨⟨C, G, L, X, K⟩, f5, f6, f11, f12, f13, f16, f17, f18, f19, f20, f21⟩, hA⟩ K9 hK
      subst hA
      have hi : 12 < l.size := by rw [hsz]; decide
      have h11 : l.getD 11 false = true := by
        simp [Region.binds] at haft ⊢
        first | exact haft | exact haft.1 | exact haft.2 | exact haft.2.1 | exact haft.2.2 | exact haft.2.2.1 | exact haft.2.2.2 | exact haft.1.1 | exact haft.1.2 | exact haft.2.2.2.1 | exact haft.2.2.2.2
      obtain ⟨e11, q11⟩ := f11 h11
      clear haft
      have hlt := C.lt
      have HKL := K.lt
      have CC := Lib.hid C
      have GG := Lib.hid G
      have LL := Lib.hid L
      have XX := Lib.hid X
      have KK := Lib.hid K
      have F5 := Lib.hid f5
      have F6 := Lib.hid f6
      have F11 := Lib.hid f11
      have F12 := Lib.hid f12
      have F13 := Lib.hid f13
      have F16 := Lib.hid f16
      have F17 := Lib.hid f17
      have F18 := Lib.hid f18
      have F19 := Lib.hid f19
      have F20 := Lib.hid f20
      have F21 := Lib.hid f21
      clear C G L X K f5 f6 f11 f12 f13 f16 f17 f18 f19 f20 f21
      have ha := asked_le l
      go_simp
      refine hK.out _ _ (LL.out.c2) ?_
      unfold St
      refine ⟨(up (up f 28 (.int .i64 e11)) 29 ?v12), ?facts12, ?eq12⟩
      case eq12 => rfl
      case facts12 => exact ⟨⟨by rw [asked_other hi (by simp) (by simp) (by simp) (by simp)]; exact CC.out, GG.out, LL.out, XX.out, KK.out⟩, fun h => by rw [up_ne (show (22 : Nat) ≠ 29 by decide), up_ne (show (22 : Nat) ≠ 28 by decide)]; exact F5.out (was hi (by decide) h),
        fun h => by rw [up_ne (show (23 : Nat) ≠ 29 by decide), up_ne (show (23 : Nat) ≠ 28 by decide)]; exact F6.out (was hi (by decide) h),
        fun _ => by rw [up_ne (show (28 : Nat) ≠ 29 by decide), up_eq]; exact ⟨e11, rfl⟩,
        fun _ => by rw [up_eq]; exact ⟨_, rfl⟩,
        fun h => by rw [up_ne (show (30 : Nat) ≠ 29 by decide), up_ne (show (30 : Nat) ≠ 28 by decide)]; exact F13.out (was hi (by decide) h),
        fun h => by rw [up_ne (show (33 : Nat) ≠ 29 by decide), up_ne (show (33 : Nat) ≠ 28 by decide)]; exact F16.out (was hi (by decide) h),
        fun h => by rw [up_ne (show (34 : Nat) ≠ 29 by decide), up_ne (show (34 : Nat) ≠ 28 by decide)]; exact F17.out (was hi (by decide) h),
        fun h => by rw [up_ne (show (35 : Nat) ≠ 29 by decide), up_ne (show (35 : Nat) ≠ 28 by decide)]; exact F18.out (was hi (by decide) h),
        fun h => by rw [up_ne (show (36 : Nat) ≠ 29 by decide), up_ne (show (36 : Nat) ≠ 28 by decide)]; exact F19.out (was hi (by decide) h),
        fun h => by rw [up_ne (show (37 : Nat) ≠ 29 by decide), up_ne (show (37 : Nat) ≠ 28 by decide)]; exact F20.out (was hi (by decide) h),
        fun h => by rw [up_ne (show (5 : Nat) ≠ 29 by decide), up_ne (show (5 : Nat) ≠ 28 by decide)]; exact F21.out (was hi (by decide) h)⟩
    case k13 =>
      intro l A W hsz hun haft ⟨f, ⟨⟨C, G, L, X, K⟩, f5, f6, f11, f12, f13, f16, f17, f18, f19, f20, f21⟩, hA⟩ K9 hK
      subst hA
      have hi : 13 < l.size := by rw [hsz]; decide
      have h6 : l.getD 6 false = true := by
        simp [Region.binds] at haft ⊢
        first | exact haft | exact haft.1 | exact haft.2 | exact haft.2.1 | exact haft.2.2 | exact haft.2.2.1 | exact haft.2.2.2 | exact haft.1.1 | exact haft.1.2 | exact haft.2.2.2.1 | exact haft.2.2.2.2
      obtain ⟨e6, q6⟩ := f6 h6
      have h12 : l.getD 12 false = true := by
        simp [Region.binds] at haft ⊢
        first | exact haft | exact haft.1 | exact haft.2 | exact haft.2.1 | exact haft.2.2 | exact haft.2.2.1 | exact haft.2.2.2 | exact haft.1.1 | exact haft.1.2 | exact haft.2.2.2.1 | exact haft.2.2.2.2
      obtain ⟨e12, q12⟩ := f12 h12
      clear haft
      have hlt := C.lt
      have HKL := K.lt
      have CC := Lib.hid C
      have GG := Lib.hid G
      have LL := Lib.hid L
      have XX := Lib.hid X
      have KK := Lib.hid K
      have F5 := Lib.hid f5
      have F6 := Lib.hid f6
      have F11 := Lib.hid f11
      have F12 := Lib.hid f12
      have F13 := Lib.hid f13
      have F16 := Lib.hid f16
      have F17 := Lib.hid f17
      have F18 := Lib.hid f18
      have F19 := Lib.hid f19
      have F20 := Lib.hid f20
      have F21 := Lib.hid f21
      clear C G L X K f5 f6 f11 f12 f13 f16 f17 f18 f19 f20 f21
      have ha := asked_le l
      go_simp
      refine hK.out _ _ (LL.out.c2) ?_
      unfold St
      refine ⟨(up (up (up f 23 (.int .i64 e6)) 29 (.int .i64 e12)) 30 ?v13), ?facts13, ?eq13⟩
      case eq13 => rfl
      case facts13 => exact ⟨⟨by rw [asked_other hi (by simp) (by simp) (by simp) (by simp)]; exact CC.out, GG.out, LL.out, XX.out, KK.out⟩, fun h => by rw [up_ne (show (22 : Nat) ≠ 30 by decide), up_ne (show (22 : Nat) ≠ 29 by decide), up_ne (show (22 : Nat) ≠ 23 by decide)]; exact F5.out (was hi (by decide) h),
        fun _ => by rw [up_ne (show (23 : Nat) ≠ 30 by decide), up_ne (show (23 : Nat) ≠ 29 by decide), up_eq]; exact ⟨e6, rfl⟩,
        fun h => by rw [up_ne (show (28 : Nat) ≠ 30 by decide), up_ne (show (28 : Nat) ≠ 29 by decide), up_ne (show (28 : Nat) ≠ 23 by decide)]; exact F11.out (was hi (by decide) h),
        fun _ => by rw [up_ne (show (29 : Nat) ≠ 30 by decide), up_eq]; exact ⟨e12, rfl⟩,
        fun _ => by rw [up_eq]; exact ⟨_, _, rfl⟩,
        fun h => by rw [up_ne (show (33 : Nat) ≠ 30 by decide), up_ne (show (33 : Nat) ≠ 29 by decide), up_ne (show (33 : Nat) ≠ 23 by decide)]; exact F16.out (was hi (by decide) h),
        fun h => by rw [up_ne (show (34 : Nat) ≠ 30 by decide), up_ne (show (34 : Nat) ≠ 29 by decide), up_ne (show (34 : Nat) ≠ 23 by decide)]; exact F17.out (was hi (by decide) h),
        fun h => by rw [up_ne (show (35 : Nat) ≠ 30 by decide), up_ne (show (35 : Nat) ≠ 29 by decide), up_ne (show (35 : Nat) ≠ 23 by decide)]; exact F18.out (was hi (by decide) h),
        fun h => by rw [up_ne (show (36 : Nat) ≠ 30 by decide), up_ne (show (36 : Nat) ≠ 29 by decide), up_ne (show (36 : Nat) ≠ 23 by decide)]; exact F19.out (was hi (by decide) h),
        fun h => by rw [up_ne (show (37 : Nat) ≠ 30 by decide), up_ne (show (37 : Nat) ≠ 29 by decide), up_ne (show (37 : Nat) ≠ 23 by decide)]; exact F20.out (was hi (by decide) h),
        fun h => by rw [up_ne (show (5 : Nat) ≠ 30 by decide), up_ne (show (5 : Nat) ≠ 29 by decide), up_ne (show (5 : Nat) ≠ 23 by decide)]; exact F21.out (was hi (by decide) h)⟩
    case k16 =>
      intro l A W hsz hun haft ⟨f, ⟨⟨C, G, L, X, K⟩, f5, f6, f11, f12, f13, f16, f17, f18, f19, f20, f21⟩, hA⟩ K9 hK
      subst hA
      have hi : 16 < l.size := by rw [hsz]; decide
      clear haft
      have hlt := C.lt
      have HKL := K.lt
      have CC := Lib.hid C
      have GG := Lib.hid G
      have LL := Lib.hid L
      have XX := Lib.hid X
      have KK := Lib.hid K
      have F5 := Lib.hid f5
      have F6 := Lib.hid f6
      have F11 := Lib.hid f11
      have F12 := Lib.hid f12
      have F13 := Lib.hid f13
      have F16 := Lib.hid f16
      have F17 := Lib.hid f17
      have F18 := Lib.hid f18
      have F19 := Lib.hid f19
      have F20 := Lib.hid f20
      have F21 := Lib.hid f21
      clear C G L X K f5 f6 f11 f12 f13 f16 f17 f18 f19 f20 f21
      have ha := asked_le l
      go_simp
      refine hK.out _ _ ((LL.out.alloc (.cells (ints [0, 65]).toArray 3)).c2) ?_
      unfold St
      refine ⟨(up f 33 ?v16), ?facts16, ?eq16⟩
      case eq16 => rfl
      case facts16 => exact ⟨⟨by rw [asked_other hi (by simp) (by simp) (by simp) (by simp)]; exact CC.out.alloc (.cells (ints [0, 65]).toArray 3), only_alloc GG.out (.cells (ints [0, 65]).toArray 3), (LL.out.alloc (.cells (ints [0, 65]).toArray 3)), (XX.out.alloc (.cells (ints [0, 65]).toArray 3)), (KK.out.alloc (.cells (ints [0, 65]).toArray 3))⟩, fun h => by rw [up_ne (show (22 : Nat) ≠ 33 by decide)]; exact F5.out (was hi (by decide) h),
        fun h => by rw [up_ne (show (23 : Nat) ≠ 33 by decide)]; exact F6.out (was hi (by decide) h),
        fun h => by rw [up_ne (show (28 : Nat) ≠ 33 by decide)]; exact F11.out (was hi (by decide) h),
        fun h => by rw [up_ne (show (29 : Nat) ≠ 33 by decide)]; exact F12.out (was hi (by decide) h),
        fun h => by rw [up_ne (show (30 : Nat) ≠ 33 by decide)]; exact F13.out (was hi (by decide) h),
        fun _ => by rw [up_eq]; exact ⟨_, rfl, Blk.new W 3 (ints [0, 65]).toArray, by omega⟩,
        fun h => by rw [up_ne (show (34 : Nat) ≠ 33 by decide)]; exact F17.out (was hi (by decide) h),
        fun h => by rw [up_ne (show (35 : Nat) ≠ 33 by decide)]; obtain ⟨k, p, q, bk, nk, r⟩ := F18.out (was hi (by decide) h); exact ⟨k, p, q, (bk.alloc (.cells (ints [0, 65]).toArray 3)), nk, r⟩,
        fun h => by rw [up_ne (show (36 : Nat) ≠ 33 by decide)]; exact F19.out (was hi (by decide) h),
        fun h => by rw [up_ne (show (37 : Nat) ≠ 33 by decide)]; exact F20.out (was hi (by decide) h),
        fun h => by rw [up_ne (show (5 : Nat) ≠ 33 by decide)]; obtain ⟨k, x, y, z, u, c, q, bk, nk, nb⟩ := F21.out (was hi (by decide) h); exact ⟨k, x, y, z, u, c, q, (bk.alloc (.cells (ints [0, 65]).toArray 3)), nk, nb⟩⟩
    case k17 =>
      intro l A W hsz hun haft ⟨f, ⟨⟨C, G, L, X, K⟩, f5, f6, f11, f12, f13, f16, f17, f18, f19, f20, f21⟩, hA⟩ K9 hK
      subst hA
      have hi : 17 < l.size := by rw [hsz]; decide
      have h16 : l.getD 16 false = true := by
        simp [Region.binds] at haft ⊢
        first | exact haft | exact haft.1 | exact haft.2 | exact haft.2.1 | exact haft.2.2 | exact haft.2.2.1 | exact haft.2.2.2 | exact haft.1.1 | exact haft.1.2 | exact haft.2.2.2.1 | exact haft.2.2.2.2
      obtain ⟨k16, q16, b16, n16⟩ := f16 h16
      clear haft
      have hlt := C.lt
      have HKL := K.lt
      have CC := Lib.hid C
      have GG := Lib.hid G
      have LL := Lib.hid L
      have XX := Lib.hid X
      have KK := Lib.hid K
      have F5 := Lib.hid f5
      have F6 := Lib.hid f6
      have F11 := Lib.hid f11
      have F12 := Lib.hid f12
      have F13 := Lib.hid f13
      have F16 := Lib.hid f16
      have F17 := Lib.hid f17
      have F18 := Lib.hid f18
      have F19 := Lib.hid f19
      have F20 := Lib.hid f20
      have F21 := Lib.hid f21
      clear C G L X K f5 f6 f11 f12 f13 f16 f17 f18 f19 f20 f21
      have BB16 := Lib.hid b16
      clear b16
      have ha := asked_le l
      go_simp
      refine (among_blk B g (N + 6 + 2 * asked l) _ _ [0, 65] 0 65 _ CC.out (by omega) n16 BB16.out (by simp) (by simp) (by simp; try omega)).mono ?_
      rintro e9 V ⟨e, e0, e1, rfl, hc, hg⟩
      refine hK.out _ _ ((LL.out.grown' hg hlb).c2) ?_
      unfold St
      refine ⟨(up (up f 33 (.slice (some ⟨k16, 0, none⟩) 2 2)) 34 ?v17), ?facts17, ?eq17⟩
      case eq17 => rfl
      case facts17 => exact ⟨⟨by rw [asked_call hi hun (by simp)]; exact hc.le (by omega), grow_trans GG.out hg, (LL.out.grown' hg hlb), (XX.out.grown' hg hab), (KK.out.grown' hg hkb)⟩, fun h => by rw [up_ne (show (22 : Nat) ≠ 34 by decide), up_ne (show (22 : Nat) ≠ 33 by decide)]; exact F5.out (was hi (by decide) h),
        fun h => by rw [up_ne (show (23 : Nat) ≠ 34 by decide), up_ne (show (23 : Nat) ≠ 33 by decide)]; exact F6.out (was hi (by decide) h),
        fun h => by rw [up_ne (show (28 : Nat) ≠ 34 by decide), up_ne (show (28 : Nat) ≠ 33 by decide)]; exact F11.out (was hi (by decide) h),
        fun h => by rw [up_ne (show (29 : Nat) ≠ 34 by decide), up_ne (show (29 : Nat) ≠ 33 by decide)]; exact F12.out (was hi (by decide) h),
        fun h => by rw [up_ne (show (30 : Nat) ≠ 34 by decide), up_ne (show (30 : Nat) ≠ 33 by decide)]; exact F13.out (was hi (by decide) h),
        fun _ => by rw [up_ne (show (33 : Nat) ≠ 34 by decide), up_eq]; exact ⟨k16, rfl, (BB16.out.grown' hg (Nat.ne_of_gt n16)), n16⟩,
        fun _ => by rw [up_eq]; exact ⟨e, rfl, e0, e1⟩,
        fun h => by rw [up_ne (show (35 : Nat) ≠ 34 by decide), up_ne (show (35 : Nat) ≠ 33 by decide)]; obtain ⟨k, p, q, bk, nk, r⟩ := F18.out (was hi (by decide) h); exact ⟨k, p, q, (bk.grown' hg (Nat.ne_of_gt nk)), nk, r⟩,
        fun h => by rw [up_ne (show (36 : Nat) ≠ 34 by decide), up_ne (show (36 : Nat) ≠ 33 by decide)]; exact F19.out (was hi (by decide) h),
        fun h => by rw [up_ne (show (37 : Nat) ≠ 34 by decide), up_ne (show (37 : Nat) ≠ 33 by decide)]; exact F20.out (was hi (by decide) h),
        fun h => by rw [up_ne (show (5 : Nat) ≠ 34 by decide), up_ne (show (5 : Nat) ≠ 33 by decide)]; obtain ⟨k, x, y, z, u, c, q, bk, nk, nb⟩ := F21.out (was hi (by decide) h); exact ⟨k, x, y, z, u, c, q, (bk.grown' hg (Nat.ne_of_gt nk)), nk, nb⟩⟩
    case k18 =>
      intro l A W hsz hun haft ⟨f, ⟨⟨C, G, L, X, K⟩, f5, f6, f11, f12, f13, f16, f17, f18, f19, f20, f21⟩, hA⟩ K9 hK
      subst hA
      have hi : 18 < l.size := by rw [hsz]; decide
      have h17 : l.getD 17 false = true := by
        simp [Region.binds] at haft ⊢
        first | exact haft | exact haft.1 | exact haft.2 | exact haft.2.1 | exact haft.2.2 | exact haft.2.2.1 | exact haft.2.2.2 | exact haft.1.1 | exact haft.1.2 | exact haft.2.2.2.1 | exact haft.2.2.2.2
      obtain ⟨p, q17, p0, p1⟩ := f17 h17
      clear haft
      have hlt := C.lt
      have HKL := K.lt
      have CC := Lib.hid C
      have GG := Lib.hid G
      have LL := Lib.hid L
      have XX := Lib.hid X
      have KK := Lib.hid K
      have F5 := Lib.hid f5
      have F6 := Lib.hid f6
      have F11 := Lib.hid f11
      have F12 := Lib.hid f12
      have F13 := Lib.hid f13
      have F16 := Lib.hid f16
      have F17 := Lib.hid f17
      have F18 := Lib.hid f18
      have F19 := Lib.hid f19
      have F20 := Lib.hid f20
      have F21 := Lib.hid f21
      clear C G L X K f5 f6 f11 f12 f13 f16 f17 f18 f19 f20 f21
      have ha := asked_le l
      go_simp
      refine hK.out _ _ ((LL.out.alloc (.cells (ints [1, 2, 4, 8, 16, 64, p]).toArray 3)).c2) ?_
      unfold St
      refine ⟨(up (up f 34 (.int .i64 p)) 35 ?v18), ?facts18, ?eq18⟩
      case eq18 => rfl
      case facts18 => exact ⟨⟨by rw [asked_other hi (by simp) (by simp) (by simp) (by simp)]; exact CC.out.alloc (.cells (ints [1, 2, 4, 8, 16, 64, p]).toArray 3), only_alloc GG.out (.cells (ints [1, 2, 4, 8, 16, 64, p]).toArray 3), (LL.out.alloc (.cells (ints [1, 2, 4, 8, 16, 64, p]).toArray 3)), (XX.out.alloc (.cells (ints [1, 2, 4, 8, 16, 64, p]).toArray 3)), (KK.out.alloc (.cells (ints [1, 2, 4, 8, 16, 64, p]).toArray 3))⟩, fun h => by rw [up_ne (show (22 : Nat) ≠ 35 by decide), up_ne (show (22 : Nat) ≠ 34 by decide)]; exact F5.out (was hi (by decide) h),
        fun h => by rw [up_ne (show (23 : Nat) ≠ 35 by decide), up_ne (show (23 : Nat) ≠ 34 by decide)]; exact F6.out (was hi (by decide) h),
        fun h => by rw [up_ne (show (28 : Nat) ≠ 35 by decide), up_ne (show (28 : Nat) ≠ 34 by decide)]; exact F11.out (was hi (by decide) h),
        fun h => by rw [up_ne (show (29 : Nat) ≠ 35 by decide), up_ne (show (29 : Nat) ≠ 34 by decide)]; exact F12.out (was hi (by decide) h),
        fun h => by rw [up_ne (show (30 : Nat) ≠ 35 by decide), up_ne (show (30 : Nat) ≠ 34 by decide)]; exact F13.out (was hi (by decide) h),
        fun h => by rw [up_ne (show (33 : Nat) ≠ 35 by decide), up_ne (show (33 : Nat) ≠ 34 by decide)]; obtain ⟨k, q, bk, nk⟩ := F16.out (was hi (by decide) h); exact ⟨k, q, (bk.alloc (.cells (ints [1, 2, 4, 8, 16, 64, p]).toArray 3)), nk⟩,
        fun _ => by rw [up_ne (show (34 : Nat) ≠ 35 by decide), up_eq]; exact ⟨p, rfl, p0, p1⟩,
        fun _ => by rw [up_eq]; exact ⟨_, p, rfl, Blk.new W 3 (ints [1, 2, 4, 8, 16, 64, p]).toArray, by omega, p0, p1⟩,
        fun h => by rw [up_ne (show (36 : Nat) ≠ 35 by decide), up_ne (show (36 : Nat) ≠ 34 by decide)]; exact F19.out (was hi (by decide) h),
        fun h => by rw [up_ne (show (37 : Nat) ≠ 35 by decide), up_ne (show (37 : Nat) ≠ 34 by decide)]; exact F20.out (was hi (by decide) h),
        fun h => by rw [up_ne (show (5 : Nat) ≠ 35 by decide), up_ne (show (5 : Nat) ≠ 34 by decide)]; obtain ⟨k, x, y, z, u, c, q, bk, nk, nb⟩ := F21.out (was hi (by decide) h); exact ⟨k, x, y, z, u, c, q, (bk.alloc (.cells (ints [1, 2, 4, 8, 16, 64, p]).toArray 3)), nk, nb⟩⟩
    case k19 =>
      intro l A W hsz hun haft ⟨f, ⟨⟨C, G, L, X, K⟩, f5, f6, f11, f12, f13, f16, f17, f18, f19, f20, f21⟩, hA⟩ K9 hK
      subst hA
      have hi : 19 < l.size := by rw [hsz]; decide
      have h18 : l.getD 18 false = true := by
        simp [Region.binds] at haft ⊢
        first | exact haft | exact haft.1 | exact haft.2 | exact haft.2.1 | exact haft.2.2 | exact haft.2.2.1 | exact haft.2.2.2 | exact haft.1.1 | exact haft.1.2 | exact haft.2.2.2.1 | exact haft.2.2.2.2
      obtain ⟨k18, p, q18, b18, n18, p0, p1⟩ := f18 h18
      clear haft
      have hlt := C.lt
      have HKL := K.lt
      have CC := Lib.hid C
      have GG := Lib.hid G
      have LL := Lib.hid L
      have XX := Lib.hid X
      have KK := Lib.hid K
      have F5 := Lib.hid f5
      have F6 := Lib.hid f6
      have F11 := Lib.hid f11
      have F12 := Lib.hid f12
      have F13 := Lib.hid f13
      have F16 := Lib.hid f16
      have F17 := Lib.hid f17
      have F18 := Lib.hid f18
      have F19 := Lib.hid f19
      have F20 := Lib.hid f20
      have F21 := Lib.hid f21
      clear C G L X K f5 f6 f11 f12 f13 f16 f17 f18 f19 f20 f21
      have BB18 := Lib.hid b18
      clear b18
      have ha := asked_le l
      go_simp
      refine (among_blk B g (N + 6 + 2 * asked l) _ _ [1, 2, 4, 8, 16, 64, p] 0 65 _ CC.out (by omega) n18 BB18.out (by simp) (by simp) (by simp; try omega)).mono ?_
      rintro e9 V ⟨e, e0, e1, rfl, hc, hg⟩
      refine hK.out _ _ ((LL.out.grown' hg hlb).c2) ?_
      unfold St
      refine ⟨(up (up f 35 (.slice (some ⟨k18, 0, none⟩) 7 7)) 36 ?v19), ?facts19, ?eq19⟩
      case eq19 => rfl
      case facts19 => exact ⟨⟨by rw [asked_call hi hun (by simp)]; exact hc.le (by omega), grow_trans GG.out hg, (LL.out.grown' hg hlb), (XX.out.grown' hg hab), (KK.out.grown' hg hkb)⟩, fun h => by rw [up_ne (show (22 : Nat) ≠ 36 by decide), up_ne (show (22 : Nat) ≠ 35 by decide)]; exact F5.out (was hi (by decide) h),
        fun h => by rw [up_ne (show (23 : Nat) ≠ 36 by decide), up_ne (show (23 : Nat) ≠ 35 by decide)]; exact F6.out (was hi (by decide) h),
        fun h => by rw [up_ne (show (28 : Nat) ≠ 36 by decide), up_ne (show (28 : Nat) ≠ 35 by decide)]; exact F11.out (was hi (by decide) h),
        fun h => by rw [up_ne (show (29 : Nat) ≠ 36 by decide), up_ne (show (29 : Nat) ≠ 35 by decide)]; exact F12.out (was hi (by decide) h),
        fun h => by rw [up_ne (show (30 : Nat) ≠ 36 by decide), up_ne (show (30 : Nat) ≠ 35 by decide)]; exact F13.out (was hi (by decide) h),
        fun h => by rw [up_ne (show (33 : Nat) ≠ 36 by decide), up_ne (show (33 : Nat) ≠ 35 by decide)]; obtain ⟨k, q, bk, nk⟩ := F16.out (was hi (by decide) h); exact ⟨k, q, (bk.grown' hg (Nat.ne_of_gt nk)), nk⟩,
        fun h => by rw [up_ne (show (34 : Nat) ≠ 36 by decide), up_ne (show (34 : Nat) ≠ 35 by decide)]; exact F17.out (was hi (by decide) h),
        fun _ => by rw [up_ne (show (35 : Nat) ≠ 36 by decide), up_eq]; exact ⟨k18, p, rfl, (BB18.out.grown' hg (Nat.ne_of_gt n18)), n18, p0, p1⟩,
        fun _ => by rw [up_eq]; exact ⟨e, rfl⟩,
        fun h => by rw [up_ne (show (37 : Nat) ≠ 36 by decide), up_ne (show (37 : Nat) ≠ 35 by decide)]; exact F20.out (was hi (by decide) h),
        fun h => by rw [up_ne (show (5 : Nat) ≠ 36 by decide), up_ne (show (5 : Nat) ≠ 35 by decide)]; obtain ⟨k, x, y, z, u, c, q, bk, nk, nb⟩ := F21.out (was hi (by decide) h); exact ⟨k, x, y, z, u, c, q, (bk.grown' hg (Nat.ne_of_gt nk)), nk, nb⟩⟩
    case k20 =>
      intro l A W hsz hun haft ⟨f, ⟨⟨C, G, L, X, K⟩, f5, f6, f11, f12, f13, f16, f17, f18, f19, f20, f21⟩, hA⟩ K9 hK
      subst hA
      have hi : 20 < l.size := by rw [hsz]; decide
      have h13 : l.getD 13 false = true := by
        simp [Region.binds] at haft ⊢
        first | exact haft | exact haft.1 | exact haft.2 | exact haft.2.1 | exact haft.2.2 | exact haft.2.2.1 | exact haft.2.2.2 | exact haft.1.1 | exact haft.1.2 | exact haft.2.2.2.1 | exact haft.2.2.2.2
      obtain ⟨x13, y13, q13⟩ := f13 h13
      have h19 : l.getD 19 false = true := by
        simp [Region.binds] at haft ⊢
        first | exact haft | exact haft.1 | exact haft.2 | exact haft.2.1 | exact haft.2.2 | exact haft.2.2.1 | exact haft.2.2.2 | exact haft.1.1 | exact haft.1.2 | exact haft.2.2.2.1 | exact haft.2.2.2.2
      obtain ⟨e19, q19⟩ := f19 h19
      clear haft
      have hlt := C.lt
      have HKL := K.lt
      have CC := Lib.hid C
      have GG := Lib.hid G
      have LL := Lib.hid L
      have XX := Lib.hid X
      have KK := Lib.hid K
      have F5 := Lib.hid f5
      have F6 := Lib.hid f6
      have F11 := Lib.hid f11
      have F12 := Lib.hid f12
      have F13 := Lib.hid f13
      have F16 := Lib.hid f16
      have F17 := Lib.hid f17
      have F18 := Lib.hid f18
      have F19 := Lib.hid f19
      have F20 := Lib.hid f20
      have F21 := Lib.hid f21
      clear C G L X K f5 f6 f11 f12 f13 f16 f17 f18 f19 f20 f21
      have ha := asked_le l
      go_simp
      refine hK.out _ _ (LL.out.c2) ?_
      unfold St
      refine ⟨(up (up (up f 30 ((Value.agg #[Value.int .i64 x13, Value.int .i64 y13]))) 36 (.int .i64 e19)) 37 ?v20), ?facts20, ?eq20⟩
      case eq20 => rfl
      case facts20 => exact ⟨⟨by rw [asked_other hi (by simp) (by simp) (by simp) (by simp)]; exact CC.out, GG.out, LL.out, XX.out, KK.out⟩, fun h => by rw [up_ne (show (22 : Nat) ≠ 37 by decide), up_ne (show (22 : Nat) ≠ 36 by decide), up_ne (show (22 : Nat) ≠ 30 by decide)]; exact F5.out (was hi (by decide) h),
        fun h => by rw [up_ne (show (23 : Nat) ≠ 37 by decide), up_ne (show (23 : Nat) ≠ 36 by decide), up_ne (show (23 : Nat) ≠ 30 by decide)]; exact F6.out (was hi (by decide) h),
        fun h => by rw [up_ne (show (28 : Nat) ≠ 37 by decide), up_ne (show (28 : Nat) ≠ 36 by decide), up_ne (show (28 : Nat) ≠ 30 by decide)]; exact F11.out (was hi (by decide) h),
        fun h => by rw [up_ne (show (29 : Nat) ≠ 37 by decide), up_ne (show (29 : Nat) ≠ 36 by decide), up_ne (show (29 : Nat) ≠ 30 by decide)]; exact F12.out (was hi (by decide) h),
        fun _ => by rw [up_ne (show (30 : Nat) ≠ 37 by decide), up_ne (show (30 : Nat) ≠ 36 by decide), up_eq]; exact ⟨x13, y13, rfl⟩,
        fun h => by rw [up_ne (show (33 : Nat) ≠ 37 by decide), up_ne (show (33 : Nat) ≠ 36 by decide), up_ne (show (33 : Nat) ≠ 30 by decide)]; exact F16.out (was hi (by decide) h),
        fun h => by rw [up_ne (show (34 : Nat) ≠ 37 by decide), up_ne (show (34 : Nat) ≠ 36 by decide), up_ne (show (34 : Nat) ≠ 30 by decide)]; exact F17.out (was hi (by decide) h),
        fun h => by rw [up_ne (show (35 : Nat) ≠ 37 by decide), up_ne (show (35 : Nat) ≠ 36 by decide), up_ne (show (35 : Nat) ≠ 30 by decide)]; exact F18.out (was hi (by decide) h),
        fun _ => by rw [up_ne (show (36 : Nat) ≠ 37 by decide), up_eq]; exact ⟨e19, rfl⟩,
        fun _ => by rw [up_eq]; exact ⟨_, _, _, _, _, rfl⟩,
        fun h => by rw [up_ne (show (5 : Nat) ≠ 37 by decide), up_ne (show (5 : Nat) ≠ 36 by decide), up_ne (show (5 : Nat) ≠ 30 by decide)]; exact F21.out (was hi (by decide) h)⟩
    case k21 =>
      intro l A W hsz hun haft ⟨f, ⟨⟨C, G, L, X, K⟩, f5, f6, f11, f12, f13, f16, f17, f18, f19, f20, f21⟩, hA⟩ K9 hK
      subst hA
      have hi : 21 < l.size := by rw [hsz]; decide
      clear haft
      have hlt := C.lt
      have HKL := K.lt
      have CC := Lib.hid C
      have GG := Lib.hid G
      have LL := Lib.hid L
      have XX := Lib.hid X
      have KK := Lib.hid K
      have F5 := Lib.hid f5
      have F6 := Lib.hid f6
      have F11 := Lib.hid f11
      have F12 := Lib.hid f12
      have F13 := Lib.hid f13
      have F16 := Lib.hid f16
      have F17 := Lib.hid f17
      have F18 := Lib.hid f18
      have F19 := Lib.hid f19
      have F20 := Lib.hid f20
      have F21 := Lib.hid f21
      clear C G L X K f5 f6 f11 f12 f13 f16 f17 f18 f19 f20 f21
      have ha := asked_le l
      go_simp
      refine hK.out _ _ ((LL.out.alloc (.cells #[.int .i64 0, .int .i64 0, .int .i64 0, .int .i64 0, .int .i64 0] 27)).c2) ?_
      unfold St
      refine ⟨(up f 5 ?v21), ?facts21, ?eq21⟩
      case eq21 => rfl
      case facts21 => exact ⟨⟨by rw [asked_other hi (by simp) (by simp) (by simp) (by simp)]; exact CC.out.alloc (.cells #[.int .i64 0, .int .i64 0, .int .i64 0, .int .i64 0, .int .i64 0] 27), only_alloc GG.out (.cells #[.int .i64 0, .int .i64 0, .int .i64 0, .int .i64 0, .int .i64 0] 27), (LL.out.alloc (.cells #[.int .i64 0, .int .i64 0, .int .i64 0, .int .i64 0, .int .i64 0] 27)), (XX.out.alloc (.cells #[.int .i64 0, .int .i64 0, .int .i64 0, .int .i64 0, .int .i64 0] 27)), (KK.out.alloc (.cells #[.int .i64 0, .int .i64 0, .int .i64 0, .int .i64 0, .int .i64 0] 27))⟩, fun h => by rw [up_ne (show (22 : Nat) ≠ 5 by decide)]; exact F5.out (was hi (by decide) h),
        fun h => by rw [up_ne (show (23 : Nat) ≠ 5 by decide)]; exact F6.out (was hi (by decide) h),
        fun h => by rw [up_ne (show (28 : Nat) ≠ 5 by decide)]; exact F11.out (was hi (by decide) h),
        fun h => by rw [up_ne (show (29 : Nat) ≠ 5 by decide)]; exact F12.out (was hi (by decide) h),
        fun h => by rw [up_ne (show (30 : Nat) ≠ 5 by decide)]; exact F13.out (was hi (by decide) h),
        fun h => by rw [up_ne (show (33 : Nat) ≠ 5 by decide)]; obtain ⟨k, q, bk, nk⟩ := F16.out (was hi (by decide) h); exact ⟨k, q, (bk.alloc (.cells #[.int .i64 0, .int .i64 0, .int .i64 0, .int .i64 0, .int .i64 0] 27)), nk⟩,
        fun h => by rw [up_ne (show (34 : Nat) ≠ 5 by decide)]; exact F17.out (was hi (by decide) h),
        fun h => by rw [up_ne (show (35 : Nat) ≠ 5 by decide)]; obtain ⟨k, p, q, bk, nk, r⟩ := F18.out (was hi (by decide) h); exact ⟨k, p, q, (bk.alloc (.cells #[.int .i64 0, .int .i64 0, .int .i64 0, .int .i64 0, .int .i64 0] 27)), nk, r⟩,
        fun h => by rw [up_ne (show (36 : Nat) ≠ 5 by decide)]; exact F19.out (was hi (by decide) h),
        fun h => by rw [up_ne (show (37 : Nat) ≠ 5 by decide)]; exact F20.out (was hi (by decide) h),
        fun _ => by rw [up_eq]; exact ⟨W.heap.size, 0, 0, 0, 0, 0, rfl, Blk.new W 27 #[.int .i64 0, .int .i64 0, .int .i64 0, .int .i64 0, .int .i64 0], by omega, HKL⟩⟩
    case k22 =>
      intro l A W hsz hun haft ⟨f, ⟨⟨C, G, L, X, K⟩, f5, f6, f11, f12, f13, f16, f17, f18, f19, f20, f21⟩, hA⟩ K9 hK
      subst hA
      have hi : 22 < l.size := by rw [hsz]; decide
      have h20 : l.getD 20 false = true := by
        simp [Region.binds] at haft ⊢
        first | exact haft | exact haft.1 | exact haft.2 | exact haft.2.1 | exact haft.2.2 | exact haft.2.2.1 | exact haft.2.2.2 | exact haft.1.1 | exact haft.1.2 | exact haft.2.2.2.1 | exact haft.2.2.2.2
      obtain ⟨x20, y20, z20, u20, c20, q20⟩ := f20 h20
      have h21 : l.getD 21 false = true := by
        simp [Region.binds] at haft ⊢
        first | exact haft | exact haft.1 | exact haft.2 | exact haft.2.1 | exact haft.2.2 | exact haft.2.2.1 | exact haft.2.2.2 | exact haft.1.1 | exact haft.1.2 | exact haft.2.2.2.1 | exact haft.2.2.2.2
      obtain ⟨k21, x21, y21, z21, u21, c21, q21, b21, n21, nk21⟩ := f21 h21
      clear haft
      have hlt := C.lt
      have HKL := K.lt
      have CC := Lib.hid C
      have GG := Lib.hid G
      have LL := Lib.hid L
      have XX := Lib.hid X
      have KK := Lib.hid K
      have F5 := Lib.hid f5
      have F6 := Lib.hid f6
      have F11 := Lib.hid f11
      have F12 := Lib.hid f12
      have F13 := Lib.hid f13
      have F16 := Lib.hid f16
      have F17 := Lib.hid f17
      have F18 := Lib.hid f18
      have F19 := Lib.hid f19
      have F20 := Lib.hid f20
      have F21 := Lib.hid f21
      clear C G L X K f5 f6 f11 f12 f13 f16 f17 f18 f19 f20 f21
      have BB21 := Lib.hid b21
      clear b21
      obtain ⟨m0, m1, m2, m3, m4⟩ := BB21.out.c5
      have z0 := BB21.out.frozen 0
      have z1 := BB21.out.frozen 1
      have z2 := BB21.out.frozen 2
      have z3 := BB21.out.frozen 3
      have z4 := BB21.out.frozen 4
      have s0 := LL.out.lt
      have s1 := XX.out.lt
      have ha := asked_le l
      go_simp
      refine hK.out _ _ ((LL.out.ap5 (blk_ne BB21.out LL.out (by decide)) (.int .i64 x20) (.int .i64 y20) (.int .i64 z20) (.int .i64 u20) (.int .i64 c20)).c2) ?_
      unfold St
      refine ⟨(up (up f 37 ((Value.agg #[Value.int .i64 x20, Value.int .i64 y20, Value.int .i64 z20, Value.int .i64 u20, Value.int .i64 c20]))) 5 (.pointer (some ⟨k21, 0, none⟩))), ?facts22, ?eq22⟩
      case eq22 => rfl
      case facts22 => exact ⟨⟨by rw [asked_other hi (by simp) (by simp) (by simp) (by simp)]; exact cur_ap5 CC.out n21 (.int .i64 x20) (.int .i64 y20) (.int .i64 z20) (.int .i64 u20) (.int .i64 c20), only_ap5 GG.out (by omega) (.int .i64 x20) (.int .i64 y20) (.int .i64 z20) (.int .i64 u20) (.int .i64 c20), (LL.out.ap5 (blk_ne BB21.out LL.out (by decide)) (.int .i64 x20) (.int .i64 y20) (.int .i64 z20) (.int .i64 u20) (.int .i64 c20)), (XX.out.ap5 (blk_ne BB21.out XX.out (by decide)) (.int .i64 x20) (.int .i64 y20) (.int .i64 z20) (.int .i64 u20) (.int .i64 c20)), (KK.out.ap5 (Nat.ne_of_lt nk21) (.int .i64 x20) (.int .i64 y20) (.int .i64 z20) (.int .i64 u20) (.int .i64 c20))⟩, fun h => by rw [up_ne (show (22 : Nat) ≠ 5 by decide), up_ne (show (22 : Nat) ≠ 37 by decide)]; exact F5.out (was hi (by decide) h),
        fun h => by rw [up_ne (show (23 : Nat) ≠ 5 by decide), up_ne (show (23 : Nat) ≠ 37 by decide)]; exact F6.out (was hi (by decide) h),
        fun h => by rw [up_ne (show (28 : Nat) ≠ 5 by decide), up_ne (show (28 : Nat) ≠ 37 by decide)]; exact F11.out (was hi (by decide) h),
        fun h => by rw [up_ne (show (29 : Nat) ≠ 5 by decide), up_ne (show (29 : Nat) ≠ 37 by decide)]; exact F12.out (was hi (by decide) h),
        fun h => by rw [up_ne (show (30 : Nat) ≠ 5 by decide), up_ne (show (30 : Nat) ≠ 37 by decide)]; exact F13.out (was hi (by decide) h),
        fun h => by rw [up_ne (show (33 : Nat) ≠ 5 by decide), up_ne (show (33 : Nat) ≠ 37 by decide)]; obtain ⟨k, q, bk, nk⟩ := F16.out (was hi (by decide) h); exact ⟨k, q, (bk.ap5 (blk_ne BB21.out bk (by decide)) (.int .i64 x20) (.int .i64 y20) (.int .i64 z20) (.int .i64 u20) (.int .i64 c20)), nk⟩,
        fun h => by rw [up_ne (show (34 : Nat) ≠ 5 by decide), up_ne (show (34 : Nat) ≠ 37 by decide)]; exact F17.out (was hi (by decide) h),
        fun h => by rw [up_ne (show (35 : Nat) ≠ 5 by decide), up_ne (show (35 : Nat) ≠ 37 by decide)]; obtain ⟨k, p, q, bk, nk, r⟩ := F18.out (was hi (by decide) h); exact ⟨k, p, q, (bk.ap5 (blk_ne BB21.out bk (by decide)) (.int .i64 x20) (.int .i64 y20) (.int .i64 z20) (.int .i64 u20) (.int .i64 c20)), nk, r⟩,
        fun h => by rw [up_ne (show (36 : Nat) ≠ 5 by decide), up_ne (show (36 : Nat) ≠ 37 by decide)]; exact F19.out (was hi (by decide) h),
        fun _ => by rw [up_ne (show (37 : Nat) ≠ 5 by decide), up_eq]; exact ⟨x20, y20, z20, u20, c20, rfl⟩,
        fun _ => by rw [up_eq]; exact ⟨k21, x20, y20, z20, u20, c20, rfl, BB21.out.sd5 (.int .i64 x20) (.int .i64 y20) (.int .i64 z20) (.int .i64 u20) (.int .i64 c20), n21, nk21⟩⟩
end Go.Proofs.Ytcpbcmebfiilmaa
