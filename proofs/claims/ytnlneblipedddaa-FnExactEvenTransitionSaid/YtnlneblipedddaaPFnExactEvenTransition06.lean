/- The draws of the laws: a source of choices, and what it hands out. Condition: the source's bytes can be read. Spots that are drawn. Condition: the source's bytes can be read. -/
import Derived.Test.YtnlneblipedddaaPFnExactEvenTransition01
import Derived.Test.YtnlneblipedddaaProg
import Derived.KernelRfl
import Derived.BigQuiet
import Derived.Deep.QuietTactic
import Derived.IntWalk
import Derived.Laws.BitsAllLaws
namespace Go.Proofs.Ytnlneblipedddaa
open Go.RowKit

/-- A slice of n bytes that can be read, in a block below B. -/
def RdB (w : World) (B : Nat) (A : Option Addr) (n : Nat) : Prop := 0 < n → ∃ b off, A = some ⟨b, off, none⟩ ∧ b < B ∧ ∀ j, j < n → ∃ z : Int, 0 ≤ z ∧ z ≤ 255 ∧ w.cell? ⟨b, off + j, none⟩ = some (.int .u8 z)
/-- Block g, from B on, holds a source that has been asked at most N times. -/
def Cur (w : World) (B g N : Nat) : Prop := B ≤ g ∧ ∃ (A : Option Addr) (n c : Nat) (i : Nat) (s : Int), Blk w g 65 #[.slice A n c, .int .i64 i, .int .u64 s] ∧ n ≤ 9223372036854775807 ∧ i ≤ N ∧ RdB w B A n
/-- A number in a range is handed out, and nothing but block g has changed. -/
def Hands (B g N : Nat) (lo hi : Int) (w : World) (e : Ending) (w' : World) : Prop := ∃ r : Int, lo ≤ r ∧ r ≤ hi ∧ e = .returned (.int .i64 r) ∧ Cur w' B g N ∧ w.grownBy w' (some g)
theorem RdB.grown {w w' : World} {B g n : Nat} {A : Option Addr} (h : RdB w B A n) (hB : B ≤ g) (hg : w.grownBy w' (some g)) (hlt : g < w.heap.size) : RdB w' B A n := by
  intro hn
  obtain ⟨b, off, rfl, hb, hc⟩ := h hn
  refine ⟨b, off, rfl, hb, fun j hj => ?_⟩
  obtain ⟨z, z0, z1, hz⟩ := hc j hj
  exact ⟨z, z0, z1, (World.cell?_of_block (hg.block b (by omega) (by intro e; injection e with e; omega))).trans hz⟩
theorem Blk.set3 {w : World} {g : Nat} {t : TypeId} {a b c : Value} (h : Blk w g t #[a, b, c]) (u v : Value) : Blk ((w.setCell ⟨g, 1, none⟩ u).setCell ⟨g, 2, none⟩ v) g t #[a, u, v] := by
  have := (h.set_ 1 u).set_ 2 v
  simpa using this
theorem Blk.c3 {w : World} {g : Nat} {t : TypeId} {a b c : Value} (h : Blk w g t #[a, b, c]) : w.cell? ⟨g, 0, none⟩ = some a ∧ w.cell? ⟨g, 1, none⟩ = some b ∧ w.cell? ⟨g, 2, none⟩ = some c := ⟨h.cell 0, h.cell 1, h.cell 2⟩

theorem only_drewN {a w : World} {row : Option Nat} (h : a.grownBy w row) (n : Nat) : a.grownBy (w.drewN n) row := ⟨h.os, h.tape, h.output, h.size, h.block⟩
theorem only_setCell {a w : World} {g : Nat} (h : a.grownBy w (some g)) {p : Addr} (hp : p.block = g) (u : Value) : a.grownBy (w.setCell p u) (some g) :=
  ⟨h.os, h.tape, h.output, by simpa [World.setCell] using h.size, fun i hi hne => (Below.heap_setCell w p u i (by
    rintro rfl
    exact hne (by rw [hp]))).trans (h.block i hi hne)⟩
theorem cur_world {w : World} {g : Nat} {t : TypeId} {a b c u v : Value} (k : Nat) (h : Blk w g t #[a, b, c]) : ∀ w1, w1 = ((w.drewN k).setCell ⟨g, 1, none⟩ u).setCell ⟨g, 2, none⟩ v → Blk w1 g t #[a, u, v] ∧ w.grownBy w1 (some g) := by
  rintro w1 rfl
  refine ⟨(h.drewN k).set3 u v, ?_⟩
  exact only_setCell (p := ⟨g, 2, none⟩) (only_setCell (p := ⟨g, 1, none⟩) (only_drewN (World.grownBy.refl w (some g)) k) rfl u) rfl v
theorem byte_in (x : Int) : 0 ≤ bits .and .u64 x 255 ∧ bits .and .u64 x 255 ≤ 255 := by
  have h : (BitVec.ofInt 64 x).toNat &&& 255 ≤ 255 := Nat.and_le_right
  have e : bits .and .u64 x 255 = IntKind.u64.wrap (((BitVec.ofInt 64 x).toNat &&& 255 : Nat) : Int) := by
    show IntKind.u64.wrap ((BitVec.ofInt 64 x &&& BitVec.ofInt 64 255).toNat : Int) = _
    rw [BitVec.toNat_and]
    rfl
  rw [e, IntKind.wrap_u64]
  omega
theorem wbyte_in (x : Int) : 0 ≤ wrap64 (bits .and .u64 x 255) ∧ wrap64 (bits .and .u64 x 255) ≤ 255 := by
  obtain ⟨a, b⟩ := byte_in x
  rw [IntWalk.wrap64_in _ ⟨by omega, by omega⟩]
  exact ⟨a, b⟩
set_option maxRecDepth 100000 in
set_option maxHeartbeats 2000000 in
theorem next_any (B g N : Nat) (w : World) (h : Cur w B g N) (hN : N ≤ 1099511627776) : Calls Try.prog 100 #[.pointer (some ⟨g, 0, none⟩)] w (Hands B g (N + 1) 0 255 w) := by
  obtain ⟨hBg, A, n, c, i, s, hk, hn, hi, hr⟩ := h
  obtain ⟨c0, c1, c2⟩ := hk.c3
  have f1 := hk.frozen 1
  have f2 := hk.frozen 2
  have HK := Lib.hid hk
  have HR := Lib.hid hr
  clear hk
  by_cases hlt : i < n
  · obtain ⟨b, off, rfl, hb, hc⟩ := hr (by omega)
    obtain ⟨z, z0, z1, hz⟩ := hc i hlt
    have hd : decide ((i : Int) < (n : Int)) = true := by simp; omega
    have hd2 : decide (i < n) = true := by simp; omega
    have i0 : (0 : Int) ≤ (i : Int) := by omega
    have i1 : (i : Int) < (n : Int) := by omega
    clear hr hc
    go_enter Try.func100, Try.ntmps100
    go_wp2_with fail
    go_quiet (fail)
    go_wp2_with fail
    go_quiet (fail)
    go_wp2_with fail
    generalize hs' : IntKind.u64.wrap (IntKind.u64.wrap (IntKind.u64.wrap (s * 6364136223846793005) + _) + 1442695040888963407) = s'
    generalize hw1 : World.setCell _ _ _ = w1
    have hkw := cur_world _ HK.out w1 hw1.symm
    clear hs' hw1 c0 c1 c2 f1 f2
    have K1 := Lib.hid hkw.1
    have HGr := Lib.hid hkw.2
    clear hkw
    obtain ⟨c0, c1, c2⟩ := K1.out.c3
    have hd3 : decide ((i : Int) + 1 ≤ (n : Int)) = true := by simp; omega
    go_quiet (fail)
    go_wp2_with fail
    go_ret
    refine ⟨z, z0, z1, rfl, ⟨hBg, _, n, c, i + 1, s', K1.out.drewN _, hn, by omega, HR.out.grown hBg (only_drewN HGr.out _) HK.out.lt⟩, only_drewN HGr.out _⟩
  · have hd : decide ((i : Int) < (n : Int)) = false := by simp; omega
    have hge : (n : Int) ≤ (i : Int) := by omega
    clear hr
    go_enter Try.func100, Try.ntmps100
    go_wp2_with fail
    go_quiet (fail)
    go_wp2_with fail
    generalize hs' : IntKind.u64.wrap (IntKind.u64.wrap (IntKind.u64.wrap (s * 6364136223846793005) + _) + 1442695040888963407) = s'
    generalize hw1 : World.setCell _ _ _ = w1
    have hkw := cur_world _ HK.out w1 hw1.symm
    clear hs' hw1 c0 c1 c2 f1 f2
    have K1 := Lib.hid hkw.1
    have HGr := Lib.hid hkw.2
    clear hkw
    obtain ⟨c0, c1, c2⟩ := K1.out.c3
    have hd3 : decide ((i : Int) + 1 ≤ (n : Int)) = false := by simp; omega
    go_quiet (fail)
    go_wp2_with fail
    go_ret
    exact ⟨_, (wbyte_in _).1, (wbyte_in _).2, rfl, ⟨hBg, _, n, c, i + 1, _, K1.out.drewN _, hn, by omega, HR.out.grown hBg (only_drewN HGr.out _) HK.out.lt⟩, only_drewN HGr.out _⟩

theorem Cur.le {w : World} {B g N M : Nat} (h : Cur w B g N) (hM : N ≤ M) : Cur w B g M := by
  obtain ⟨hBg, A, n, c, i, s, hk, hn, hi, hr⟩ := h
  exact ⟨hBg, A, n, c, i, s, hk, hn, by omega, hr⟩
theorem Cur.lt {w : World} {B g N : Nat} (h : Cur w B g N) : g < w.heap.size := by
  obtain ⟨hBg, A, n, c, i, s, hk, hn, hi, hr⟩ := h
  exact hk.lt
/-- The greatest number that pick hands out. -/
def pickHi (m : Int) : Int := if m ≤ 1 then 0 else m - 1
set_option maxHeartbeats 1000000 in
theorem pick_any (B g N : Nat) (m : Int) (w : World) (h : Cur w B g N) (hN : N ≤ 1000000000000) (hm : m ≤ 1000000000000) : Calls Try.prog 88 #[.pointer (some ⟨g, 0, none⟩), .int .i64 m] w (Hands B g (N + 2) 0 (pickHi m) w) := by
  have H := Lib.hid h
  clear h
  by_cases h1 : m ≤ 1
  · have HP := Lib.hid (show pickHi m = 0 by simp [pickHi, h1])
    go_enter Try.func88, Try.ntmps88
    go_wp2_with fail
    go_ret
    exact ⟨0, by omega, by rw [HP.out]; omega, rfl, H.out.le (by omega), World.grownBy.refl _ _⟩
  · have HP := Lib.hid (show pickHi m = m - 1 by simp [pickHi, h1])
    have hne : ¬ m = 0 := by omega
    by_cases h2 : 200 < m
    · go_enter Try.func88, Try.ntmps88
      go_wp2_with fail
      refine (next_any B g N _ H.out (by omega)).mono ?_
      rintro e w1 ⟨x, x0, x1, rfl, hc1, hg1⟩
      have C1 := Lib.hid hc1
      have G1 := Lib.hid hg1
      clear hc1 hg1
      go_wp2_with fail
      refine (next_any B g (N + 1) _ C1.out (by omega)).mono ?_
      rintro e w2 ⟨y, y0, y1, rfl, hc2, hg2⟩
      have C2 := Lib.hid hc2
      have G2 := Lib.hid (grow_trans G1.out hg2)
      have r1 := Int.emod_nonneg (x * 256 + y) hne
      have r2 := Int.emod_lt_of_pos (x * 256 + y) (show 0 < m by omega)
      clear hc2 hg2
      go_wp2_with fail
      go_ret
      exact ⟨_, r1, by rw [HP.out]; omega, rfl, C2.out, G2.out⟩
    · go_enter Try.func88, Try.ntmps88
      go_wp2_with fail
      refine (next_any B g N _ H.out (by omega)).mono ?_
      rintro e w1 ⟨x, x0, x1, rfl, hc1, hg1⟩
      have C1 := Lib.hid hc1
      have G1 := Lib.hid hg1
      have r1 := Int.emod_nonneg x hne
      have r2 := Int.emod_lt_of_pos x (show 0 < m by omega)
      clear hc1 hg1
      go_wp2_with fail
      go_ret
      exact ⟨_, r1, by rw [HP.out]; omega, rfl, C1.out.le (by omega), G1.out⟩
/-- Yes or no is handed out. -/
def Says (B g N : Nat) (w : World) (e : Ending) (w' : World) : Prop := ∃ r : Bool, e = .returned (.bool r) ∧ Cur w' B g N ∧ w.grownBy w' (some g)
theorem one_any (B g N : Nat) (m : Int) (w : World) (h : Cur w B g N) (hN : N ≤ 1000000000000) (hm : m ≤ 1000000000000) : Calls Try.prog 79 #[.pointer (some ⟨g, 0, none⟩), .int .i64 m] w (Says B g (N + 2) w) := by
  have H := Lib.hid h
  clear h
  go_enter Try.func79, Try.ntmps79
  go_wp2_with fail
  refine (pick_any B g N m _ H.out hN hm).mono ?_
  rintro e w1 ⟨x, x0, x1, rfl, hc1, hg1⟩
  have C1 := Lib.hid hc1
  have G1 := Lib.hid hg1
  clear hc1 hg1 x0 x1
  go_wp2_with fail
  go_ret
  exact ⟨_, rfl, C1.out, G1.out⟩
set_option maxHeartbeats 1000000 in
theorem among_any (B g N b off n c : Nat) (xs : List Int) (lo hi : Int) (w : World) (h : Cur w B g N) (hN : N ≤ 1000000000000) (hn0 : 0 < n) (hn : n ≤ 1000000) (hb : b ≠ g) (hbl : b < w.heap.size)
    (hx : ∀ j, j < n → w.cell? ⟨b, off + j, none⟩ = some (.int .i64 (xs.getD j 0))) (hlo : ∀ j, j < n → lo ≤ xs.getD j 0 ∧ xs.getD j 0 ≤ hi) :
    Calls Try.prog 64 #[.pointer (some ⟨g, 0, none⟩), .slice (some ⟨b, off, none⟩) n c] w (Hands B g (N + 2) lo hi w) := by
  have H := Lib.hid h
  have HX := Lib.hid hx
  have HL := Lib.hid hlo
  clear h hx hlo
  have HP := Lib.hid (show pickHi (n : Int) ≤ (n : Int) - 1 by unfold pickHi; split <;> omega)
  go_enter Try.func64, Try.ntmps64
  go_wp2_with fail
  refine (pick_any B g N (n : Int) _ H.out hN (by omega)).mono ?_
  rintro e w1 ⟨x, x0, x1, rfl, hc1, hg1⟩
  obtain ⟨j, rfl⟩ := Int.eq_ofNat_of_zero_le x0
  have hj : j < n := by have := HP.out; omega
  have c0 : w1.cell? ⟨b, off + j, none⟩ = some (.int .i64 (xs.getD j 0)) := (World.cell?_of_block (hg1.block b hbl (by intro e; injection e with e; exact hb e))).trans (HX.out j hj)
  obtain ⟨r1, r2⟩ := HL.out j hj
  obtain ⟨y, ey⟩ : ∃ y, xs.getD j 0 = y := ⟨_, rfl⟩
  rw [ey] at c0 r1 r2
  have C1 := Lib.hid hc1
  have G1 := Lib.hid hg1
  have i1 : (j : Int) < (n : Int) := by omega
  clear hc1 hg1 x1 ey
  go_wp2_with fail
  go_ret
  exact ⟨y, r1, r2, rfl, C1.out, G1.out⟩
end Go.Proofs.Ytnlneblipedddaa

namespace Go.Proofs.Ytnlneblipedddaa
open Go.RowKit

section
variable {w w' a : World} {B g N n : Nat} {A : Option Addr}
theorem RdB.keep (h : RdB w B A n) (hk : ∀ p : Addr, p.block < B → w'.cell? p = w.cell? p) : RdB w' B A n := by
  intro hn
  obtain ⟨b, off, rfl, hb, hc⟩ := h hn
  refine ⟨b, off, rfl, hb, fun j hj => ?_⟩
  obtain ⟨z, z0, z1, hz⟩ := hc j hj
  exact ⟨z, z0, z1, (hk _ hb).trans hz⟩
theorem Cur.keep (h : Cur w B g N) (hg : w'.heap[g]? = w.heap[g]?) (hk : ∀ p : Addr, p.block < B → w'.cell? p = w.cell? p) : Cur w' B g N := by
  obtain ⟨hBg, A, n, c, i, s, hb, hn, hi, hr⟩ := h
  exact ⟨hBg, A, n, c, i, s, hg.trans hb, hn, hi, hr.keep hk⟩
theorem Cur.alloc (h : Cur w B g N) (o : Obj) : Cur (w.alloc o) B g N :=
  h.keep (Below.heap_alloc w o g h.lt) fun p hp => World.cell?_alloc_lt w o p (Nat.lt_of_lt_of_le hp (Nat.le_trans h.1 (Nat.le_of_lt h.lt)))
theorem Cur.setCell (h : Cur w B g N) {p : Addr} (hp : g < p.block) (u : Value) : Cur (w.setCell p u) B g N :=
  h.keep (Below.heap_setCell w p u g (by omega)) fun q hq => World.cell?_setCell_other w p q u (fun e => by subst e; have := h.1; omega)
theorem Cur.drewN (h : Cur w B g N) (k : Nat) : Cur (w.drewN k) B g N := h
theorem Cur.grown (h : Cur w B g N) {row : Option Nat} (hg : w.grownBy w' row) (hr : ∀ k, row = some k → g < k) : Cur w' B g N :=
  h.keep (hg.block g h.lt (fun e => by have := hr g e.symm; omega)) fun p hp => World.cell?_of_block (hg.block p.block (Nat.lt_of_lt_of_le hp (Nat.le_trans h.1 (Nat.le_of_lt h.lt))) (fun e => by have := hr _ e.symm; have := h.1; omega))
theorem only_alloc {row : Option Nat} (h : a.grownBy w row) (o : Obj) : a.grownBy (w.alloc o) row :=
  ⟨h.os, h.tape, h.output, Nat.le_trans h.size (by simp), fun i hi hne => (Below.heap_alloc w o i (Nat.lt_of_lt_of_le hi h.size)).trans (h.block i hi hne)⟩
theorem only_set {row : Option Nat} (h : a.grownBy w row) {p : Addr} (hp : a.heap.size ≤ p.block) (u : Value) : a.grownBy (w.setCell p u) row :=
  ⟨h.os, h.tape, h.output, by simpa [World.setCell] using h.size, fun i hi hne => (Below.heap_setCell w p u i (by omega)).trans (h.block i hi hne)⟩
theorem only_grown {row : Option Nat} (h : a.grownBy w (some g)) (hg : w.grownBy w' row) (hr : ∀ k, row = some k → k = g ∨ a.heap.size ≤ k) : a.grownBy w' (some g) :=
  ⟨hg.os.trans h.os, hg.tape.trans h.tape, hg.output.trans h.output, Nat.le_trans h.size hg.size, fun i hi hne => (hg.block i (Nat.lt_of_lt_of_le hi h.size) (fun e => by
    rcases hr i e.symm with r | r
    · exact hne (by rw [r])
    · omega)).trans (h.block i hi hne)⟩
theorem Blk.grown' {t : TypeId} {cs : Array Value} {k : Nat} (h : Blk w k t cs) (hg : w.grownBy w' (some g)) (hne : k ≠ g) : Blk w' k t cs := (hg.block k h.lt (fun e => hne (by injection e))).trans h
end
/-- A spot is handed out. -/
def HandsSpot (B g N : Nat) (w : World) (e : Ending) (w' : World) : Prop := ∃ x y : Int, (-2000 ≤ x ∧ x ≤ 2000 ∧ -2000 ≤ y ∧ y ≤ 2000) ∧ e = .returned (Value.agg #[Value.int .i64 x, Value.int .i64 y]) ∧ Cur w' B g N ∧ w.grownBy w' (some g)
end Go.Proofs.Ytnlneblipedddaa
