/- Words for memory that every walk of this claim uses: a slice of whole numbers (or of structs of whole numbers, cell by cell) that can be read; a slice that the call owns. Without conditions. -/
import Derived.WalkKit
import Derived.Laws.OwnMore
import Derived.Deep.Draws
import Derived.Lib.Hide
namespace Go.Proofs.Ytpikhkdgohapeaa
open Go.RowKit

/-- What the cells of a flat list of numbers hold. -/
def ints (xs : List Int) : List Value := xs.map (Value.int .i64)
theorem ints_length (xs : List Int) : (ints xs).length = xs.length := by simp [ints]
theorem ints_get (xs : List Int) (j : Nat) (h : j < xs.length) : (ints xs)[j]? = some (.int .i64 (xs.getD j 0)) := by simp [ints, h]
theorem ints_append (xs ys : List Int) : ints (xs ++ ys) = ints xs ++ ints ys := by simp [ints]
theorem ints_one (xs : List Int) : ∀ u ∈ ints xs, u.oneCell' = true := by
  intro u hu
  simp only [ints, List.mem_map] at hu
  obtain ⟨x, _, rfl⟩ := hu
  rfl

/-- The slice value v has n elements of sz cells each, which hold the numbers xs, in a block below B. -/
def Rd (w : World) (B sz : Nat) (v : Value) (n : Nat) (xs : List Int) : Prop :=
  xs.length = n * sz ∧ ∃ A c, v = .slice A n c ∧ (0 < n → ∃ b off, A = some ⟨b, off, none⟩ ∧ b < B ∧ ∀ j, j < n * sz → w.cell? ⟨b, off + j, none⟩ = some (.int .i64 (xs.getD j 0)))

section
variable {w w' : World} {B B' sz n : Nat} {v : Value} {xs : List Int}
theorem Rd.keep (h : Rd w B sz v n xs) (hk : ∀ p : Addr, p.block < B → w'.cell? p = w.cell? p) : Rd w' B sz v n xs := by
  obtain ⟨hl, A, c, rfl, h⟩ := h
  refine ⟨hl, A, c, rfl, fun hn => ?_⟩
  obtain ⟨b, off, rfl, hb, hc⟩ := h hn
  exact ⟨b, off, rfl, hb, fun j hj => (hk _ hb).trans (hc j hj)⟩
theorem Rd.more (h : Rd w B sz v n xs) (hB : B ≤ B') : Rd w B' sz v n xs := by
  obtain ⟨hl, A, c, rfl, h⟩ := h
  refine ⟨hl, A, c, rfl, fun hn => ?_⟩
  obtain ⟨b, off, rfl, hb, hc⟩ := h hn
  exact ⟨b, off, rfl, by omega, hc⟩
theorem Rd.below (h : Rd w B sz v n xs) (hb : Below B w w') : Rd w' B sz v n xs := h.keep fun _ hp => hb.cell hp
theorem Rd.below' (h : Rd w B sz v n xs) {C : Nat} (hb : Below C w w') (hC : B ≤ C) : Rd w' B sz v n xs := h.keep fun _ hp => hb.cell (by omega)
theorem Rd.grown (h : Rd w B sz v n xs) {row : Option Nat} (hg : w.grownBy w' row) (hB : B ≤ w.heap.size) (hr : ∀ g, row = some g → B ≤ g) : Rd w' B sz v n xs :=
  h.keep fun p hp => World.cell?_of_block (hg.block p.block (by omega) (fun e => by have := hr _ e.symm; omega))
theorem Rd.alloc (h : Rd w B sz v n xs) (hB : B ≤ w.heap.size) (o : Obj) : Rd (w.alloc o) B sz v n xs := h.keep fun p hp => World.cell?_alloc_lt w o p (by omega)
theorem Rd.drew (h : Rd w B sz v n xs) : Rd w.drew B sz v n xs := h
theorem Rd.drewN (h : Rd w B sz v n xs) (k : Nat) : Rd (w.drewN k) B sz v n xs := h

/-- What the call owns can be read. -/
theorem Rd.of_own {base : Nat} {e : TypeId} (h : w.ownsRow base e sz v n (ints xs)) : Rd w w.heap.size sz v n xs := by
  have hl : xs.length = n * sz := by have := h.1; rwa [ints_length] at this
  refine ⟨hl, ?_⟩
  rcases h.2 with ⟨rfl, rfl⟩ | ⟨g, cap, cur, rfl, hb, hg, _⟩
  · exact ⟨none, 0, rfl, fun h => absurd h (by omega)⟩
  · refine ⟨_, cap, rfl, fun hn => ⟨g, 0, rfl, (Array.getElem?_eq_some_iff.1 hg).1, fun j hj => ?_⟩⟩
    rw [Nat.zero_add, h.cellAt j hj, ints_get xs j (by omega)]
end

section
variable {w w' : World} {base base' sz n : Nat} {e : TypeId} {v : Value} {vs : List Value}
theorem own_below (h : w.ownsRow base e sz v n vs) {C : Nat} (hb : Below C w w') (hC : w.heap.size ≤ C) : w'.ownsRow base e sz v n vs :=
  h.kept (row := none) ⟨hb.os, hb.tape, hb.output, hb.size, fun k hk _ => hb.block k (by omega)⟩ (by cases hv : v.ownBlock <;> simp)
theorem own_drewN (h : w.ownsRow base e sz v n vs) (k : Nat) : (w.drewN k).ownsRow base e sz v n vs := h
theorem own_base (h : w.ownsRow base e sz v n vs) (hb : base' ≤ base) : w.ownsRow base' e sz v n vs := by
  refine ⟨h.1, ?_⟩
  rcases h.2 with h2 | ⟨g, cap, cur, hv, hg, r⟩
  · exact .inl h2
  · exact .inr ⟨g, cap, cur, hv, by omega, r⟩
end

/-- '[]T{}': an owned slice of length 0. -/
theorem own_empty (w : World) (e : TypeId) (sz : Nat) : (w.alloc (.cells #[] e)).ownsRow w.heap.size e sz (.slice (some ⟨w.heap.size, 0, none⟩) 0 0) 0 [] :=
  World.ownsRow_made w #[] 0 (Nat.le_refl _) (Nat.zero_le _) (by simp)

/-- The slice v is owned, in a block from lo on and below hi, and holds the numbers xs. -/
def Own (w : World) (lo hi : Nat) (e : TypeId) (sz : Nat) (v : Value) (n : Nat) (xs : List Int) : Prop := w.ownsRow lo e sz v n (ints xs) ∧ ∀ k, v.ownBlock = some k → k < hi
section
variable {w w' : World} {lo hi sz n lo2 hi2 sz2 n2 : Nat} {e e2 : TypeId} {v u : Value} {xs ys : List Int}
theorem Own.of (h : w.ownsRow lo e sz v n (ints xs)) : Own w lo w.heap.size e sz v n xs := ⟨h, fun k hk => (h.lt k hk).2⟩
theorem Own.below (h : Own w lo hi e sz v n xs) {C : Nat} (hb : Below C w w') (hC : w.heap.size ≤ C) : Own w' lo hi e sz v n xs := ⟨own_below h.1 hb hC, h.2⟩
theorem Own.rd (h : Own w lo hi e sz v n xs) : Rd w w.heap.size sz v n xs := Rd.of_own h.1
theorem Own.other (h : Own w lo hi e sz v n xs) (h2 : Own w lo2 hi2 e2 sz2 u n2 ys) (hd : hi ≤ lo2 ∨ hi2 ≤ lo) (hg : w.grownBy w' u.ownBlock) : Own w' lo hi e sz v n xs := by
  refine ⟨h.1.kept hg ?_, h.2⟩
  cases hv : v.ownBlock with
  | none => exact .inl rfl
  | some k =>
    refine .inr fun he => ?_
    have a1 := h.1.lt k hv
    have a2 := h.2 k hv
    have b1 := h2.1.lt k he.symm
    have b2 := h2.2 k he.symm
    omega
theorem Own.after (h : Own w lo hi e sz v n xs) (h2 : w'.ownsRow lo e sz v n (ints ys)) : Own w' lo hi e sz v n ys := ⟨h2, h.2⟩
theorem Own.frame {B : Nat} {W : World} (h : Own w lo hi e sz v n xs) (hb : Below B W w) (hB : B ≤ lo) (hBw : B ≤ w.heap.size) (hg : w.grownBy w' v.ownBlock) : Below B W w' :=
  hb.grown hg hBw (fun k hk => Nat.le_trans hB (h.1.lt k hk).1)
end

/-- Block g holds just the cells cs of type t, none of them frozen. -/
def Blk (w : World) (g : Nat) (t : TypeId) (cs : Array Value) : Prop := w.heap[g]? = some (.cells cs t (0, 0))
section
variable {w w' : World} {g : Nat} {t : TypeId} {cs : Array Value}
theorem Blk.lt (h : Blk w g t cs) : g < w.heap.size := (Array.getElem?_eq_some_iff.1 h).1
theorem Blk.cell (h : Blk w g t cs) (i : Nat) : w.cell? ⟨g, i, none⟩ = cs[i]? := cell_of_row w g i cs t (0, 0) h
theorem Blk.frozen (h : Blk w g t cs) (i : Nat) : w.frozen? ⟨g, i, none⟩ = false := frozen_of_row w g i cs t h
theorem Blk.new (w : World) (t : TypeId) (cs : Array Value) : Blk (w.alloc (.cells cs t)) w.heap.size t cs := heap_alloc_new w _
theorem Blk.alloc (h : Blk w g t cs) (o : Obj) : Blk (w.alloc o) g t cs := (Below.heap_alloc w o g h.lt).trans h
theorem Blk.drewN (h : Blk w g t cs) (n : Nat) : Blk (w.drewN n) g t cs := h
theorem Blk.drew (h : Blk w g t cs) : Blk w.drew g t cs := h
theorem Blk.below {B : Nat} (h : Blk w g t cs) (hb : Below B w w') (hg : g < B) : Blk w' g t cs := (hb.block g hg).trans h
theorem Blk.on (h : Blk w g t cs) (hb : Below w.heap.size w w') : Blk w' g t cs := (hb.block g h.lt).trans h
theorem Blk.c2 {a b : Value} (h : Blk w g t #[a, b]) : w.cell? ⟨g, 0, none⟩ = some a ∧ w.cell? ⟨g, 1, none⟩ = some b := ⟨h.cell 0, h.cell 1⟩
theorem Blk.c4 {a b c d : Value} (h : Blk w g t #[a, b, c, d]) : w.cell? ⟨g, 0, none⟩ = some a ∧ w.cell? ⟨g, 1, none⟩ = some b ∧ w.cell? ⟨g, 2, none⟩ = some c ∧ w.cell? ⟨g, 3, none⟩ = some d := ⟨h.cell 0, h.cell 1, h.cell 2, h.cell 3⟩
theorem Blk.c5 {a b c d e : Value} (h : Blk w g t #[a, b, c, d, e]) : w.cell? ⟨g, 0, none⟩ = some a ∧ w.cell? ⟨g, 1, none⟩ = some b ∧ w.cell? ⟨g, 2, none⟩ = some c ∧ w.cell? ⟨g, 3, none⟩ = some d ∧ w.cell? ⟨g, 4, none⟩ = some e :=
  ⟨h.cell 0, h.cell 1, h.cell 2, h.cell 3, h.cell 4⟩
end
/-- The frame of a call that begins with a box, or with more than one. -/
theorem below_box {w w1 : World} {o : Obj} (hb : Below (w.alloc o).heap.size (w.alloc o) w1) : Below w.heap.size w w1 := ((Below.refl _ _).alloc (Nat.le_refl _) o).trans (hb.mono (by simp))
theorem below_on {a w w1 : World} (h : Below a.heap.size a w) (hb : Below w.heap.size w w1) : Below a.heap.size a w1 := h.trans (hb.mono h.size)

theorem grow_trans {a b c : World} {g : Option Nat} (h : a.grownBy b g) (k : b.grownBy c g) : a.grownBy c g :=
  ⟨k.os.trans h.os, k.tape.trans h.tape, k.output.trans h.output, Nat.le_trans h.size k.size, fun i hi hne => (k.block i (Nat.lt_of_lt_of_le hi h.size) hne).trans (h.block i hi hne)⟩
theorem cell_new {W : World} {a : Addr} {v : Value} (h : W.cell? a = some v) (o : Obj) : (W.alloc o).cell? a = some v := (World.cell?_alloc_lt W o a (block_lt_of_cell h)).trans h
theorem below_new {w W : World} (h : Below w.heap.size w W) (o : Obj) : Below w.heap.size w (W.alloc o) := h.alloc h.size o
theorem cell_on {W W' : World} {a : Addr} {v : Value} (hb : Below W.heap.size W W') (h : W.cell? a = some v) : W'.cell? a = some v := (hb.cell (block_lt_of_cell h)).trans h
theorem below_drewN {B : Nat} {a w : World} (h : Below B a w) (n : Nat) : Below B a (w.drewN n) := ⟨h.os, h.tape, h.output, h.size, h.block⟩
theorem bcell {W w1 : World} {B : Nat} (hb : Below B W w1) : (∀ b o, b < B → w1.cell? ⟨b, o, none⟩ = W.cell? ⟨b, o, none⟩) ∧ (∀ b o, b < B → w1.frozen? ⟨b, o, none⟩ = W.frozen? ⟨b, o, none⟩) :=
  ⟨fun b o h => hb.cell (p := ⟨b, o, none⟩) h, fun b o h => hb.frozen (p := ⟨b, o, none⟩) h⟩

end Go.Proofs.Ytpikhkdgohapeaa
