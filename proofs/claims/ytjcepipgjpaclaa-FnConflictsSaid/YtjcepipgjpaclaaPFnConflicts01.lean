/- Words for memory that every walk of this claim uses: a slice of whole numbers (or of structs of whole numbers, cell by cell) that can be read; a slice that the call owns. Without conditions. Lists of numbers that are filled and marked cell by cell: plain laws. Without conditions. A block that is known whole, after stores into it. Without conditions. The spots of a slice that can be read, by their index. Without conditions. A fraction in lowest terms, by the greatest common divisor: plain laws. Without conditions. How near two moves come to each other: plain laws on the way from one to the other at the begin and at the end. Without conditions. -/
import Derived.WalkKit
import Derived.Laws.OwnMore
import Derived.Deep.Draws
import Derived.Lib.Hide
namespace Go.Proofs.Ytjcepipgjpaclaa
open Go.RowKit

/-- What the cells of a flat list of numbers hold. -/
def ints (xs : List Int) : List Value := xs.map (Value.int .i64)
theorem ints_length (xs : List Int) : (ints xs).length = xs.length := by simp [ints]
theorem ints_get (xs : List Int) (j : Nat) (h : j < xs.length) : (ints xs)[j]? = some (.int .i64 (xs.getD j 0)) := by simp [ints, h]
theorem ints_append (xs ys : List Int) : ints (xs ++ ys) = ints xs ++ ints ys := by simp [ints]
theorem ints_one (xs : List Int) : ∀ u ∈ ints xs, u.oneCell' = true := by
  intro u hu
  simp only [ints, List.mem_map] at hu
  obtain ⟨x, _, rfl⟩ := hu
  rfl

/-- The slice value v has n elements of sz cells each, which hold the numbers xs, in a block below B. -/
def Rd (w : World) (B sz : Nat) (v : Value) (n : Nat) (xs : List Int) : Prop :=
  xs.length = n * sz ∧ ∃ A c, v = .slice A n c ∧ (0 < n → ∃ b off, A = some ⟨b, off, none⟩ ∧ b < B ∧ ∀ j, j < n * sz → w.cell? ⟨b, off + j, none⟩ = some (.int .i64 (xs.getD j 0)))

section
variable {w w' : World} {B B' sz n : Nat} {v : Value} {xs : List Int}
theorem Rd.keep (h : Rd w B sz v n xs) (hk : ∀ p : Addr, p.block < B → w'.cell? p = w.cell? p) : Rd w' B sz v n xs := by
  obtain ⟨hl, A, c, rfl, h⟩ := h
  refine ⟨hl, A, c, rfl, fun hn => ?_⟩
  obtain ⟨b, off, rfl, hb, hc⟩ := h hn
  exact ⟨b, off, rfl, hb, fun j hj => (hk _ hb).trans (hc j hj)⟩
theorem Rd.more (h : Rd w B sz v n xs) (hB : B ≤ B') : Rd w B' sz v n xs := by
  obtain ⟨hl, A, c, rfl, h⟩ := h
  refine ⟨hl, A, c, rfl, fun hn => ?_⟩
  obtain ⟨b, off, rfl, hb, hc⟩ := h hn
  exact ⟨b, off, rfl, by omega, hc⟩
theorem Rd.below (h : Rd w B sz v n xs) (hb : Below B w w') : Rd w' B sz v n xs := h.keep fun _ hp => hb.cell hp
theorem Rd.below' (h : Rd w B sz v n xs) {C : Nat} (hb : Below C w w') (hC : B ≤ C) : Rd w' B sz v n xs := h.keep fun _ hp => hb.cell (by omega)
theorem Rd.grown (h : Rd w B sz v n xs) {row : Option Nat} (hg : w.grownBy w' row) (hB : B ≤ w.heap.size) (hr : ∀ g, row = some g → B ≤ g) : Rd w' B sz v n xs :=
  h.keep fun p hp => World.cell?_of_block (hg.block p.block (by omega) (fun e => by have := hr _ e.symm; omega))
theorem Rd.alloc (h : Rd w B sz v n xs) (hB : B ≤ w.heap.size) (o : Obj) : Rd (w.alloc o) B sz v n xs := h.keep fun p hp => World.cell?_alloc_lt w o p (by omega)
theorem Rd.drew (h : Rd w B sz v n xs) : Rd w.drew B sz v n xs := h
theorem Rd.drewN (h : Rd w B sz v n xs) (k : Nat) : Rd (w.drewN k) B sz v n xs := h

/-- What the call owns can be read. -/
theorem Rd.of_own {base : Nat} {e : TypeId} (h : w.ownsRow base e sz v n (ints xs)) : Rd w w.heap.size sz v n xs := by
  have hl : xs.length = n * sz := by have := h.1; rwa [ints_length] at this
  refine ⟨hl, ?_⟩
  rcases h.2 with ⟨rfl, rfl⟩ | ⟨g, cap, cur, rfl, hb, hg, _⟩
  · exact ⟨none, 0, rfl, fun h => absurd h (by omega)⟩
  · refine ⟨_, cap, rfl, fun hn => ⟨g, 0, rfl, (Array.getElem?_eq_some_iff.1 hg).1, fun j hj => ?_⟩⟩
    rw [Nat.zero_add, h.cellAt j hj, ints_get xs j (by omega)]
end

section
variable {w w' : World} {base base' sz n : Nat} {e : TypeId} {v : Value} {vs : List Value}
theorem own_below (h : w.ownsRow base e sz v n vs) {C : Nat} (hb : Below C w w') (hC : w.heap.size ≤ C) : w'.ownsRow base e sz v n vs :=
  h.kept (row := none) ⟨hb.os, hb.tape, hb.output, hb.size, fun k hk _ => hb.block k (by omega)⟩ (by cases hv : v.ownBlock <;> simp)
theorem own_drewN (h : w.ownsRow base e sz v n vs) (k : Nat) : (w.drewN k).ownsRow base e sz v n vs := h
theorem own_base (h : w.ownsRow base e sz v n vs) (hb : base' ≤ base) : w.ownsRow base' e sz v n vs := by
  refine ⟨h.1, ?_⟩
  rcases h.2 with h2 | ⟨g, cap, cur, hv, hg, r⟩
  · exact .inl h2
  · exact .inr ⟨g, cap, cur, hv, by omega, r⟩
end

/-- '[]T{}': an owned slice of length 0. -/
theorem own_empty (w : World) (e : TypeId) (sz : Nat) : (w.alloc (.cells #[] e)).ownsRow w.heap.size e sz (.slice (some ⟨w.heap.size, 0, none⟩) 0 0) 0 [] :=
  World.ownsRow_made w #[] 0 (Nat.le_refl _) (Nat.zero_le _) (by simp)

/-- The slice v is owned, in a block from lo on and below hi, and holds the numbers xs. -/
def Own (w : World) (lo hi : Nat) (e : TypeId) (sz : Nat) (v : Value) (n : Nat) (xs : List Int) : Prop := w.ownsRow lo e sz v n (ints xs) ∧ ∀ k, v.ownBlock = some k → k < hi
section
variable {w w' : World} {lo hi sz n lo2 hi2 sz2 n2 : Nat} {e e2 : TypeId} {v u : Value} {xs ys : List Int}
theorem Own.of (h : w.ownsRow lo e sz v n (ints xs)) : Own w lo w.heap.size e sz v n xs := ⟨h, fun k hk => (h.lt k hk).2⟩
theorem Own.below (h : Own w lo hi e sz v n xs) {C : Nat} (hb : Below C w w') (hC : w.heap.size ≤ C) : Own w' lo hi e sz v n xs := ⟨own_below h.1 hb hC, h.2⟩
theorem Own.rd (h : Own w lo hi e sz v n xs) : Rd w w.heap.size sz v n xs := Rd.of_own h.1
theorem Own.other (h : Own w lo hi e sz v n xs) (h2 : Own w lo2 hi2 e2 sz2 u n2 ys) (hd : hi ≤ lo2 ∨ hi2 ≤ lo) (hg : w.grownBy w' u.ownBlock) : Own w' lo hi e sz v n xs := by
  refine ⟨h.1.kept hg ?_, h.2⟩
  cases hv : v.ownBlock with
  | none => exact .inl rfl
  | some k =>
    refine .inr fun he => ?_
    have a1 := h.1.lt k hv
    have a2 := h.2 k hv
    have b1 := h2.1.lt k he.symm
    have b2 := h2.2 k he.symm
    omega
theorem Own.after (h : Own w lo hi e sz v n xs) (h2 : w'.ownsRow lo e sz v n (ints ys)) : Own w' lo hi e sz v n ys := ⟨h2, h.2⟩
theorem Own.frame {B : Nat} {W : World} (h : Own w lo hi e sz v n xs) (hb : Below B W w) (hB : B ≤ lo) (hBw : B ≤ w.heap.size) (hg : w.grownBy w' v.ownBlock) : Below B W w' :=
  hb.grown hg hBw (fun k hk => Nat.le_trans hB (h.1.lt k hk).1)
end

/-- Block g holds just the cells cs of type t, none of them frozen. -/
def Blk (w : World) (g : Nat) (t : TypeId) (cs : Array Value) : Prop := w.heap[g]? = some (.cells cs t (0, 0))
section
variable {w w' : World} {g : Nat} {t : TypeId} {cs : Array Value}
theorem Blk.lt (h : Blk w g t cs) : g < w.heap.size := (Array.getElem?_eq_some_iff.1 h).1
theorem Blk.cell (h : Blk w g t cs) (i : Nat) : w.cell? ⟨g, i, none⟩ = cs[i]? := cell_of_row w g i cs t (0, 0) h
theorem Blk.frozen (h : Blk w g t cs) (i : Nat) : w.frozen? ⟨g, i, none⟩ = false := frozen_of_row w g i cs t h
theorem Blk.new (w : World) (t : TypeId) (cs : Array Value) : Blk (w.alloc (.cells cs t)) w.heap.size t cs := heap_alloc_new w _
theorem Blk.alloc (h : Blk w g t cs) (o : Obj) : Blk (w.alloc o) g t cs := (Below.heap_alloc w o g h.lt).trans h
theorem Blk.drewN (h : Blk w g t cs) (n : Nat) : Blk (w.drewN n) g t cs := h
theorem Blk.drew (h : Blk w g t cs) : Blk w.drew g t cs := h
theorem Blk.below {B : Nat} (h : Blk w g t cs) (hb : Below B w w') (hg : g < B) : Blk w' g t cs := (hb.block g hg).trans h
theorem Blk.on (h : Blk w g t cs) (hb : Below w.heap.size w w') : Blk w' g t cs := (hb.block g h.lt).trans h
theorem Blk.c2 {a b : Value} (h : Blk w g t #[a, b]) : w.cell? ⟨g, 0, none⟩ = some a ∧ w.cell? ⟨g, 1, none⟩ = some b := ⟨h.cell 0, h.cell 1⟩
theorem Blk.c4 {a b c d : Value} (h : Blk w g t #[a, b, c, d]) : w.cell? ⟨g, 0, none⟩ = some a ∧ w.cell? ⟨g, 1, none⟩ = some b ∧ w.cell? ⟨g, 2, none⟩ = some c ∧ w.cell? ⟨g, 3, none⟩ = some d := ⟨h.cell 0, h.cell 1, h.cell 2, h.cell 3⟩
theorem Blk.c5 {a b c d e : Value} (h : Blk w g t #[a, b, c, d, e]) : w.cell? ⟨g, 0, none⟩ = some a ∧ w.cell? ⟨g, 1, none⟩ = some b ∧ w.cell? ⟨g, 2, none⟩ = some c ∧ w.cell? ⟨g, 3, none⟩ = some d ∧ w.cell? ⟨g, 4, none⟩ = some e :=
  ⟨h.cell 0, h.cell 1, h.cell 2, h.cell 3, h.cell 4⟩
end
/-- The frame of a call that begins with a box, or with more than one. -/
theorem below_box {w w1 : World} {o : Obj} (hb : Below (w.alloc o).heap.size (w.alloc o) w1) : Below w.heap.size w w1 := ((Below.refl _ _).alloc (Nat.le_refl _) o).trans (hb.mono (by simp))
theorem below_on {a w w1 : World} (h : Below a.heap.size a w) (hb : Below w.heap.size w w1) : Below a.heap.size a w1 := h.trans (hb.mono h.size)

theorem grow_trans {a b c : World} {g : Option Nat} (h : a.grownBy b g) (k : b.grownBy c g) : a.grownBy c g :=
  ⟨k.os.trans h.os, k.tape.trans h.tape, k.output.trans h.output, Nat.le_trans h.size k.size, fun i hi hne => (k.block i (Nat.lt_of_lt_of_le hi h.size) hne).trans (h.block i hi hne)⟩
theorem cell_new {W : World} {a : Addr} {v : Value} (h : W.cell? a = some v) (o : Obj) : (W.alloc o).cell? a = some v := (World.cell?_alloc_lt W o a (block_lt_of_cell h)).trans h
theorem below_new {w W : World} (h : Below w.heap.size w W) (o : Obj) : Below w.heap.size w (W.alloc o) := h.alloc h.size o
theorem cell_on {W W' : World} {a : Addr} {v : Value} (hb : Below W.heap.size W W') (h : W.cell? a = some v) : W'.cell? a = some v := (hb.cell (block_lt_of_cell h)).trans h
theorem below_drewN {B : Nat} {a w : World} (h : Below B a w) (n : Nat) : Below B a (w.drewN n) := ⟨h.os, h.tape, h.output, h.size, h.block⟩
theorem bcell {W w1 : World} {B : Nat} (hb : Below B W w1) : (∀ b o, b < B → w1.cell? ⟨b, o, none⟩ = W.cell? ⟨b, o, none⟩) ∧ (∀ b o, b < B → w1.frozen? ⟨b, o, none⟩ = W.frozen? ⟨b, o, none⟩) :=
  ⟨fun b o h => hb.cell (p := ⟨b, o, none⟩) h, fun b o h => hb.frozen (p := ⟨b, o, none⟩) h⟩

end Go.Proofs.Ytjcepipgjpaclaa

namespace Go.Proofs.Ytjcepipgjpaclaa
open Go.RowKit

/-- The first k cells copied, the others still zero. -/
def filled (xs : List Int) (m k : Nat) : List Int := xs.take k ++ List.replicate (m - k) 0
theorem filled_zero (xs : List Int) (m : Nat) : filled xs m 0 = List.replicate m 0 := by simp [filled]
theorem filled_all (xs : List Int) (m : Nat) (h : xs.length = m) : filled xs m m = xs := by
  subst h; simp [filled]
theorem filled_set (xs : List Int) (m k : Nat) (h : xs.length = m) (hk : k < m) : (filled xs m k).set k (xs.getD k 0) = filled xs m (k + 1) := by
  subst h
  apply List.ext_getElem?
  intro j
  simp only [filled, List.getElem?_set, List.getElem?_append, List.getElem?_take, List.getElem?_replicate, List.length_append, List.length_take, List.length_replicate]
  rcases Nat.lt_trichotomy j k with h1 | h1 | h1
  · have a1 : ¬ k = j := by omega
    have a2 : j < min k xs.length := by omega
    have a3 : j < min (k + 1) xs.length := by omega
    have a4 : j < k + 1 := by omega
    simp [a1, a2, a3, h1, a4]
  · subst h1
    have a3 : j < min (j + 1) xs.length := by omega
    have a4 : j < min j xs.length + (xs.length - j) := by omega
    simp [a3, a4, hk]
  · have a1 : ¬ k = j := by omega
    have a2 : ¬ j < min k xs.length := by omega
    have a3 : ¬ j < min (k + 1) xs.length := by omega
    have e : (j - min k xs.length < xs.length - k) = (j - min (k + 1) xs.length < xs.length - (k + 1)) := by
      apply propext; constructor <;> intro <;> omega
    simp only [a1, a2, a3, if_false, e]
theorem ints_set (xs : List Int) (k : Nat) (x : Int) : (ints xs).set k (.int .i64 x) = ints (xs.set k x) := by simp [ints, List.map_set]
theorem madeInts (m : Nat) : (madeCells (Value.int .i64 0).cells m).toList = ints (List.replicate m 0) := by
  show (madeCells #[Value.int .i64 0] m).toList = _
  rw [toList_madeCells_one]; simp [ints]

/-- k, k + 1, and so on: what the marks are. -/
def marks (m : Nat) (k : Int) : List Int := (List.range m).map fun j : Nat => k + (j : Int)
theorem marks_length (m : Nat) (k : Int) : (marks m k).length = m := by simp [marks]
theorem marks_get (m : Nat) (k : Int) (j : Nat) (h : j < m) : (marks m k).getD j 0 = k + (j : Int) := by simp [marks, h]
/-- The first j cells marked, the others as they were. -/
def marked (vs : List Value) (k : Int) (j : Nat) : List Value := ints (marks j k) ++ vs.drop j
theorem marked_zero (vs : List Value) (k : Int) : marked vs k 0 = vs := by simp [marked, marks, ints]
theorem marked_all (vs : List Value) (k : Int) (m : Nat) (h : vs.length = m) : marked vs k m = ints (marks m k) := by
  subst h; simp [marked]
theorem marked_length (vs : List Value) (k : Int) (j : Nat) (h : j ≤ vs.length) : (marked vs k j).length = vs.length := by
  simp [marked, ints, marks]; omega
theorem marked_set (vs : List Value) (k : Int) (j : Nat) (h : j < vs.length) : (marked vs k j).set j (.int .i64 (k + (j : Int))) = marked vs k (j + 1) := by
  apply List.ext_getElem?
  intro i
  simp only [marked, List.getElem?_set, List.getElem?_append, ints_length, marks_length, List.getElem?_drop]
  rcases Nat.lt_trichotomy i j with h1 | h1 | h1
  · have a1 : ¬ j = i := by omega
    have a3 : i < j + 1 := by omega
    simp [a1, h1, a3, ints, marks]
  · subst h1
    have a4 : i < (ints (marks i k) ++ List.drop i vs).length := by simp [ints, marks]; omega
    simp [a4, ints, marks]; omega
  · have a1 : ¬ j = i := by omega
    have a2 : ¬ i < j := by omega
    have a3 : ¬ i < j + 1 := by omega
    simp only [a1, a2, a3, if_false]
    congr 1; omega

end Go.Proofs.Ytjcepipgjpaclaa

namespace Go.Proofs.Ytjcepipgjpaclaa
open Go.RowKit
section
variable {w w' : World} {g : Nat} {t : TypeId} {cs : Array Value}
theorem Blk.set_ (h : Blk w g t cs) (i : Nat) (u : Value) : Blk (w.setCell ⟨g, i, none⟩ u) g t (cs.setIfInBounds i u) := by
  unfold Blk at h ⊢
  simp [World.setCell, Array.getElem?_modify, h]
theorem Blk.far (h : Blk w g t cs) {p : Addr} (hp : g ≠ p.block) (u : Value) : Blk (w.setCell p u) g t cs := (Below.heap_setCell w p u g hp).trans h
theorem Blk.set2 {a b : Value} (h : Blk w g t #[a, b]) (u v : Value) : Blk ((w.setCell ⟨g, 0, none⟩ u).setCell ⟨g, 1, none⟩ v) g t #[u, v] := by
  have := (h.set_ 0 u).set_ 1 v
  simpa using this
theorem Blk.new2 (w : World) (o : Obj) (t : TypeId) (cs : Array Value) : Blk ((w.alloc o).alloc (.cells cs t)) (w.heap.size + 1) t cs := by
  simpa using Blk.new (w.alloc o) t cs
theorem Blk.new3 (w : World) (o o' : Obj) (t : TypeId) (cs : Array Value) : Blk (((w.alloc o).alloc o').alloc (.cells cs t)) (w.heap.size + 1 + 1) t cs := by
  simpa using Blk.new ((w.alloc o).alloc o') t cs
end
end Go.Proofs.Ytjcepipgjpaclaa

namespace Go.Proofs.Ytjcepipgjpaclaa
open Go.RowKit

/-- The k-th spot of a flat list. -/
def X (xs : List Int) (k : Nat) : Int := xs.getD (k * 2) 0
def Y (xs : List Int) (k : Nat) : Int := xs.getD (k * 2 + 1) 0
theorem Rd.form {w : World} {B sz : Nat} {v : Value} {n : Nat} {xs : List Int} (h : Rd w B sz v n xs) : ∃ A c, v = .slice A n c := by obtain ⟨_, A, c, e, _⟩ := h; exact ⟨A, c, e⟩
theorem Rd.spot {w : World} {B : Nat} {A : Option Addr} {c n : Nat} {xs : List Int} (h : Rd w B 2 (.slice A n c) n xs) (hn : 0 < n) :
    ∃ b off, A = some ⟨b, off, none⟩ ∧ b < B ∧ ∀ j, j < n → w.cell? ⟨b, off + j * 2, none⟩ = some (.int .i64 (X xs j)) ∧ w.cell? ⟨b, off + j * 2 + 1, none⟩ = some (.int .i64 (Y xs j)) := by
  obtain ⟨_, A', c', e, h⟩ := h
  simp only [Value.slice.injEq, true_and] at e
  obtain ⟨rfl, rfl⟩ := e
  obtain ⟨b, off, rfl, hb, hc⟩ := h hn
  exact ⟨b, off, rfl, hb, fun j hj => ⟨hc (j * 2) (by omega), by rw [Nat.add_assoc]; exact hc (j * 2 + 1) (by omega)⟩⟩
theorem all_yes {n : Nat} {p : Nat → Bool} (h : ∀ j, j < n → p j = true) : (List.range n).all p = true := by simpa using h
theorem all_no {n k : Nat} {p : Nat → Bool} (hk : k < n) (h : p k = false) : (List.range n).all p = false := by
  cases hh : (List.range n).all p with
  | false => rfl
  | true => simp only [List.all_eq_true, List.mem_range] at hh; have := hh k hk; simp [h] at this
end Go.Proofs.Ytjcepipgjpaclaa

namespace Go.Proofs.Ytjcepipgjpaclaa
def gd (a b : Int) : Int := (Nat.gcd a.toNat b.toNat : Nat)
def tmA (a b : Int) : Int := a.tdiv (gd a b)
def tmB (a b : Int) : Int := b.tdiv (gd a b)
theorem gd_pos {a b : Int} (hb : 0 < b) : 0 < gd a b := by
  have : 0 < Nat.gcd a.toNat b.toNat := Nat.gcd_pos_of_pos_right _ (by omega)
  unfold gd; omega
theorem gd_step {x y : Int} (hx : 0 ≤ x) (hy : 0 < y) : gd y (x.tmod y) = gd x y := by
  obtain ⟨a, rfl⟩ := Int.eq_ofNat_of_zero_le hx
  obtain ⟨b, rfl⟩ := Int.eq_ofNat_of_zero_le (show 0 ≤ y by omega)
  unfold gd
  rw [Int.tmod_eq_emod_of_nonneg hx, show ((a : Int) % (b : Int)) = ((a % b : Nat) : Int) from rfl]
  simp only [Int.toNat_natCast]
  rw [Nat.gcd_comm a b, Nat.gcd_rec b a, Nat.gcd_comm b]
theorem gd_zero {x : Int} (hx : 0 ≤ x) : gd x 0 = x := by
  unfold gd
  simp; omega
theorem tm_nat (a b : Nat) : tmA a b = ((a / Nat.gcd a b : Nat) : Int) ∧ tmB a b = ((b / Nat.gcd a b : Nat) : Int) := by
  unfold tmA tmB gd
  simp only [Int.toNat_natCast]
  exact ⟨(Int.ofNat_tdiv _ _).symm, (Int.ofNat_tdiv _ _).symm⟩
theorem tm_bounds {a b : Int} (ha : 0 ≤ a) (hb : 0 < b) : 0 ≤ tmA a b ∧ tmA a b ≤ a ∧ 1 ≤ tmB a b ∧ tmB a b ≤ b := by
  obtain ⟨x, rfl⟩ := Int.eq_ofNat_of_zero_le ha
  obtain ⟨y, rfl⟩ := Int.eq_ofNat_of_zero_le (show 0 ≤ b by omega)
  have hg : 0 < Nat.gcd x y := Nat.gcd_pos_of_pos_right _ (by omega)
  have h1 : x / Nat.gcd x y ≤ x := Nat.div_le_self _ _
  have h2 : y / Nat.gcd x y ≤ y := Nat.div_le_self _ _
  have h3 : 0 < y / Nat.gcd x y := Nat.div_pos (Nat.le_of_dvd (by omega) (Nat.gcd_dvd_right _ _)) hg
  rw [(tm_nat x y).1, (tm_nat x y).2]
  refine ⟨Int.natCast_nonneg _, ?_, ?_, ?_⟩
  · exact_mod_cast h1
  · exact_mod_cast h3
  · exact_mod_cast h2
theorem nat_terms {a b c d : Nat} (hb : 0 < b) (hd : 0 < d) (h : a * d = c * b) : a / Nat.gcd a b = c / Nat.gcd c d ∧ b / Nat.gcd a b = d / Nat.gcd c d := by
  have g1 : 0 < Nat.gcd a b := Nat.gcd_pos_of_pos_right _ hb
  have g2 : 0 < Nat.gcd c d := Nat.gcd_pos_of_pos_right _ hd
  have c1 := Nat.coprime_div_gcd_div_gcd g1
  have c2 := Nat.coprime_div_gcd_div_gcd g2
  obtain ⟨a', ha⟩ : ∃ x, a / Nat.gcd a b = x := ⟨_, rfl⟩
  obtain ⟨b', hb'⟩ : ∃ x, b / Nat.gcd a b = x := ⟨_, rfl⟩
  obtain ⟨c', hc⟩ : ∃ x, c / Nat.gcd c d = x := ⟨_, rfl⟩
  obtain ⟨d', hd'⟩ : ∃ x, d / Nat.gcd c d = x := ⟨_, rfl⟩
  have e1 : a = a' * Nat.gcd a b := by rw [← ha]; exact (Nat.div_mul_cancel (Nat.gcd_dvd_left _ _)).symm
  have e2 : b = b' * Nat.gcd a b := by rw [← hb']; exact (Nat.div_mul_cancel (Nat.gcd_dvd_right _ _)).symm
  have e3 : c = c' * Nat.gcd c d := by rw [← hc]; exact (Nat.div_mul_cancel (Nat.gcd_dvd_left _ _)).symm
  have e4 : d = d' * Nat.gcd c d := by rw [← hd']; exact (Nat.div_mul_cancel (Nat.gcd_dvd_right _ _)).symm
  rw [ha, hb'] at c1
  rw [hc, hd'] at c2
  rw [ha, hb', hc, hd']
  have hm : a' * d' = c' * b' := by
    obtain ⟨g, hg⟩ : ∃ x, Nat.gcd a b = x := ⟨_, rfl⟩
    obtain ⟨k, hk⟩ : ∃ x, Nat.gcd c d = x := ⟨_, rfl⟩
    rw [hg] at e1 e2 g1
    rw [hk] at e3 e4 g2
    rw [e1, e2, e3, e4] at h
    have : (a' * d') * (g * k) = (c' * b') * (g * k) := by
      rw [show (a' * d') * (g * k) = a' * g * (d' * k) by simp only [Nat.mul_assoc, Nat.mul_left_comm], show (c' * b') * (g * k) = c' * k * (b' * g) by simp only [Nat.mul_assoc, Nat.mul_left_comm, Nat.mul_comm], h]
    exact Nat.eq_of_mul_eq_mul_right (Nat.mul_pos g1 g2) this
  have hb0 : 0 < b' := by rcases Nat.eq_zero_or_pos b' with h0 | h0; · rw [h0] at e2; omega
                          · exact h0
  have d1 : b' ∣ d' := by
    refine c1.symm.dvd_of_dvd_mul_left ?_
    rw [hm]; exact Nat.dvd_mul_left _ _
  have d2 : d' ∣ b' := by
    refine c2.symm.dvd_of_dvd_mul_left ?_
    rw [← hm]; exact Nat.dvd_mul_left _ _
  have e : b' = d' := Nat.dvd_antisymm d1 d2
  subst e
  exact ⟨Nat.eq_of_mul_eq_mul_right hb0 hm, rfl⟩
/-- Equal fractions have the same lowest terms. -/
theorem tm_eq {a b c d : Int} (ha : 0 ≤ a) (hb : 0 < b) (hc : 0 ≤ c) (hd : 0 < d) (h : a * d = c * b) : tmA a b = tmA c d ∧ tmB a b = tmB c d := by
  obtain ⟨x, rfl⟩ := Int.eq_ofNat_of_zero_le ha
  obtain ⟨y, rfl⟩ := Int.eq_ofNat_of_zero_le (show 0 ≤ b by omega)
  obtain ⟨z, rfl⟩ := Int.eq_ofNat_of_zero_le hc
  obtain ⟨u, rfl⟩ := Int.eq_ofNat_of_zero_le (show 0 ≤ d by omega)
  have := nat_terms (a := x) (b := y) (c := z) (d := u) (by omega) (by omega) (by exact_mod_cast h)
  rw [(tm_nat x y).1, (tm_nat x y).2, (tm_nat z u).1, (tm_nat z u).2, this.1, this.2]
  exact ⟨rfl, rfl⟩
/-- Lowest terms are the same fraction. -/
theorem tm_same {a b : Int} (ha : 0 ≤ a) (hb : 0 < b) : tmA a b * b = a * tmB a b := by
  obtain ⟨x, rfl⟩ := Int.eq_ofNat_of_zero_le ha
  obtain ⟨y, rfl⟩ := Int.eq_ofNat_of_zero_le (show 0 ≤ b by omega)
  rw [(tm_nat x y).1, (tm_nat x y).2]
  have e1 := Nat.div_mul_cancel (Nat.gcd_dvd_left x y)
  have e2 := Nat.div_mul_cancel (Nat.gcd_dvd_right x y)
  obtain ⟨g, hg⟩ : ∃ g, Nat.gcd x y = g := ⟨_, rfl⟩
  rw [hg] at e1 e2 ⊢
  have : x / g * y = x * (y / g) := by
    have : x / g * (y / g * g) = x / g * g * (y / g) := by rw [Nat.mul_comm (y / g), Nat.mul_assoc]
    rwa [e1, e2] at this
  exact_mod_cast this
end Go.Proofs.Ytjcepipgjpaclaa

namespace Go.Proofs.Ytjcepipgjpaclaa
/-- The way from the second move to the first one is (px, py) at the begin and (qx, qy) at the end: how it and its change lie to each other, and the square of its change. -/
def dtOf (px py qx qy : Int) : Int := px * (qx - px) + py * (qy - py)
def szOf (px py qx qy : Int) : Int := (qx - px) * (qx - px) + (qy - py) * (qy - py)
def crOf (px py qx qy : Int) : Int := px * (qy - py) - py * (qx - px)
def inMid (px py qx qy : Int) : Bool := decide (dtOf px py qx qy < 0 ∧ -dtOf px py qx qy < szOf px py qx qy)
/-- The least square, as a fraction that need not be in lowest terms. -/
def rwT (px py qx qy : Int) : Int := if inMid px py qx qy = true then crOf px py qx qy * crOf px py qx qy else min (px * px + py * py) (qx * qx + qy * qy)
def rwB (px py qx qy : Int) : Int := if inMid px py qx qy = true then szOf px py qx qy else 1
def lpT (px py qx qy : Int) : Int := if inMid px py qx qy = true then tmA (crOf px py qx qy * crOf px py qx qy) (szOf px py qx qy) else min (px * px + py * py) (qx * qx + qy * qy)
def lpB (px py qx qy : Int) : Int := if inMid px py qx qy = true then tmB (crOf px py qx qy * crOf px py qx qy) (szOf px py qx qy) else 1
theorem sq0 (a : Int) : 0 ≤ a * a := by
  rcases Int.le_total 0 a with h | h
  · exact Int.mul_nonneg h h
  · have := Int.mul_nonneg (show 0 ≤ -a by omega) (show 0 ≤ -a by omega)
    rwa [Int.neg_mul_neg] at this
theorem sz0 (px py qx qy : Int) : 0 ≤ szOf px py qx qy := by
  have := sq0 (qx - px)
  have := sq0 (qy - py)
  unfold szOf; omega
/-- The square at the end, by that at the begin. -/
theorem end_sq (px py qx qy : Int) : qx * qx + qy * qy = px * px + py * py + 2 * dtOf px py qx qy + szOf px py qx qy := by
  unfold dtOf szOf
  obtain ⟨u, hu⟩ : ∃ u, qx - px = u := ⟨_, rfl⟩
  obtain ⟨v, hv⟩ : ∃ v, qy - py = v := ⟨_, rfl⟩
  have e1 : qx = px + u := by omega
  have e2 : qy = py + v := by omega
  rw [hu, hv, e1, e2]
  simp only [Int.add_mul, Int.mul_add]
  rw [Int.mul_comm u px, Int.mul_comm v py]
  omega
theorem lp_begin {px py qx qy : Int} (h : 0 ≤ dtOf px py qx qy) : inMid px py qx qy = false ∧ min (px * px + py * py) (qx * qx + qy * qy) = px * px + py * py := by
  have e := end_sq px py qx qy
  have z := sz0 px py qx qy
  exact ⟨by simp [inMid]; omega, by omega⟩
theorem lp_end {px py qx qy : Int} (h : dtOf px py qx qy < 0) (h2 : szOf px py qx qy ≤ -dtOf px py qx qy) : inMid px py qx qy = false ∧ min (px * px + py * py) (qx * qx + qy * qy) = qx * qx + qy * qy := by
  have e := end_sq px py qx qy
  have z := sz0 px py qx qy
  exact ⟨by simp [inMid]; omega, by omega⟩
theorem lp_mid {px py qx qy : Int} (h : dtOf px py qx qy < 0) (h2 : -dtOf px py qx qy < szOf px py qx qy) : inMid px py qx qy = true := by simp [inMid, h, h2]
theorem mid_yes {px py qx qy : Int} (h : inMid px py qx qy = true) : dtOf px py qx qy < 0 ∧ -dtOf px py qx qy < szOf px py qx qy := by simpa [inMid] using h
/-- The reference's cross product. -/
theorem cr_eq (px py qx qy : Int) : px * qy - py * qx = crOf px py qx qy := by
  unfold crOf
  rw [Int.mul_sub, Int.mul_sub, Int.mul_comm py px]
  omega
theorem mul_wide {x y a b : Int} (h1 : -a ≤ x) (h2 : x ≤ a) (h3 : -b ≤ y) (h4 : y ≤ b) : -(a * b) ≤ x * y ∧ x * y ≤ a * b := by
  have k1 := Int.mul_nonneg (show 0 ≤ a - x by omega) (show 0 ≤ b + y by omega)
  have k2 := Int.mul_nonneg (show 0 ≤ a + x by omega) (show 0 ≤ b - y by omega)
  have k3 := Int.mul_nonneg (show 0 ≤ a - x by omega) (show 0 ≤ b - y by omega)
  have k4 := Int.mul_nonneg (show 0 ≤ a + x by omega) (show 0 ≤ b + y by omega)
  simp only [Int.sub_mul, Int.add_mul, Int.mul_sub, Int.mul_add] at k1 k2 k3 k4
  omega
def wide (m px py : Int) : Prop := -m ≤ px ∧ px ≤ m ∧ -m ≤ py ∧ py ≤ m
theorem dt_in {px py qx qy m : Int} (h : wide m px py) (k : wide m qx qy) : -(4 * (m * m)) ≤ dtOf px py qx qy ∧ dtOf px py qx qy ≤ 4 * (m * m) ∧ szOf px py qx qy ≤ 8 * (m * m) ∧ -(4 * (m * m)) ≤ crOf px py qx qy ∧ crOf px py qx qy ≤ 4 * (m * m) := by
  obtain ⟨h1, h2, h3, h4⟩ := h
  obtain ⟨k1, k2, k3, k4⟩ := k
  have a1 := mul_wide (x := px) (y := qx - px) (a := m) (b := 2 * m) (by omega) (by omega) (by omega) (by omega)
  have a2 := mul_wide (x := py) (y := qy - py) (a := m) (b := 2 * m) (by omega) (by omega) (by omega) (by omega)
  have a3 := mul_wide (x := px) (y := qy - py) (a := m) (b := 2 * m) (by omega) (by omega) (by omega) (by omega)
  have a4 := mul_wide (x := py) (y := qx - px) (a := m) (b := 2 * m) (by omega) (by omega) (by omega) (by omega)
  have a5 := mul_wide (x := qx - px) (y := qx - px) (a := 2 * m) (b := 2 * m) (by omega) (by omega) (by omega) (by omega)
  have a6 := mul_wide (x := qy - py) (y := qy - py) (a := 2 * m) (b := 2 * m) (by omega) (by omega) (by omega) (by omega)
  have e1 : m * (2 * m) = 2 * (m * m) := by rw [← Int.mul_assoc, Int.mul_comm m 2, Int.mul_assoc]
  have e2 : 2 * m * (2 * m) = 4 * (m * m) := by rw [Int.mul_assoc, e1]; omega
  rw [e1] at a1 a2 a3 a4
  rw [e2] at a5 a6
  unfold dtOf szOf crOf
  omega
end Go.Proofs.Ytjcepipgjpaclaa
