/- Words for memory that every walk of this claim uses: a slice of whole numbers (or of structs of whole numbers, cell by cell) that can be read; a slice that the call owns. Without conditions. The spots of a slice that can be read, by their index. Without conditions. A fraction in lowest terms, by the greatest common divisor: plain laws. Without conditions. How near two moves come to each other: plain laws on the way from one to the other at the begin and at the end. Without conditions. Lists of numbers that are filled and marked cell by cell: plain laws. Without conditions. A block that is known whole, after stores into it. Without conditions. The longest list of performers without a conflict among them, found by going on and by looking at all sets: both ways find the same. Plain laws, without conditions. Waves: the program's search and the reference's, which stops behind the first wave that nobody has yet, find the same; the least number of waves. Plain laws, without conditions. -/
import Derived.WalkKit
import Derived.Laws.OwnMore
import Derived.Deep.Draws
import Derived.Lib.Hide
namespace Go.Proofs.Ytnlneblipedddaa
open Go.RowKit

/-- What the cells of a flat list of numbers hold. -/
def ints (xs : List Int) : List Value := xs.map (Value.int .i64)
theorem ints_length (xs : List Int) : (ints xs).length = xs.length := by simp [ints]
theorem ints_get (xs : List Int) (j : Nat) (h : j < xs.length) : (ints xs)[j]? = some (.int .i64 (xs.getD j 0)) := by simp [ints, h]
theorem ints_append (xs ys : List Int) : ints (xs ++ ys) = ints xs ++ ints ys := by simp [ints]
theorem ints_one (xs : List Int) : ∀ u ∈ ints xs, u.oneCell' = true := by
  intro u hu
  simp only [ints, List.mem_map] at hu
  obtain ⟨x, _, rfl⟩ := hu
  rfl

/-- The slice value v has n elements of sz cells each, which hold the numbers xs, in a block below B. -/
def Rd (w : World) (B sz : Nat) (v : Value) (n : Nat) (xs : List Int) : Prop :=
  xs.length = n * sz ∧ ∃ A c, v = .slice A n c ∧ (0 < n → ∃ b off, A = some ⟨b, off, none⟩ ∧ b < B ∧ ∀ j, j < n * sz → w.cell? ⟨b, off + j, none⟩ = some (.int .i64 (xs.getD j 0)))

section
variable {w w' : World} {B B' sz n : Nat} {v : Value} {xs : List Int}
theorem Rd.keep (h : Rd w B sz v n xs) (hk : ∀ p : Addr, p.block < B → w'.cell? p = w.cell? p) : Rd w' B sz v n xs := by
  obtain ⟨hl, A, c, rfl, h⟩ := h
  refine ⟨hl, A, c, rfl, fun hn => ?_⟩
  obtain ⟨b, off, rfl, hb, hc⟩ := h hn
  exact ⟨b, off, rfl, hb, fun j hj => (hk _ hb).trans (hc j hj)⟩
theorem Rd.more (h : Rd w B sz v n xs) (hB : B ≤ B') : Rd w B' sz v n xs := by
  obtain ⟨hl, A, c, rfl, h⟩ := h
  refine ⟨hl, A, c, rfl, fun hn => ?_⟩
  obtain ⟨b, off, rfl, hb, hc⟩ := h hn
  exact ⟨b, off, rfl, by omega, hc⟩
theorem Rd.below (h : Rd w B sz v n xs) (hb : Below B w w') : Rd w' B sz v n xs := h.keep fun _ hp => hb.cell hp
theorem Rd.below' (h : Rd w B sz v n xs) {C : Nat} (hb : Below C w w') (hC : B ≤ C) : Rd w' B sz v n xs := h.keep fun _ hp => hb.cell (by omega)
theorem Rd.grown (h : Rd w B sz v n xs) {row : Option Nat} (hg : w.grownBy w' row) (hB : B ≤ w.heap.size) (hr : ∀ g, row = some g → B ≤ g) : Rd w' B sz v n xs :=
  h.keep fun p hp => World.cell?_of_block (hg.block p.block (by omega) (fun e => by have := hr _ e.symm; omega))
theorem Rd.alloc (h : Rd w B sz v n xs) (hB : B ≤ w.heap.size) (o : Obj) : Rd (w.alloc o) B sz v n xs := h.keep fun p hp => World.cell?_alloc_lt w o p (by omega)
theorem Rd.drew (h : Rd w B sz v n xs) : Rd w.drew B sz v n xs := h
theorem Rd.drewN (h : Rd w B sz v n xs) (k : Nat) : Rd (w.drewN k) B sz v n xs := h

/-- What the call owns can be read. -/
theorem Rd.of_own {base : Nat} {e : TypeId} (h : w.ownsRow base e sz v n (ints xs)) : Rd w w.heap.size sz v n xs := by
  have hl : xs.length = n * sz := by have := h.1; rwa [ints_length] at this
  refine ⟨hl, ?_⟩
  rcases h.2 with ⟨rfl, rfl⟩ | ⟨g, cap, cur, rfl, hb, hg, _⟩
  · exact ⟨none, 0, rfl, fun h => absurd h (by omega)⟩
  · refine ⟨_, cap, rfl, fun hn => ⟨g, 0, rfl, (Array.getElem?_eq_some_iff.1 hg).1, fun j hj => ?_⟩⟩
    rw [Nat.zero_add, h.cellAt j hj, ints_get xs j (by omega)]
end

section
variable {w w' : World} {base base' sz n : Nat} {e : TypeId} {v : Value} {vs : List Value}
theorem own_below (h : w.ownsRow base e sz v n vs) {C : Nat} (hb : Below C w w') (hC : w.heap.size ≤ C) : w'.ownsRow base e sz v n vs :=
  h.kept (row := none) ⟨hb.os, hb.tape, hb.output, hb.size, fun k hk _ => hb.block k (by omega)⟩ (by cases hv : v.ownBlock <;> simp)
theorem own_drewN (h : w.ownsRow base e sz v n vs) (k : Nat) : (w.drewN k).ownsRow base e sz v n vs := h
theorem own_base (h : w.ownsRow base e sz v n vs) (hb : base' ≤ base) : w.ownsRow base' e sz v n vs := by
  refine ⟨h.1, ?_⟩
  rcases h.2 with h2 | ⟨g, cap, cur, hv, hg, r⟩
  · exact .inl h2
  · exact .inr ⟨g, cap, cur, hv, by omega, r⟩
end

/-- '[]T{}': an owned slice of length 0. -/
theorem own_empty (w : World) (e : TypeId) (sz : Nat) : (w.alloc (.cells #[] e)).ownsRow w.heap.size e sz (.slice (some ⟨w.heap.size, 0, none⟩) 0 0) 0 [] :=
  World.ownsRow_made w #[] 0 (Nat.le_refl _) (Nat.zero_le _) (by simp)

/-- The slice v is owned, in a block from lo on and below hi, and holds the numbers xs. -/
def Own (w : World) (lo hi : Nat) (e : TypeId) (sz : Nat) (v : Value) (n : Nat) (xs : List Int) : Prop := w.ownsRow lo e sz v n (ints xs) ∧ ∀ k, v.ownBlock = some k → k < hi
section
variable {w w' : World} {lo hi sz n lo2 hi2 sz2 n2 : Nat} {e e2 : TypeId} {v u : Value} {xs ys : List Int}
theorem Own.of (h : w.ownsRow lo e sz v n (ints xs)) : Own w lo w.heap.size e sz v n xs := ⟨h, fun k hk => (h.lt k hk).2⟩
theorem Own.below (h : Own w lo hi e sz v n xs) {C : Nat} (hb : Below C w w') (hC : w.heap.size ≤ C) : Own w' lo hi e sz v n xs := ⟨own_below h.1 hb hC, h.2⟩
theorem Own.rd (h : Own w lo hi e sz v n xs) : Rd w w.heap.size sz v n xs := Rd.of_own h.1
theorem Own.other (h : Own w lo hi e sz v n xs) (h2 : Own w lo2 hi2 e2 sz2 u n2 ys) (hd : hi ≤ lo2 ∨ hi2 ≤ lo) (hg : w.grownBy w' u.ownBlock) : Own w' lo hi e sz v n xs := by
  refine ⟨h.1.kept hg ?_, h.2⟩
  cases hv : v.ownBlock with
  | none => exact .inl rfl
  | some k =>
    refine .inr fun he => ?_
    have a1 := h.1.lt k hv
    have a2 := h.2 k hv
    have b1 := h2.1.lt k he.symm
    have b2 := h2.2 k he.symm
    omega
theorem Own.after (h : Own w lo hi e sz v n xs) (h2 : w'.ownsRow lo e sz v n (ints ys)) : Own w' lo hi e sz v n ys := ⟨h2, h.2⟩
theorem Own.frame {B : Nat} {W : World} (h : Own w lo hi e sz v n xs) (hb : Below B W w) (hB : B ≤ lo) (hBw : B ≤ w.heap.size) (hg : w.grownBy w' v.ownBlock) : Below B W w' :=
  hb.grown hg hBw (fun k hk => Nat.le_trans hB (h.1.lt k hk).1)
end

/-- Block g holds just the cells cs of type t, none of them frozen. -/
def Blk (w : World) (g : Nat) (t : TypeId) (cs : Array Value) : Prop := w.heap[g]? = some (.cells cs t (0, 0))
section
variable {w w' : World} {g : Nat} {t : TypeId} {cs : Array Value}
theorem Blk.lt (h : Blk w g t cs) : g < w.heap.size := (Array.getElem?_eq_some_iff.1 h).1
theorem Blk.cell (h : Blk w g t cs) (i : Nat) : w.cell? ⟨g, i, none⟩ = cs[i]? := cell_of_row w g i cs t (0, 0) h
theorem Blk.frozen (h : Blk w g t cs) (i : Nat) : w.frozen? ⟨g, i, none⟩ = false := frozen_of_row w g i cs t h
theorem Blk.new (w : World) (t : TypeId) (cs : Array Value) : Blk (w.alloc (.cells cs t)) w.heap.size t cs := heap_alloc_new w _
theorem Blk.alloc (h : Blk w g t cs) (o : Obj) : Blk (w.alloc o) g t cs := (Below.heap_alloc w o g h.lt).trans h
theorem Blk.drewN (h : Blk w g t cs) (n : Nat) : Blk (w.drewN n) g t cs := h
theorem Blk.drew (h : Blk w g t cs) : Blk w.drew g t cs := h
theorem Blk.below {B : Nat} (h : Blk w g t cs) (hb : Below B w w') (hg : g < B) : Blk w' g t cs := (hb.block g hg).trans h
theorem Blk.on (h : Blk w g t cs) (hb : Below w.heap.size w w') : Blk w' g t cs := (hb.block g h.lt).trans h
theorem Blk.c2 {a b : Value} (h : Blk w g t #[a, b]) : w.cell? ⟨g, 0, none⟩ = some a ∧ w.cell? ⟨g, 1, none⟩ = some b := ⟨h.cell 0, h.cell 1⟩
theorem Blk.c4 {a b c d : Value} (h : Blk w g t #[a, b, c, d]) : w.cell? ⟨g, 0, none⟩ = some a ∧ w.cell? ⟨g, 1, none⟩ = some b ∧ w.cell? ⟨g, 2, none⟩ = some c ∧ w.cell? ⟨g, 3, none⟩ = some d := ⟨h.cell 0, h.cell 1, h.cell 2, h.cell 3⟩
theorem Blk.c5 {a b c d e : Value} (h : Blk w g t #[a, b, c, d, e]) : w.cell? ⟨g, 0, none⟩ = some a ∧ w.cell? ⟨g, 1, none⟩ = some b ∧ w.cell? ⟨g, 2, none⟩ = some c ∧ w.cell? ⟨g, 3, none⟩ = some d ∧ w.cell? ⟨g, 4, none⟩ = some e :=
  ⟨h.cell 0, h.cell 1, h.cell 2, h.cell 3, h.cell 4⟩
end
/-- The frame of a call that begins with a box, or with more than one. -/
theorem below_box {w w1 : World} {o : Obj} (hb : Below (w.alloc o).heap.size (w.alloc o) w1) : Below w.heap.size w w1 := ((Below.refl _ _).alloc (Nat.le_refl _) o).trans (hb.mono (by simp))
theorem below_on {a w w1 : World} (h : Below a.heap.size a w) (hb : Below w.heap.size w w1) : Below a.heap.size a w1 := h.trans (hb.mono h.size)

theorem grow_trans {a b c : World} {g : Option Nat} (h : a.grownBy b g) (k : b.grownBy c g) : a.grownBy c g :=
  ⟨k.os.trans h.os, k.tape.trans h.tape, k.output.trans h.output, Nat.le_trans h.size k.size, fun i hi hne => (k.block i (Nat.lt_of_lt_of_le hi h.size) hne).trans (h.block i hi hne)⟩
theorem cell_new {W : World} {a : Addr} {v : Value} (h : W.cell? a = some v) (o : Obj) : (W.alloc o).cell? a = some v := (World.cell?_alloc_lt W o a (block_lt_of_cell h)).trans h
theorem below_new {w W : World} (h : Below w.heap.size w W) (o : Obj) : Below w.heap.size w (W.alloc o) := h.alloc h.size o
theorem cell_on {W W' : World} {a : Addr} {v : Value} (hb : Below W.heap.size W W') (h : W.cell? a = some v) : W'.cell? a = some v := (hb.cell (block_lt_of_cell h)).trans h
theorem below_drewN {B : Nat} {a w : World} (h : Below B a w) (n : Nat) : Below B a (w.drewN n) := ⟨h.os, h.tape, h.output, h.size, h.block⟩
theorem bcell {W w1 : World} {B : Nat} (hb : Below B W w1) : (∀ b o, b < B → w1.cell? ⟨b, o, none⟩ = W.cell? ⟨b, o, none⟩) ∧ (∀ b o, b < B → w1.frozen? ⟨b, o, none⟩ = W.frozen? ⟨b, o, none⟩) :=
  ⟨fun b o h => hb.cell (p := ⟨b, o, none⟩) h, fun b o h => hb.frozen (p := ⟨b, o, none⟩) h⟩

end Go.Proofs.Ytnlneblipedddaa

namespace Go.Proofs.Ytnlneblipedddaa
open Go.RowKit

/-- The k-th spot of a flat list. -/
def X (xs : List Int) (k : Nat) : Int := xs.getD (k * 2) 0
def Y (xs : List Int) (k : Nat) : Int := xs.getD (k * 2 + 1) 0
theorem Rd.form {w : World} {B sz : Nat} {v : Value} {n : Nat} {xs : List Int} (h : Rd w B sz v n xs) : ∃ A c, v = .slice A n c := by obtain ⟨_, A, c, e, _⟩ := h; exact ⟨A, c, e⟩
theorem Rd.spot {w : World} {B : Nat} {A : Option Addr} {c n : Nat} {xs : List Int} (h : Rd w B 2 (.slice A n c) n xs) (hn : 0 < n) :
    ∃ b off, A = some ⟨b, off, none⟩ ∧ b < B ∧ ∀ j, j < n → w.cell? ⟨b, off + j * 2, none⟩ = some (.int .i64 (X xs j)) ∧ w.cell? ⟨b, off + j * 2 + 1, none⟩ = some (.int .i64 (Y xs j)) := by
  obtain ⟨_, A', c', e, h⟩ := h
  simp only [Value.slice.injEq, true_and] at e
  obtain ⟨rfl, rfl⟩ := e
  obtain ⟨b, off, rfl, hb, hc⟩ := h hn
  exact ⟨b, off, rfl, hb, fun j hj => ⟨hc (j * 2) (by omega), by rw [Nat.add_assoc]; exact hc (j * 2 + 1) (by omega)⟩⟩
theorem all_yes {n : Nat} {p : Nat → Bool} (h : ∀ j, j < n → p j = true) : (List.range n).all p = true := by simpa using h
theorem all_no {n k : Nat} {p : Nat → Bool} (hk : k < n) (h : p k = false) : (List.range n).all p = false := by
  cases hh : (List.range n).all p with
  | false => rfl
  | true => simp only [List.all_eq_true, List.mem_range] at hh; have := hh k hk; simp [h] at this
end Go.Proofs.Ytnlneblipedddaa

namespace Go.Proofs.Ytnlneblipedddaa
def gd (a b : Int) : Int := (Nat.gcd a.toNat b.toNat : Nat)
def tmA (a b : Int) : Int := a.tdiv (gd a b)
def tmB (a b : Int) : Int := b.tdiv (gd a b)
theorem gd_pos {a b : Int} (hb : 0 < b) : 0 < gd a b := by
  have : 0 < Nat.gcd a.toNat b.toNat := Nat.gcd_pos_of_pos_right _ (by omega)
  unfold gd; omega
theorem gd_step {x y : Int} (hx : 0 ≤ x) (hy : 0 < y) : gd y (x.tmod y) = gd x y := by
  obtain ⟨a, rfl⟩ := Int.eq_ofNat_of_zero_le hx
  obtain ⟨b, rfl⟩ := Int.eq_ofNat_of_zero_le (show 0 ≤ y by omega)
  unfold gd
  rw [Int.tmod_eq_emod_of_nonneg hx, show ((a : Int) % (b : Int)) = ((a % b : Nat) : Int) from rfl]
  simp only [Int.toNat_natCast]
  rw [Nat.gcd_comm a b, Nat.gcd_rec b a, Nat.gcd_comm b]
theorem gd_zero {x : Int} (hx : 0 ≤ x) : gd x 0 = x := by
  unfold gd
  simp; omega
theorem tm_nat (a b : Nat) : tmA a b = ((a / Nat.gcd a b : Nat) : Int) ∧ tmB a b = ((b / Nat.gcd a b : Nat) : Int) := by
  unfold tmA tmB gd
  simp only [Int.toNat_natCast]
  exact ⟨(Int.ofNat_tdiv _ _).symm, (Int.ofNat_tdiv _ _).symm⟩
theorem tm_bounds {a b : Int} (ha : 0 ≤ a) (hb : 0 < b) : 0 ≤ tmA a b ∧ tmA a b ≤ a ∧ 1 ≤ tmB a b ∧ tmB a b ≤ b := by
  obtain ⟨x, rfl⟩ := Int.eq_ofNat_of_zero_le ha
  obtain ⟨y, rfl⟩ := Int.eq_ofNat_of_zero_le (show 0 ≤ b by omega)
  have hg : 0 < Nat.gcd x y := Nat.gcd_pos_of_pos_right _ (by omega)
  have h1 : x / Nat.gcd x y ≤ x := Nat.div_le_self _ _
  have h2 : y / Nat.gcd x y ≤ y := Nat.div_le_self _ _
  have h3 : 0 < y / Nat.gcd x y := Nat.div_pos (Nat.le_of_dvd (by omega) (Nat.gcd_dvd_right _ _)) hg
  rw [(tm_nat x y).1, (tm_nat x y).2]
  refine ⟨Int.natCast_nonneg _, ?_, ?_, ?_⟩
  · exact_mod_cast h1
  · exact_mod_cast h3
  · exact_mod_cast h2
theorem nat_terms {a b c d : Nat} (hb : 0 < b) (hd : 0 < d) (h : a * d = c * b) : a / Nat.gcd a b = c / Nat.gcd c d ∧ b / Nat.gcd a b = d / Nat.gcd c d := by
  have g1 : 0 < Nat.gcd a b := Nat.gcd_pos_of_pos_right _ hb
  have g2 : 0 < Nat.gcd c d := Nat.gcd_pos_of_pos_right _ hd
  have c1 := Nat.coprime_div_gcd_div_gcd g1
  have c2 := Nat.coprime_div_gcd_div_gcd g2
  obtain ⟨a', ha⟩ : ∃ x, a / Nat.gcd a b = x := ⟨_, rfl⟩
  obtain ⟨b', hb'⟩ : ∃ x, b / Nat.gcd a b = x := ⟨_, rfl⟩
  obtain ⟨c', hc⟩ : ∃ x, c / Nat.gcd c d = x := ⟨_, rfl⟩
  obtain ⟨d', hd'⟩ : ∃ x, d / Nat.gcd c d = x := ⟨_, rfl⟩
  have e1 : a = a' * Nat.gcd a b := by rw [← ha]; exact (Nat.div_mul_cancel (Nat.gcd_dvd_left _ _)).symm
  have e2 : b = b' * Nat.gcd a b := by rw [← hb']; exact (Nat.div_mul_cancel (Nat.gcd_dvd_right _ _)).symm
  have e3 : c = c' * Nat.gcd c d := by rw [← hc]; exact (Nat.div_mul_cancel (Nat.gcd_dvd_left _ _)).symm
  have e4 : d = d' * Nat.gcd c d := by rw [← hd']; exact (Nat.div_mul_cancel (Nat.gcd_dvd_right _ _)).symm
  rw [ha, hb'] at c1
  rw [hc, hd'] at c2
  rw [ha, hb', hc, hd']
  have hm : a' * d' = c' * b' := by
    obtain ⟨g, hg⟩ : ∃ x, Nat.gcd a b = x := ⟨_, rfl⟩
    obtain ⟨k, hk⟩ : ∃ x, Nat.gcd c d = x := ⟨_, rfl⟩
    rw [hg] at e1 e2 g1
    rw [hk] at e3 e4 g2
    rw [e1, e2, e3, e4] at h
    have : (a' * d') * (g * k) = (c' * b') * (g * k) := by
      rw [show (a' * d') * (g * k) = a' * g * (d' * k) by simp only [Nat.mul_assoc, Nat.mul_left_comm], show (c' * b') * (g * k) = c' * k * (b' * g) by simp only [Nat.mul_assoc, Nat.mul_left_comm, Nat.mul_comm], h]
    exact Nat.eq_of_mul_eq_mul_right (Nat.mul_pos g1 g2) this
  have hb0 : 0 < b' := by rcases Nat.eq_zero_or_pos b' with h0 | h0; · rw [h0] at e2; omega
                          · exact h0
  have d1 : b' ∣ d' := by
    refine c1.symm.dvd_of_dvd_mul_left ?_
    rw [hm]; exact Nat.dvd_mul_left _ _
  have d2 : d' ∣ b' := by
    refine c2.symm.dvd_of_dvd_mul_left ?_
    rw [← hm]; exact Nat.dvd_mul_left _ _
  have e : b' = d' := Nat.dvd_antisymm d1 d2
  subst e
  exact ⟨Nat.eq_of_mul_eq_mul_right hb0 hm, rfl⟩
/-- Equal fractions have the same lowest terms. -/
theorem tm_eq {a b c d : Int} (ha : 0 ≤ a) (hb : 0 < b) (hc : 0 ≤ c) (hd : 0 < d) (h : a * d = c * b) : tmA a b = tmA c d ∧ tmB a b = tmB c d := by
  obtain ⟨x, rfl⟩ := Int.eq_ofNat_of_zero_le ha
  obtain ⟨y, rfl⟩ := Int.eq_ofNat_of_zero_le (show 0 ≤ b by omega)
  obtain ⟨z, rfl⟩ := Int.eq_ofNat_of_zero_le hc
  obtain ⟨u, rfl⟩ := Int.eq_ofNat_of_zero_le (show 0 ≤ d by omega)
  have := nat_terms (a := x) (b := y) (c := z) (d := u) (by omega) (by omega) (by exact_mod_cast h)
  rw [(tm_nat x y).1, (tm_nat x y).2, (tm_nat z u).1, (tm_nat z u).2, this.1, this.2]
  exact ⟨rfl, rfl⟩
/-- Lowest terms are the same fraction. -/
theorem tm_same {a b : Int} (ha : 0 ≤ a) (hb : 0 < b) : tmA a b * b = a * tmB a b := by
  obtain ⟨x, rfl⟩ := Int.eq_ofNat_of_zero_le ha
  obtain ⟨y, rfl⟩ := Int.eq_ofNat_of_zero_le (show 0 ≤ b by omega)
  rw [(tm_nat x y).1, (tm_nat x y).2]
  have e1 := Nat.div_mul_cancel (Nat.gcd_dvd_left x y)
  have e2 := Nat.div_mul_cancel (Nat.gcd_dvd_right x y)
  obtain ⟨g, hg⟩ : ∃ g, Nat.gcd x y = g := ⟨_, rfl⟩
  rw [hg] at e1 e2 ⊢
  have : x / g * y = x * (y / g) := by
    have : x / g * (y / g * g) = x / g * g * (y / g) := by rw [Nat.mul_comm (y / g), Nat.mul_assoc]
    rwa [e1, e2] at this
  exact_mod_cast this
end Go.Proofs.Ytnlneblipedddaa

namespace Go.Proofs.Ytnlneblipedddaa
/-- The way from the second move to the first one is (px, py) at the begin and (qx, qy) at the end: how it and its change lie to each other, and the square of its change. -/
def dtOf (px py qx qy : Int) : Int := px * (qx - px) + py * (qy - py)
def szOf (px py qx qy : Int) : Int := (qx - px) * (qx - px) + (qy - py) * (qy - py)
def crOf (px py qx qy : Int) : Int := px * (qy - py) - py * (qx - px)
def inMid (px py qx qy : Int) : Bool := decide (dtOf px py qx qy < 0 ∧ -dtOf px py qx qy < szOf px py qx qy)
/-- The least square, as a fraction that need not be in lowest terms. -/
def rwT (px py qx qy : Int) : Int := if inMid px py qx qy = true then crOf px py qx qy * crOf px py qx qy else min (px * px + py * py) (qx * qx + qy * qy)
def rwB (px py qx qy : Int) : Int := if inMid px py qx qy = true then szOf px py qx qy else 1
def lpT (px py qx qy : Int) : Int := if inMid px py qx qy = true then tmA (crOf px py qx qy * crOf px py qx qy) (szOf px py qx qy) else min (px * px + py * py) (qx * qx + qy * qy)
def lpB (px py qx qy : Int) : Int := if inMid px py qx qy = true then tmB (crOf px py qx qy * crOf px py qx qy) (szOf px py qx qy) else 1
theorem sq0 (a : Int) : 0 ≤ a * a := by
  rcases Int.le_total 0 a with h | h
  · exact Int.mul_nonneg h h
  · have := Int.mul_nonneg (show 0 ≤ -a by omega) (show 0 ≤ -a by omega)
    rwa [Int.neg_mul_neg] at this
theorem sz0 (px py qx qy : Int) : 0 ≤ szOf px py qx qy := by
  have := sq0 (qx - px)
  have := sq0 (qy - py)
  unfold szOf; omega
/-- The square at the end, by that at the begin. -/
theorem end_sq (px py qx qy : Int) : qx * qx + qy * qy = px * px + py * py + 2 * dtOf px py qx qy + szOf px py qx qy := by
  unfold dtOf szOf
  obtain ⟨u, hu⟩ : ∃ u, qx - px = u := ⟨_, rfl⟩
  obtain ⟨v, hv⟩ : ∃ v, qy - py = v := ⟨_, rfl⟩
  have e1 : qx = px + u := by omega
  have e2 : qy = py + v := by omega
  rw [hu, hv, e1, e2]
  simp only [Int.add_mul, Int.mul_add]
  rw [Int.mul_comm u px, Int.mul_comm v py]
  omega
theorem lp_begin {px py qx qy : Int} (h : 0 ≤ dtOf px py qx qy) : inMid px py qx qy = false ∧ min (px * px + py * py) (qx * qx + qy * qy) = px * px + py * py := by
  have e := end_sq px py qx qy
  have z := sz0 px py qx qy
  exact ⟨by simp [inMid]; omega, by omega⟩
theorem lp_end {px py qx qy : Int} (h : dtOf px py qx qy < 0) (h2 : szOf px py qx qy ≤ -dtOf px py qx qy) : inMid px py qx qy = false ∧ min (px * px + py * py) (qx * qx + qy * qy) = qx * qx + qy * qy := by
  have e := end_sq px py qx qy
  have z := sz0 px py qx qy
  exact ⟨by simp [inMid]; omega, by omega⟩
theorem lp_mid {px py qx qy : Int} (h : dtOf px py qx qy < 0) (h2 : -dtOf px py qx qy < szOf px py qx qy) : inMid px py qx qy = true := by simp [inMid, h, h2]
theorem mid_yes {px py qx qy : Int} (h : inMid px py qx qy = true) : dtOf px py qx qy < 0 ∧ -dtOf px py qx qy < szOf px py qx qy := by simpa [inMid] using h
/-- The reference's cross product. -/
theorem cr_eq (px py qx qy : Int) : px * qy - py * qx = crOf px py qx qy := by
  unfold crOf
  rw [Int.mul_sub, Int.mul_sub, Int.mul_comm py px]
  omega
theorem mul_wide {x y a b : Int} (h1 : -a ≤ x) (h2 : x ≤ a) (h3 : -b ≤ y) (h4 : y ≤ b) : -(a * b) ≤ x * y ∧ x * y ≤ a * b := by
  have k1 := Int.mul_nonneg (show 0 ≤ a - x by omega) (show 0 ≤ b + y by omega)
  have k2 := Int.mul_nonneg (show 0 ≤ a + x by omega) (show 0 ≤ b - y by omega)
  have k3 := Int.mul_nonneg (show 0 ≤ a - x by omega) (show 0 ≤ b - y by omega)
  have k4 := Int.mul_nonneg (show 0 ≤ a + x by omega) (show 0 ≤ b + y by omega)
  simp only [Int.sub_mul, Int.add_mul, Int.mul_sub, Int.mul_add] at k1 k2 k3 k4
  omega
def wide (m px py : Int) : Prop := -m ≤ px ∧ px ≤ m ∧ -m ≤ py ∧ py ≤ m
theorem dt_in {px py qx qy m : Int} (h : wide m px py) (k : wide m qx qy) : -(4 * (m * m)) ≤ dtOf px py qx qy ∧ dtOf px py qx qy ≤ 4 * (m * m) ∧ szOf px py qx qy ≤ 8 * (m * m) ∧ -(4 * (m * m)) ≤ crOf px py qx qy ∧ crOf px py qx qy ≤ 4 * (m * m) := by
  obtain ⟨h1, h2, h3, h4⟩ := h
  obtain ⟨k1, k2, k3, k4⟩ := k
  have a1 := mul_wide (x := px) (y := qx - px) (a := m) (b := 2 * m) (by omega) (by omega) (by omega) (by omega)
  have a2 := mul_wide (x := py) (y := qy - py) (a := m) (b := 2 * m) (by omega) (by omega) (by omega) (by omega)
  have a3 := mul_wide (x := px) (y := qy - py) (a := m) (b := 2 * m) (by omega) (by omega) (by omega) (by omega)
  have a4 := mul_wide (x := py) (y := qx - px) (a := m) (b := 2 * m) (by omega) (by omega) (by omega) (by omega)
  have a5 := mul_wide (x := qx - px) (y := qx - px) (a := 2 * m) (b := 2 * m) (by omega) (by omega) (by omega) (by omega)
  have a6 := mul_wide (x := qy - py) (y := qy - py) (a := 2 * m) (b := 2 * m) (by omega) (by omega) (by omega) (by omega)
  have e1 : m * (2 * m) = 2 * (m * m) := by rw [← Int.mul_assoc, Int.mul_comm m 2, Int.mul_assoc]
  have e2 : 2 * m * (2 * m) = 4 * (m * m) := by rw [Int.mul_assoc, e1]; omega
  rw [e1] at a1 a2 a3 a4
  rw [e2] at a5 a6
  unfold dtOf szOf crOf
  omega
end Go.Proofs.Ytnlneblipedddaa

namespace Go.Proofs.Ytnlneblipedddaa
open Go.RowKit

/-- The first k cells copied, the others still zero. -/
def filled (xs : List Int) (m k : Nat) : List Int := xs.take k ++ List.replicate (m - k) 0
theorem filled_zero (xs : List Int) (m : Nat) : filled xs m 0 = List.replicate m 0 := by simp [filled]
theorem filled_all (xs : List Int) (m : Nat) (h : xs.length = m) : filled xs m m = xs := by
  subst h; simp [filled]
theorem filled_set (xs : List Int) (m k : Nat) (h : xs.length = m) (hk : k < m) : (filled xs m k).set k (xs.getD k 0) = filled xs m (k + 1) := by
  subst h
  apply List.ext_getElem?
  intro j
  simp only [filled, List.getElem?_set, List.getElem?_append, List.getElem?_take, List.getElem?_replicate, List.length_append, List.length_take, List.length_replicate]
  rcases Nat.lt_trichotomy j k with h1 | h1 | h1
  · have a1 : ¬ k = j := by omega
    have a2 : j < min k xs.length := by omega
    have a3 : j < min (k + 1) xs.length := by omega
    have a4 : j < k + 1 := by omega
    simp [a1, a2, a3, h1, a4]
  · subst h1
    have a3 : j < min (j + 1) xs.length := by omega
    have a4 : j < min j xs.length + (xs.length - j) := by omega
    simp [a3, a4, hk]
  · have a1 : ¬ k = j := by omega
    have a2 : ¬ j < min k xs.length := by omega
    have a3 : ¬ j < min (k + 1) xs.length := by omega
    have e : (j - min k xs.length < xs.length - k) = (j - min (k + 1) xs.length < xs.length - (k + 1)) := by
      apply propext; constructor <;> intro <;> omega
    simp only [a1, a2, a3, if_false, e]
theorem ints_set (xs : List Int) (k : Nat) (x : Int) : (ints xs).set k (.int .i64 x) = ints (xs.set k x) := by simp [ints, List.map_set]
theorem madeInts (m : Nat) : (madeCells (Value.int .i64 0).cells m).toList = ints (List.replicate m 0) := by
  show (madeCells #[Value.int .i64 0] m).toList = _
  rw [toList_madeCells_one]; simp [ints]

/-- k, k + 1, and so on: what the marks are. -/
def marks (m : Nat) (k : Int) : List Int := (List.range m).map fun j : Nat => k + (j : Int)
theorem marks_length (m : Nat) (k : Int) : (marks m k).length = m := by simp [marks]
theorem marks_get (m : Nat) (k : Int) (j : Nat) (h : j < m) : (marks m k).getD j 0 = k + (j : Int) := by simp [marks, h]
/-- The first j cells marked, the others as they were. -/
def marked (vs : List Value) (k : Int) (j : Nat) : List Value := ints (marks j k) ++ vs.drop j
theorem marked_zero (vs : List Value) (k : Int) : marked vs k 0 = vs := by simp [marked, marks, ints]
theorem marked_all (vs : List Value) (k : Int) (m : Nat) (h : vs.length = m) : marked vs k m = ints (marks m k) := by
  subst h; simp [marked]
theorem marked_length (vs : List Value) (k : Int) (j : Nat) (h : j ≤ vs.length) : (marked vs k j).length = vs.length := by
  simp [marked, ints, marks]; omega
theorem marked_set (vs : List Value) (k : Int) (j : Nat) (h : j < vs.length) : (marked vs k j).set j (.int .i64 (k + (j : Int))) = marked vs k (j + 1) := by
  apply List.ext_getElem?
  intro i
  simp only [marked, List.getElem?_set, List.getElem?_append, ints_length, marks_length, List.getElem?_drop]
  rcases Nat.lt_trichotomy i j with h1 | h1 | h1
  · have a1 : ¬ j = i := by omega
    have a3 : i < j + 1 := by omega
    simp [a1, h1, a3, ints, marks]
  · subst h1
    have a4 : i < (ints (marks i k) ++ List.drop i vs).length := by simp [ints, marks]; omega
    simp [a4, ints, marks]; omega
  · have a1 : ¬ j = i := by omega
    have a2 : ¬ i < j := by omega
    have a3 : ¬ i < j + 1 := by omega
    simp only [a1, a2, a3, if_false]
    congr 1; omega

end Go.Proofs.Ytnlneblipedddaa

namespace Go.Proofs.Ytnlneblipedddaa
open Go.RowKit
section
variable {w w' : World} {g : Nat} {t : TypeId} {cs : Array Value}
theorem Blk.set_ (h : Blk w g t cs) (i : Nat) (u : Value) : Blk (w.setCell ⟨g, i, none⟩ u) g t (cs.setIfInBounds i u) := by
  unfold Blk at h ⊢
  simp [World.setCell, Array.getElem?_modify, h]
theorem Blk.far (h : Blk w g t cs) {p : Addr} (hp : g ≠ p.block) (u : Value) : Blk (w.setCell p u) g t cs := (Below.heap_setCell w p u g hp).trans h
theorem Blk.set2 {a b : Value} (h : Blk w g t #[a, b]) (u v : Value) : Blk ((w.setCell ⟨g, 0, none⟩ u).setCell ⟨g, 1, none⟩ v) g t #[u, v] := by
  have := (h.set_ 0 u).set_ 1 v
  simpa using this
theorem Blk.new2 (w : World) (o : Obj) (t : TypeId) (cs : Array Value) : Blk ((w.alloc o).alloc (.cells cs t)) (w.heap.size + 1) t cs := by
  simpa using Blk.new (w.alloc o) t cs
theorem Blk.new3 (w : World) (o o' : Obj) (t : TypeId) (cs : Array Value) : Blk (((w.alloc o).alloc o').alloc (.cells cs t)) (w.heap.size + 1 + 1) t cs := by
  simpa using Blk.new ((w.alloc o).alloc o') t cs
end
end Go.Proofs.Ytnlneblipedddaa

namespace Go.Proofs.Ytnlneblipedddaa
/-- A list comes before another one of the same length. -/
def bf : List Nat → List Nat → Bool
  | x :: a, y :: b => decide (x < y) || (x == y && bf a b)
  | _, _ => false
/-- A list is at least as good: longer, or as long and not behind. -/
def bst (l m : List Nat) : Prop := m.length < l.length ∨ (m.length = l.length ∧ (l = m ∨ bf l m = true))
theorem bf_total : ∀ {l m : List Nat}, l.length = m.length → l = m ∨ bf l m = true ∨ bf m l = true
  | [], [], _ => .inl rfl
  | x :: a, y :: b, h => by
    simp only [List.length_cons, Nat.add_right_cancel_iff] at h
    rcases Nat.lt_trichotomy x y with h1 | rfl | h1
    · exact .inr (.inl (by simp [bf, h1]))
    · rcases bf_total h with rfl | h2 | h2
      · exact .inl rfl
      · exact .inr (.inl (by simp [bf, h2]))
      · exact .inr (.inr (by simp [bf, h2]))
    · exact .inr (.inr (by simp [bf, h1]))
theorem bf_irr : ∀ {l m : List Nat}, bf l m = true → bf m l = true → False
  | [], _, h, _ => by simp [bf] at h
  | _ :: _, [], h, _ => by simp [bf] at h
  | x :: a, y :: b, h, k => by
    simp only [bf, Bool.or_eq_true, decide_eq_true_eq, Bool.and_eq_true, beq_iff_eq] at h k
    rcases h with h | ⟨rfl, h⟩
    · rcases k with k | ⟨rfl, _⟩ <;> omega
    · rcases k with k | ⟨_, k⟩
      · omega
      · exact bf_irr h k
theorem bf_trans : ∀ {l m o : List Nat}, bf l m = true → bf m o = true → bf l o = true
  | [], _, _, h, _ => by simp [bf] at h
  | _ :: _, [], _, h, _ => by simp [bf] at h
  | _ :: _, _ :: _, [], _, k => by simp [bf] at k
  | x :: a, y :: b, z :: c, h, k => by
    simp only [bf, Bool.or_eq_true, decide_eq_true_eq, Bool.and_eq_true, beq_iff_eq] at h k ⊢
    rcases h with h | ⟨rfl, h⟩
    · rcases k with k | ⟨rfl, _⟩
      · left; omega
      · left; omega
    · rcases k with k | ⟨rfl, k⟩
      · left; omega
      · right; exact ⟨rfl, bf_trans h k⟩
theorem bst_refl (l : List Nat) : bst l l := .inr ⟨rfl, .inl rfl⟩
theorem bst_trans {l m o : List Nat} (h : bst l m) (k : bst m o) : bst l o := by
  rcases h with h | ⟨h1, h2⟩
  · rcases k with k | ⟨k1, _⟩
    · left; omega
    · left; omega
  · rcases k with k | ⟨k1, k2⟩
    · left; omega
    · right
      refine ⟨by omega, ?_⟩
      rcases h2 with rfl | h2
      · exact k2
      · rcases k2 with rfl | k2
        · exact .inr h2
        · exact .inr (bf_trans h2 k2)
theorem bst_anti {l m : List Nat} (h : bst l m) (k : bst m l) : l = m := by
  rcases h with h | ⟨h1, h2⟩
  · rcases k with k | ⟨k1, _⟩ <;> omega
  · rcases h2 with h2 | h2
    · exact h2
    · rcases k with k | ⟨k1, k2⟩
      · omega
      · rcases k2 with k2 | k2
        · exact k2.symm
        · exact (bf_irr h2 k2).elim
/-- l is better than m, as the reference looks at it. -/
def better (l m : List Nat) : Bool := decide (m.length < l.length) || (decide (l.length = m.length) && bf l m)
theorem better_yes {l m : List Nat} (h : better l m = true) : bst l m := by
  simp only [better, Bool.or_eq_true, decide_eq_true_eq, Bool.and_eq_true] at h
  rcases h with h | ⟨h1, h2⟩
  · exact .inl h
  · exact .inr ⟨h1.symm, .inr h2⟩
theorem better_no {l m : List Nat} (h : better l m = false) : bst m l := by
  simp only [better, Bool.or_eq_false_iff, decide_eq_false_iff_not, Bool.and_eq_false_iff] at h
  obtain ⟨h1, h2⟩ := h
  rcases Nat.lt_trichotomy l.length m.length with k | k | k
  · exact .inl k
  · rcases h2 with h2 | h2
    · exact absurd k h2
    · rcases bf_total k with e | e | e
      · exact .inr ⟨k, .inl e.symm⟩
      · rw [h2] at e; cases e
      · exact .inr ⟨k, .inr e⟩
  · exact absurd k h1

/-- Performers from f on without a conflict among them or with those of T, in order. -/
structure okL (q : Nat → Nat → Bool) (n f : Nat) (T : List Nat) (l : List Nat) : Prop where
  asc : l.Pairwise (· < ·)
  free : l.Pairwise (fun i j => q j i = false)
  mem : ∀ i ∈ l, f ≤ i ∧ i < n ∧ T.any (q i) = false
def mtF (q : Nat → Nat → Bool) (n : Nat) : Nat → List Nat → List Nat
  | 0, _ => []
  | k + 1, T => if T.any (q (n - (k + 1))) = true then mtF q n k T
    else if (mtF q n k ((n - (k + 1)) :: T)).length + 1 < (mtF q n k T).length then mtF q n k T else (n - (k + 1)) :: mtF q n k ((n - (k + 1)) :: T)
theorem okL_more {q : Nat → Nat → Bool} {n f : Nat} {T l : List Nat} (h : okL q n (f + 1) T l) : okL q n f T l := ⟨h.asc, h.free, fun i hi => by have := h.mem i hi; exact ⟨by omega, this.2⟩⟩
theorem okL_cons {q : Nat → Nat → Bool} {n f : Nat} {T l : List Nat} (hf : f < n) (hT : T.any (q f) = false) (h : okL q n (f + 1) (f :: T) l) : okL q n f T (f :: l) := by
  have hm := h.mem
  refine ⟨List.pairwise_cons.2 ⟨fun i hi => by have := (hm i hi).1; omega, h.asc⟩, List.pairwise_cons.2 ⟨fun i hi => ?_, h.free⟩, fun i hi => ?_⟩
  · have := (hm i hi).2.2
    simp only [List.any_cons, Bool.or_eq_false_iff] at this
    exact this.1
  · rcases List.mem_cons.1 hi with rfl | hi
    · exact ⟨Nat.le_refl _, hf, hT⟩
    · have := hm i hi
      simp only [List.any_cons, Bool.or_eq_false_iff] at this
      exact ⟨by omega, this.2.1, this.2.2.2⟩
theorem okL_tail {q : Nat → Nat → Bool} {n f : Nat} {T l : List Nat} (h : okL q n f T (f :: l)) : okL q n (f + 1) (f :: T) l := by
  obtain ⟨a1, a2⟩ := List.pairwise_cons.1 h.asc
  obtain ⟨b1, b2⟩ := List.pairwise_cons.1 h.free
  refine ⟨a2, b2, fun i hi => ?_⟩
  have h1 := a1 i hi
  have h2 := b1 i hi
  have h3 := h.mem i (List.mem_cons_of_mem _ hi)
  refine ⟨by omega, h3.2.1, ?_⟩
  simp only [List.any_cons, Bool.or_eq_false_iff]
  exact ⟨h2, h3.2.2⟩
theorem okL_skip {q : Nat → Nat → Bool} {n f : Nat} {T l : List Nat} (h : okL q n f T l) (hne : ∀ i ∈ l, i ≠ f) : okL q n (f + 1) T l :=
  ⟨h.asc, h.free, fun i hi => by have := h.mem i hi; have := hne i hi; exact ⟨by omega, (h.mem i hi).2⟩⟩
theorem okL_head {q : Nat → Nat → Bool} {n f : Nat} {T l : List Nat} (h : okL q n f T l) : (∃ m, l = f :: m) ∨ okL q n (f + 1) T l := by
  match l, h with
  | [], h => exact .inr ⟨h.asc, h.free, by simp⟩
  | x :: m, h =>
    by_cases hx : x = f
    · subst hx; exact .inl ⟨m, rfl⟩
    · refine .inr (okL_skip h fun i hi => ?_)
      have a := List.pairwise_cons.1 h.asc
      have := (h.mem x (by simp)).1
      rcases List.mem_cons.1 hi with rfl | hi
      · exact hx
      · have := a.1 i hi; omega
theorem mt_best (q : Nat → Nat → Bool) (n : Nat) : ∀ k, k ≤ n → ∀ T, okL q n (n - k) T (mtF q n k T) ∧ ∀ l, okL q n (n - k) T l → bst (mtF q n k T) l
  | 0, _, T => by
    refine ⟨⟨List.Pairwise.nil, List.Pairwise.nil, by simp [mtF]⟩, fun l hl => ?_⟩
    match l, hl with
    | [], _ => exact bst_refl _
    | x :: m, hl => have := hl.mem x (by simp); omega
  | k + 1, hk, T => by
    obtain ⟨f, hf⟩ : ∃ f, n - (k + 1) = f := ⟨_, rfl⟩
    have hf1 : n - k = f + 1 := by omega
    have hfn : f < n := by omega
    have ih := mt_best q n k (by omega)
    rw [hf1] at ih
    rw [hf, mtF, hf]
    cases hT : T.any (q f) with
    | true =>
      rw [if_pos rfl]
      refine ⟨okL_more (ih T).1, fun l hl => (ih T).2 l ?_⟩
      rcases okL_head hl with ⟨m, rfl⟩ | h
      · have := (hl.mem f (by simp)).2.2
        rw [hT] at this; cases this
      · exact h
    | false =>
      rw [if_neg (by simp)]
      have ia := ih (f :: T)
      have ib := ih T
      obtain ⟨a, ha⟩ : ∃ a, mtF q n k (f :: T) = a := ⟨_, rfl⟩
      obtain ⟨b, hb⟩ : ∃ b, mtF q n k T = b := ⟨_, rfl⟩
      rw [ha] at ia
      rw [hb] at ib
      rw [ha, hb]
      by_cases hlen : a.length + 1 < b.length
      · rw [if_pos hlen]
        refine ⟨okL_more ib.1, fun l hl => ?_⟩
        rcases okL_head hl with ⟨m, rfl⟩ | h
        · have := ia.2 m (okL_tail hl)
          left
          rcases this with h | ⟨h, _⟩ <;> (simp; omega)
        · exact ib.2 l h
      · rw [if_neg hlen]
        refine ⟨okL_cons hfn hT ia.1, fun l hl => ?_⟩
        rcases okL_head hl with ⟨m, rfl⟩ | h
        · have := ia.2 m (okL_tail hl)
          rcases this with h | ⟨h, h2⟩
          · left; simp; omega
          · right
            refine ⟨by simp [h], ?_⟩
            rcases h2 with rfl | h2
            · exact .inl rfl
            · exact .inr (by simp [bf, h2])
        · have hb2 := ib.2 l h
          have hle : l.length ≤ b.length := by rcases hb2 with h | ⟨h, _⟩ <;> omega
          by_cases he : l.length = a.length + 1
          · right
            refine ⟨by simp [he], .inr ?_⟩
            match l, h, he with
            | [], _, he => simp at he
            | x :: m, h, _ =>
              have := (h.mem x (by simp)).1
              simp [bf]; left; omega
          · left; simp; omega
theorem asc_ext : ∀ {l m : List Nat}, l.Pairwise (· < ·) → m.Pairwise (· < ·) → (∀ x, x ∈ l ↔ x ∈ m) → l = m
  | [], [], _, _, _ => rfl
  | [], y :: m, _, _, h => by have := (h y).2 (by simp); simp at this
  | x :: l, [], _, _, h => by have := (h x).1 (by simp); simp at this
  | x :: l, y :: m, hl, hm, h => by
    obtain ⟨a1, a2⟩ := List.pairwise_cons.1 hl
    obtain ⟨b1, b2⟩ := List.pairwise_cons.1 hm
    have e : x = y := by
      rcases List.mem_cons.1 ((h x).1 (by simp)) with e | hx
      · exact e
      · rcases List.mem_cons.1 ((h y).2 (by simp)) with e | hy
        · exact e.symm
        · have := b1 x hx; have := a1 y hy; omega
    subst e
    rw [asc_ext a2 b2 fun z => ?_]
    constructor
    · intro hz
      rcases List.mem_cons.1 ((h z).1 (List.mem_cons_of_mem _ hz)) with e | hz'
      · have := a1 z hz; omega
      · exact hz'
    · intro hz
      rcases List.mem_cons.1 ((h z).2 (List.mem_cons_of_mem _ hz)) with e | hz'
      · have := b1 z hz; omega
      · exact hz'
/-- The members of a set of numbers below n. -/
def setL (n s : Nat) : List Nat := (List.range n).filter fun i => s.testBit i
theorem setL_mem {n s i : Nat} : i ∈ setL n s ↔ i < n ∧ s.testBit i = true := by simp [setL]
theorem setL_asc (n s : Nat) : (setL n s).Pairwise (· < ·) := List.Pairwise.filter _ List.pairwise_lt_range
def maskOf : List Nat → Nat
  | [] => 0
  | i :: l => maskOf l ||| 2 ^ i
theorem maskOf_bit (l : List Nat) (j : Nat) : (maskOf l).testBit j = true ↔ j ∈ l := by
  induction l with
  | nil => simp [maskOf]
  | cons i l ih =>
    rw [maskOf, Nat.testBit_or, Nat.testBit_two_pow, Bool.or_eq_true, ih, decide_eq_true_eq, List.mem_cons]
    constructor
    · rintro (h | h)
      · exact .inr h
      · exact .inl h.symm
    · rintro (h | h)
      · exact .inr h.symm
      · exact .inl h
theorem maskOf_lt {n : Nat} {l : List Nat} (h : ∀ i ∈ l, i < n) : maskOf l < 2 ^ n := by
  induction l with
  | nil => simp [maskOf, Nat.two_pow_pos]
  | cons i l ih =>
    rw [maskOf]
    exact Nat.or_lt_two_pow (ih fun j hj => h j (List.mem_cons_of_mem _ hj)) (Nat.pow_lt_pow_right (by decide) (h i (by simp)))
theorem setL_mask {n : Nat} {l : List Nat} (ha : l.Pairwise (· < ·)) (h : ∀ i ∈ l, i < n) : setL n (maskOf l) = l :=
  asc_ext (setL_asc _ _) ha fun x => by
    rw [setL_mem, maskOf_bit]
    exact ⟨fun h => h.2, fun hx => ⟨h x hx, hx⟩⟩
/-- There is no conflict within a set. -/
def freeS (q : Nat → Nat → Bool) (n s : Nat) : Bool := (List.range n).all fun i => (List.range n).all fun k => !(decide (i < k) && s.testBit i && s.testBit k && q k i)
theorem freeS_iff {q : Nat → Nat → Bool} {n s : Nat} : freeS q n s = true ↔ ∀ i k, i < k → k < n → s.testBit i = true → s.testBit k = true → q k i = false := by
  simp only [freeS, List.all_eq_true, List.mem_range, Bool.not_eq_true', Bool.and_eq_false_iff, decide_eq_false_iff_not]
  constructor
  · intro h i k hik hkn hi hk
    rcases h i (by omega) k hkn with ((h1 | h1) | h1) | h1
    · exact absurd hik h1
    · rw [hi] at h1; cases h1
    · rw [hk] at h1; cases h1
    · exact h1
  · intro h i hin k hkn
    by_cases hik : i < k
    · cases hi : s.testBit i with
      | false => exact .inl (.inl (.inr rfl))
      | true =>
        cases hk : s.testBit k with
        | false => exact .inl (.inr rfl)
        | true => exact .inr (h i k hik hkn hi hk)
    · exact .inl (.inl (.inl hik))
theorem ok_set {q : Nat → Nat → Bool} {n s : Nat} (h : freeS q n s = true) : okL q n 0 [] (setL n s) := by
  refine ⟨setL_asc _ _, ?_, fun i hi => ⟨Nat.zero_le _, (setL_mem.1 hi).1, rfl⟩⟩
  have hf := freeS_iff.1 h
  refine (List.Pairwise.and_mem.1 (setL_asc n s)).imp ?_
  intro a b hab
  exact hf a b hab.2.2 (setL_mem.1 hab.2.1).1 (setL_mem.1 hab.1).2 (setL_mem.1 hab.2.1).2
theorem pair_of {R : Nat → Nat → Prop} : ∀ {l : List Nat}, l.Pairwise (· < ·) → l.Pairwise R → ∀ i k, i ∈ l → k ∈ l → i < k → R i k
  | [], _, _, _, _, hi, _, _ => by simp at hi
  | x :: l, ha, hR, i, k, hi, hk, hik => by
    obtain ⟨a1, a2⟩ := List.pairwise_cons.1 ha
    obtain ⟨b1, b2⟩ := List.pairwise_cons.1 hR
    rcases List.mem_cons.1 hi with hi' | hi'
    · subst hi'
      rcases List.mem_cons.1 hk with hk' | hk'
      · omega
      · exact b1 k hk'
    · rcases List.mem_cons.1 hk with hk' | hk'
      · subst hk'
        have := a1 i hi'; omega
      · exact pair_of a2 b2 i k hi' hk' hik
theorem free_mask {q : Nat → Nat → Bool} {n : Nat} {l : List Nat} (h : okL q n 0 [] l) : freeS q n (maskOf l) = true := by
  refine freeS_iff.2 fun i k hik hkn hi hk => ?_
  exact pair_of h.asc h.free i k ((maskOf_bit l i).1 hi) ((maskOf_bit l k).1 hk) hik
/-- The reference's search: all sets, one behind the other. -/
def mtS (q : Nat → Nat → Bool) (n : Nat) : Nat → List Nat
  | 0 => []
  | s + 1 => if freeS q n s = true ∧ better (setL n s) (mtS q n s) = true then setL n s else mtS q n s
theorem mtS_ok (q : Nat → Nat → Bool) (n : Nat) : ∀ s, okL q n 0 [] (mtS q n s) ∧ ∀ r, r < s → freeS q n r = true → bst (mtS q n s) (setL n r)
  | 0 => ⟨⟨List.Pairwise.nil, List.Pairwise.nil, by simp [mtS]⟩, fun r h => absurd h (by omega)⟩
  | s + 1 => by
    obtain ⟨h1, h2⟩ := mtS_ok q n s
    rw [mtS]
    split
    · rename_i hc
      have hb := better_yes hc.2
      refine ⟨ok_set hc.1, fun r hr hf => ?_⟩
      rcases Nat.lt_succ_iff_lt_or_eq.1 hr with h | rfl
      · exact bst_trans hb (h2 r h hf)
      · exact bst_refl _
    · rename_i hc
      refine ⟨h1, fun r hr hf => ?_⟩
      rcases Nat.lt_succ_iff_lt_or_eq.1 hr with h | rfl
      · exact h2 r h hf
      · have : better (setL n r) (mtS q n r) = false := by
          cases hb : better (setL n r) (mtS q n r) with
          | false => rfl
          | true => exact absurd ⟨hf, hb⟩ hc
        exact better_no this
/-- Both searches find the same list. -/
theorem mt_same (q : Nat → Nat → Bool) (n : Nat) : mtS q n (2 ^ n) = mtF q n n [] := by
  have hF := mt_best q n n (Nat.le_refl _) []
  rw [Nat.sub_self] at hF
  have hS := mtS_ok q n (2 ^ n)
  refine bst_anti ?_ (hF.2 _ hS.1)
  have hm : ∀ i ∈ mtF q n n [], i < n := fun i hi => (hF.1.mem i hi).2.1
  have := hS.2 (maskOf (mtF q n n [])) (maskOf_lt hm) (free_mask hF.1)
  rwa [setL_mask hF.1.asc hm] at this
end Go.Proofs.Ytnlneblipedddaa

namespace Go.Proofs.Ytnlneblipedddaa
/-- Wave w is free for the next performer, if the first ones have the waves h. -/
def wFree (q : Nat → Nat → Bool) (h : List Nat) (w : Nat) : Bool := (List.range h.length).all fun j => !(h.getD j 0 == w && q h.length j)
/-- The first waves below m that go on from h by k performers (the program's search: waves from w on, v of them left). -/
def fwF (q : Nat → Nat → Bool) (m : Nat) : Nat → List Nat → Option (List Nat)
  | 0, h => some h
  | k + 1, h => (List.range m).findSome? fun w => if wFree q h w = true then fwF q m k (h ++ [w]) else none
/-- The reference's search: it stops behind the first wave that nobody has yet. -/
def fwTry (q : Nat → Nat → Bool) (m : Nat) (next : List Nat → Option (List Nat)) (h : List Nat) : Nat → Nat → Option (List Nat)
  | 0, _ => none
  | v + 1, w => if wFree q h w = true then
      (match next (h ++ [w]) with
       | some r => some r
       | none => if w ∈ h then fwTry q m next h v (w + 1) else none)
    else fwTry q m next h v (w + 1)
def fwS (q : Nat → Nat → Bool) (m : Nat) : Nat → List Nat → Option (List Nat)
  | 0, h => some h
  | k + 1, h => fwTry q m (fwS q m k) h m 0
/-- Waves are good: below m, and those in conflict have others. -/
def wGood (q : Nat → Nat → Bool) (m : Nat) (l : List Nat) : Prop := ∀ i, i < l.length → l.getD i 0 < m ∧ ∀ j, j < i → q i j = true → l.getD j 0 ≠ l.getD i 0
theorem wFree_iff {q : Nat → Nat → Bool} {h : List Nat} {w : Nat} : wFree q h w = true ↔ ∀ j, j < h.length → q h.length j = true → h.getD j 0 ≠ w := by
  simp only [wFree, List.all_eq_true, List.mem_range, Bool.not_eq_true', Bool.and_eq_false_iff, beq_eq_false_iff_ne, ne_eq]
  constructor
  · intro a j hj hq
    rcases a j hj with e | e
    · exact e
    · rw [hq] at e; cases e
  · intro a j hj
    cases hq : q h.length j with
    | false => exact .inr rfl
    | true => exact .inl (a j hj hq)
theorem getD_app (h : List Nat) (w i : Nat) : (h ++ [w]).getD i 0 = if i < h.length then h.getD i 0 else if i = h.length then w else 0 := by
  simp only [List.getD_eq_getElem?_getD, List.getElem?_append]
  split
  · rfl
  · rename_i hi
    split
    · rename_i he; subst he; simp
    · rw [List.getElem?_eq_none (by simp; omega)]; rfl
theorem wGood_snoc {q : Nat → Nat → Bool} {m : Nat} {h : List Nat} {w : Nat} : wGood q m (h ++ [w]) ↔ wGood q m h ∧ w < m ∧ wFree q h w = true := by
  rw [wFree_iff]
  constructor
  · intro g
    refine ⟨fun i hi => ?_, ?_, fun j hj hq => ?_⟩
    · have := g i (by simp; omega)
      rw [getD_app, if_pos hi] at this
      refine ⟨this.1, fun j hj hq => ?_⟩
      have := this.2 j hj hq
      rwa [getD_app, if_pos (by omega)] at this
    · have := (g h.length (by simp)).1
      rwa [getD_app, if_neg (by omega), if_pos rfl] at this
    · have := (g h.length (by simp)).2 j hj hq
      rw [getD_app, getD_app, if_pos hj, if_neg (by omega), if_pos rfl] at this
      exact this
  · rintro ⟨g, hw, hf⟩ i hi
    simp only [List.length_append, List.length_cons, List.length_nil] at hi
    by_cases hil : i < h.length
    · have := g i hil
      rw [getD_app, if_pos hil]
      refine ⟨this.1, fun j hj hq => ?_⟩
      rw [getD_app, if_pos (by omega)]
      exact this.2 j hj hq
    · obtain rfl : i = h.length := by omega
      rw [getD_app, if_neg hil, if_pos rfl]
      refine ⟨hw, fun j hj hq => ?_⟩
      rw [getD_app, if_pos hj]
      exact hf j hj hq
theorem wGood_pre {q : Nat → Nat → Bool} {m : Nat} {h : List Nat} : ∀ {c : List Nat}, wGood q m (h ++ c) → wGood q m h := by
  intro c g i hi
  have e : ∀ j, j < h.length → (h ++ c).getD j 0 = h.getD j 0 := fun j hj => by simp only [List.getD_eq_getElem?_getD, List.getElem?_append_left hj]
  have := g i (by simp; omega)
  rw [e i hi] at this
  refine ⟨this.1, fun j hj hq => ?_⟩
  have := this.2 j hj hq
  rwa [e j (by omega)] at this
/-- The program's search finds waves if there are some. -/
theorem fwF_some {q : Nat → Nat → Bool} {m : Nat} : ∀ {k : Nat} {h r : List Nat}, wGood q m h → fwF q m k h = some r → wGood q m r ∧ r.length = h.length + k
  | 0, h, r, hg, he => by simp only [fwF, Option.some.injEq] at he; subst he; exact ⟨hg, rfl⟩
  | k + 1, h, r, hg, he => by
    rw [fwF, List.findSome?_eq_some_iff] at he
    obtain ⟨l1, w, l2, hl, hw, _⟩ := he
    split at hw
    · rename_i hf
      have hwm : w < m := by
        have : w ∈ List.range m := by rw [hl]; simp
        exact List.mem_range.1 this
      have := fwF_some (wGood_snoc.2 ⟨hg, hwm, hf⟩) hw
      refine ⟨this.1, ?_⟩
      have h2 := this.2
      simp at h2; omega
    · cases hw
theorem fwF_none {q : Nat → Nat → Bool} {m : Nat} : ∀ {k : Nat} {h : List Nat}, fwF q m k h = none → ∀ c : List Nat, c.length = k → ¬ wGood q m (h ++ c)
  | 0, h, he, c, hc, hg => by simp [fwF] at he
  | k + 1, h, he, c, hc, hg => by
    match c, hc with
    | w :: c, hc =>
      rw [fwF, List.findSome?_eq_none_iff] at he
      have e : h ++ w :: c = (h ++ [w]) ++ c := by simp
      rw [e] at hg
      have g1 := wGood_snoc.1 (wGood_pre hg)
      have := he w (List.mem_range.2 g1.2.1)
      rw [if_pos g1.2.2] at this
      exact fwF_none this c (by simpa using hc) hg
/-- Two waves changed for each other. -/
def wSwap (a b x : Nat) : Nat := if x = a then b else if x = b then a else x
theorem wSwap_inj {a b x y : Nat} (h : wSwap a b x = wSwap a b y) : x = y := by
  unfold wSwap at h
  split at h <;> split at h <;> (try split at h) <;> (try split at h) <;> omega
theorem wSwap_lt {a b x m : Nat} (ha : a < m) (hb : b < m) (hx : x < m) : wSwap a b x < m := by unfold wSwap; split <;> (try split) <;> omega
theorem wSwap_id {a b x : Nat} (h1 : x ≠ a) (h2 : x ≠ b) : wSwap a b x = x := by simp [wSwap, h1, h2]
theorem wGood_swap {q : Nat → Nat → Bool} {m a b : Nat} {l : List Nat} (ha : a < m) (hb : b < m) (g : wGood q m l) : wGood q m (l.map (wSwap a b)) := by
  intro i hi
  simp only [List.length_map] at hi
  have e : ∀ j, j < l.length → (l.map (wSwap a b)).getD j 0 = wSwap a b (l.getD j 0) := fun j hj => by
    simp only [List.getD_eq_getElem?_getD, List.getElem?_map, List.getElem?_eq_getElem hj, Option.map_some, Option.getD_some]
  have := g i hi
  rw [e i hi]
  refine ⟨wSwap_lt ha hb this.1, fun j hj hq => ?_⟩
  rw [e j (by omega)]
  intro he
  exact this.2 j hj hq (wSwap_inj he)
/-- If a wave that nobody has does not lead on, no other such wave does. -/
theorem fw_fresh {q : Nat → Nat → Bool} {m k a b : Nat} {h : List Nat} (ha : a < m) (hah : a ∉ h) (hbh : b ∉ h) (hn : fwF q m k (h ++ [a]) = none) (hg : wGood q m h) (hb : b < m) (hfb : wFree q h b = true) : fwF q m k (h ++ [b]) = none := by
  cases he : fwF q m k (h ++ [b]) with
  | none => rfl
  | some r =>
    exfalso
    have hs := fwF_some (wGood_snoc.2 ⟨hg, hb, hfb⟩) he
    -- r goes on from h ++ [b]
    have hpre : ∀ {k : Nat} {h r : List Nat}, fwF q m k h = some r → ∃ c, r = h ++ c ∧ c.length = k := by
      intro k
      induction k with
      | zero => intro h r he; simp only [fwF, Option.some.injEq] at he; exact ⟨[], by simp [he], rfl⟩
      | succ k ih =>
        intro h r he
        rw [fwF, List.findSome?_eq_some_iff] at he
        obtain ⟨l1, w, l2, hl, hw, _⟩ := he
        split at hw
        · obtain ⟨c, hc, hk⟩ := ih hw
          exact ⟨w :: c, by rw [hc]; simp, by simp [hk]⟩
        · cases hw
    obtain ⟨c, hc, hk⟩ := hpre he
    have g2 := wGood_swap (a := a) (b := b) ha hb hs.1
    rw [hc] at g2
    have e1 : (h ++ [b] ++ c).map (wSwap a b) = (h ++ [a]) ++ c.map (wSwap a b) := by
      have : h.map (wSwap a b) = h := by
        conv => rhs; rw [← List.map_id h]
        refine List.map_congr_left fun x hx => ?_
        exact wSwap_id (fun e => hah (e ▸ hx)) (fun e => hbh (e ▸ hx))
      simp only [List.map_append, this, List.map_cons, List.map_nil]
      have : wSwap a b b = a := by unfold wSwap; split <;> simp_all
      rw [this]
    rw [e1] at g2
    exact fwF_none hn _ (by simp [hk]) g2
/-- The waves in h are just those below some number. -/
def wFull (h : List Nat) (u : Nat) : Prop := ∀ w, w ∈ h ↔ w < u
theorem findSome_none_tail {α : Type} {f : Nat → Option α} {m : Nat} : ∀ {v w : Nat}, w + v = m → (List.range' w v).findSome? f = none ∨ ∃ x, x < m ∧ w ≤ x ∧ f x ≠ none := by
  intro v w hm
  by_cases h : ∃ x, x < m ∧ w ≤ x ∧ f x ≠ none
  · exact .inr h
  · left
    rw [List.findSome?_eq_none_iff]
    intro x hx
    rw [List.mem_range'_1] at hx
    cases hf : f x with
    | none => rfl
    | some y => exact absurd ⟨x, by omega, hx.1, by rw [hf]; simp⟩ h
theorem fw_try {q : Nat → Nat → Bool} {m k u : Nat} {h : List Nat} (hg : wGood q m h) (hu : wFull h u) (hnext : ∀ w, w < m → wFree q h w = true → w ≤ u → fwS q m k (h ++ [w]) = fwF q m k (h ++ [w])) :
    ∀ v w, w + v = m → w ≤ u → fwTry q m (fwS q m k) h v w = (List.range' w v).findSome? fun w => if wFree q h w = true then fwF q m k (h ++ [w]) else none
  | 0, w, _, _ => by simp [fwTry]
  | v + 1, w, hm, hw => by
    rw [fwTry, List.range'_succ, List.findSome?_cons]
    cases hf : wFree q h w with
    | false =>
      have hin : w ∈ h := by
        rcases Nat.lt_or_ge w u with h1 | h1
        · exact (hu w).2 h1
        · exfalso
          have hnot : w ∉ h := fun hx => by have := (hu w).1 hx; omega
          have : wFree q h w = true := wFree_iff.2 fun j hj _ he => hnot (by rw [← he, List.getD_eq_getElem?_getD, List.getElem?_eq_getElem hj]; exact List.getElem_mem hj)
          rw [hf] at this; cases this
      have hwu := (hu w).1 hin
      simp only [Bool.false_eq_true, if_false]
      exact fw_try hg hu hnext v (w + 1) (by omega) (by omega)
    | true =>
      simp only [if_true]
      rw [hnext w (by omega) hf hw]
      cases hn : fwF q m k (h ++ [w]) with
      | some r => rfl
      | none =>
        simp only
        by_cases hin : w ∈ h
        · rw [if_pos hin]
          have hwu := (hu w).1 hin
          exact fw_try hg hu hnext v (w + 1) (by omega) (by omega)
        · rw [if_neg hin]
          symm
          rw [List.findSome?_eq_none_iff]
          intro x hx
          rw [List.mem_range'_1] at hx
          have hwu : w = u := by
            rcases Nat.lt_or_ge w u with h1 | h1
            · exact absurd ((hu w).2 h1) hin
            · omega
          have hxn : x ∉ h := fun hx' => by have := (hu x).1 hx'; omega
          split
          · rename_i hfx
            exact fw_fresh (by omega) hin hxn hn hg (by omega) hfx
          · rfl
theorem fw_same {q : Nat → Nat → Bool} {m : Nat} : ∀ k (h : List Nat) (u : Nat), wGood q m h → wFull h u → fwS q m k h = fwF q m k h
  | 0, _, _, _, _ => rfl
  | k + 1, h, u, hg, hu => by
    rw [fwS, fw_try hg hu (fun w hw hf hwu => ?_) m 0 (by omega) (by omega), fwF, List.range_eq_range']
    refine fw_same k _ (if w < u then u else u + 1) (wGood_snoc.2 ⟨hg, hw, hf⟩) fun x => ?_
    rw [List.mem_append, hu x]
    split
    · constructor
      · rintro (h | h)
        · exact h
        · simp at h; omega
      · intro h; exact .inl h
    · constructor
      · rintro (h | h)
        · omega
        · simp at h; omega
      · intro h
        rcases Nat.lt_or_ge x u with h1 | h1
        · exact .inl h1
        · right; simp; omega
/-- m waves are enough, and no less are. -/
structure LeastWaves (q : Nat → Nat → Bool) (n m : Nat) (r : List Nat) : Prop where
  pos : 1 ≤ m
  found : fwF q m n [] = some r
  less : ∀ k, 1 ≤ k → k < m → fwF q k n [] = none
theorem wGood_nil (q : Nat → Nat → Bool) (m : Nat) : wGood q m [] := fun i hi => by simp at hi
/-- As many waves as performers are enough. -/
theorem waves_n (q : Nat → Nat → Bool) (n : Nat) (hn : 1 ≤ n) : fwF q n n [] ≠ none := by
  intro h
  refine fwF_none h (List.range n) (by simp) fun i hi => ?_
  simp only [List.nil_append, List.length_range] at hi
  have e : ∀ j, j < n → (([] : List Nat) ++ List.range n).getD j 0 = j := fun j hj => by simp [List.getD_eq_getElem?_getD, hj]
  rw [e i hi]
  refine ⟨hi, fun j hj _ => ?_⟩
  rw [e j (by omega)]
  omega
theorem lw_le {q : Nat → Nat → Bool} {n m : Nat} {r : List Nat} (hn : 1 ≤ n) (h : LeastWaves q n m r) : m ≤ n := by
  rcases Nat.lt_or_ge n m with h1 | h1
  · exact absurd (h.less n hn h1) (waves_n q n hn)
  · exact h1
theorem lw_unique {q : Nat → Nat → Bool} {n m m' : Nat} {r r' : List Nat} (h : LeastWaves q n m r) (h' : LeastWaves q n m' r') : m = m' ∧ r = r' := by
  have : m = m' := by
    rcases Nat.lt_trichotomy m m' with h1 | h1 | h1
    · have := h'.less m h.pos h1; rw [h.found] at this; cases this
    · exact h1
    · have := h.less m' h'.pos h1; rw [h'.found] at this; cases this
  subst this
  exact ⟨rfl, Option.some.inj (h.found.symm.trans h'.found)⟩
theorem lw_good {q : Nat → Nat → Bool} {n m : Nat} {r : List Nat} (h : LeastWaves q n m r) : wGood q m r ∧ r.length = n := by
  have := fwF_some (wGood_nil q m) h.found
  exact ⟨this.1, by simpa using this.2⟩
/-- The last wave is one of them. -/
theorem lw_last {q : Nat → Nat → Bool} {n m : Nat} {r : List Nat} (hn : 1 ≤ n) (h : LeastWaves q n m r) : ∃ i, i < n ∧ r.getD i 0 + 1 = m := by
  obtain ⟨g, hl⟩ := lw_good h
  by_cases hx : ∃ i, i < n ∧ r.getD i 0 + 1 = m
  · exact hx
  · exfalso
    have hlt : ∀ i, i < n → r.getD i 0 < m - 1 := by
      intro i hi
      have := (g i (by omega)).1
      rcases Nat.lt_or_ge (r.getD i 0) (m - 1) with h1 | h1
      · exact h1
      · exact absurd ⟨i, hi, by omega⟩ hx
    have h0 := hlt 0 hn
    have hm := h.less (m - 1) (by omega) (by have := h.pos; omega)
    exact fwF_none hm r hl (fun i hi => ⟨by rw [List.nil_append] at hi ⊢; exact hlt i (by omega), (g i (by simpa using hi)).2⟩)
/-- The greatest wave of the first k, and one more. -/
def wvMax (r : List Nat) : Nat → Nat
  | 0 => 0
  | k + 1 => max (wvMax r k) (r.getD k 0 + 1)
theorem wvMax_le {r : List Nat} {m : Nat} : ∀ {k : Nat}, (∀ i, i < k → r.getD i 0 < m) → wvMax r k ≤ m
  | 0, _ => by simp [wvMax]
  | k + 1, h => by
    have := wvMax_le (k := k) fun i hi => h i (by omega)
    have := h k (by omega)
    rw [wvMax]; omega
theorem wvMax_ge {r : List Nat} {i : Nat} : ∀ {k : Nat}, i < k → r.getD i 0 + 1 ≤ wvMax r k
  | 0, h => by omega
  | k + 1, h => by
    rw [wvMax]
    rcases Nat.lt_succ_iff_lt_or_eq.1 h with h1 | rfl
    · have := wvMax_ge (r := r) h1; omega
    · omega
theorem wvMax_all {q : Nat → Nat → Bool} {n m : Nat} {r : List Nat} (hn : 1 ≤ n) (h : LeastWaves q n m r) : wvMax r n = m := by
  obtain ⟨i, hi, he⟩ := lw_last hn h
  have h1 := wvMax_ge (r := r) hi
  obtain ⟨g, hl⟩ := lw_good h
  have h2 := wvMax_le (r := r) (m := m) (k := n) fun j hj => (g j (by omega)).1
  omega
theorem lw_exists (q : Nat → Nat → Bool) (n : Nat) (hn : 1 ≤ n) : ∃ m r, LeastWaves q n m r := by
  have main : ∀ k m, m + k = n → 1 ≤ m → (∀ j, 1 ≤ j → j < m → fwF q j n [] = none) → ∃ m r, LeastWaves q n m r := by
    intro k
    induction k with
    | zero =>
      intro m hm h1 hl
      obtain rfl : m = n := by omega
      cases hf : fwF q m m [] with
      | none => exact absurd hf (waves_n q m hn)
      | some r => exact ⟨m, r, h1, hf, hl⟩
    | succ k ih =>
      intro m hm h1 hl
      cases hf : fwF q m n [] with
      | none =>
        refine ih (m + 1) (by omega) (by omega) fun j h2 h3 => ?_
        rcases Nat.lt_succ_iff_lt_or_eq.1 h3 with h | rfl
        · exact hl j h2 h
        · exact hf
      | some r => exact ⟨m, r, h1, hf, hl⟩
  exact main (n - 1) 1 (by omega) (Nat.le_refl _) (fun j h1 h2 => absurd h1 (by omega))
end Go.Proofs.Ytnlneblipedddaa
