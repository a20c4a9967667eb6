/- The least square among the spots of a list: plain laws. Without conditions. -/
import Derived.Test.YtciolimmfldpbaaSquareOf
import Derived.Test.YtciolimmfldpbaaFile
namespace Go.Proofs.Ytciolimmfldpbaa
open Go.RowKit

def sqAt (xs : List Int) (i k : Nat) : Int := sqL (X xs i) (Y xs i) (X xs k) (Y xs k)
theorem sqAt_comm (xs : List Int) (i k : Nat) : sqAt xs i k = sqAt xs k i := sqL_comm _ _ _ _
/-- All spots of a list of n are near. -/
def allNear (xs : List Int) (n : Nat) : Prop := ∀ j, j < n → near (X xs j) (Y xs j)
def lstep (m d : Int) : Int := if m < 0 ∨ d < m then d else m
/-- The least of m and the squares of spot i and the first j ones; of all pairs among the first i; -1 if there are none. -/
def lsIn (xs : List Int) (i : Nat) (m : Int) : Nat → Int | 0 => m | j + 1 => lstep (lsIn xs i m j) (sqAt xs i j)
def lsOut (xs : List Int) : Nat → Int | 0 => -1 | i + 1 => lsIn xs i (lsOut xs i) i
/-- m is the least of the squares of the pairs in S, or -1 if there is none. -/
def IsLeast (xs : List Int) (S : Nat → Nat → Prop) (m : Int) : Prop := (m = -1 ∧ ∀ i j, ¬ S i j) ∨ (0 ≤ m ∧ (∃ i j, S i j ∧ sqAt xs i j = m) ∧ ∀ i j, S i j → m ≤ sqAt xs i j)
theorem IsLeast.step {xs : List Int} {S T : Nat → Nat → Prop} {m : Int} {i j : Nat} (h : IsLeast xs S m) (h0 : 0 ≤ sqAt xs i j) (hT : ∀ a b, T a b ↔ S a b ∨ (a = i ∧ b = j)) : IsLeast xs T (lstep m (sqAt xs i j)) := by
  have hij : T i j := (hT i j).2 (.inr ⟨rfl, rfl⟩)
  rcases h with ⟨rfl, hn⟩ | ⟨hm, ⟨a, b, hab, he⟩, hall⟩
  · have e : lstep (-1) (sqAt xs i j) = sqAt xs i j := by simp [lstep]
    rw [e]
    refine .inr ⟨h0, ⟨i, j, hij, rfl⟩, fun a b hab => ?_⟩
    rcases (hT a b).1 hab with h | ⟨rfl, rfl⟩
    · exact absurd h (hn a b)
    · exact Int.le_refl _
  · unfold lstep
    split
    · rename_i hd
      refine .inr ⟨h0, ⟨i, j, hij, rfl⟩, fun p q hpq => ?_⟩
      rcases (hT p q).1 hpq with h | ⟨rfl, rfl⟩
      · have := hall p q h; omega
      · exact Int.le_refl _
    · rename_i hd
      refine .inr ⟨hm, ⟨a, b, (hT a b).2 (.inl hab), he⟩, fun p q hpq => ?_⟩
      rcases (hT p q).1 hpq with h | ⟨rfl, rfl⟩
      · exact hall p q h
      · omega
theorem IsLeast.ext {xs : List Int} {S T : Nat → Nat → Prop} {m : Int} (h : IsLeast xs S m) (hT : ∀ a b, T a b ↔ S a b) : IsLeast xs T m := by
  have : T = S := funext fun a => funext fun b => propext (hT a b)
  rw [this]; exact h
theorem lsIn_least {xs : List Int} {n : Nat} (hn : allNear xs n) {i : Nat} (hi : i < n) {S : Nat → Nat → Prop} {m : Int} (h : IsLeast xs S m) : ∀ j, j ≤ i → IsLeast xs (fun a b => S a b ∨ (a = i ∧ b < j)) (lsIn xs i m j)
  | 0, _ => h.ext fun a b => by simp
  | j + 1, hj => by
    refine (lsIn_least hn hi h j (by omega)).step (sqL_in (hn i hi) (hn j (by omega))).1 fun a b => ?_
    constructor
    · rintro (h | ⟨h1, h2⟩)
      · exact .inl (.inl h)
      · rcases Nat.lt_succ_iff_lt_or_eq.1 h2 with h | h
        · exact .inl (.inr ⟨h1, h⟩)
        · exact .inr ⟨h1, h⟩
    · rintro ((h | ⟨h1, h2⟩) | ⟨h1, h2⟩)
      · exact .inl h
      · exact .inr ⟨h1, by omega⟩
      · exact .inr ⟨h1, by omega⟩
theorem lsOut_least {xs : List Int} {n : Nat} (hn : allNear xs n) : ∀ i, i ≤ n → IsLeast xs (fun a b => a < i ∧ b < a) (lsOut xs i)
  | 0, _ => .inl ⟨rfl, fun a b h => by omega⟩
  | i + 1, hi => by
    refine (lsIn_least hn hi (lsOut_least hn i (by omega)) i (Nat.le_refl _)).ext fun a b => ?_
    constructor
    · rintro ⟨h1, h2⟩
      rcases Nat.lt_succ_iff_lt_or_eq.1 h1 with h | h
      · exact .inl ⟨h, h2⟩
      · subst h; exact .inr ⟨rfl, h2⟩
    · rintro (⟨h1, h2⟩ | ⟨rfl, h2⟩)
      · exact ⟨by omega, h2⟩
      · exact ⟨by omega, h2⟩
/-- The least of a list of at least two spots. -/
theorem lsOut_eq {xs : List Int} {n i k : Nat} (hn : allNear xs n) (h1 : i < k) (h2 : k < n) (h : ∀ a b, a < b → b < n → sqAt xs i k ≤ sqAt xs a b) : lsOut xs n = sqAt xs i k := by
  rcases lsOut_least hn n (Nat.le_refl _) with ⟨_, hno⟩ | ⟨_, ⟨a, b, ⟨ha, hb⟩, he⟩, hall⟩
  · exact absurd ⟨h2, h1⟩ (hno k i)
  · have e1 := hall k i ⟨h2, h1⟩
    have e2 := h b a hb ha
    rw [sqAt_comm] at e1
    rw [sqAt_comm xs b a] at e2
    omega
theorem lsOut_in {xs : List Int} {n : Nat} (hn : allNear xs n) {i : Nat} (hi : i ≤ n) : -1 ≤ lsOut xs i ∧ lsOut xs i ≤ 12800000000 := by
  rcases lsOut_least hn i hi with ⟨h, _⟩ | ⟨h0, ⟨a, b, ⟨h1, h2⟩, he⟩, _⟩
  · omega
  · have := (sqL_in (hn a (by omega)) (hn b (by omega))).2
    unfold sqAt at he
    omega
theorem lsIn_in {xs : List Int} {n : Nat} (hn : allNear xs n) {i j : Nat} (hi : i < n) (hj : j ≤ i) : -1 ≤ lsIn xs i (lsOut xs i) j ∧ lsIn xs i (lsOut xs i) j ≤ 12800000000 := by
  rcases lsIn_least hn hi (lsOut_least hn i (by omega)) j hj with ⟨h, _⟩ | ⟨h0, ⟨a, b, h12, he⟩, _⟩
  · omega
  · have ha : a < n ∧ b < n := by rcases h12 with ⟨h1, h2⟩ | ⟨h1, h2⟩ <;> omega
    have := (sqL_in (hn a ha.1) (hn b ha.2)).2
    unfold sqAt at he
    omega
theorem flTo_XY (n : Nat) (xs : List Int) (g L : Int) : ∀ (k j : Nat), j < k → X (flTo n xs g L k) j = alX n xs (L - (j : Int) * g) ∧ Y (flTo n xs g L k) j = alY n xs (L - (j : Int) * g)
  | 0, j, h => absurd h (by omega)
  | k + 1, j, h => by
    have hl := flTo_length n xs g L k
    rcases Nat.lt_succ_iff_lt_or_eq.1 h with h | rfl
    · have ih := flTo_XY n xs g L k j h
      have a1 : j * 2 < (flTo n xs g L k).length := by omega
      have a2 : j * 2 + 1 < (flTo n xs g L k).length := by omega
      simp only [X, Y, List.getD] at ih ⊢
      unfold flTo
      rw [List.getElem?_append_left a1, List.getElem?_append_left a2]
      exact ih
    · simp only [X, Y, List.getD]
      unfold flTo
      rw [List.getElem?_append_right (by omega), List.getElem?_append_right (by omega), hl]
      simp
theorem al_near {n : Nat} {xs : List Int} {L : Int} (h : wayB n xs = true) (h0 : 0 ≤ L) (h1 : L ≤ lenTo xs (n - 1)) : near (alX n xs L) (alY n xs L) := by
  have hw := wayB_yes h
  have hk := fp_lt (xs := xs) (L := L) (n - 2) 0
  have hkn : alK n xs L < n := by unfold alK; omega
  have hs := spotB_yes (hw.2.1 _ hkn)
  have h2 := (lenTo_in hw.2.1 _ hkn)
  have h3 := (lenTo_in hw.2.1 (n - 1) (by omega))
  obtain ⟨e1, e2⟩ := al_at (n := n) (xs := xs) (L := L) rfl
  have g1 : ∀ d : Int, -30000 ≤ sg d * (L - lenTo xs (alK n xs L)) ∧ sg d * (L - lenTo xs (alK n xs L)) ≤ 30000 := by
    intro d
    rcases sg_cases d with ⟨_, h⟩ | ⟨_, h⟩ | ⟨_, h⟩ <;> rw [h] <;> omega
  have g2 := g1 (X xs (alK n xs L + 1) - X xs (alK n xs L))
  have g3 := g1 (Y xs (alK n xs L + 1) - Y xs (alK n xs L))
  rw [e1, e2]
  unfold near
  omega
theorem fl_near {n M : Nat} {xs : List Int} {g L : Int} (h : wayB n xs = true ∧ 0 ≤ L ∧ L ≤ lenTo xs (n - 1)) (g1 : 1 ≤ g) (hg : ((M : Int) - 1) * g ≤ L) : allNear (flTo n xs g L M) M := by
  intro j hj
  obtain ⟨e1, e2⟩ := flTo_XY n xs g L M j hj
  obtain ⟨p1, p2⟩ := gap_in hj g1 hg
  rw [e1, e2]
  exact al_near h.1 (by omega) (by omega)
end Go.Proofs.Ytciolimmfldpbaa
