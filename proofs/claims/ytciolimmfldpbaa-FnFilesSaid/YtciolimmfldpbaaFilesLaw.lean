/- What the performers of a file have to do with the way that they walk: plain laws. Without conditions. The four lengths at which the law looks, and the spots of a way, of its short way and of the way turned round there: plain laws. Without conditions. -/
import Derived.Test.YtciolimmfldpbaaPathLaw
import Derived.Test.YtciolimmfldpbaaLeastInSpec
import Derived.Test.YtciolimmfldpbaaWayLength
import Derived.Test.YtciolimmfldpbaaHas
namespace Go.Proofs.Ytciolimmfldpbaa
open Go.RowKit

/-- A file of M performers lies on a way. -/
def OnWay (n : Nat) (xs : List Int) (M : Nat) (g L : Int) : Prop := wayB n xs = true ∧ 0 ≤ L ∧ L ≤ lenTo xs (n - 1) ∧ (1 ≤ M ∧ M ≤ 12) ∧ (1 ≤ g ∧ g ≤ 200) ∧ ((M : Int) - 1) * g ≤ L
theorem fi_way {n : Nat} {xs : List Int} {m g L : Int} (h : fiB n xs m g L = true) : ∃ M : Nat, m = (M : Int) ∧ OnWay n xs M g L ∧ fiN n xs m g L = M ∧ fiL n xs m g L = flTo n xs g L M := by
  obtain ⟨_, e1, e2⟩ := fi_yes h
  simp only [fiB, Bool.and_eq_true, decide_eq_true_eq] at h
  obtain ⟨⟨⟨h1, h2⟩, h3⟩, h4⟩ := h
  have a := inB_yes h2
  have b := inB_yes h3
  simp only [slB, Bool.and_eq_true] at h1
  have c := inB_yes h1.2
  obtain ⟨M, rfl⟩ : ∃ M : Nat, m = (M : Int) := ⟨m.toNat, by omega⟩
  rw [Int.toNat_natCast] at e1 e2
  exact ⟨M, rfl, ⟨h1.1, c.1, c.2, by omega, by omega, h4⟩, e2, e1⟩
theorem gap_at {n : Nat} {xs : List Int} {M k : Nat} {g L : Int} (h : OnWay n xs M g L) (hk : k < M) : 0 ≤ (k : Int) * g ∧ (k : Int) * g ≤ L := by
  obtain ⟨_, h0, _, _, ⟨g1, _⟩, h5⟩ := h
  have a : 0 ≤ (k : Int) * g := Int.mul_nonneg (by omega) (by omega)
  have b : (k : Int) * g ≤ ((M : Int) - 1) * g := Int.mul_le_mul_of_nonneg_right (by omega) (by omega)
  omega
/-- The spot of performer k, and that it lies no farther from the one ahead than the gap. -/
theorem file_at {n : Nat} {xs : List Int} {M k : Nat} {g L : Int} (h : OnWay n xs M g L) (hk : k < M) :
    X (flTo n xs g L M) k = saX n xs (L - (k : Int) * g) ∧ Y (flTo n xs g L M) k = saY n xs (L - (k : Int) * g) ∧ slB n xs (L - (k : Int) * g) = true ∧ spotB (X (flTo n xs g L M) k) (Y (flTo n xs g L M) k) = true := by
  have hg := gap_at h hk
  obtain ⟨hw, h0, h1, _, _, _⟩ := h
  have hs : slB n xs (L - (k : Int) * g) = true := by
    simp only [slB, Bool.and_eq_true]; exact ⟨hw, inB_mk (by omega) (by omega)⟩
  obtain ⟨a, b⟩ := flTo_XY n xs g L M k hk
  refine ⟨by rw [a]; simp [saX, hs], by rw [b]; simp [saY, hs], hs, ?_⟩
  rw [a, b]
  exact al_field hw (by omega) (by omega)
theorem file_gap {n : Nat} {xs : List Int} {M k : Nat} {g L : Int} (h : OnWay n xs M g L) (hk : k + 1 < M) :
    ab (X (flTo n xs g L M) (k + 1) - X (flTo n xs g L M) k) + ab (Y (flTo n xs g L M) (k + 1) - Y (flTo n xs g L M) k) ≤ g := by
  have hg := gap_at h hk
  have hg0 := gap_at h (show k < M by omega)
  obtain ⟨hw, h0, h1, _, g1, _⟩ := h
  obtain ⟨a, b⟩ := flTo_XY n xs g L M k (by omega)
  obtain ⟨c, d⟩ := flTo_XY n xs g L M (k + 1) hk
  obtain ⟨⟨h2, _⟩, _, hok⟩ := wayB_yes hw
  have e : ((k + 1 : Nat) : Int) * g = (k : Int) * g + g := by rw [Int.natCast_add, Int.add_mul]; simp
  have q := al_gap (L := L - ((k + 1 : Nat) : Int) * g) hok h2 (by omega) g.toNat (by omega)
  rw [Int.toNat_of_nonneg (by omega), show L - ((k + 1 : Nat) : Int) * g + g = L - (k : Int) * g by omega] at q
  rw [a, b, c, d, ab_flip (alX n xs _) (alX n xs (L - (k : Int) * g)), ab_flip (alY n xs _) (alY n xs (L - (k : Int) * g))]
  exact q
/-- No two performers are closer than the least square. -/
theorem file_least {n : Nat} {xs : List Int} {M : Nat} {g L : Int} (h : OnWay n xs M g L) (i j : Nat) (hj : j < i) (hi : i < M) : lsOut (flTo n xs g L M) M ≤ sqAt (flTo n xs g L M) i j := by
  have hn : allNear (flTo n xs g L M) M := fl_near ⟨h.1, h.2.1, h.2.2.1⟩ h.2.2.2.2.1.1 h.2.2.2.2.2
  rcases lsOut_least hn M (Nat.le_refl _) with ⟨_, h2⟩ | ⟨_, _, h2⟩
  · exact absurd ⟨hi, hj⟩ (h2 i j)
  · exact h2 i j ⟨hi, hj⟩
theorem li_law {n : Nat} {xs : List Int} {m g L : Int} {M : Nat} (h : fiB n xs m g L = true) (em : m = (M : Int)) (e1 : fiN n xs m g L = M) (e2 : fiL n xs m g L = flTo n xs g L M) (hl : liB n xs m g L = true) :
    liV n xs m g L = lsOut (flTo n xs g L M) M := by
  unfold liV; rw [if_pos hl, e1, e2]
end Go.Proofs.Ytciolimmfldpbaa
namespace Go.Proofs.Ytciolimmfldpbaa
open Go.RowKit

def at4 (K : Int) (k : Nat) : Int := if k = 0 then 0 else if k = 1 then K / 3 else if k = 2 then K / 2 else K
theorem at4_in {K : Int} (h : 0 ≤ K) (k : Nat) : 0 ≤ at4 K k ∧ at4 K k ≤ K := by unfold at4; (repeat' split) <;> omega
theorem at4_cell {w : World} {g : Nat} {t : TypeId} {K : Int} (h : Blk w g t #[.int .i64 0, .int .i64 (K / 3), .int .i64 (K / 2), .int .i64 K]) (k : Nat) (hk : k < 4) : w.cell? ⟨g, k, none⟩ = some (.int .i64 (at4 K k)) := by
  rw [h.cell]
  match k, hk with
  | 0, _ => rfl
  | 1, _ => rfl
  | 2, _ => rfl
  | 3, _ => rfl
theorem along_at {m : Nat} {zs : List Int} {q : Int} (h : wayB m zs = true) (h0 : 0 ≤ q) (h1 : q ≤ lenTo zs (m - 1)) : slB m zs q = true ∧ saX m zs q = alX m zs q ∧ saY m zs q = alY m zs q := by
  have hs : slB m zs q = true := by simp only [slB, Bool.and_eq_true]; exact ⟨h, inB_mk h0 h1⟩
  exact ⟨hs, by simp [saX, hs], by simp [saY, hs]⟩
theorem along_short {m : Nat} {zs : List Int} {q : Int} (h : wayB m zs = true) (h0 : 0 ≤ q) (h1 : q ≤ lenTo zs (m - 1)) :
    slB (shN m zs m) (shTo m zs m) q = true ∧ saX (shN m zs m) (shTo m zs m) q = alX m zs q ∧ saY (shN m zs m) (shTo m zs m) q = alY m zs q := by
  obtain ⟨a, b, _, c⟩ := short_law h
  obtain ⟨x, y, z⟩ := along_at a h0 (by omega)
  exact ⟨x, y.trans (c q h0 h1).1, z.trans (c q h0 h1).2⟩
theorem along_rev {m : Nat} {zs : List Int} {q : Int} (h : wayB m zs = true) (h0 : 0 ≤ q) (h1 : q ≤ lenTo zs (m - 1)) :
    slB m (revTo m zs m) (lenTo zs (m - 1) - q) = true ∧ saX m (revTo m zs m) (lenTo zs (m - 1) - q) = alX m zs q ∧ saY m (revTo m zs m) (lenTo zs (m - 1) - q) = alY m zs q := by
  obtain ⟨a, b, c⟩ := rev_law h
  obtain ⟨x, y, z⟩ := along_at (q := lenTo zs (m - 1) - q) a (by omega) (by omega)
  exact ⟨x, y.trans (c q h0 h1).1, z.trans (c q h0 h1).2⟩
end Go.Proofs.Ytciolimmfldpbaa
