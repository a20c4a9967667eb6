/- The text of carries: plain laws. Without conditions. -/
import Derived.Test.YtamehlafmfmgmaaDoorCarryFn
import Derived.Test.YtamehlafmfmgmaaDoorNum
import Derived.Lib.ItoaNum
namespace Go.Proofs.YtamehlafmfmgmaaDoor
open Go.RowKit

theorem numF_dec : ∀ f n, n < 10 ^ f → 0 < f → Lib.decDigits n = numF f n
  | 0, _, _, h => absurd h (by omega)
  | f + 1, n, hn, _ => by
    rw [numF, Lib.decDigits]
    by_cases h : n < 10
    · rw [dif_pos h, if_pos h]; rfl
    · have hf0 : 0 < f := by
        rcases Nat.eq_zero_or_pos f with rfl | h0
        · simp at hn; omega
        · exact h0
      rw [dif_neg h, if_neg h, numF_dec f (n / 10) (by rw [Nat.pow_succ] at hn; omega) hf0]; rfl
/-- The decimal numeral of a number below 100000. -/
def numT (n : Int) : List UInt8 := numF 5 n.toNat
theorem numT_len (n : Int) : (numT n).length ≤ 5 := numF_length 5 _
theorem numT_itoa {n : Int} (h0 : 0 ≤ n) (h1 : n < 100000) : Lib.itoa n = numT n := by
  rw [Lib.itoa, if_neg (by omega)]
  exact numF_dec 5 n.toNat (by omega) (by omega)
def lineT (p l f t : Int) : List UInt8 := numT p ++ [32] ++ numT l ++ [32] ++ numT f ++ [32] ++ numT t ++ [10]
theorem lineT_len (p l f t : Int) : (lineT p l f t).length ≤ 24 := by
  have := numT_len p
  have := numT_len l
  have := numT_len f
  have := numT_len t
  simp only [lineT, List.length_append, List.length_cons, List.length_nil]; omega
def ctTo (xs : List Int) : Nat → List UInt8
  | 0 => []
  | k + 1 => ctTo xs k ++ lineT (cP xs k) (cL xs k) (cF xs k) (cT xs k)
theorem ctTo_len (xs : List Int) : ∀ k, (ctTo xs k).length ≤ 24 * k
  | 0 => Nat.le_refl _
  | k + 1 => by
    have := ctTo_len xs k
    have := lineT_len (cP xs k) (cL xs k) (cF xs k) (cT xs k)
    rw [ctTo, List.length_append]; omega
def ctL (n : Nat) (xs : List Int) : List UInt8 := if gcB n xs = true then ctTo xs n else []
/-- A list of bytes as a text. -/
def txt (l : List UInt8) : ByteArray := ⟨l.toArray⟩
theorem txt_size (l : List UInt8) : (txt l).size = l.length := by simp [txt, ByteArray.size]
theorem txt_app (a b : List UInt8) : txt (a ++ b) = txt a ++ txt b := bytes_app a b
theorem line_txt (p l f t : Int) : txt (lineT p l f t) = txt (numT p) ++ ⟨#[32]⟩ ++ txt (numT l) ++ ⟨#[32]⟩ ++ txt (numT f) ++ ⟨#[32]⟩ ++ txt (numT t) ++ ⟨#[10]⟩ := by
  simp only [lineT, txt_app]; rfl
theorem ctTo_txt {xs : List Int} {k : Nat} {p l f t : Int} (hp : cP xs k = p) (hl : cL xs k = l) (hf : cF xs k = f) (ht : cT xs k = t) : txt (ctTo xs (k + 1)) = txt (ctTo xs k) ++ txt (lineT p l f t) := by
  rw [ctTo, txt_app, hp, hl, hf, ht]
end Go.Proofs.YtamehlafmfmgmaaDoor
