/- A law's argument that is a Move (five whole numbers), opened. Without conditions. -/
import Derived.Test.YtpikhkdgohapeaaFrame
namespace Go.Proofs.Ytpikhkdgohapeaa
open Go.ChangeShapes Go.WideShapes Go.ChangeAt Go.RowKit
section
variable {H : Type} {enc : TypeId × Value → H}
theorem intsOnly_Spot : IntsOnly (enc := enc) 23 2 :=
  intsOnly_struct [1, 1] 2 Try.underlying23 rfl (by kernel_rfl) ⟨rfl, by kernel_rfl, rfl, by kernel_rfl, trivial⟩ (by
    intro i f k hf hk
    match i, hf, hk with
    | 0, hf, hk => simp at hf hk; subst hf hk; exact intsOnly_int
    | 1, hf, hk => simp at hf hk; subst hf hk; exact intsOnly_int)
theorem intsOnly_Move : IntsOnly (enc := enc) 25 5 :=
  intsOnly_struct [2, 2, 1] 5 Try.underlying25 rfl (by kernel_rfl) ⟨rfl, by kernel_rfl, rfl, by kernel_rfl, rfl, by kernel_rfl, trivial⟩ (by
    intro i f k hf hk
    match i, hf, hk with
    | 0, hf, hk => simp at hf hk; subst hf hk; exact intsOnly_Spot
    | 1, hf, hk => simp at hf hk; subst hf hk; exact intsOnly_Spot
    | 2, hf, hk => simp at hf hk; subst hf hk; exact intsOnly_int)
theorem list5 {l : List Int} (h : l.length = 5) : ∃ a b c d e, l = [a, b, c, d, e] := by
  match l, h with
  | [a, b, c, d, e], _ => exact ⟨a, b, c, d, e, rfl⟩
set_option maxRecDepth 100000 in
theorem move_arg {v : Value} {d : DataW H} {ps : List MemPlace} {w : World} {base : Nat} {spare : Nat → Bool} {held : Bool} {r : Reach} {b0 : Nat}
    (hv : Value.okWide Try.prog w r b0 25 v) (h : DataW.Trod enc Try.prog w base spare held 25 v d ps) :
    ∃ x y z u c : Int, v = .agg #[.int .i64 x, .int .i64 y, .int .i64 z, .int .i64 u, .int .i64 c] := by
  obtain ⟨xs, hl, rfl, _⟩ := agg_arg Try.underlying25 intsOnly_Move hv h
  obtain ⟨a, b, c, d, e, rfl⟩ := list5 hl
  exact ⟨a, b, c, d, e, rfl⟩
end
end Go.Proofs.Ytpikhkdgohapeaa
