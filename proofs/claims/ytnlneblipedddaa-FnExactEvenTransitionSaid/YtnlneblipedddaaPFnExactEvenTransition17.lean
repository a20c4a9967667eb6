/- A contract of the reference's search for waves. Conditions: at most twelve performers, rows that can be read, an owned slice. -/
import Derived.Test.YtnlneblipedddaaPFnExactEvenTransition02
import Derived.Test.YtnlneblipedddaaPFnExactEvenTransition16
import Derived.Test.YtnlneblipedddaaPFnExactEvenTransition10
namespace Go.Proofs.Ytnlneblipedddaa
open Go.RowKit

theorem l1Own_any (v : Value) (lo n : Nat) (xs : List Int) (w : World) (hv : w.ownsRow lo 3 1 v n (ints xs)) (hn : n ≤ 1000000) :
    Calls Try.prog 72 #[v] w fun e w' => ∃ u, e = .returned u ∧ w'.ownsRow w.heap.size 3 1 u n (ints xs) ∧ Below w.heap.size w w' := by
  have HV := Lib.hid (hv.alloc (.cells #[] 3))
  have HE := Lib.hid (show (w.alloc (.cells #[] 3)).ownsRow w.heap.size 3 1 (.slice (some ⟨w.heap.size, 0, none⟩) 0 0) 0 (ints []) from own_empty w 3 1)
  have HB := Lib.hid (below_new (Below.refl w.heap.size w) (.cells #[] 3))
  clear hv
  go_enter Try.func72, Try.ntmps72
  go_wp2_with (at_builtin; refine app_ints rfl _ _ rfl w.heap.size _ 0 [] rfl HE.out lo v n xs rfl HV.out (by omega) HB.out.size ?_; intro v9 w9 hr9 hg9)
  have HB9 := Lib.hid (HB.out.grown hg9 HB.out.size (fun k hk => (HE.out.lt k hk).1))
  have HO9 := Lib.hid (show w9.ownsRow w.heap.size 3 1 v9 n (ints xs) by
    have := hr9
    rwa [Nat.zero_add, List.nil_append] at this)
  clear hr9 hg9
  go_wp2_with fail
  go_ret
  exact ⟨_, rfl, HO9.out, HB9.out⟩
/-- Rows that can be read. -/
def RagR (w : World) (B b n : Nat) (cl : List (List Nat)) : Prop :=
  b < B ∧ ∀ j, j < n → ∃ s, w.cell? ⟨b, j, none⟩ = some s ∧ Rd w B 1 s (cl.getD j []).length (nats (cl.getD j []))
theorem RagR.below {w w' : World} {B b n : Nat} {cl : List (List Nat)} (h : RagR w B b n cl) {C : Nat} (hb : Below C w w') (hC : B ≤ C) : RagR w' B b n cl :=
  ⟨h.1, fun j hj => by
    obtain ⟨s, h1, h2⟩ := h.2 j hj
    exact ⟨s, (hb.cell (p := ⟨b, j, none⟩) (by have := h.1; show b < C; omega)).trans h1, h2.below' hb hC⟩⟩
theorem hasI_nats {h : List Nat} {w : Nat} : hasI (nats h) h.length (w : Int) = true ↔ w ∈ h := by
  constructor
  · intro hh
    simp only [hasI, List.any_eq_true, List.mem_range, beq_iff_eq] at hh
    obtain ⟨j, hj, e⟩ := hh
    rw [nats_get] at e
    have e2 : h.getD j 0 = w := by omega
    rw [List.getD_eq_getElem?_getD, List.getElem?_eq_getElem hj] at e2
    simp at e2
    subst e2
    exact List.getElem_mem hj
  · intro hw
    obtain ⟨j, hj, e⟩ := List.getElem_of_mem hw
    refine hasI_yes (k := j) hj ?_
    rw [nats_get, List.getD_eq_getElem?_getD, List.getElem?_eq_getElem hj]
    simp [e]
end Go.Proofs.Ytnlneblipedddaa
