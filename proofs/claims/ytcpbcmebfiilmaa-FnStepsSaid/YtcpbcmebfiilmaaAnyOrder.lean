/- A region that draws its order, walked without its orders: a fact that says of each operation what it has left behind, if it has come up, is kept by each operation, and so holds at the end. Without conditions. -/
import Derived.Deep.RegionHeld3
import Derived.WalkKit
namespace Go.Proofs.Ytcpbcmebfiilmaa
open Go.RowKit

section
variable {P : Program} {ops : Array Oper} {Q : Exit → Act → World → Prop} {md : Region.Mode} {S : World → Prop}

theorem getD_set (l : Array Bool) (i j : Nat) (b : Bool) (hi : i < l.size) : (l.setIfInBounds i true).getD j b = if j = i then true else l.getD j b := by
  simp only [Array.getD_eq_getD_getElem?, Array.getElem?_setIfInBounds]
  by_cases h : i = j
  · subst h; simp [hi]
  · have h' : ¬ j = i := fun e => h e.symm
    simp [h, h']
def left (n : Nat) (l : Array Bool) : Nat := (List.range n).countP fun i => !l.getD i true
theorem count_lt {p q : Nat → Bool} {i : Nat} (h : ∀ j, q j = true → p j = true) (hp : p i = true) (hq : q i = false) : ∀ m, i < m → (List.range m).countP q < (List.range m).countP p
  | 0, h => absurd h (by omega)
  | m + 1, hi => by
    rw [List.range_succ, List.countP_append, List.countP_append]
    have one : ∀ r : Nat → Bool, List.countP r [m] = if r m = true then 1 else 0 := fun r => by simp [List.countP_cons]
    rw [one, one]
    rcases Nat.lt_succ_iff_lt_or_eq.1 hi with g | rfl
    · have := count_lt h hp hq m g
      by_cases hm : q m = true
      · rw [if_pos hm, if_pos (h m hm)]; omega
      · rw [if_neg hm]; omega
    · have hle : (List.range i).countP q ≤ (List.range i).countP p := List.countP_mono_left (fun j _ hj => h j hj)
      rw [if_neg (by rw [hq]; simp), if_pos hp]; omega
theorem left_set {n i : Nat} {l : Array Bool} (hi : i < n) (hl : l.size = n) (h : l.getD i true = false) : left n (l.setIfInBounds i true) < left n l := by
  have hs : i < l.size := by omega
  refine count_lt (i := i) (fun j hj => ?_) (by rw [h]; rfl) (by rw [getD_set l i i true hs, if_pos rfl]; rfl) n hi
  rw [getD_set l i j true hs] at hj
  by_cases e : j = i
  · rw [if_pos e] at hj; cases hj
  · rw [if_neg e] at hj; exact hj

/-- The operations rs keep I, whichever comes up. -/
def KeepAll (P : Program) (md : Region.Mode) (ops : Array Oper) (Q : Exit → Act → World → Prop) (S : World → Prop) (I : Array Bool → Act → World → Prop) (rs : List Nat) : Prop :=
  ∀ i ∈ rs, ∀ l a w, l.size = ops.size → l.getD i true = false → (∀ o, ops[i]? = some o → o.after.all (fun e => !Region.binds md e || l.getD e.on false) = true) → I l a w →
    wpOp P ops Q i (fun a' w' => S w' ∧ I (l.setIfInBounds i true) a' w') a w
theorem KeepAll.nil {I : Array Bool → Act → World → Prop} : KeepAll P md ops Q S I [] := fun _ h => by cases h
theorem KeepAll.cons {I : Array Bool → Act → World → Prop} {i : Nat} {o : Oper} {rs : List Nat} (ho : ops[i]? = some o)
    (h : ∀ l a w, l.size = ops.size → l.getD i true = false → o.after.all (fun e => !Region.binds md e || l.getD e.on false) = true → I l a w →
      ∀ K' : Act → World → Prop, Shut (∀ a w, S w → I (l.setIfInBounds i true) a w → K' a w) → if Region.wanted o (yielded ops a.tmps) = true then Oper.wp P o a w K' Q else K' (a.put o.dst undef) w)
    (hs : KeepAll P md ops Q S I rs) : KeepAll P md ops Q S I (i :: rs) := by
  intro j hj l a w h1 h2 h3 h4
  rcases List.mem_cons.1 hj with rfl | hj
  · exact wpOp_step ho (fun K' hK => h l a w h1 h2 (h3 o ho) h4 K' (fun a w hS hI => hK a w ⟨hS, hI⟩))
  · exact hs j hj l a w h1 h2 h3 h4
/-- No operation waits for a later one. -/
def backB (ops : Array Oper) : Bool := (List.range ops.size).all fun i => match ops[i]? with | some o => o.after.all fun e => decide (e.on < i) | none => true
theorem ready_nil {l : Array Bool} (hl : l.size = ops.size) (hb : backB ops = true) (hn : Region.ready md ops l = []) : ∀ i, i < ops.size → l.getD i true = true := by
  intro i
  induction i using Nat.strongRecOn with
  | _ i ih =>
    intro hi
    cases h : l.getD i true with
    | true => rfl
    | false =>
      exfalso
      have : i ∈ Region.ready md ops l := by
        unfold Region.ready
        rw [List.mem_filter]
        refine ⟨List.mem_range.2 hi, ?_⟩
        simp only [backB, List.all_eq_true, List.mem_range] at hb
        have hbi := hb i hi
        rw [Array.getElem?_eq_getElem hi] at hbi ⊢
        simp only [Option.map_some, Option.getD_some, h, Bool.not_false, Bool.true_and, Array.all_eq_true_iff_forall_mem, Bool.or_eq_true, decide_eq_true_eq] at hbi ⊢
        intro e he
        have hlt := hbi e he
        have := ih e.on hlt (by omega)
        refine .inr ?_
        have hs : e.on < l.size := by omega
        simpa [Array.getD_eq_getD_getElem?, Array.getElem?_eq_getElem hs] using this
      rw [hn] at this
      cases this
theorem any_order {I : Array Bool → Act → World → Prop} {rs : List Nat} (hb : backB ops = true) (hk : KeepAll P md ops Q S I rs)
    (hend : ∀ l a w, l.size = ops.size → (∀ i, i < ops.size → l.getD i true = true) → I l a w → Q .normal a w) :
    ∀ (fuel : Nat) (l : Array Bool) (a : Act) (w : World), l.size = ops.size → left ops.size l ≤ fuel → (∀ i, i < ops.size → l.getD i true = false → i ∈ rs) → I l a w → wpAnyH P md ops Q S fuel l a w
  | 0, l, a, w, hl, hf, hr, hI => by
    have hall : ∀ i, i < ops.size → l.getD i true = true := by
      intro i hi
      cases h : l.getD i true with
      | true => rfl
      | false =>
        have := left_set hi hl h
        omega
    refine ⟨?_, hend l a w hl hall hI⟩
    unfold Region.ready
    rw [List.filter_eq_nil_iff]
    intro i hi
    rw [hall i (List.mem_range.1 hi)]
    simp
  | fuel + 1, l, a, w, hl, hf, hr, hI => by
    refine ⟨fun h0 => hend l a w hl (ready_nil hl hb h0) hI, fun i hi => ?_⟩
    unfold Region.ready at hi
    rw [List.mem_filter] at hi
    obtain ⟨h1, h2⟩ := hi
    have hin := List.mem_range.1 h1
    simp only [Bool.and_eq_true, Bool.not_eq_true'] at h2
    refine wpOp_mono (fun a' w' h' => ⟨h'.1, any_order hb hk hend fuel _ a' w' (by simpa using hl) ?_ ?_ h'.2⟩) (hk i (hr i hin h2.1) l a w hl h2.1 (fun o ho => by have := h2.2; rw [ho] at this; simpa using this) hI)
    · have := left_set hin hl h2.1; omega
    · intro j hj h
      rw [getD_set _ _ _ _ (by omega)] at h
      split at h
      · cases h
      · exact hr j hj h
end
end Go.Proofs.Ytcpbcmebfiilmaa
