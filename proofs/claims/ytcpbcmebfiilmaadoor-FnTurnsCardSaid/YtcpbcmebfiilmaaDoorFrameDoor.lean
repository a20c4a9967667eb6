/- How a law over the table of names is closed from a walk, and that the table's condition gives its cells. Without conditions. -/
import Derived.Test.YtcpbcmebfiilmaaDoorFrame
import Derived.Test.YtcpbcmebfiilmaaDoorNames
import Derived.Test.YtcpbcmebfiilmaaDoorCards
import Derived.Test.YtcpbcmebfiilmaaDoorTie
import Derived.Deep.DeepHandedRow
import Derived.Lib.LaidTab
import Derived.WalkSmall
namespace Go.Proofs.YtcpbcmebfiilmaaDoor
open Go.ChangeShapes Go.WideShapes Go.ChangeAt Go.RowKit

theorem own : ownKnob Tryd.prog.godebug = none := by kernel_rfl
theorem gTab : Tryd.prog.globalNamed "loop.example/g00939/impl.facingNames" = some 0 := by kernel_rfl
theorem gTabType : (Tryd.prog.globals[0]?).map (·.type) = some 51 := by kernel_rfl
theorem cellsTab : Tryd.prog.cellsOf 51 = 8 := by kernel_rfl
theorem cellsStr : Tryd.prog.cellsOf 9 = 1 := by kernel_rfl

/-- What the row's list gives: the table's cells hold the names. -/
theorem tab_of_laid {W : World} (h : laidMet Tryd.prog [("loop.example/g00939/impl.facingNames", Rows.laid_loop_example_g00939_impl_facingNames)] W) : Tab W := by
  obtain ⟨ps, ⟨g', t', cs, fuel, p, q, hg', ht', hvar, hd, _, _⟩, _⟩ := h
  obtain rfl := Option.some.inj (gTab.symm.trans hg')
  obtain rfl := Option.some.inj (gTabType.symm.trans ht')
  obtain ⟨xs, m, _, hx, hl, hxl, hel⟩ := DataW.trod_array Tryd.underlying51 hd
  intro k hk
  have h1 := hel k hk
  rw [cellsStr, Nat.mul_one] at h1
  have hxk : xs[k]? = some xs[k] := List.getElem?_eq_getElem (by omega)
  rw [hxk] at h1
  obtain ⟨s, hs, hy, _⟩ := DataW.trod_string Tryd.underlying9 h1
  have hc : cs[k]? = some (.string s) := by
    have := congrArg (fun l : List Value => l[0]?) hs
    simpa [List.getElem?_take, List.getElem?_drop] using this
  rw [World.var?_cell gTab hvar k, hc]
  have hfst := congrArg Prod.fst hx
  simp only [Rows.laid_loop_example_g00939_impl_facingNames, DataW.agg.injEq] at hfst
  have hk2 : (xs.map (·.1))[k]? = some (.lit (.string s.data.toList)) := by
    rw [List.getElem?_map, hxk, hy]; rfl
  rw [← hfst] at hk2
  have key : ∀ l : List UInt8, (DataW.lit (.string l) : DataW Unit) = .lit (.string s.data.toList) → s = ⟨l.toArray⟩ := by
    intro l hl
    simp only [DataW.lit.injEq, Lit.string.injEq] at hl
    cases s; simp_all
  match k, hk, hk2 with
  | 0, _, hk2 => rw [key _ (Option.some.inj hk2)]; rfl
  | 1, _, hk2 => rw [key _ (Option.some.inj hk2)]; rfl
  | 2, _, hk2 => rw [key _ (Option.some.inj hk2)]; rfl
  | 3, _, hk2 => rw [key _ (Option.some.inj hk2)]; rfl
  | 4, _, hk2 => rw [key _ (Option.some.inj hk2)]; rfl
  | 5, _, hk2 => rw [key _ (Option.some.inj hk2)]; rfl
  | 6, _, hk2 => rw [key _ (Option.some.inj hk2)]; rfl
  | 7, _, hk2 => rw [key _ (Option.some.inj hk2)]; rfl

section
variable {H : Type} {enc : TypeId × Value → H} {W W' : World}
theorem law_postv {f : Func} {s : ChangeSpec} {args : Array Value} {ds gs : List (DataW H)} {before : List MemPlace} (hf : f.resultTypes = #[4])
    (hty : ∀ t ∈ f.params.toList, Tryd.prog.readableRec t = true ∧ t < Tryd.prog.types.size) (hvars : s.vars = ["loop.example/g00939/impl.facingNames"])
    (hW : DataW.Whole enc Tryd.prog f.params.toList s.vars false W args.toList ds gs before)
    (hr : (s.fn H (ds ++ gs)).results = [.lit (.bool true)]) (ha : (s.fn H (ds ++ gs)).args = ds) (hv : (s.fn H (ds ++ gs)).vars = gs) (hb : Below W.heap.size W W') :
    s.post enc Tryd.prog f false true false false W args (.bool true) W' := by
  have hlt := fun p hp => hW.lt p hp
  have hW0 := hW
  obtain ⟨p, q, hA, hV, rfl, _, _⟩ := hW
  rw [hvars] at hV
  obtain ⟨g, t, cs, fuel, d, pv, rfl, hg, ht, hvar, htr, rfl⟩ := trodVars_one hV
  obtain rfl := Option.some.inj (gTab.symm.trans hg)
  obtain rfl := Option.some.inj (gTabType.symm.trans ht)
  refine ⟨ds, [d], _, [], p, MemPlace.row ⟨0, 0, none⟩ cs.size ++ pv, hW0, ?_, ?_, ?_, World.keptBut_mono (fun x hx => ⟨hx, ?_⟩) (hb.frame (· ∈ p ++ (MemPlace.row ⟨0, 0, none⟩ cs.size ++ pv))), fun h => by cases h⟩
  · rw [hr, hf]
    exact trodAll_cons_mk (p := []) (p' := []) (shut_bool Tryd.underlying4 true) trodAll_mk0
  · rw [ha]
    exact trodAll_below rfl hb _ _ _ _ hty hA (fun x hx => hlt x (by simp [hx]))
  · rw [hv, hvars]
    have hT : DataW.Trod enc Tryd.prog W 0 (fun _ => true) true 51 (.agg cs) d pv := ⟨fuel, by simpa [Value.cells] using htr⟩
    obtain ⟨fuel', htr'⟩ := Below.trod laidOut (by kernel_rfl) (of_decide_eq_true (by kernel_rfl)) hT hb (fun x hx => hlt x (by simp [hx]))
    have hgl : 0 < W.heap.size := by
      unfold World.var? at hvar
      simp only [gTab, Option.bind_some] at hvar
      split at hvar
      · rename_i h; exact (Array.getElem?_eq_some_iff.1 h).1
      · cases hvar
    exact trodVars_mk1 gTab gTabType (var?_below hb gTab hgl hvar) (by simpa [Value.cells] using htr')
  · rcases List.mem_append.1 hx with hx | hx
    · exact .inr (.inl hx)
    · exact .inr (.inr hx)
end

/-- A world for the witness: the settled one, the table holding the names. -/
noncomputable def laidWorld (os : Os) : World :=
  { World.holding Tryd.prog os ⟨#[], #[], []⟩ with heap := (World.holding Tryd.prog os ⟨#[], #[], []⟩).heap.modify 0 fun
      | .cells _ t frozen => .cells namesV t frozen
      | o => o }
end Go.Proofs.YtcpbcmebfiilmaaDoor
