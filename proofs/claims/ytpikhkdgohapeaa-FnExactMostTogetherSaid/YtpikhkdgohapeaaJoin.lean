/- Three closed facts of the joined claim, which look at the first words of a long text: proved of its first words alone (the kernel's own reckoning of the whole text takes more than 10 GB). Without conditions. -/
import Derived.Test.YtpikhkdgohapeaaRows
import Derived.Test.YtpikhkdgohapeaaFrame
namespace Go.Proofs.Ytpikhkdgohapeaa
open Go.ChangeShapes Go.WideShapes Go.ChangeAt Go.RowKit

theorem words_one : ∀ (w r : List Char), (w.all fun c => c != (Char.ofNat (nat_lit 32))) = true → wordsSigns (w ++ (Char.ofNat (nat_lit 32)) :: r) = w :: wordsSigns r
  | [], r, _ => rfl
  | c :: w, r, h => by
    simp only [List.all_cons, Bool.and_eq_true, bne_iff_ne, ne_eq] at h
    have ih := words_one w r h.2
    have hc := h.1
    rw [List.cons_append, wordsSigns, ih]
    intro e
    exact hc e
theorem words_split (l : List Char) (h1 : l.take 8 = [(Char.ofNat (nat_lit 104)), (Char.ofNat (nat_lit 97)), (Char.ofNat (nat_lit 114)), (Char.ofNat (nat_lit 110)), (Char.ofNat (nat_lit 101)), (Char.ofNat (nat_lit 115)), (Char.ofNat (nat_lit 115)), (Char.ofNat (nat_lit 32))]) (h2 : (l.drop 72).take 5 = [(Char.ofNat (nat_lit 32)), (Char.ofNat (nat_lit 99)), (Char.ofNat (nat_lit 117)), (Char.ofNat (nat_lit 116)), (Char.ofNat (nat_lit 32))]) :
    l = [(Char.ofNat (nat_lit 104)), (Char.ofNat (nat_lit 97)), (Char.ofNat (nat_lit 114)), (Char.ofNat (nat_lit 110)), (Char.ofNat (nat_lit 101)), (Char.ofNat (nat_lit 115)), (Char.ofNat (nat_lit 115))] ++ (Char.ofNat (nat_lit 32)) :: ((l.drop 8).take 64 ++ (Char.ofNat (nat_lit 32)) :: ([(Char.ofNat (nat_lit 99)), (Char.ofNat (nat_lit 117)), (Char.ofNat (nat_lit 116))] ++ (Char.ofNat (nat_lit 32)) :: l.drop 77)) := by
  have e1 : l = l.take 8 ++ l.drop 8 := (List.take_append_drop 8 l).symm
  have e2 : l.drop 8 = (l.drop 8).take 64 ++ l.drop 72 := by
    have := (List.take_append_drop 64 (l.drop 8)).symm
    rwa [List.drop_drop] at this
  have e3 : l.drop 72 = (l.drop 72).take 5 ++ l.drop 77 := by
    have := (List.take_append_drop 5 (l.drop 72)).symm
    rwa [List.drop_drop] at this
  rw [h2] at e3
  rw [h1] at e1
  rw [e3] at e2
  rw [e2] at e1
  exact e1
set_option maxRecDepth 1000000 in
theorem order_first : ∃ L : List Char, Try.progTables.initOrder = String.ofList L ∧ L.take 8 = [(Char.ofNat (nat_lit 104)), (Char.ofNat (nat_lit 97)), (Char.ofNat (nat_lit 114)), (Char.ofNat (nat_lit 110)), (Char.ofNat (nat_lit 101)), (Char.ofNat (nat_lit 115)), (Char.ofNat (nat_lit 115)), (Char.ofNat (nat_lit 32))] ∧ (L.drop 72).take 5 = [(Char.ofNat (nat_lit 32)), (Char.ofNat (nat_lit 99)), (Char.ofNat (nat_lit 117)), (Char.ofNat (nat_lit 116)), (Char.ofNat (nat_lit 32))] ∧
    (((L.drop 8).take 64).all fun c => c != (Char.ofNat (nat_lit 32))) = true ∧ isSumSigns ((L.drop 8).take 64) = true := by
  delta Try.progTables
  dsimp only
  refine ⟨_, rfl, ?_, ?_, ?_, ?_⟩
  · rfl
  · rfl
  · kernel_rfl
  · kernel_rfl
theorem behind_first : ∃ ws, behindMainWord (wordsSigns Try.prog.initOrder.toList) = [(Char.ofNat (nat_lit 99)), (Char.ofNat (nat_lit 117)), (Char.ofNat (nat_lit 116))] :: ws := by
  obtain ⟨l, hl, h1, h2, h3, h4⟩ := order_first
  have e : Try.prog.initOrder.toList = l := by
    show Try.progTables.initOrder.toList = l
    rw [hl, String.toList_ofList]
  refine ⟨wordsSigns (l.drop 77), ?_⟩
  rw [e]
  have hw : wordsSigns l = [(Char.ofNat (nat_lit 104)), (Char.ofNat (nat_lit 97)), (Char.ofNat (nat_lit 114)), (Char.ofNat (nat_lit 110)), (Char.ofNat (nat_lit 101)), (Char.ofNat (nat_lit 115)), (Char.ofNat (nat_lit 115))] :: (l.drop 8).take 64 :: [(Char.ofNat (nat_lit 99)), (Char.ofNat (nat_lit 117)), (Char.ofNat (nat_lit 116))] :: wordsSigns (l.drop 77) := by
    conv => lhs; rw [words_split l h1 h2]
    rw [words_one _ _ (by decide), words_one _ _ h3, words_one _ _ (by decide)]
  rw [hw, behindMainWord, h4, if_pos (by decide)]
theorem make_of (P : Program) (ws : List (List Char)) (h : behindMainWord (wordsSigns P.initOrder.toList) = [(Char.ofNat (nat_lit 99)), (Char.ofNat (nat_lit 117)), (Char.ofNat (nat_lit 116))] :: ws) : P.make = some .cut := by
  unfold Program.make
  rw [h]
  rfl
theorem finals_of (P : Program) (ws : List (List Char)) (h : behindMainWord (wordsSigns P.initOrder.toList) = [(Char.ofNat (nat_lit 99)), (Char.ofNat (nat_lit 117)), (Char.ofNat (nat_lit 116))] :: ws) : P.liftsFinal = false := by
  unfold Program.liftsFinal Program.headLifts
  rw [h]
  rfl
theorem strip_cut (ws : List (List Char)) : stripLifts liftWords ([(Char.ofNat (nat_lit 99)), (Char.ofNat (nat_lit 117)), (Char.ofNat (nat_lit 116))] :: ws) = ([], [(Char.ofNat (nat_lit 99)), (Char.ofNat (nat_lit 117)), (Char.ofNat (nat_lit 116))] :: ws) := by rfl
theorem enter_of (P : Program) (ws : List (List Char)) (h : behindMainWord (wordsSigns P.initOrder.toList) = [(Char.ofNat (nat_lit 99)), (Char.ofNat (nat_lit 117)), (Char.ofNat (nat_lit 116))] :: ws) (h1 : P.laysLater = false) (h2 : P.bearsReflect = false) (h3 : P.doorFits [] = true) : P.mayEnter = true := by
  unfold Program.mayEnter
  rw [h]
  simp only [strip_cut, h1, h2, h3]
  rfl
theorem lays_no : Try.prog.laysLater = false := by kernel_rfl
theorem reflect_no : Try.prog.bearsReflect = false := by kernel_rfl
theorem door_ok : Try.prog.doorFits [] = true := by kernel_rfl
theorem made_cut : Try.prog.make = some .cut := by
  obtain ⟨ws, h⟩ := behind_first
  exact make_of _ ws h
theorem no_finals : Try.prog.liftsFinal = false := by
  obtain ⟨ws, h⟩ := behind_first
  exact finals_of _ ws h
theorem may_enter : Try.prog.mayEnter = true := by
  obtain ⟨ws, h⟩ := behind_first
  exact enter_of _ ws h lays_no reflect_no door_ok
end Go.Proofs.Ytpikhkdgohapeaa
