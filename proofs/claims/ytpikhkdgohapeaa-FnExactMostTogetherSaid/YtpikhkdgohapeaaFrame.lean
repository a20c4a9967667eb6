/- How an argument of a law is opened (whole numbers, slices of whole numbers and of structs of whole numbers), and how a law's row is closed from a walk that returns true and changes nothing that was there. Without conditions. -/
import Derived.Test.YtpikhkdgohapeaaMem
import Derived.Test.YtpikhkdgohapeaaProg
import Derived.KernelRfl
import Derived.ProofKit
import Derived.OpenShut
import Derived.Deep.Slices
namespace Go.Proofs.Ytpikhkdgohapeaa
open Go.ChangeShapes Go.WideShapes Go.ChangeAt Go.RowKit

theorem laidOut : laidOutB Try.prog = true := by kernel_rfl

section
variable {H : Type} {enc : TypeId × Value → H} {W W' : World}

theorem trodAll_below {B : Nat} (hB : B = W.heap.size) (hb : Below W.heap.size W W') : ∀ (ts : List TypeId) (vs : List Value) (ds : List (DataW H)) (ps : List MemPlace),
    (∀ t ∈ ts, Try.prog.readableRec t = true ∧ t < Try.prog.types.size) → DataW.TrodAll enc Try.prog W 0 (fun _ => true) true ts vs ds ps → (∀ p ∈ ps, p.block < W.heap.size) →
    DataW.TrodAll enc Try.prog W' 0 (fun b => decide (b < B)) true ts vs ds ps
  | [], vs, ds, ps, _, h, _ => by
    obtain ⟨rfl, rfl, rfl⟩ := trodAll_nil h
    exact rfl
  | t :: ts, vs, ds, ps, ht, h, hlt => by
    obtain ⟨v, vs', d, ds', p, q, rfl, rfl, rfl, h1, h2⟩ := trodAll_cons h
    have ht1 := ht t (by simp)
    refine trodAll_cons_mk ?_ (trodAll_below hB hb ts vs' ds' q (fun x hx => ht x (by simp [hx])) h2 (fun x hx => hlt x (by simp [hx])))
    subst hB
    exact Below.trod laidOut ht1.1 ht1.2 h1 hb (fun x hx => hlt x (by simp [hx]))

/-- What the row asks behind the call, from 'returned true, and nothing that was there has changed'. -/
theorem law_post {f : Func} {s : ChangeSpec} {args : Array Value} {ds gs : List (DataW H)} {before : List MemPlace} (hf : f.resultTypes = #[4])
    (hty : ∀ t ∈ f.params.toList, Try.prog.readableRec t = true ∧ t < Try.prog.types.size) (hvars : s.vars = [])
    (hW : DataW.Whole enc Try.prog f.params.toList s.vars false W args.toList ds gs before)
    (hr : (s.fn H (ds ++ gs)).results = [.lit (.bool true)]) (ha : (s.fn H (ds ++ gs)).args = ds) (hv : (s.fn H (ds ++ gs)).vars = []) (hb : Below W.heap.size W W') :
    s.post enc Try.prog f false true false false W args (.bool true) W' := by
  have hlt := fun p hp => hW.lt p hp
  have hW0 := hW
  obtain ⟨p, q, hA, hV, rfl, _, _⟩ := hW
  rw [hvars] at hV
  obtain ⟨rfl, rfl⟩ := trodVars_none hV
  refine ⟨ds, [], _, [], p, [], hW0, ?_, ?_, ?_, World.keptBut_mono (fun x hx => ⟨hx, ?_⟩) (hb.frame (· ∈ p ++ [])), fun h => by cases h⟩
  · rw [hr, hf]
    exact trodAll_cons_mk (p := []) (p' := []) (shut_bool Try.underlying4 true) trodAll_mk0
  · rw [ha]
    exact trodAll_below rfl hb _ _ _ _ hty hA (fun x hx => hlt x (by simp [hx]))
  · rw [hv, hvars]
    rfl
  · exact .inr (.inl (by simpa using hx))

/-! ### Types all of whose cells are whole numbers -/
def IntsOnly (t : TypeId) (n : Nat) : Prop :=
  ∀ (w : World) (base : Nat) (spare : Nat → Bool) (held : Bool) (fuel : Nat) (cs : List Value) (x : DataW H × List MemPlace), DataW.trod enc Try.prog w base spare held fuel t cs = some x →
    ∃ xs : List Int, xs.length = n ∧ cs = ints xs ∧ ∀ z ∈ xs, -9223372036854775808 ≤ z ∧ z ≤ 9223372036854775807

theorem intsOnly_int : IntsOnly (enc := enc) 3 1 := by
  intro w base spare held fuel cs x h
  obtain ⟨n, rfl, _, hw⟩ := DataW.trod_int Try.underlying3 h
  have hmin : IntKind.i64.min = -9223372036854775808 := rfl
  have hmax : IntKind.i64.max = 9223372036854775807 := rfl
  simp only [Lit.wf, Bool.and_eq_true, decide_eq_true_eq, hmin, hmax] at hw
  exact ⟨[n], rfl, rfl, by simpa using hw⟩

/-- Fields one behind the other. -/
def inRow (P : Program) : Nat → List Field → List Nat → Prop
  | _, [], [] => True
  | off, f :: fs, n :: ns => f.offset = off ∧ P.cellsOf f.type = n ∧ inRow P (off + n) fs ns
  | _, _, _ => False

theorem intsOnly_fields {w : World} {base : Nat} {spare : Nat → Bool} {held : Bool} {n : Nat} : ∀ (fs : List Field) (ns : List Nat) (off : Nat) (cs : List Value) (xs : List (DataW H × List MemPlace)),
    inRow Try.prog off fs ns → (∀ (i : Nat) (f : Field) (k : Nat), fs[i]? = some f → ns[i]? = some k → IntsOnly (enc := enc) f.type k) → xs.length = fs.length →
    (∀ (i : Nat) (f : Field), fs[i]? = some f → DataW.trod enc Try.prog w base spare held n f.type ((cs.drop f.offset).take (Try.prog.cellsOf f.type)) = xs[i]?) →
    ∃ ys : List Int, ys.length = ns.sum ∧ (cs.drop off).take ns.sum = ints ys ∧ ∀ z ∈ ys, -9223372036854775808 ≤ z ∧ z ≤ 9223372036854775807
  | [], [], off, cs, xs, _, _, _, _ => ⟨[], rfl, by simp [ints], by simp⟩
  | [], _ :: _, _, _, _, h, _, _, _ => h.elim
  | _ :: _, [], _, _, _, h, _, _, _ => h.elim
  | f :: fs, k :: ks, off, cs, xs, h, ho, hl, ht => by
    obtain ⟨h1, h2, h3⟩ := h
    match xs, hl with
    | x :: xs', hl =>
      have t0 := ht 0 f rfl
      rw [h1, h2] at t0
      obtain ⟨ys, y1, y2, y3⟩ := ho 0 f k rfl rfl _ _ _ _ _ _ _ t0
      obtain ⟨zs, z1, z2, z3⟩ := intsOnly_fields fs ks (off + k) cs xs' h3 (fun i f' k' hf' hk' => ho (i + 1) f' k' (by simpa using hf') (by simpa using hk')) (by simpa using hl)
        (fun i f' hf' => by simpa using ht (i + 1) f' (by simpa using hf'))
      refine ⟨ys ++ zs, by simp [y1, z1], ?_, ?_⟩
      · rw [List.sum_cons, List.take_add, y2, List.drop_drop, z2, ints_append]
      · intro z hz
        rcases List.mem_append.1 hz with hz | hz
        · exact y3 z hz
        · exact z3 z hz

theorem intsOnly_struct {t : TypeId} {fs : Array Field} (ns : List Nat) (n : Nat) (ht : Try.prog.underlying t = some (.struct fs)) (hn : ns.sum = n) (hC : Try.prog.cellsOf t = n) (hrow : inRow Try.prog 0 fs.toList ns)
    (ho : ∀ (i : Nat) (f : Field) (k : Nat), fs.toList[i]? = some f → ns[i]? = some k → IntsOnly (enc := enc) f.type k) : IntsOnly (enc := enc) t n := by
  intro w base spare held fuel cs x h
  obtain ⟨xs, m, _, _, hl, hx, hf⟩ := DataW.trod_struct ht h
  obtain ⟨ys, h1, h2, h3⟩ := intsOnly_fields fs.toList ns 0 cs xs hrow ho (by simpa using hx) (fun i f hi => hf i f (by simpa using hi))
  refine ⟨ys, by omega, ?_, h3⟩
  rw [← h2, List.drop_zero, List.take_of_length_le (by omega)]

/-- A slice of such a type can be read. -/
theorem rd_slice {t e : TypeId} {sz fuel : Nat} {v : Value} {x : DataW H × List MemPlace} {w : World} {base : Nat} {spare : Nat → Bool} {held : Bool} (ht : Try.prog.underlying t = some (.slice e)) (hC : Try.prog.cellsOf e = sz) (hsz : 0 < sz)
    (ho : IntsOnly (enc := enc) e sz) (h : DataW.trod enc Try.prog w base spare held fuel t [v] = some x) :
    ∃ (n : Nat) (xs : List Int), Rd w w.heap.size sz v n xs ∧ n ≤ maxLen ∧ ∀ z ∈ xs, -9223372036854775808 ≤ z ∧ z ≤ 9223372036854775807 := by
  rcases Go.Deep.open_slice ht h with ⟨hcs, _⟩ | ⟨a, len, cap, m, n, D, Pl, hcs, _, hl, hm, hmm, _, hel⟩
  · simp only [List.cons.injEq, and_true] at hcs
    subst hcs
    exact ⟨0, [], ⟨by simp, none, 0, rfl, fun h => absurd h (by omega)⟩, Nat.zero_le _, by simp⟩
  · simp only [List.cons.injEq, and_true] at hcs
    subst hcs
    rw [hC] at hel
    have hle : len ≤ m := by rw [hmm]; split <;> omega
    have each : ∀ j, j < len * sz → ∃ z : Int, w.cell? (a.add j) = some (.int .i64 z) ∧ -9223372036854775808 ≤ z ∧ z ≤ 9223372036854775807 := by
      intro j hj
      have hi : j / sz < len := by rw [Nat.div_lt_iff_lt_mul hsz]; exact hj
      have hq : j % sz < sz := Nat.mod_lt _ hsz
      obtain ⟨cs', hc, htr⟩ := hel (j / sz) (by omega)
      obtain ⟨ys, y1, rfl, y3⟩ := ho _ _ _ _ _ _ _ htr
      obtain ⟨_, _, hat⟩ := World.cells?_some hc
      have h1 := hat (j % sz) hq
      rw [Go.Deep.add_add, show j / sz * sz + j % sz = j by rw [Nat.mul_comm]; exact Nat.div_add_mod j sz, ints_get ys _ (by omega)] at h1
      refine ⟨_, h1, y3 _ ?_⟩
      rw [List.getD_eq_getElem?_getD, List.getElem?_eq_getElem (by omega)]
      exact List.getElem_mem _
    let g : Nat → Int := fun j => match w.cell? (a.add j) with | some (.int _ z) => z | _ => 0
    have hg : ∀ j, j < len * sz → w.cell? (a.add j) = some (.int .i64 (g j)) ∧ -9223372036854775808 ≤ g j ∧ g j ≤ 9223372036854775807 := by
      intro j hj
      obtain ⟨z, hz, hb⟩ := each j hj
      have : g j = z := by simp [g, hz]
      rw [this]
      exact ⟨hz, hb⟩
    refine ⟨len, (List.range (len * sz)).map g, ⟨by simp, some a, cap, rfl, fun hn => ?_⟩, by omega, ?_⟩
    · have h0 := (hg 0 (Nat.mul_pos hn hsz)).1
      have hadd0 : a.add 0 = a := by simp [Addr.add]
      rw [hadd0] at h0
      have hb := block_lt_of_cell h0
      obtain ⟨b, off, sp⟩ := a
      have hsp : sp = none := by
        cases sp with
        | none => rfl
        | some q =>
          exfalso
          unfold World.cell? at h0
          split at h0 <;> simp at h0
      subst hsp
      refine ⟨b, off, rfl, hb, fun j hj => ?_⟩
      have hadd : (⟨b, off, none⟩ : Addr).add j = ⟨b, off + j, none⟩ := by unfold Addr.add; split <;> simp_all
      have h2 := (hg j hj).1
      rw [hadd] at h2
      rw [h2]
      simp [hj]
    · intro z hz
      simp only [List.mem_map, List.mem_range] at hz
      obtain ⟨j, hj, rfl⟩ := hz
      exact (hg j hj).2

set_option maxRecDepth 100000 in
/-- An argument that is a slice. -/
theorem rd_arg {t e : TypeId} {sz : Nat} {v : Value} {d : DataW H} {ps : List MemPlace} {w : World} {base : Nat} {spare : Nat → Bool} {held : Bool} {r : Reach} {b0 : Nat} (ht : Try.prog.underlying t = some (.slice e)) (hC : Try.prog.cellsOf e = sz) (hsz : 0 < sz)
    (ho : IntsOnly (enc := enc) e sz) (hv : Value.okWide Try.prog w r b0 t v) (h : DataW.Trod enc Try.prog w base spare held t v d ps) :
    ∃ (n : Nat) (xs : List Int), Rd w w.heap.size sz v n xs ∧ n ≤ maxLen ∧ ∀ z ∈ xs, -9223372036854775808 ≤ z ∧ z ≤ 9223372036854775807 := by
  obtain ⟨a, len, cap, rfl⟩ := okWide_slice ht hv
  obtain ⟨fuel, hf⟩ := h
  exact rd_slice ht hC hsz ho (by simpa [Value.cells] using hf)

set_option maxRecDepth 100000 in
/-- An argument that is a struct of whole numbers. -/
theorem agg_arg {t : TypeId} {fs : Array Field} {n : Nat} {v : Value} {d : DataW H} {ps : List MemPlace} {w : World} {base : Nat} {spare : Nat → Bool} {held : Bool} {r : Reach} {b0 : Nat} (ht : Try.prog.underlying t = some (.struct fs))
    (ho : IntsOnly (enc := enc) t n) (hv : Value.okWide Try.prog w r b0 t v) (h : DataW.Trod enc Try.prog w base spare held t v d ps) :
    ∃ xs : List Int, xs.length = n ∧ v = .agg (ints xs).toArray ∧ ∀ z ∈ xs, -9223372036854775808 ≤ z ∧ z ≤ 9223372036854775807 := by
  obtain ⟨cs, rfl, _⟩ := okWide_struct ht hv
  obtain ⟨fuel, hf⟩ := h
  obtain ⟨xs, h1, h2, h3⟩ := ho _ _ _ _ _ _ _ hf
  refine ⟨xs, h1, ?_, h3⟩
  have : cs.toList = ints xs := by simpa [Value.cells] using h2
  rw [← this]
end
end Go.Proofs.Ytpikhkdgohapeaa
