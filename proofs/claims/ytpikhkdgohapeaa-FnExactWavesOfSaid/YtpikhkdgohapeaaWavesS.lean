/- A contract of the reference's search for waves. Conditions: at most twelve performers, rows that can be read, an owned slice. -/
import Derived.Test.YtpikhkdgohapeaaClashFn
import Derived.Test.YtpikhkdgohapeaaIntsApp
import Derived.Test.YtpikhkdgohapeaaChart
namespace Go.Proofs.Ytpikhkdgohapeaa
open Go.RowKit

theorem l1Own_any (v : Value) (lo n : Nat) (xs : List Int) (w : World) (hv : w.ownsRow lo 3 1 v n (ints xs)) (hn : n ≤ 1000000) :
    Calls Try.prog 100 #[v] w fun e w' => ∃ u, e = .returned u ∧ w'.ownsRow w.heap.size 3 1 u n (ints xs) ∧ Below w.heap.size w w' := by
  have HV := Lib.hid (hv.alloc (.cells #[] 3))
  have HE := Lib.hid (show (w.alloc (.cells #[] 3)).ownsRow w.heap.size 3 1 (.slice (some ⟨w.heap.size, 0, none⟩) 0 0) 0 (ints []) from own_empty w 3 1)
  have HB := Lib.hid (below_new (Below.refl w.heap.size w) (.cells #[] 3))
  clear hv
  go_enter Try.func100, Try.ntmps100
  go_wp2_with (at_builtin; refine app_ints rfl _ _ rfl w.heap.size _ 0 [] rfl HE.out lo v n xs rfl HV.out (by omega) HB.out.size ?_; intro v9 w9 hr9 hg9)
  have HB9 := Lib.hid (HB.out.grown hg9 HB.out.size (fun k hk => (HE.out.lt k hk).1))
  have HO9 := Lib.hid (show w9.ownsRow w.heap.size 3 1 v9 n (ints xs) by
    have := hr9
    rwa [Nat.zero_add, List.nil_append] at this)
  clear hr9 hg9
  go_wp2_with fail
  go_ret
  exact ⟨_, rfl, HO9.out, HB9.out⟩
/-- Rows that can be read. -/
def RagR (w : World) (B b n : Nat) (cl : List (List Nat)) : Prop :=
  b < B ∧ ∀ j, j < n → ∃ s, w.cell? ⟨b, j, none⟩ = some s ∧ Rd w B 1 s (cl.getD j []).length (nats (cl.getD j []))
theorem RagR.below {w w' : World} {B b n : Nat} {cl : List (List Nat)} (h : RagR w B b n cl) {C : Nat} (hb : Below C w w') (hC : B ≤ C) : RagR w' B b n cl :=
  ⟨h.1, fun j hj => by
    obtain ⟨s, h1, h2⟩ := h.2 j hj
    exact ⟨s, (hb.cell (p := ⟨b, j, none⟩) (by have := h.1; show b < C; omega)).trans h1, h2.below' hb hC⟩⟩
theorem hasI_nats {h : List Nat} {w : Nat} : hasI (nats h) h.length (w : Int) = true ↔ w ∈ h := by
  constructor
  · intro hh
    simp only [hasI, List.any_eq_true, List.mem_range, beq_iff_eq] at hh
    obtain ⟨j, hj, e⟩ := hh
    rw [nats_get] at e
    have e2 : h.getD j 0 = w := by omega
    rw [List.getD_eq_getElem?_getD, List.getElem?_eq_getElem hj] at e2
    simp at e2
    subst e2
    exact List.getElem_mem hj
  · intro hw
    obtain ⟨j, hj, e⟩ := List.getElem_of_mem hw
    refine hasI_yes (k := j) hj ?_
    rw [nats_get, List.getD_eq_getElem?_getD, List.getElem?_eq_getElem hj]
    simp [e]
set_option maxRecDepth 100000 in
set_option maxHeartbeats 4000000 in
theorem cfWaves_any (q : Nat → Nat → Bool) (cl : List (List Nat)) (n m : Nat) (hn : n ≤ 12) (hm : m ≤ 12) (hcl : ∀ i, i < n → ∀ x, x ∈ cl.getD i [] ↔ x < i ∧ q i x = true) (hll : ∀ i, (cl.getD i []).length ≤ 144) :
    ∀ k i, i + k = n → ∀ (h : List Nat) (v : Value) (B b c lo : Nat) (w : World), h.length = i → RagR w B b n cl → B ≤ w.heap.size → lo ≤ w.heap.size → w.ownsRow lo 3 1 v i (ints (nats h)) →
    Calls Try.prog 86 #[.slice (some ⟨b, 0, none⟩) n c, v, .int .i64 (m : Int)] w fun e w' => ∃ r, e = .returned r ∧ w'.ownsRow lo 3 1 r ((fwS q m k h).getD []).length (ints (nats ((fwS q m k h).getD []))) ∧ Below w.heap.size w w' := by
  intro k
  induction k with
  | zero =>
    intro i hi h v B b c lo w hh hrag hB hlo hown
    obtain rfl : i = n := by omega
    have HO := Lib.hid (show w.ownsRow lo 3 1 v ((fwS q m 0 h).getD []).length (ints (nats ((fwS q m 0 h).getD []))) by
      rw [show (fwS q m 0 h).getD [] = h from rfl, hh]; exact hown)
    obtain ⟨A, cv, rfl⟩ := (Rd.of_own hown).form
    clear hrag hown hcl hll
    go_enter Try.func86, Try.ntmps86
    go_wp2_with fail
    go_ret
    exact ⟨_, rfl, HO.out, Below.refl _ _⟩
  | succ k ihk =>
    intro i hi h v B b c lo w hh hrag hB hlo hown
    have hin : i < n := by omega
    have HIH := Lib.hid ihk
    have HR := Lib.hid (fun W (hb : Below w.heap.size w W) => hrag.below hb hB)
    have HOV := Lib.hid hown
    obtain ⟨A, cv, rfl⟩ := (Rd.of_own hown).form
    have HFR := Lib.hid (fun a => ch_free (q := q) (cl := cl.getD i []) (h := h) (w := a) (by rw [hh]; exact hcl i hin))
    have HLL := Lib.hid hll
    have HCL := Lib.hid (hcl i hin)
    have HEQ := Lib.hid (show fwS q m (k + 1) h = fwTry q m (fwS q m k) h m 0 from rfl)
    have i0 : (0 : Int) ≤ (i : Int) := by omega
    have i1 : (i : Int) < (n : Int) := by omega
    have i2 : ((i : Int) == (n : Int)) = false := by simp; omega
    have i3 : ¬ (i : Int) = (n : Int) := by omega
    clear ihk hrag hown hcl hll
    go_enter Try.func86, Try.ntmps86
    go_wp2_with fail
    go_loopw [8] (fun s wr => ∃ a : Nat, a ≤ m ∧ s = .int .i64 a ∧ fwS q m (k + 1) h = fwTry q m (fwS q m k) h (m - a) a ∧ Below w.heap.size w wr) (fun s _ => m - (intOf s).toNat)
    case atStart => exact ⟨0, Nat.zero_le _, rfl, HEQ.out, Below.refl _ _⟩
    case round =>
      clear HEQ
      obtain ⟨a, ha, rfl, he, hb⟩ := hrel
      have HE := Lib.hid he
      have HB := Lib.hid hb
      clear he hb
      by_cases hlt : a < m
      · have a0 : (a : Int) < (m : Int) := by omega
        obtain ⟨v1, v2⟩ : (∃ v, m - a = v + 1 ∧ m - (a + 1) = v) ∧ True := ⟨⟨m - (a + 1), by omega, rfl⟩, trivial⟩
        obtain ⟨v, ev1, ev2⟩ := v1
        clear v2
        obtain ⟨hbB, hrow⟩ := HR.out wr HB.out
        obtain ⟨s, hs, hrd⟩ := hrow i hin
        obtain ⟨D, cd, rfl⟩ := hrd.form
        have HRD := Lib.hid hrd
        have hll := HLL.out i
        have hfr := HFR.out a
        have HOW := Lib.hid (own_below HOV.out HB.out (Nat.le_refl _))
        obtain ⟨wo, rfl⟩ : ∃ wo : World, wo = wr := ⟨_, rfl⟩
        have HCI := Lib.hid (fun x => (HCL.out x).1)
        obtain ⟨row, erow⟩ : ∃ r, cl.getD i [] = r := ⟨_, rfl⟩
        rw [erow] at HRD hll hfr HCI hs
        have HFA := Lib.hid hfr
        clear hrow hrd erow hfr
        go_wp2_with fail
        go_loopw [9, 30] (fun f s wq => ∃ j : Nat, j ≤ row.length ∧ s = .int .i64 j ∧ f = .bool (chTo row h a j) ∧ wq = wo) (fun _ s _ => row.length - (intOf s).toNat)
        case atStart => exact ⟨0, Nat.zero_le _, rfl, rfl, rfl⟩
        case round =>
          obtain ⟨j, hj, rfl, rfl, rfl⟩ := hrel
          by_cases hjr : j < row.length
          · have j0 : (0 : Int) ≤ (j : Int) := by omega
            have j1 : (j : Int) < (row.length : Int) := by omega
            obtain ⟨bd, od, rfl, _, hcd⟩ : ∃ b off, D = some ⟨b, off, none⟩ ∧ b < B ∧ ∀ j, j < row.length * 1 → wr.cell? ⟨b, off + j, none⟩ = some (.int .i64 ((nats row).getD j 0)) := by
              obtain ⟨_, A', c', e, h⟩ := HRD.out
              simp only [Value.slice.injEq, true_and] at e
              obtain ⟨rfl, rfl⟩ := e
              exact h (by omega)
            have x0 := hcd j (by omega)
            rw [nats_get] at x0
            have hmem := (HCI.out (row.getD j 0) (by
              rw [List.getD_eq_getElem?_getD, List.getElem?_eq_getElem hjr]; exact List.getElem_mem hjr)).1
            have hst : chTo row h a (j + 1) = (chTo row h a j || (h.getD (row.getD j 0) 0 == a)) := rfl
            obtain ⟨x, ex⟩ : ∃ x, row.getD j 0 = x := ⟨_, rfl⟩
            rw [ex] at x0 hmem hst
            have x1 : (0 : Int) ≤ (x : Int) := by omega
            have x2 : (x : Int) < (i : Int) := by omega
            obtain ⟨ba, oa, rfl, _, hca⟩ : ∃ b off, A = some ⟨b, off, none⟩ ∧ b < wr.heap.size ∧ ∀ j, j < i * 1 → wr.cell? ⟨b, off + j, none⟩ = some (.int .i64 ((nats h).getD j 0)) := by
              obtain ⟨_, A', c', e, h⟩ := Rd.of_own HOW.out
              simp only [Value.slice.injEq, true_and] at e
              obtain ⟨rfl, rfl⟩ := e
              exact h (by omega)
            have y0 := hca x (by omega)
            rw [nats_get] at y0
            obtain ⟨y, ey⟩ : ∃ y, h.getD x 0 = y := ⟨_, rfl⟩
            rw [ey] at y0 hst
            obtain ⟨fr, efr⟩ : ∃ f, chTo row h a j = f := ⟨_, rfl⟩
            rw [efr] at hst ⊢
            clear hcd hca ex ey efr hmem
            cases fr with
            | true =>
              have HST := Lib.hid (show chTo row h a (j + 1) = true by rw [hst]; rfl)
              clear hst
              go_wp2_with fail
              go_roundw
              case rel => exact ⟨j + 1, by omega, by go_num, by rw [HST.out], trivial⟩
              case measure => simp [intOf]; omega
            | false =>
              by_cases hya : y = a
              · subst hya
                have hey : ((y : Int) == (y : Int)) = true := by simp
                have HST := Lib.hid (show chTo row h y (j + 1) = true by rw [hst]; simp)
                clear hst
                go_wp2_with fail
                go_roundw
                case rel => exact ⟨j + 1, by omega, by go_num, by rw [HST.out], trivial⟩
                case measure => simp [intOf]; omega
              · have hey : ((y : Int) == (a : Int)) = false := by simp; omega
                have hey2 : ¬ (y : Int) = (a : Int) := by omega
                have HST := Lib.hid (show chTo row h a (j + 1) = false by rw [hst]; simp [hya])
                clear hst
                go_wp2_with fail
                go_roundw
                case rel => exact ⟨j + 1, by omega, by go_num, by rw [HST.out], trivial⟩
                case measure => simp [intOf]; omega
          · obtain rfl : j = row.length := by omega
            have hfa := HFA.out
            obtain ⟨fr, efr⟩ : ∃ f, chTo row h a row.length = f := ⟨_, rfl⟩
            rw [efr] at hfa ⊢
            clear efr
            cases fr with
            | true =>
              have HN := Lib.hid (show fwS q m (k + 1) h = fwTry q m (fwS q m k) h (m - (a + 1)) (a + 1) by rw [HE.out, ev1, fwTry, hfa, ev2]; rfl)
              clear hfa
              go_wp2_with fail
              go_roundw
              case rel => exact ⟨a + 1, by omega, by go_num, HN.out, HB.out⟩
              case measure => simp [intOf]; omega
            | false =>
              have hE2 : fwS q m (k + 1) h = (match fwS q m k (h ++ [a]) with
                | some r => some r
                | none => if a ∈ h then fwTry q m (fwS q m k) h v (a + 1) else none) := by rw [HE.out, ev1, fwTry, hfa]; rfl
              have HE2 := Lib.hid hE2
              clear hfa hE2
              go_wp2_with fail
              refine (l1Own_any _ lo i (nats h) _ HOW.out (by omega)).mono ?_
              rintro e w5 ⟨u5, rfl, o5, h5⟩
              have HO5 := Lib.hid (o5.alloc (.cells #[.int .i64 (a : Int)] 3))
              have HB5 := Lib.hid (below_new (below_on HB.out h5) (.cells #[.int .i64 (a : Int)] 3))
              have HZ5 := Lib.hid (show w.heap.size ≤ wr.heap.size from HB.out.size)
              have HZ6 := Lib.hid (show wr.heap.size ≤ (w5.alloc (.cells #[.int .i64 (a : Int)] 3)).heap.size from Nat.le_trans h5.size (by simp))
              have n0 := (Blk.new w5 3 #[.int .i64 (a : Int)]).c1
              clear o5 h5
              go_wp2_with (at_builtin; refine app_int rfl _ _ rfl wr.heap.size _ _ _ rfl HO5.out w5.heap.size (a : Int) rfl n0 (by omega) HZ6.out ?_; intro v9 w9 ho9 hg9)
              have HB9 := Lib.hid (HB5.out.grown hg9 HB5.out.size (fun g hg => Nat.le_trans HZ5.out (HO5.out.lt g hg).1))
              have HO9 := Lib.hid (show w9.ownsRow lo 3 1 v9 (i + 1) (ints (nats (h ++ [a]))) by
                have : nats (h ++ [a]) = nats h ++ [(a : Int)] := by simp [nats]
                rw [this]; exact own_base ho9 (Nat.le_trans hlo HZ5.out))
              clear ho9 hg9 n0 HO5 HB5
              refine (HIH.out (i + 1) (by omega) (h ++ [a]) v9 B b c lo w9 (by simp [hh]) (HR.out w9 HB9.out) (Nat.le_trans hB HB9.out.size) (Nat.le_trans hlo HB9.out.size) HO9.out).mono ?_
              rintro e w10 ⟨r, rfl, o10, h10⟩
              have HB10 := Lib.hid (below_on HB9.out h10)
              cases ho : fwS q m k (h ++ [a]) with
              | some rr =>
                have hlen := fwS_length ho
                rw [ho] at o10
                have HX := Lib.hid (show fwS q m (k + 1) h = some rr by rw [HE2.out, ho])
                have HO10 := Lib.hid (show w10.ownsRow lo 3 1 r rr.length (ints (nats rr)) from o10)
                obtain ⟨A2, c2, rfl⟩ := (Rd.of_own HO10.out).form
                have hp : (0 : Int) < (rr.length : Int) := by simp at hlen; omega
                clear o10 h10 ho hlen
                go_wp2_with fail
                go_ret
                exact ⟨_, rfl, by rw [HX.out]; exact HO10.out, HB10.out⟩
              | none =>
                rw [ho] at o10
                have HO10 := Lib.hid (show w10.ownsRow lo 3 1 r 0 (ints []) from o10)
                obtain ⟨A2, c2, rfl⟩ := (Rd.of_own HO10.out).form
                have HV10 := own_below HOV.out HB10.out (Nat.le_refl _)
                have hhas := l1Has_any (.slice A i cv) i w10.heap.size (nats h) (a : Int) w10 (RdP.of (Rd.of_own HV10) (Nat.le_refl _)) (Nat.le_refl _) (by omega)
                have hiff := hasI_nats (h := h) (w := a)
                rw [hh] at hiff
                obtain ⟨hb1, ehb⟩ : ∃ f, hasI (nats h) i (a : Int) = f := ⟨_, rfl⟩
                rw [ehb] at hhas hiff
                have HH := Lib.hid hhas
                cases hb1 with
                | true =>
                  have HN := Lib.hid (show fwS q m (k + 1) h = fwTry q m (fwS q m k) h (m - (a + 1)) (a + 1) by rw [HE2.out, ho, ev2]; simp only [if_pos (hiff.1 rfl)])
                  clear hhas hiff ehb o10 h10 ho HV10
                  go_wp2_with fail
                  refine HH.out.mono ?_
                  rintro e w11 ⟨rfl, rfl⟩
                  go_wp2_with fail
                  go_roundw
                  case rel => exact ⟨a + 1, by omega, by go_num, HN.out, HB10.out⟩
                  case measure => simp [intOf]; omega
                | false =>
                  have HN := Lib.hid (show fwS q m (k + 1) h = none by rw [HE2.out, ho]; simp only [if_neg (fun hmm => by have := hiff.2 hmm; cases this)])
                  clear hhas hiff ehb o10 h10 ho HV10
                  go_wp2_with fail
                  refine HH.out.mono ?_
                  rintro e w11 ⟨rfl, rfl⟩
                  go_wp2_with fail
                  go_ret
                  exact ⟨_, rfl, by rw [HN.out]; exact World.ownsRow_nil _ _ _ _, HB10.out⟩
      · obtain rfl : a = m := by omega
        have HN := Lib.hid (show fwS q a (k + 1) h = none by rw [HE.out, Nat.sub_self]; rfl)
        go_wp2_with fail
        go_ret
        exact ⟨_, rfl, by rw [HN.out]; exact World.ownsRow_nil _ _ _ _, HB.out⟩
end Go.Proofs.Ytpikhkdgohapeaa
