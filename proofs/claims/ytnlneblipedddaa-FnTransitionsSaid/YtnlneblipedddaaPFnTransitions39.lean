/- Plain laws of FnSwaps, and TransitionMoves on both sides for any transition. Condition: the transition's slices can be read. No matching has a less sum than the least transition, no swap betters it, none has a less farthest way than the even one, and the charts behind them have the places: plain laws. Condition: charts between which there is a transition. Contracts of the chart behind a transition, on both sides, and of the program's test whether two charts are the same form. Conditions: the transition is good, and its slices can be read; both are charts, and each spot of one lies in the other. Contracts of PlainTransition on both sides. Conditions: short slices that are owned. -/
import Derived.Test.YtnlneblipedddaaPFnTransitions38
import Derived.Test.YtnlneblipedddaaPFnTransitions26
import Derived.Test.YtnlneblipedddaaPFnTransitions34
import Derived.Test.YtnlneblipedddaaPFnTransitions13
import Derived.Test.YtnlneblipedddaaPFnTransitions30
import Derived.Test.YtnlneblipedddaaPFnTransitions35
import Derived.Test.YtnlneblipedddaaPFnTransitions18
import Derived.Test.YtnlneblipedddaaPFnTransitions16
namespace Go.Proofs.Ytnlneblipedddaa
open Go.RowKit

theorem in_of {x a b : Int} (h1 : a ≤ x) (h2 : x ≤ b) : inB x a b = true := by simp [inB]; omega
theorem sp_of {t : TrN} {i k : Int} (h : trB t = true) (hi : 0 ≤ i ∧ i < t.n) (hk : 0 ≤ k ∧ k < t.n) : spB t i k = true := by
  have h1 := in_of (x := i) (a := 0) (b := (t.n : Int) - 1) hi.1 (by omega)
  have h2 := in_of (x := k) (a := 0) (b := (t.n : Int) - 1) hk.1 (by omega)
  simp [spB, hpB, h, h1, h2]
theorem sp_is {t : TrN} {i k : Int} (h : spB t i k = true) : spT t i k = swT t i.toNat k.toNat := by simp [spT, h]
theorem sw_back (t : TrN) {i k : Nat} (hi : i < t.ps.length) (hk : k < t.ps.length) : swT (swT t i k) i k = t := by
  have h := sw_twice t.ps i k hi hk
  obtain ⟨n, xs, m, ys, c, p, ps⟩ := t
  simp only [swT] at h ⊢
  rw [h]
theorem sp_back {t : TrN} {i k : Int} (hl : t.ps.length = t.p) (h : spB t i k = true) : spB (spT t i k) i k = true ∧ spT (spT t i k) i k = t := by
  obtain ⟨h1, h2, h3⟩ := sp_yes h
  have hok := tr_ok h1
  have hp := hok.p
  have hg := sw_good h1 hl (i := i.toNat) (k := k.toNat) (by omega) (by omega)
  have hb : spB (swT t i.toNat k.toNat) i k = true := sp_of hg (by show 0 ≤ i ∧ i < t.n; omega) (by show 0 ≤ k ∧ k < t.n; omega)
  rw [sp_is h]
  exact ⟨hb, by rw [sp_is hb]; exact sw_back t (by omega) (by omega)⟩
theorem sp_small {t : TrN} {i k : Int} (h : t.small) : (spT t i k).small := by
  unfold spT
  split
  · exact h
  · exact ⟨by decide, by decide, by decide⟩
theorem bs_good {t : TrN} (hl : t.ps.length = t.p) (h : bsB t = true) : trB t = true ∧ 1 ≤ (bsV t).2.2 ∧ (bsV t).2.2 ≤ 25200000 ∧ (bsV t).1 < (bsV t).2.1 ∧ (bsV t).2.1 < t.n ∧ (bsV t).2.2 = gaT t (bsV t).1 (bsV t).2.1 := by
  cases hg : trB t with
  | false => rw [(bs_no hg).2] at h; cases h
  | true =>
    obtain ⟨h1, h2⟩ := bs_yes hg
    have ho := bsOut_ok hg hl t.n (Nat.le_refl _)
    rw [h1]
    rw [h2] at h
    obtain ⟨h3, h4, h5⟩ := ho
    rcases h5 with h5 | ⟨h5, h6, h7, h8⟩
    · rw [h5] at h; cases h
    · exact ⟨rfl, h5, h4, h6, h7, h8⟩
/-- What both sides say of the moves. -/
def moN (t : TrN) : Nat := if trB t = true then t.n else 0
def moL (t : TrN) : List Int := if trB t = true then mvTo t t.n else []
theorem mo_yes {t : TrN} (h : trB t = true) : moN t = t.n ∧ moL t = mvTo t t.n := by simp [moN, moL, h]
theorem mo_no {t : TrN} (h : trB t = false) : moN t = 0 ∧ moL t = [] := by simp [moN, moL, h]
theorem mo_le {t : TrN} (h : t.small) : moN t ≤ 1048576 := by
  unfold moN
  split
  · exact h.1
  · omega
theorem OwnA.keep {w w' : World} {lo : Nat} {v : Value} {t : TrN} (h : OwnA w lo v t) (hb : Below w.heap.size w w') : OwnA w' lo v t := h.below hb (Nat.le_refl _)
theorem OwnA.len {w : World} {lo : Nat} {v : Value} {t : TrN} (h : OwnA w lo v t) : t.ps.length = t.p := by
  obtain ⟨va, vb, vc, e, h1, h2, h3⟩ := h
  have := h3.1
  rw [ints_length] at this
  omega
end Go.Proofs.Ytnlneblipedddaa

namespace Go.Proofs.Ytnlneblipedddaa

/-- A transition between two charts of n spots. -/
def tw (n : Nat) (xs ys : List Int) (c : Int) (ps : List Int) : TrN := ⟨n, xs, n, ys, c, n, ps⟩
section
variable {n : Nat} {xs ys ps qs : List Int} {c : Int}
theorem tw_good (h : aaB n xs n ys c = true) (hp : maB n n ps = true) : trB (tw n xs ys c ps) = true := by
  simp only [aaB, Bool.and_eq_true] at h
  simp [trB, tw, h.1.1, h.1.2.1, h.2, hp]
theorem tw_plc (h : trB (tw n xs ys c ps) = true) : (∀ i, i < n → plc (tw n xs ys c ps) i < n) ∧ ∀ i j, i < n → j < n → plc (tw n xs ys c ps) i = plc (tw n xs ys c ps) j → i = j := by
  have hok := tr_ok h
  refine ⟨fun i hi => (hok.place i hi).2, fun i j hi hj he => ?_⟩
  simp only [trB, Bool.and_eq_true] at h
  refine (ma_iff.1 h.2.2.2.2).2.2 i j hi hj ?_
  have h1 := (hok.place i hi).1
  have h2 := (hok.place j hj).1
  show (tw n xs ys c ps).ps.getD i 0 = (tw n xs ys c ps).ps.getD j 0
  rw [h1, h2, he]
theorem tw_cost (h : trB (tw n xs ys c ps) = true) {i : Nat} (hi : i < n) : mSq (tw n xs ys c ps) i = coC xs ys n i (plc (tw n xs ys c ps) i) :=
  (co_cst (xs := xs) (ys := ys) hi ((tw_plc h).1 i hi)).symm
theorem tw_sum (h : trB (tw n xs ys c ps) = true) : ∀ k, k ≤ n → suT (tw n xs ys c ps) k = hdS (coC xs ys n) (plc (tw n xs ys c ps)) k
  | 0, _ => rfl
  | k + 1, hk => by
    rw [suT, hdS, tw_sum h k (by omega), tw_cost h (by omega)]
theorem hdS_congr {C : Nat → Nat → Int} {f g : Nat → Nat} : ∀ k, (∀ i, i < k → f i = g i) → hdS C f k = hdS C g k
  | 0, _ => rfl
  | k + 1, h => by
    rw [hdS, hdS, hdS_congr k (fun i hi => h i (by omega)), h k (by omega)]
theorem aa_cost (h : aaB n xs n ys c = true) : CostOk (coC xs ys n) := by
  obtain ⟨_, _, _, hx, hy⟩ := aa_yes h
  exact co_ok hx hy
theorem aa_n (h : aaB n xs n ys c = true) : 1 ≤ n ∧ n ≤ 12 := (aa_yes h).1
/-! ### The least one -/
theorem lt_good (h : aaB n xs n ys c = true) : trB (tw n xs ys c (ltP n xs ys)) = true := tw_good h (mlL_ma (aa_cost h) (aa_n h).2)
theorem lt_is (h : aaB n xs n ys c = true) : ltT n xs n ys c = tw n xs ys c (ltP n xs ys) := by simp [ltT, h, tw]
theorem lt_least (h : aaB n xs n ys c = true) (hg : trB (tw n xs ys c ps) = true) : suT (tw n xs ys c (ltP n xs ys)) n ≤ suT (tw n xs ys c ps) n := by
  rw [tw_sum (lt_good h) n (Nat.le_refl _), tw_sum hg n (Nat.le_refl _)]
  have e : hdS (coC xs ys n) (plc (tw n xs ys c (ltP n xs ys))) n = hdS (coC xs ys n) (mlQ (coC xs ys n) (tb (coC xs ys n) n) n) n := by
    refine hdS_congr n fun i hi => ?_
    show ((mlL (coC xs ys n) (tb (coC xs ys n) n) n n).getD i 0).toNat = _
    rw [mlL_get (aa_cost h) (aa_n h).2 hi (Nat.le_refl _), Int.toNat_natCast]
  rw [e]
  exact ml_least (aa_cost h) (aa_n h).2 (tw_plc hg).1 (tw_plc hg).2
theorem ltP_length : (ltP n xs ys).length = n := mlL_length _ _ _ _
theorem lt_noswap (h : aaB n xs n ys c = true) : bsB (tw n xs ys c (ltP n xs ys)) = false := by
  cases hb : bsB (tw n xs ys c (ltP n xs ys)) with
  | false => rfl
  | true =>
    have hl : (tw n xs ys c (ltP n xs ys)).ps.length = (tw n xs ys c (ltP n xs ys)).p := ltP_length
    obtain ⟨h1, h2, _, h3, h4, h5⟩ := bs_good hl hb
    have hs := sw_good h1 hl (i := (bsV (tw n xs ys c (ltP n xs ys))).1) (k := (bsV (tw n xs ys c (ltP n xs ys))).2.1) (by omega) h4
    rw [gaT] at h5
    have := lt_least (c := c) h hs
    have e : (tw n xs ys c (ltP n xs ys)).n = n := rfl
    rw [e] at h5
    have e2 : suT (swT (tw n xs ys c (ltP n xs ys)) (bsV (tw n xs ys c (ltP n xs ys))).1 (bsV (tw n xs ys c (ltP n xs ys))).2.1) n = suT (tw n xs ys c (((ltP n xs ys).set (bsV (tw n xs ys c (ltP n xs ys))).1 ((ltP n xs ys).getD (bsV (tw n xs ys c (ltP n xs ys))).2.1 0)).set (bsV (tw n xs ys c (ltP n xs ys))).2.1 ((ltP n xs ys).getD (bsV (tw n xs ys c (ltP n xs ys))).1 0))) n := rfl
    rw [e2] at h5
    have this2 : suT (tw n xs ys c (ltP n xs ys)) n ≤ suT (tw n xs ys c (((ltP n xs ys).set (bsV (tw n xs ys c (ltP n xs ys))).1 ((ltP n xs ys).getD (bsV (tw n xs ys c (ltP n xs ys))).2.1 0)).set (bsV (tw n xs ys c (ltP n xs ys))).2.1 ((ltP n xs ys).getD (bsV (tw n xs ys c (ltP n xs ys))).1 0))) n := this
    omega
/-! ### The even one -/
theorem mxL_get (C : Nat → Nat → Int) (T : Nat → Int) (m : Int) (n : Nat) : ∀ {k i}, i < k → (mxL C T m n k).getD i 0 = fst (mxP C T m i (mxS C T m n i)) n
  | k + 1, i, hi => by
    have hl := mxL_length C T m n k
    rw [mxL, List.getD_eq_getElem?_getD]
    by_cases e : i = k
    · subst e
      rw [List.getElem?_append_right (by omega), hl, Nat.sub_self]
      rfl
    · rw [List.getElem?_append_left (by omega), ← List.getD_eq_getElem?_getD]
      exact mxL_get C T m n (by omega)
theorem ev_cost {C : Nat → Nat → Int} (hC : CostOk C) (hn : n ≤ 12) {i : Nat} (hi : i < n) : C i ((evL C n).getD i 0).toNat ≤ evM C n := by
  rw [evL, mxL_get _ _ _ _ hi]
  have h := fst_is (mx_hit hC hn hi).2
  simp only [mxP, Bool.and_eq_true, decide_eq_true_eq] at h
  have h2 := h.2
  omega
theorem evL_ma {C : Nat → Nat → Int} (hC : CostOk C) (hn : n ≤ 12) : maB n n (evL C n) = true := by
  have h := (mx_same hC hn (ev_bound hC n).1 (Int.le_refl (evM C n)) n (Nat.le_refl _)).2.1
  rw [evL, h]
  exact mlL_ma (mark_ok C _) hn
theorem tlM_le {C : Nat → Nat → Int} {f : Nat → Nat} {M : Int} (h0 : 0 ≤ M) (h : ∀ i, i < n → C i (f i) ≤ M) : ∀ k, k ≤ n → tlM C f n k ≤ M
  | 0, _ => h0
  | k + 1, hk => by
    have h1 := tlM_le h0 h k (by omega)
    have h2 := h (n - (k + 1)) (by omega)
    rw [tlM]
    omega
theorem ev_good (h : aaB n xs n ys c = true) : trB (tw n xs ys c (evP n xs ys)) = true := tw_good h (evL_ma (aa_cost h) (aa_n h).2)
theorem ev_is (h : aaB n xs n ys c = true) : evT n xs n ys c = tw n xs ys c (evP n xs ys) := by simp [evT, h, tw]
theorem ev_least (h : aaB n xs n ys c = true) (hg : trB (tw n xs ys c ps) = true) : mSq (tw n xs ys c (evP n xs ys)) (faT (tw n xs ys c (evP n xs ys)) n) ≤ mSq (tw n xs ys c ps) (faT (tw n xs ys c ps) n) := by
  have hn := aa_n h
  have hC := aa_cost h
  have hf := faT_lt (t := tw n xs ys c (evP n xs ys)) (k := n) hn.1
  have hf2 := faT_lt (t := tw n xs ys c ps) (k := n) hn.1
  have h1 : mSq (tw n xs ys c (evP n xs ys)) (faT (tw n xs ys c (evP n xs ys)) n) ≤ evM (coC xs ys n) n := by
    rw [tw_cost (ev_good h) hf]
    exact ev_cost hC hn.2 hf
  have h2 := mx_least (C := coC xs ys n) (tw_plc hg).1 (tw_plc hg).2 n (Nat.le_refl _)
  rw [sfx_full (tw_plc hg).1 (tw_plc hg).2] at h2
  have h3 := tlM_le (C := coC xs ys n) (f := plc (tw n xs ys c ps)) (M := mSq (tw n xs ys c ps) (faT (tw n xs ys c ps) n)) (n := n) (mSq_in (tr_ok hg) hf2).1 (fun i hi => by
    rw [← tw_cost hg hi]
    exact (faT_is (t := tw n xs ys c ps) n).2.1 i hi) n (Nat.le_refl _)
  have h4 : evM (coC xs ys n) n = mx (coC xs ys n) n (2 ^ n - 1) := rfl
  omega
/-! ### The plain one -/
def idL : Nat → List Int
  | 0 => []
  | k + 1 => idL k ++ [(k : Int)]
theorem idL_length : ∀ k, (idL k).length = k
  | 0 => rfl
  | k + 1 => by rw [idL, List.length_append, idL_length k]; rfl
theorem idL_get : ∀ {k i}, i < k → (idL k).getD i 0 = (i : Int)
  | k + 1, i, hi => by
    have hl := idL_length k
    rw [idL, List.getD_eq_getElem?_getD]
    by_cases e : i = k
    · subst e
      rw [List.getElem?_append_right (by omega), hl, Nat.sub_self]
      rfl
    · rw [List.getElem?_append_left (by omega), ← List.getD_eq_getElem?_getD]
      exact idL_get (by omega)
theorem idL_ma (n : Nat) : maB n n (idL n) = true := by
  refine ma_iff.2 ⟨rfl, fun i hi => ?_, fun i j hi hj he => ?_⟩
  · rw [idL_get hi]; omega
  · rw [idL_get hi, idL_get hj] at he; omega
def plT (n : Nat) (xs : List Int) (m : Nat) (ys : List Int) (c : Int) : TrN := if aaB n xs m ys c = true then ⟨n, xs, m, ys, c, n, idL n⟩ else zeroT
theorem pl_good (h : aaB n xs n ys c = true) : trB (tw n xs ys c (idL n)) = true := tw_good h (idL_ma n)
theorem pl_is (h : aaB n xs n ys c = true) : plT n xs n ys c = tw n xs ys c (idL n) := by simp [plT, h, tw]
/-! ### Fractions -/
theorem wd_le {t u : TrN} (ht : trB t = true) (hu : trB u = true) (hc : t.c = u.c) (h : mSq t (faT t t.n) ≤ mSq u (faT u u.n)) : (wdT t).1 * (wdT u).2 ≤ (wdT u).1 * (wdT t).2 := by
  have hk := tr_ok ht
  have hj := tr_ok hu
  have h0 := hk.c0
  have hd := Int.mul_pos (show 0 < t.c by omega) (show 0 < t.c by omega)
  have m1 := (mSq_in hk (faT_lt (t := t) hk.n0)).1
  have m2 := (mSq_in hj (faT_lt (t := u) hj.n0)).1
  rw [wd_yes ht, wd_yes hu, ← hc]
  simp only
  have e1 := tm_same m1 hd
  have e2 := tm_same m2 hd
  have b1 := (tm_bounds m1 hd).2.2.1
  have b2 := (tm_bounds m2 hd).2.2.1
  obtain ⟨a, ea⟩ : ∃ q, mSq t (faT t t.n) = q := ⟨_, rfl⟩
  obtain ⟨b, eb⟩ : ∃ q, mSq u (faT u u.n) = q := ⟨_, rfl⟩
  obtain ⟨d, ed⟩ : ∃ q, t.c * t.c = q := ⟨_, rfl⟩
  rw [ea, ed] at e1 b1 ⊢
  rw [eb] at e2 b2 ⊢
  rw [ed] at e2 b2
  rw [ea, eb] at h
  rw [ed] at hd
  obtain ⟨p, ep⟩ : ∃ q, tmA a d = q := ⟨_, rfl⟩
  obtain ⟨q, eq⟩ : ∃ q, tmB a d = q := ⟨_, rfl⟩
  obtain ⟨r, er⟩ : ∃ q, tmA b d = q := ⟨_, rfl⟩
  obtain ⟨s, es⟩ : ∃ q, tmB b d = q := ⟨_, rfl⟩
  rw [ep, eq] at e1 ⊢
  rw [er, es] at e2 ⊢
  rw [eq] at b1
  rw [es] at b2
  refine Int.le_of_mul_le_mul_right (a := d) ?_ hd
  calc p * s * d = p * d * s := Int.mul_right_comm _ _ _
    _ = a * q * s := by rw [e1]
    _ ≤ b * q * s := Int.mul_le_mul_of_nonneg_right (Int.mul_le_mul_of_nonneg_right h (by omega)) (by omega)
    _ = b * s * q := Int.mul_right_comm _ _ _
    _ = r * d * q := by rw [e2]
    _ = r * q * d := Int.mul_right_comm _ _ _
theorem wd_box {t : TrN} (h : trB t = true) : (0 ≤ (wdT t).1 ∧ (wdT t).1 ≤ 2100000) ∧ 1 ≤ (wdT t).2 ∧ (wdT t).2 ≤ 4096 := by
  have hok := tr_ok h
  have hm := mSq_in hok (faT_lt (t := t) hok.n0)
  have h0 := hok.c0
  have h1 := hok.c1
  have hc := Int.mul_pos (show 0 < t.c by omega) (show 0 < t.c by omega)
  have hc2 : t.c * t.c ≤ 64 * 64 := Int.mul_le_mul h1 h1 (by omega) (by omega)
  have hb := tm_bounds hm.1 hc
  rw [wd_yes h]
  simp only
  omega
/-! ### The chart behind a transition -/
def arL (t : TrN) : Nat → List Int
  | 0 => []
  | k + 1 => arL t k ++ [X t.ys (plc t k), Y t.ys (plc t k)]
theorem arL_length (t : TrN) : ∀ k, (arL t k).length = k * 2
  | 0 => rfl
  | k + 1 => by rw [arL, List.length_append, arL_length t k]; simp; omega
theorem arL_get (t : TrN) : ∀ {k i}, i < k → X (arL t k) i = X t.ys (plc t i) ∧ Y (arL t k) i = Y t.ys (plc t i)
  | k + 1, i, hi => by
    have hl := arL_length t k
    by_cases e : i = k
    · subst e
      constructor
      · show (arL t (i + 1)).getD (i * 2) 0 = _
        rw [arL, List.getD_eq_getElem?_getD, List.getElem?_append_right (by omega), hl, Nat.sub_self]
        rfl
      · show (arL t (i + 1)).getD (i * 2 + 1) 0 = _
        rw [arL, List.getD_eq_getElem?_getD, List.getElem?_append_right (by omega), hl, show i * 2 + 1 - i * 2 = 1 by omega]
        rfl
    · obtain ⟨h1, h2⟩ := arL_get t (k := k) (i := i) (by omega)
      constructor
      · show (arL t (k + 1)).getD (i * 2) 0 = _
        rw [arL, List.getD_eq_getElem?_getD, List.getElem?_append_left (by omega), ← List.getD_eq_getElem?_getD]
        exact h1
      · show (arL t (k + 1)).getD (i * 2 + 1) 0 = _
        rw [arL, List.getD_eq_getElem?_getD, List.getElem?_append_left (by omega), ← List.getD_eq_getElem?_getD]
        exact h2
theorem eqAt_no {n : Nat} {xs : List Int} (h : chB n xs = true) {i j : Nat} (hi : i < n) (hj : j < n) (hne : i ≠ j) : eqAt xs i j = false := by
  simp only [chB, Bool.and_eq_true, List.all_eq_true, List.mem_range, chOk, Bool.not_eq_true', List.any_eq_false] at h
  rcases Nat.lt_or_ge i j with h1 | h1
  · have := (h.2 j hj).2 i h1
    simpa using this
  · have := (h.2 i hi).2 j (by omega)
    have h3 : eqAt xs j i = false := by simpa using this
    unfold eqAt at h3 ⊢
    rw [Bool.beq_comm (a := X xs i), Bool.beq_comm (a := Y xs i)] at *
    exact h3
theorem ar_chart {t : TrN} (h : trB t = true) : chB t.n (arL t t.n) = true := by
  have hok := tr_ok h
  simp only [trB, Bool.and_eq_true, beq_iff_eq] at h
  obtain ⟨h1, h2, h3, -, h5⟩ := h
  have hma := (ma_iff.1 h5).2.2
  have hsp := (chB_spot h2).2
  have hinb : inB (t.n : Int) 1 12 = true := by
    simp only [chB, Bool.and_eq_true] at h1
    exact h1.1
  simp only [chB, hinb, Bool.true_and, List.all_eq_true, List.mem_range, chOk, Bool.and_eq_true, Bool.not_eq_true', List.any_eq_false]
  intro i hi
  obtain ⟨e1, e2⟩ := arL_get t hi
  have hp := hok.place i hi
  refine ⟨by rw [e1, e2]; exact hok.to_ _ hp.2, fun j hj => ?_⟩
  obtain ⟨d1, d2⟩ := arL_get t (k := t.n) (i := j) (by omega)
  have hq := hok.place j (by omega)
  have hne : plc t j ≠ plc t i := fun e => by
    have := hma j i (by rw [hok.p]; omega) (by rw [hok.p]; exact hi) (by rw [hp.1, hq.1, e])
    omega
  have := eqAt_no h2 (i := plc t j) (j := plc t i) (by omega) (by omega) hne
  unfold eqAt at this ⊢
  rw [e1, e2, d1, d2, this]
  simp
theorem ar_in {t : TrN} (h : trB t = true) : ∀ i, i < t.n → hasS t.ys t.n (X (arL t t.n) i) (Y (arL t t.n) i) = true := by
  intro i hi
  obtain ⟨e1, e2⟩ := arL_get t hi
  exact hasS_yes ((tr_ok h).place i hi).2 e1.symm e2.symm
theorem tr_to {t : TrN} (h : trB t = true) : chB t.n t.ys = true := by
  have hm := (tr_ok h).m
  simp only [trB, Bool.and_eq_true] at h
  rw [← hm]
  exact h.2.1
end
end Go.Proofs.Ytnlneblipedddaa

namespace Go.Proofs.Ytnlneblipedddaa
open Go.RowKit

set_option maxRecDepth 100000 in
set_option maxHeartbeats 4000000 in
theorem arrivesAs_any (v : Value) (B : Nat) (t : TrN) (w : World) (hv : RdT w B v t) (hB : B ≤ w.heap.size) (hok : TrOk t) :
    Calls Try.prog 55 #[v] w fun e w' => ∃ u, e = .returned u ∧ w'.ownsRow w.heap.size 75 2 u t.n (ints (arL t t.n)) ∧ Below w.heap.size w w' := by
  have n0 := hok.n0
  have n1 := hok.n1
  have hPl := hok.place
  have hmE := hok.m
  have hpE := hok.p
  obtain ⟨A, ca, C, cb, D, cc, rfl, ha, hb, hc⟩ := hv.form
  clear hv ha
  rw [hmE] at hb ⊢
  rw [hpE] at hc ⊢
  obtain ⟨bC, oC, rfl, hbC, hcC⟩ := hb.spot n0
  obtain ⟨_, D', cc', e, hD⟩ := hc
  simp only [Value.slice.injEq, true_and] at e
  obtain ⟨rfl, rfl⟩ := e
  obtain ⟨b, off, rfl, hbD, hcD⟩ := hD (by omega)
  have HPL := Lib.hid hPl
  have HCX := Lib.hid (fun (V : World) (h : Below w.heap.size w V) (j : Nat) (hj : j < t.n) => (by
    have hd := hcD j (by omega)
    rw [(hPl j hj).1] at hd
    have h2 := hcC (plc t j) (hPl j hj).2
    exact ⟨(h.cell (p := ⟨bC, oC + plc t j * 2, none⟩) (Nat.lt_of_lt_of_le hbC hB)).trans h2.1, (h.cell (p := ⟨bC, oC + plc t j * 2 + 1, none⟩) (Nat.lt_of_lt_of_le hbC hB)).trans h2.2, (h.cell (p := ⟨b, off + j, none⟩) (Nat.lt_of_lt_of_le hbD hB)).trans hd⟩ : V.cell? ⟨bC, oC + plc t j * 2, none⟩ = some (.int .i64 (X t.ys (plc t j))) ∧ V.cell? ⟨bC, oC + plc t j * 2 + 1, none⟩ = some (.int .i64 (Y t.ys (plc t j))) ∧ V.cell? ⟨b, off + j, none⟩ = some (.int .i64 (plc t j : Int))))
  have HM := Lib.hid (fun i => (show arL t (i + 1) = arL t i ++ [X t.ys (plc t i), Y t.ys (plc t i)] from rfl))
  have HM0 := Lib.hid (show arL t 0 = [] from rfl)
  have K0 := Lib.hid (Blk.new w 29 #[.slice A t.n ca, .slice (some ⟨bC, oC, none⟩) t.n cb, .int .i64 t.c, .slice (some ⟨b, off, none⟩) t.n cc])
  have HB0 := Lib.hid (below_new (Below.refl w.heap.size w) (.cells #[.slice A t.n ca, .slice (some ⟨bC, oC, none⟩) t.n cb, .int .i64 t.c, .slice (some ⟨b, off, none⟩) t.n cc] 29))
  clear hPl hmE hb hcC hbC hD hcD hbD hok
  have hz := HB0.out.size
  have HS := Lib.hid (own_base (base' := w.heap.size) (own_empty (w.alloc (.cells #[.slice A t.n ca, .slice (some ⟨bC, oC, none⟩) t.n cb, .int .i64 t.c, .slice (some ⟨b, off, none⟩) t.n cc] 29)) 75 2) hz)
  have HW := Lib.hid (below_new HB0.out (.cells #[] 75))
  have KS := Lib.hid (K0.out.alloc (.cells #[] 75))
  rw [show (w.alloc (.cells #[.slice A t.n ca, .slice (some ⟨bC, oC, none⟩) t.n cb, .int .i64 t.c, .slice (some ⟨b, off, none⟩) t.n cc] 29)).heap.size = w.heap.size + 1 by simp] at HS
  obtain ⟨a0, a1, a2, a3⟩ := KS.out.c4
  clear hz
  go_enter Try.func55, Try.ntmps55
  go_wp2_with fail
  clear a0 a1 a2 a3
  go_loopw [3, 10] (fun o i wr => ∃ k : Nat, k ≤ t.n ∧ i = .int .i64 k ∧ wr.ownsRow w.heap.size 75 2 o k (ints (arL t k)) ∧ Blk wr w.heap.size 29 #[.slice A t.n ca, .slice (some ⟨bC, oC, none⟩) t.n cb, .int .i64 t.c, .slice (some ⟨b, off, none⟩) t.n cc] ∧ Below w.heap.size w wr) (fun _ i _ => t.n - (intOf i).toNat)
  case atStart => exact ⟨0, Nat.zero_le _, rfl, by rw [HM0.out]; exact HS.out, KS.out, HW.out⟩
  case round =>
    clear HS KS HW
    obtain ⟨k, hk, rfl, hown, hbk, hb⟩ := hrel
    obtain ⟨Ao, co, rfl⟩ := (Rd.of_own hown).form
    have HO := Lib.hid hown
    have HK := Lib.hid hbk
    have HB := Lib.hid hb
    clear hown hbk hb
    by_cases hlt : k < t.n
    · obtain ⟨c0, c1, c2⟩ := HCX.out _ HB.out k hlt
      have hpl := (HPL.out k hlt).2
      have hm := HM.out k
      obtain ⟨q, eq⟩ : ∃ q, plc t k = q := ⟨_, rfl⟩
      rw [eq] at c0 c1 c2 hpl hm
      obtain ⟨x, ex⟩ : ∃ x, X t.ys q = x := ⟨_, rfl⟩
      obtain ⟨y, ey⟩ : ∃ y, Y t.ys q = y := ⟨_, rfl⟩
      rw [ex] at c0 hm
      rw [ey] at c1 hm
      obtain ⟨f0, f1, f2, f3⟩ := HK.out.c4
      have i0 : (0 : Int) ≤ (k : Int) := by omega
      have i1 : (k : Int) < (t.n : Int) := by omega
      have i2 : (0 : Int) ≤ (q : Int) := by omega
      have i3 : (q : Int) < (t.n : Int) := by omega
      have hne := own_blk_ne HO.out HK.out (by decide)
      have HN := Lib.hid hne
      have HMK := Lib.hid hm
      clear eq ex ey hne hm
      have HO2 := Lib.hid (HO.out.alloc (.cells #[.int .i64 x, .int .i64 y] 75))
      have HK2 := Lib.hid (HK.out.alloc (.cells #[.int .i64 x, .int .i64 y] 75))
      have HB2 := Lib.hid (below_new HB.out (.cells #[.int .i64 x, .int .i64 y] 75))
      obtain ⟨g0, g1⟩ := (Blk.new wr 75 #[.int .i64 x, .int .i64 y]).c2
      have hsz := HB.out.size
      go_wp2_with (at_builtin; refine app_spot rfl _ _ rfl w.heap.size _ k _ rfl HO2.out wr.heap.size x y rfl g0 g1 (by omega) (by simp; omega) ?_; intro v' w9 ho9 hg9)
      have HB9 := Lib.hid (HB2.out.grown hg9 (by simp; omega) (fun g hg => (HO2.out.lt g hg).1))
      have HK9 := Lib.hid (HK2.out.grown hg9 (fun e => HN.out e.symm))
      have HO9 := Lib.hid (show w9.ownsRow w.heap.size 75 2 v' (k + 1) (ints (arL t (k + 1))) by rw [HMK.out]; exact ho9)
      clear ho9 hg9 g0 g1 HO2 HB2 HK2 c0 c1 c2 f0 f1 f2 f3
      go_wp2_with fail
      go_roundw
      case rel => exact ⟨k + 1, by omega, by go_num, HO9.out, HK9.out, HB9.out⟩
      case measure => simp [intOf]; omega
    · have hkn : k = t.n := by omega
      have HO2 := Lib.hid (show wr.ownsRow w.heap.size 75 2 (.slice Ao k co) t.n (ints (arL t t.n)) by rw [← hkn]; exact HO.out)
      clear hkn
      go_wp2_with fail
      go_ret
      exact ⟨_, rfl, HO2.out, HB.out⟩
set_option maxRecDepth 100000 in
set_option maxHeartbeats 4000000 in
theorem specArrivesAs_yes (v : Value) (B : Nat) (t : TrN) (w : World) (hcp : CapT v) (hv : RdT w B v t) (hB : B ≤ w.heap.size) (hs : t.small) (hg : trB t = true) :
    Calls Try.prog 23 #[v] w fun e w' => ∃ u, e = .returned (.tuple #[u, .bool true]) ∧ w'.ownsRow w.heap.size 75 2 u t.n (ints (arL t t.n)) ∧ Below w.heap.size w w' := by
  have hok := tr_ok hg
  have P0 := fun W (hb : Below w.heap.size w W) => asGood_any v B t W hcp (hv.below' hb hB) (Nat.le_trans hB hb.size) hs
  have hm9 := hok.m
  have hp9 := hok.p
  rw [hg] at P0
  clear hcp hs
  have n0 := hok.n0
  have n1 := hok.n1
  have hPl := hok.place
  have hmE := hok.m
  have hpE := hok.p
  obtain ⟨A, ca, C, cb, D, cc, rfl, ha, hb, hc⟩ := hv.form
  clear hv ha
  rw [hmE] at hb ⊢
  rw [hpE] at hc ⊢
  obtain ⟨bC, oC, rfl, hbC, hcC⟩ := hb.spot n0
  obtain ⟨_, D', cc', e, hD⟩ := hc
  simp only [Value.slice.injEq, true_and] at e
  obtain ⟨rfl, rfl⟩ := e
  obtain ⟨b, off, rfl, hbD, hcD⟩ := hD (by omega)
  have HPL := Lib.hid hPl
  have HCX := Lib.hid (fun (V : World) (h : Below w.heap.size w V) (j : Nat) (hj : j < t.n) => (by
    have hd := hcD j (by omega)
    rw [(hPl j hj).1] at hd
    have h2 := hcC (plc t j) (hPl j hj).2
    exact ⟨(h.cell (p := ⟨bC, oC + plc t j * 2, none⟩) (Nat.lt_of_lt_of_le hbC hB)).trans h2.1, (h.cell (p := ⟨bC, oC + plc t j * 2 + 1, none⟩) (Nat.lt_of_lt_of_le hbC hB)).trans h2.2, (h.cell (p := ⟨b, off + j, none⟩) (Nat.lt_of_lt_of_le hbD hB)).trans hd⟩ : V.cell? ⟨bC, oC + plc t j * 2, none⟩ = some (.int .i64 (X t.ys (plc t j))) ∧ V.cell? ⟨bC, oC + plc t j * 2 + 1, none⟩ = some (.int .i64 (Y t.ys (plc t j))) ∧ V.cell? ⟨b, off + j, none⟩ = some (.int .i64 (plc t j : Int))))
  have HM := Lib.hid (fun i => (show arL t (i + 1) = arL t i ++ [X t.ys (plc t i), Y t.ys (plc t i)] from rfl))
  have HM0 := Lib.hid (show arL t 0 = [] from rfl)
  have K0 := Lib.hid (Blk.new w 29 #[.slice A t.n ca, .slice (some ⟨bC, oC, none⟩) t.n cb, .int .i64 t.c, .slice (some ⟨b, off, none⟩) t.n cc])
  have HB0 := Lib.hid (below_new (Below.refl w.heap.size w) (.cells #[.slice A t.n ca, .slice (some ⟨bC, oC, none⟩) t.n cb, .int .i64 t.c, .slice (some ⟨b, off, none⟩) t.n cc] 29))
  clear hPl hmE hb hcC hbC hD hcD hbD hok
  rw [hm9, hp9] at P0
  have P := Lib.hid P0
  obtain ⟨a0, a1, a2, a3⟩ := K0.out.c4
  clear P0 hm9 hp9 hg
  go_enter Try.func23, Try.ntmps23
  go_wp2_with fail
  refine (P.out _ HB0.out).mono ?_
  rintro e w2 ⟨rfl, hb⟩
  have KS := Lib.hid (K0.out.on hb)
  have HW := Lib.hid (below_on HB0.out hb)
  have HS := Lib.hid (World.ownsRow_nil w2 w.heap.size 75 2)
  clear hb a0 a1 a2 a3 K0 HB0
  obtain ⟨a0, a1, a2, a3⟩ := KS.out.c4
  go_wp2_with fail
  clear a0 a1 a2 a3
  go_loopw [4, 13] (fun o i wr => ∃ k : Nat, k ≤ t.n ∧ i = .int .i64 k ∧ wr.ownsRow w.heap.size 75 2 o k (ints (arL t k)) ∧ Blk wr w.heap.size 29 #[.slice A t.n ca, .slice (some ⟨bC, oC, none⟩) t.n cb, .int .i64 t.c, .slice (some ⟨b, off, none⟩) t.n cc] ∧ Below w.heap.size w wr) (fun _ i _ => t.n - (intOf i).toNat)
  case atStart => exact ⟨0, Nat.zero_le _, rfl, by rw [HM0.out]; exact HS.out, KS.out, HW.out⟩
  case round =>
    clear HS KS HW
    obtain ⟨k, hk, rfl, hown, hbk, hb⟩ := hrel
    obtain ⟨Ao, co, rfl⟩ := (Rd.of_own hown).form
    have HO := Lib.hid hown
    have HK := Lib.hid hbk
    have HB := Lib.hid hb
    clear hown hbk hb
    by_cases hlt : k < t.n
    · obtain ⟨c0, c1, c2⟩ := HCX.out _ HB.out k hlt
      have hpl := (HPL.out k hlt).2
      have hm := HM.out k
      obtain ⟨q, eq⟩ : ∃ q, plc t k = q := ⟨_, rfl⟩
      rw [eq] at c0 c1 c2 hpl hm
      obtain ⟨x, ex⟩ : ∃ x, X t.ys q = x := ⟨_, rfl⟩
      obtain ⟨y, ey⟩ : ∃ y, Y t.ys q = y := ⟨_, rfl⟩
      rw [ex] at c0 hm
      rw [ey] at c1 hm
      obtain ⟨f0, f1, f2, f3⟩ := HK.out.c4
      have i0 : (0 : Int) ≤ (k : Int) := by omega
      have i1 : (k : Int) < (t.n : Int) := by omega
      have i2 : (0 : Int) ≤ (q : Int) := by omega
      have i3 : (q : Int) < (t.n : Int) := by omega
      have hne := own_blk_ne HO.out HK.out (by decide)
      have HN := Lib.hid hne
      have HMK := Lib.hid hm
      clear eq ex ey hne hm
      have HO2 := Lib.hid (HO.out.alloc (.cells #[.int .i64 x, .int .i64 y] 75))
      have HK2 := Lib.hid (HK.out.alloc (.cells #[.int .i64 x, .int .i64 y] 75))
      have HB2 := Lib.hid (below_new HB.out (.cells #[.int .i64 x, .int .i64 y] 75))
      obtain ⟨g0, g1⟩ := (Blk.new wr 75 #[.int .i64 x, .int .i64 y]).c2
      have hsz := HB.out.size
      go_wp2_with (at_builtin; refine app_spot rfl _ _ rfl w.heap.size _ k _ rfl HO2.out wr.heap.size x y rfl g0 g1 (by omega) (by simp; omega) ?_; intro v' w9 ho9 hg9)
      have HB9 := Lib.hid (HB2.out.grown hg9 (by simp; omega) (fun g hg => (HO2.out.lt g hg).1))
      have HK9 := Lib.hid (HK2.out.grown hg9 (fun e => HN.out e.symm))
      have HO9 := Lib.hid (show w9.ownsRow w.heap.size 75 2 v' (k + 1) (ints (arL t (k + 1))) by rw [HMK.out]; exact ho9)
      clear ho9 hg9 g0 g1 HO2 HB2 HK2 c0 c1 c2 f0 f1 f2 f3
      go_wp2_with fail
      go_roundw
      case rel => exact ⟨k + 1, by omega, by go_num, HO9.out, HK9.out, HB9.out⟩
      case measure => simp [intOf]; omega
    · have hkn : k = t.n := by omega
      have HO2 := Lib.hid (show wr.ownsRow w.heap.size 75 2 (.slice Ao k co) t.n (ints (arL t t.n)) by rw [← hkn]; exact HO.out)
      clear hkn
      go_wp2_with fail
      go_ret2
      exact ⟨_, rfl, HO2.out, HB.out⟩
set_option maxRecDepth 100000 in
set_option maxHeartbeats 4000000 in
theorem ArrivesAs_yes (v : Value) (B : Nat) (t : TrN) (w : World) (hcp : CapT v) (hv : RdT w B v t) (hB : B ≤ w.heap.size) (hs : t.small) (hg : trB t = true) :
    Calls Try.prog 21 #[v] w fun e w' => ∃ u, e = .returned (.tuple #[u, .bool true]) ∧ w'.ownsRow w.heap.size 75 2 u t.n (ints (arL t t.n)) ∧ Below w.heap.size w w' := by
  have P := Lib.hid (fun W (hb : Below w.heap.size w W) => IsTransition_any v B t W hcp (hv.below' hb hB) (Nat.le_trans hB hb.size) hs)
  have Q := Lib.hid (fun W (hb : Below w.heap.size w W) => arrivesAs_any v B t W (hv.below' hb hB) (Nat.le_trans hB hb.size) (tr_ok hg))
  obtain ⟨A, ca, C, cb, D, cc, rfl, -, -, -⟩ := hv.form
  have K0 := Lib.hid (Blk.new w 29 #[.slice A t.n ca, .slice C t.m cb, .int .i64 t.c, .slice D t.p cc])
  have HB0 := Lib.hid (below_new (Below.refl w.heap.size w) (.cells #[.slice A t.n ca, .slice C t.m cb, .int .i64 t.c, .slice D t.p cc] 29))
  obtain ⟨a0, a1, a2, a3⟩ := K0.out.c4
  have HG := Lib.hid hg
  clear hv hcp hs hg
  go_enter Try.func21, Try.ntmps21
  go_wp2_with fail
  refine (P.out _ HB0.out).mono ?_
  rintro e w2 ⟨rfl, hb⟩
  rw [HG.out]
  have K1 := Lib.hid (K0.out.on hb)
  have HB1 := Lib.hid (below_on HB0.out hb)
  clear hb a0 a1 a2 a3 K0 HB0
  obtain ⟨a0, a1, a2, a3⟩ := K1.out.c4
  go_wp2_with fail
  refine (Q.out _ HB1.out).mono ?_
  rintro e w3 ⟨u, rfl, ho, hb⟩
  obtain ⟨Au, cu, rfl⟩ := (Rd.of_own ho).form
  have HO := Lib.hid (own_base (base' := w.heap.size) ho HB1.out.size)
  have HB2 := Lib.hid (below_on HB1.out hb)
  clear ho hb a0 a1 a2 a3
  go_wp2_with fail
  go_ret2
  exact ⟨_, rfl, HO.out, HB2.out⟩
set_option maxRecDepth 100000 in
set_option maxHeartbeats 4000000 in
theorem SameForm_yes (v u : Value) (n B : Nat) (xs ys : List Int) (w : World) (hcp : Cap v) (hcp2 : Cap u) (hv : Rd w B 2 v n xs) (hu : Rd w B 2 u n ys) (hB : B ≤ w.heap.size) (hn : n ≤ 1000) (h1 : chB n xs = true) (h2 : chB n ys = true) (hin : ∀ i, i < n → hasS ys n (X xs i) (Y xs i) = true) :
    Calls Try.prog 22 #[v, u] w fun e w' => e = .returned (.tuple #[.bool true, .bool true]) ∧ Below w.heap.size w w' := by
  have PA0 := fun W (hb : Below w.heap.size w W) => IsChart_any v n B xs W hcp (hv.below' hb hB) (Nat.le_trans hB hb.size) (by omega)
  have PB0 := fun W (hb : Below w.heap.size w W) => IsChart_any u n B ys W hcp2 (hu.below' hb hB) (Nat.le_trans hB hb.size) (by omega)
  rw [h1] at PA0
  rw [h2] at PB0
  have n0 := (chB_spot h1).1.1
  obtain ⟨A, ca, rfl⟩ := hv.form
  obtain ⟨C, cb, rfl⟩ := hu.form
  have PC := Lib.hid (fun W x y (hb : Below w.heap.size w W) => sContains_any (.slice C n cb) n B ys x y W (RdP.of (hu.below' hb hB) (Nat.le_refl _)) (Nat.le_trans hB hb.size) (by omega))
  obtain ⟨bA, oA, rfl, hbA, hcA⟩ := hv.spot n0
  have HCX := Lib.hid (fun (V : World) (h : Below w.heap.size w V) (j : Nat) (hj : j < n) => (⟨(h.cell (p := ⟨bA, oA + j * 2, none⟩) (Nat.lt_of_lt_of_le hbA hB)).trans (hcA j hj).1, (h.cell (p := ⟨bA, oA + j * 2 + 1, none⟩) (Nat.lt_of_lt_of_le hbA hB)).trans (hcA j hj).2⟩ : V.cell? ⟨bA, oA + j * 2, none⟩ = some (.int .i64 (X xs j)) ∧ V.cell? ⟨bA, oA + j * 2 + 1, none⟩ = some (.int .i64 (Y xs j))))
  have HIN := Lib.hid hin
  have PA := Lib.hid PA0
  have PB := Lib.hid PB0
  have HB0 := Lib.hid (Below.refl w.heap.size w)
  clear hcp hcp2 hv hu h1 h2 hin PA0 PB0 hcA hbA
  go_enter Try.func22, Try.ntmps22
  go_wp2_with fail
  refine (PA.out _ HB0.out).mono ?_
  rintro e w1 ⟨rfl, hb⟩
  have HB1 := Lib.hid (below_on HB0.out hb)
  clear hb HB0
  go_wp2_with fail
  refine (PB.out _ HB1.out).mono ?_
  rintro e w2 ⟨rfl, hb⟩
  have HB2 := Lib.hid (below_on HB1.out hb)
  clear hb HB1
  have nn : ((n : Int) != (n : Int)) = false := by simp
  go_wp2_with fail
  go_loopw [23] (fun i wr => ∃ k : Nat, k ≤ n ∧ i = .int .i64 k ∧ Below w.heap.size w wr) (fun i _ => n - (intOf i).toNat)
  case atStart => exact ⟨0, Nat.zero_le _, rfl, HB2.out⟩
  case round =>
    clear HB2 nn
    obtain ⟨k, hk, rfl, hb⟩ := hrel
    have HB := Lib.hid hb
    clear hb
    by_cases hlt : k < n
    · obtain ⟨c0, c1⟩ := HCX.out _ HB.out k hlt
      have hi := HIN.out k hlt
      obtain ⟨x, ex⟩ : ∃ x, X xs k = x := ⟨_, rfl⟩
      obtain ⟨y, ey⟩ : ∃ y, Y xs k = y := ⟨_, rfl⟩
      rw [ex] at c0 hi
      rw [ey] at c1 hi
      have i0 : (0 : Int) ≤ (k : Int) := by omega
      have i1 : (k : Int) < (n : Int) := by omega
      have HB3 := Lib.hid (below_new HB.out (.cells #[.int .i64 x, .int .i64 y] 75))
      have P0 := PC.out _ x y HB3.out
      rw [hi] at P0
      have P := Lib.hid P0
      obtain ⟨g0, g1⟩ := (Blk.new wr 75 #[.int .i64 x, .int .i64 y]).c2
      clear ex ey hi P0
      go_wp2_with fail
      refine P.out.mono ?_
      rintro e w4 ⟨rfl, hb⟩
      have HB4 := Lib.hid (below_on HB3.out hb)
      clear hb P g0 g1 c0 c1
      go_wp2_with fail
      go_roundw
      case rel => exact ⟨k + 1, by omega, by go_num, HB4.out⟩
      case measure => simp [intOf]; omega
    · obtain rfl : k = n := by omega
      go_wp2_with fail
      go_ret2
      exact ⟨rfl, HB.out⟩
end Go.Proofs.Ytnlneblipedddaa

namespace Go.Proofs.Ytnlneblipedddaa
open Go.RowKit

set_option maxRecDepth 100000 in
set_option maxHeartbeats 4000000 in
theorem PlainTransition_any (v u : Value) (lo n m : Nat) (xs ys : List Int) (c : Int) (w : World) (hv : w.ownsRow lo 75 2 v n (ints xs)) (hu : w.ownsRow lo 75 2 u m (ints ys)) (hn : n ≤ 1048576) (hm : m ≤ 1048576) :
    Calls Try.prog 11 #[v, u, .int .i64 c] w fun e w' => ∃ r, e = .returned (.tuple #[r, .bool (aaB n xs m ys c)]) ∧ OwnA w' w.heap.size r (plT n xs m ys c) ∧ Below w.heap.size w w' := by
  obtain ⟨A, ca, rfl⟩ := (Rd.of_own hv).form
  obtain ⟨C, cb, rfl⟩ := (Rd.of_own hu).form
  have K0 := Lib.hid (Blk.new w 29 #[.slice none 0 0, .slice none 0 0, .int .i64 0, .slice none 0 0])
  have HB0 := Lib.hid (below_new (Below.refl w.heap.size w) (.cells #[.slice none 0 0, .slice none 0 0, .int .i64 0, .slice none 0 0] 29))
  have HV := Lib.hid (fun W (hb : Below w.heap.size w W) => own_below hv hb (Nat.le_refl _))
  have HU := Lib.hid (fun W (hb : Below w.heap.size w W) => own_below hu hb (Nat.le_refl _))
  have HP := Lib.hid (fun W (hb : Below w.heap.size w W) => canChange_any _ _ n m W.heap.size xs ys c W (own_cap hv) (own_cap hu) (Rd.of_own (own_below hv hb (Nat.le_refl _))) (Rd.of_own (own_below hu hb (Nat.le_refl _))) (Nat.le_refl _) (by omega) (by omega))
  clear hv hu
  cases hab : aaB n xs m ys c with
  | false =>
    have HT := Lib.hid (show plT n xs m ys c = zeroT by simp [plT, hab])
    have HE := Lib.hid hab
    obtain ⟨f0, f1, f2, f3⟩ := K0.out.c4
    clear hab
    go_enter Try.func11, Try.ntmps11
    go_wp2_with fail
    refine (HP.out _ HB0.out).mono ?_
    rintro e w2 ⟨rfl, hb⟩
    have k1 := K0.out.on hb
    have HB1 := Lib.hid (below_on HB0.out hb)
    obtain ⟨g0, g1, g2, g3⟩ := k1.c4
    have g4 := k1.frozen 0
    have g5 := k1.frozen 1
    have g6 := k1.frozen 2
    have g7 := k1.frozen 3
    have K1 := Lib.hid k1
    clear hb K0 HB0 k1 f0 f1 f2 f3
    rw [HE.out]
    go_wp2_with fail
    obtain ⟨m0, m1, m2, m3⟩ := (blk_set4 K1.out (.slice none 0 0) (.slice none 0 0) (.int .i64 0) (.slice none 0 0)).c4
    exact bodyPost_ret (v := .tuple #[.agg #[.slice none 0 0, .slice none 0 0, .int .i64 0, .slice none 0 0], .bool false]) (by simp [results, Try.results11, go_sem, m0, m1, m2, m3]) rfl
      ⟨_, rfl, by rw [HT.out]; exact OwnA.zero _ _, below_set4 HB1.out (Nat.le_refl _) _ _ _ _⟩
  | true =>
    obtain ⟨⟨n0, n1⟩, rfl, hc, hx, hy⟩ := aa_yes hab
    have HT := Lib.hid (show plT m xs m ys c = ⟨m, xs, m, ys, c, m, idL m⟩ by simp [plT, hab])
    have HE := Lib.hid hab
    have PW := Lib.hid (fun (W : World) (q : Value) (lq : Nat) (ps : List Int) (hb : Below w.heap.size w W) (h : W.ownsRow lq 3 1 q m (ints ps)) => newTransition_rd _ _ q W.heap.size m m m xs ys ps c W (Rd.of_own (HV.out W hb)) (Rd.of_own (HU.out W hb)) (Rd.of_own h) (Nat.le_refl _) (by omega) (by omega) (by omega) n0 n0 n0)
    have HID := Lib.hid (show ∀ k, idL (k + 1) = idL k ++ [(k : Int)] from fun k => rfl)
    have HI0 := Lib.hid (show idL 0 = [] from rfl)
    clear hab hx hy hc HV HU
    obtain ⟨f0, f1, f2, f3⟩ := K0.out.c4
    go_enter Try.func11, Try.ntmps11
    go_wp2_with fail
    refine (HP.out _ HB0.out).mono ?_
    rintro e w2 ⟨rfl, hb⟩
    have K1 := Lib.hid (K0.out.on hb)
    have HB1 := Lib.hid (below_on HB0.out hb)
    clear hb K0 HB0 f0 f1 f2 f3
    rw [HE.out]
    have HS := Lib.hid (own_empty w2 3 1)
    have HW := Lib.hid (below_new (Below.refl w2.heap.size w2) (.cells #[] 3))
    go_wp2_with fail
    go_loopw [8, 19] (fun o i wr => ∃ k : Nat, k ≤ m ∧ i = .int .i64 k ∧ wr.ownsRow w2.heap.size 3 1 o k (ints (idL k)) ∧ Below w2.heap.size w2 wr) (fun _ i _ => m - (intOf i).toNat)
    case atStart => exact ⟨0, by omega, rfl, by rw [HI0.out]; exact HS.out, HW.out⟩
    case round =>
      clear HS HW
      obtain ⟨k, hk, rfl, hown, hb⟩ := hrel
      obtain ⟨Ao, co, rfl⟩ := (Rd.of_own hown).form
      have HO := Lib.hid hown
      have HB := Lib.hid hb
      clear hown hb
      by_cases hlt : k < m
      · have n9 := (Blk.new wr 3 #[.int .i64 (k : Int)]).c1
        have HO2 := Lib.hid (HO.out.alloc (.cells #[.int .i64 (k : Int)] 3))
        have HB2 := Lib.hid (below_new HB.out (.cells #[.int .i64 (k : Int)] 3))
        have hsz := HB.out.size
        go_wp2_with (at_builtin; refine app_int rfl _ _ rfl w2.heap.size _ _ _ rfl HO2.out wr.heap.size (k : Int) rfl n9 (by omega) (by simp; omega) ?_; intro v' w9 ho9 hg9)
        have HB9 := Lib.hid (HB2.out.grown hg9 (by simp; omega) (fun g hg => (HO2.out.lt g hg).1))
        have HO9 := Lib.hid (show w9.ownsRow w2.heap.size 3 1 v' (k + 1) (ints (idL (k + 1))) by rw [HID.out]; exact ho9)
        clear ho9 hg9 n9 HO2 HB2
        go_wp2_with fail
        go_roundw
        case rel => exact ⟨k + 1, by omega, by go_num, HO9.out, HB9.out⟩
        case measure => simp [intOf]; omega
      · obtain rfl : k = m := by omega
        have K3 := Lib.hid (K1.out.on HB.out)
        have HB3 := Lib.hid (below_on HB1.out HB.out)
        clear K1 HB1
        go_wp2_with fail
        refine (PW.out _ _ _ _ HB3.out HO.out).mono ?_
        rintro e w5 ⟨r, rfl, oa, hb⟩
        have OA := Lib.hid oa
        have KZ := Lib.hid (K3.out.on hb)
        have HBY := Lib.hid (below_on HB3.out hb)
        have HBZ := Lib.hid HB3.out.size
        clear hb oa K3 HB3 HO
        obtain ⟨Ar, cr, Dr, dr, Er, er, rfl, o1, o2, o3⟩ := OA.out.form
        obtain ⟨f0, f1, f2, f3⟩ := KZ.out.c4
        have g0 := KZ.out.frozen 0
        have g1 := KZ.out.frozen 1
        have g2 := KZ.out.frozen 2
        have g3 := KZ.out.frozen 3
        have O1 := Lib.hid o1
        have O2 := Lib.hid o2
        have O3 := Lib.hid o3
        clear o1 o2 o3 OA
        go_wp2_with fail
        obtain ⟨m0, m1, m2, m3⟩ := (blk_set4 KZ.out (.slice Ar k cr) (.slice Dr k dr) (.int .i64 c) (.slice Er k er)).c4
        exact bodyPost_ret (v := .tuple #[.agg #[.slice Ar k cr, .slice Dr k dr, .int .i64 c, .slice Er k er], .bool true]) (by simp [results, Try.results11, go_sem, m0, m1, m2, m3]) rfl
          ⟨_, rfl, by rw [HT.out]; exact ⟨_, _, _, rfl, own_base (own_set4 O1.out KZ.out (by decide) _ _ _ _) HBZ.out, own_base (own_set4 O2.out KZ.out (by decide) _ _ _ _) HBZ.out, own_base (own_set4 O3.out KZ.out (by decide) _ _ _ _) HBZ.out⟩, below_set4 HBY.out (Nat.le_refl _) _ _ _ _⟩
set_option maxRecDepth 100000 in
set_option maxHeartbeats 4000000 in
theorem specPlainTransition_any (v u : Value) (lo n m : Nat) (xs ys : List Int) (c : Int) (w : World) (hv : w.ownsRow lo 75 2 v n (ints xs)) (hu : w.ownsRow lo 75 2 u m (ints ys)) (hn : n ≤ 1048576) (hm : m ≤ 1048576) :
    Calls Try.prog 12 #[v, u, .int .i64 c] w fun e w' => ∃ r, e = .returned (.tuple #[r, .bool (aaB n xs m ys c)]) ∧ OwnA w' w.heap.size r (plT n xs m ys c) ∧ Below w.heap.size w w' := by
  obtain ⟨A, ca, rfl⟩ := (Rd.of_own hv).form
  obtain ⟨C, cb, rfl⟩ := (Rd.of_own hu).form
  have K0 := Lib.hid (Blk.new w 29 #[.slice none 0 0, .slice none 0 0, .int .i64 0, .slice none 0 0])
  have HB0 := Lib.hid (below_new (Below.refl w.heap.size w) (.cells #[.slice none 0 0, .slice none 0 0, .int .i64 0, .slice none 0 0] 29))
  have HV := Lib.hid (fun W (hb : Below w.heap.size w W) => own_below hv hb (Nat.le_refl _))
  have HU := Lib.hid (fun W (hb : Below w.heap.size w W) => own_below hu hb (Nat.le_refl _))
  have HP := Lib.hid (fun W (hb : Below w.heap.size w W) => asAsked_any _ _ n m W.heap.size xs ys c W (own_cap hv) (own_cap hu) (Rd.of_own (own_below hv hb (Nat.le_refl _))) (Rd.of_own (own_below hu hb (Nat.le_refl _))) (Nat.le_refl _) (by omega) (by omega))
  clear hv hu
  cases hab : aaB n xs m ys c with
  | false =>
    have HT := Lib.hid (show plT n xs m ys c = zeroT by simp [plT, hab])
    have HE := Lib.hid hab
    obtain ⟨f0, f1, f2, f3⟩ := K0.out.c4
    clear hab
    go_enter Try.func12, Try.ntmps12
    go_wp2_with fail
    refine (HP.out _ HB0.out).mono ?_
    rintro e w2 ⟨rfl, hb⟩
    have k1 := K0.out.on hb
    have HB1 := Lib.hid (below_on HB0.out hb)
    obtain ⟨g0, g1, g2, g3⟩ := k1.c4
    have g4 := k1.frozen 0
    have g5 := k1.frozen 1
    have g6 := k1.frozen 2
    have g7 := k1.frozen 3
    have K1 := Lib.hid k1
    clear hb K0 HB0 k1 f0 f1 f2 f3
    rw [HE.out]
    go_wp2_with fail
    obtain ⟨m0, m1, m2, m3⟩ := (blk_set4 K1.out (.slice none 0 0) (.slice none 0 0) (.int .i64 0) (.slice none 0 0)).c4
    exact bodyPost_ret (v := .tuple #[.agg #[.slice none 0 0, .slice none 0 0, .int .i64 0, .slice none 0 0], .bool false]) (by simp [results, Try.results12, go_sem, m0, m1, m2, m3]) rfl
      ⟨_, rfl, by rw [HT.out]; exact OwnA.zero _ _, below_set4 HB1.out (Nat.le_refl _) _ _ _ _⟩
  | true =>
    obtain ⟨⟨n0, n1⟩, rfl, hc, hx, hy⟩ := aa_yes hab
    have HT := Lib.hid (show plT m xs m ys c = ⟨m, xs, m, ys, c, m, idL m⟩ by simp [plT, hab])
    have HE := Lib.hid hab
    have PW := Lib.hid (fun (W : World) (q : Value) (lq : Nat) (ps : List Int) (hb : Below w.heap.size w W) (h : W.ownsRow lq 3 1 q m (ints ps)) => asWith_any _ _ q lo lq m m m xs ys ps c W (HV.out W hb) (HU.out W hb) h (by omega) (by omega) (by omega))
    have HID := Lib.hid (show ∀ k, idL (k + 1) = idL k ++ [(k : Int)] from fun k => rfl)
    have HI0 := Lib.hid (show idL 0 = [] from rfl)
    clear hab hx hy hc HV HU
    obtain ⟨f0, f1, f2, f3⟩ := K0.out.c4
    go_enter Try.func12, Try.ntmps12
    go_wp2_with fail
    refine (HP.out _ HB0.out).mono ?_
    rintro e w2 ⟨rfl, hb⟩
    have K1 := Lib.hid (K0.out.on hb)
    have HB1 := Lib.hid (below_on HB0.out hb)
    clear hb K0 HB0 f0 f1 f2 f3
    rw [HE.out]
    have HS := Lib.hid ((World.ownsRow_nil w2 w2.heap.size 3 1))
    have HW := Lib.hid (Below.refl w2.heap.size w2)
    go_wp2_with fail
    go_loopw [8, 18] (fun o i wr => ∃ k : Nat, k ≤ m ∧ i = .int .i64 k ∧ wr.ownsRow w2.heap.size 3 1 o k (ints (idL k)) ∧ Below w2.heap.size w2 wr) (fun _ i _ => m - (intOf i).toNat)
    case atStart => exact ⟨0, by omega, rfl, by rw [HI0.out]; exact HS.out, HW.out⟩
    case round =>
      clear HS HW
      obtain ⟨k, hk, rfl, hown, hb⟩ := hrel
      obtain ⟨Ao, co, rfl⟩ := (Rd.of_own hown).form
      have HO := Lib.hid hown
      have HB := Lib.hid hb
      clear hown hb
      by_cases hlt : k < m
      · have n9 := (Blk.new wr 3 #[.int .i64 (k : Int)]).c1
        have HO2 := Lib.hid (HO.out.alloc (.cells #[.int .i64 (k : Int)] 3))
        have HB2 := Lib.hid (below_new HB.out (.cells #[.int .i64 (k : Int)] 3))
        have hsz := HB.out.size
        go_wp2_with (at_builtin; refine app_int rfl _ _ rfl w2.heap.size _ _ _ rfl HO2.out wr.heap.size (k : Int) rfl n9 (by omega) (by simp; omega) ?_; intro v' w9 ho9 hg9)
        have HB9 := Lib.hid (HB2.out.grown hg9 (by simp; omega) (fun g hg => (HO2.out.lt g hg).1))
        have HO9 := Lib.hid (show w9.ownsRow w2.heap.size 3 1 v' (k + 1) (ints (idL (k + 1))) by rw [HID.out]; exact ho9)
        clear ho9 hg9 n9 HO2 HB2
        go_wp2_with fail
        go_roundw
        case rel => exact ⟨k + 1, by omega, by go_num, HO9.out, HB9.out⟩
        case measure => simp [intOf]; omega
      · obtain rfl : k = m := by omega
        have K3 := Lib.hid (K1.out.on HB.out)
        have HB3 := Lib.hid (below_on HB1.out HB.out)
        clear K1 HB1
        go_wp2_with fail
        refine (PW.out _ _ _ _ HB3.out HO.out).mono ?_
        rintro e w5 ⟨r, rfl, oa, hb⟩
        have OA := Lib.hid oa
        have KZ := Lib.hid (K3.out.on hb)
        have HBY := Lib.hid (below_on HB3.out hb)
        have HBZ := Lib.hid HB3.out.size
        clear hb oa K3 HB3 HO
        obtain ⟨Ar, cr, Dr, dr, Er, er, rfl, o1, o2, o3⟩ := OA.out.form
        obtain ⟨f0, f1, f2, f3⟩ := KZ.out.c4
        have g0 := KZ.out.frozen 0
        have g1 := KZ.out.frozen 1
        have g2 := KZ.out.frozen 2
        have g3 := KZ.out.frozen 3
        have O1 := Lib.hid o1
        have O2 := Lib.hid o2
        have O3 := Lib.hid o3
        clear o1 o2 o3 OA
        go_wp2_with fail
        obtain ⟨m0, m1, m2, m3⟩ := (blk_set4 KZ.out (.slice Ar k cr) (.slice Dr k dr) (.int .i64 c) (.slice Er k er)).c4
        exact bodyPost_ret (v := .tuple #[.agg #[.slice Ar k cr, .slice Dr k dr, .int .i64 c, .slice Er k er], .bool true]) (by simp [results, Try.results12, go_sem, m0, m1, m2, m3]) rfl
          ⟨_, rfl, by rw [HT.out]; exact ⟨_, _, _, rfl, own_base (own_set4 O1.out KZ.out (by decide) _ _ _ _) HBZ.out, own_base (own_set4 O2.out KZ.out (by decide) _ _ _ _) HBZ.out, own_base (own_set4 O3.out KZ.out (by decide) _ _ _ _) HBZ.out⟩, below_set4 HBY.out (Nat.le_refl _) _ _ _ _⟩
end Go.Proofs.Ytnlneblipedddaa
