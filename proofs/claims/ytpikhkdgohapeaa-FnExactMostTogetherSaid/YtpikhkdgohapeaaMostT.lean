/- A contract of the program's search for the longest list without a conflict. Conditions: at most twelve sets of numbers below twelve. -/
import Derived.Test.YtpikhkdgohapeaaSetsFn
import Derived.Test.YtpikhkdgohapeaaBits
import Derived.Test.YtpikhkdgohapeaaIntsApp
namespace Go.Proofs.Ytpikhkdgohapeaa
open Go.RowKit

theorem mask12 {T : List Nat} {n : Nat} (h : ∀ x ∈ T, x < n) (hn : n ≤ 12) : maskOf T < 4096 := by
  have := maskOf_lt h
  have h2 : 2 ^ n ≤ 2 ^ 12 := Nat.pow_le_pow_right (by decide) hn
  omega
theorem mtF_len {q : Nat → Nat → Bool} {n : Nat} : ∀ {k : Nat} {T : List Nat}, (mtF q n k T).length ≤ k
  | 0, T => by simp [mtF]
  | k + 1, T => by
    have h1 := mtF_len (q := q) (n := n) (k := k) (T := T)
    have h2 := mtF_len (q := q) (n := n) (k := k) (T := (n - (k + 1)) :: T)
    rw [mtF]
    split
    · omega
    · split
      · omega
      · simp; omega
set_option maxRecDepth 100000 in
set_option maxHeartbeats 4000000 in
theorem mostTogether_any (l : List Int) (n : Nat) (hl : maskIn l) (hlen : l.length = n) (hn : n ≤ 12) : ∀ m k, k ≤ m → k ≤ n → ∀ (T : List Nat), (∀ x ∈ T, x < n) → ∀ (v : Value) (B : Nat) (w : World), Rd w B 1 v n l → B ≤ w.heap.size →
    Calls Try.prog 62 #[v, .int .i64 ((n - k : Nat) : Int), .int .i64 (maskOf T : Int)] w fun e w' => ∃ u, e = .returned u ∧ w'.ownsRow w.heap.size 3 1 u (mtF (qS l) n k T).length (ints (nats (mtF (qS l) n k T))) ∧ Below w.heap.size w w' := by
  intro m
  induction m with
  | zero =>
    intro k hk hkn T hT v B w hv hB
    obtain rfl : k = 0 := by omega
    obtain ⟨A, c, rfl⟩ := hv.form
    rw [Nat.sub_zero]
    have hc : (n : Int) < (n : Int) ↔ False := by simp
    go_enter Try.func62, Try.ntmps62
    go_wp2_with fail
    go_loopw [1] (fun s wr => s = .int .i64 (n : Int) ∧ wr = w) (fun _ _ => 0)
    case atStart => exact ⟨rfl, rfl⟩
    case round =>
      obtain ⟨rfl, rfl⟩ := hrel
      go_wp2_with fail
      go_ret
      exact ⟨_, rfl, own_empty wr 3 1, below_new (Below.refl _ _) _⟩
  | succ m ihm =>
    intro k hk hkn T hT v B w hv hB
    obtain ⟨A, c, rfl⟩ := hv.form
    have HIH := Lib.hid ihm
    have HV := Lib.hid (fun W (hb : Below w.heap.size w W) => hv.below' hb hB)
    have hM := mask12 hT hn
    have HHL := Lib.hid hl
    have HA := Lib.hid (fun f => set_any (l := l) (T := T) (f := f))
    have HT := Lib.hid hT
    clear ihm hT
    go_enter Try.func62, Try.ntmps62
    go_wp2_with fail
    go_loopw [1] (fun s wr => ∃ j : Nat, j ≤ k ∧ s = .int .i64 ((n - j : Nat) : Int) ∧ mtF (qS l) n k T = mtF (qS l) n j T ∧ wr = w) (fun s _ => n - (intOf s).toNat)
    case atStart => exact ⟨k, Nat.le_refl _, rfl, rfl, rfl⟩
    case round =>
      obtain ⟨j, hj, rfl, he, rfl⟩ := hrel
      have HE := Lib.hid he
      clear he
      cases j with
      | zero =>
        have HF := Lib.hid (show mtF (qS l) n k T = [] from HE.out)
        rw [Nat.sub_zero]
        go_wp2_with fail
        go_ret
        exact ⟨_, rfl, by rw [HF.out]; exact own_empty wr 3 1, below_new (Below.refl _ _) _⟩
      | succ j =>
        obtain ⟨f, ef⟩ : ∃ f, n - (j + 1) = f := ⟨_, rfl⟩
        have hf : n - j = f + 1 := by omega
        have hfn : f < n := by omega
        have f0 : (0 : Int) ≤ (f : Int) := by omega
        have f1 : (f : Int) < (n : Int) := by omega
        obtain ⟨b, off, rfl, hbB, hcell⟩ : ∃ b off, A = some ⟨b, off, none⟩ ∧ b < B ∧ ∀ j, j < n → wr.cell? ⟨b, off + j, none⟩ = some (.int .i64 (l.getD j 0)) := by
          obtain ⟨_, A', c', e, h⟩ := hv
          simp only [Value.slice.injEq, true_and] at e
          obtain ⟨rfl, rfl⟩ := e
          obtain ⟨b, off, rfl, hb, hc⟩ := h (by omega)
          exact ⟨b, off, rfl, hb, fun j hj => hc j (by omega)⟩
        have hc := hcell f hfn
        have hin := HHL.out f
        have han := HA.out f
        obtain ⟨S, eS⟩ : ∃ S : Nat, l.getD f 0 = (S : Int) := Int.eq_ofNat_of_zero_le hin.1
        rw [eS] at hc hin han
        have hand := bit_and S (maskOf T) (by omega) (by omega)
        cases hq : T.any (qS l f) with
        | true =>
          have hne : ¬ S &&& maskOf T = 0 := fun h => by have := han.1 h; rw [hq] at this; cases this
          obtain ⟨Z, eZ⟩ : ∃ Z, S &&& maskOf T = Z := ⟨_, rfl⟩
          rw [eZ] at hand hne
          have hz : ((Z : Int) == 0) = false := by simp; omega
          have hz2 : ¬ (Z : Int) = 0 := by omega
          have HST := Lib.hid (show mtF (qS l) n k T = mtF (qS l) n j T by rw [HE.out, mtF, ef, if_pos hq])
          clear han hin eS eZ hcell hv hl
          go_wp2_with fail
          go_roundw
          case rel => exact ⟨j, by omega, by rw [hf]; go_num, HST.out, trivial⟩
          case measure => simp [intOf]; omega
        | false =>
          have hz0 : S &&& maskOf T = 0 := han.2 hq
          rw [hz0] at hand
          have hst : mtF (qS l) n k T = if (mtF (qS l) n j (f :: T)).length + 1 < (mtF (qS l) n j T).length then mtF (qS l) n j T else f :: mtF (qS l) n j (f :: T) := by rw [HE.out, mtF, ef, if_neg (by rw [hq]; simp)]
          have hM20 : maskOf T < 1048576 := by omega
          have sh := one_shl2 f (by omega)
          have or1 := bit_set2 (maskOf T) f hM20 (by omega)
          have P1 := fun W (hb : Below wr.heap.size wr W) => HIH.out j (by omega) (by omega) (f :: T) (by
            intro x hx
            rcases List.mem_cons.1 hx with rfl | hx
            · exact hfn
            · exact HT.out x hx) _ B W (HV.out W hb) (Nat.le_trans hB hb.size)
          have P2 := fun W (hb : Below wr.heap.size wr W) => HIH.out j (by omega) (by omega) T HT.out _ B W (HV.out W hb) (Nat.le_trans hB hb.size)
          have hwf := IntWalk.i64_in ((f : Int) + 1) (by omega)
          rw [hf, show ((f + 1 : Nat) : Int) = (f : Int) + 1 by omega] at P1 P2
          rw [show maskOf (f :: T) = maskOf T ||| 2 ^ f from rfl] at P1
          have hla := mtF_len (q := qS l) (n := n) (k := j) (T := f :: T)
          have hlb := mtF_len (q := qS l) (n := n) (k := j) (T := T)
          obtain ⟨a, ea⟩ : ∃ a, mtF (qS l) n j (f :: T) = a := ⟨_, rfl⟩
          obtain ⟨bb, eb⟩ : ∃ a, mtF (qS l) n j T = a := ⟨_, rfl⟩
          rw [ea] at P1 hla hst
          rw [eb] at P2 hlb hst
          have HR := Lib.hid hst
          clear hst
          have HP1 := Lib.hid P1
          have HP2 := Lib.hid P2
          have HO0 := Lib.hid (World.ownsRow_lit (base := wr.heap.size) (e := 3) (size := 1) wr #[.int .i64 (f : Int)] 1 (Nat.le_refl _) (by unfold maxLen; omega) rfl)
          have HB0 := Lib.hid (below_new (Below.refl wr.heap.size wr) (.cells #[.int .i64 (f : Int)] 3))
          clear han hin eS hcell hv hl P1 P2 ea eb hz0
          go_wp2_with fail
          refine (HP1.out _ HB0.out).mono ?_
          rintro e w1 ⟨u1, rfl, o1, h1⟩
          have HO1 := Lib.hid (own_below HO0.out h1 (Nat.le_refl _))
          have HB1 := Lib.hid (below_on HB0.out h1)
          have HU1 := Lib.hid o1
          clear o1 h1 HO0 HB0 hc
          go_wp2_with (at_builtin; refine app_ints rfl _ _ rfl wr.heap.size _ 1 [(f : Int)] rfl HO1.out _ u1 _ _ rfl HU1.out (by omega) HB1.out.size ?_; intro v9 w9 hr9 hg9)
          have HB9 := Lib.hid (HB1.out.grown hg9 HB1.out.size (fun k hk => (HO1.out.lt k hk).1))
          have HO9 := Lib.hid hr9
          clear hr9 hg9 HO1 HU1 HB1
          refine (HP2.out _ HB9.out).mono ?_
          rintro e w2 ⟨u2, rfl, o2, h2⟩
          have HV9 := Lib.hid (own_below HO9.out h2 (Nat.le_refl _))
          have HU2 := Lib.hid (own_base o2 HB9.out.size)
          have HB2 := Lib.hid (below_on HB9.out h2)
          clear o2 h2 HO9 HB9
          obtain ⟨A9, c9, rfl⟩ := (Rd.of_own HV9.out).form
          obtain ⟨A2, c2, rfl⟩ := (Rd.of_own HU2.out).form
          by_cases hlt : a.length + 1 < bb.length
          · have hlt2 : ((1 + a.length : Nat) : Int) < (bb.length : Int) := by omega
            have HF := Lib.hid (show mtF (qS l) n k T = bb by rw [HR.out, if_pos hlt])
            go_wp2_with fail
            go_ret
            exact ⟨_, rfl, by rw [HF.out]; exact HU2.out, HB2.out⟩
          · have hlt2 : ¬ ((1 + a.length : Nat) : Int) < (bb.length : Int) := by omega
            have HF := Lib.hid (show mtF (qS l) n k T = f :: a by rw [HR.out, if_neg hlt])
            have HV9' := Lib.hid (show w2.ownsRow wr.heap.size 3 1 (.slice A9 (1 + a.length) c9) (f :: a).length (ints (nats (f :: a))) by rw [show (f :: a).length = 1 + a.length by simp; omega]; exact HV9.out)
            go_wp2_with fail
            go_ret
            exact ⟨_, rfl, by rw [HF.out]; exact HV9'.out, HB2.out⟩
end Go.Proofs.Ytpikhkdgohapeaa
