/- Contracts of the tests whether a list of places is a matching and a transition good, in the program and in the reference. Conditions: the slices can be read, and their lengths are at most their capacities. -/
import Derived.Test.YtpikhkdgohapeaaTrans
namespace Go.Proofs.Ytpikhkdgohapeaa
open Go.RowKit

theorem maB_no {m p k : Nat} {ps : List Int} (hk : k < p) (h : maOk m ps k = false) : maB m p ps = false := by
  rw [maB, all_no hk h]; rfl
theorem maB_all {m p : Nat} {ps : List Int} (h : ∀ j, j < p → maOk m ps j = true) : maB m p ps = (p == m) := by
  rw [maB, all_yes h]; simp
theorem maOk_no1 {m k : Nat} {ps : List Int} (h : inB (ps.getD k 0) 0 ((m : Int) - 1) = false) : maOk m ps k = false := by rw [maOk, h]; rfl
theorem maOk_eq {m k : Nat} {ps : List Int} (h : inB (ps.getD k 0) 0 ((m : Int) - 1) = true) : maOk m ps k = !hasI ps k (ps.getD k 0) := by rw [maOk, h]; rfl
set_option maxHeartbeats 2000000 in
theorem maPlaces_any (v : Value) (p m B : Nat) (ps : List Int) (w : World) (hcp : Cap v) (hv : Rd w B 1 v p ps) (hB : B ≤ w.heap.size) (hp : p ≤ 1099511627776) (hm : m ≤ 1099511627776) :
    Calls Try.prog 75 #[v, .int .i64 (m : Int)] w fun e w' => e = .returned (.bool (maB m p ps)) ∧ Below w.heap.size w w' := by
  obtain ⟨A, c, rfl⟩ := hv.form
  have hnc : p ≤ c := hcp _ _ _ rfl
  obtain ⟨_, A', c', e, hA⟩ := id hv
  simp only [Value.slice.injEq, true_and] at e
  obtain ⟨rfl, rfl⟩ := e
  have Hv := Lib.hid hv
  have e1 := IntWalk.i64_in ((m : Int) - 1) (by omega)
  clear hv hcp
  go_enter Try.func75, Try.ntmps75
  go_wp2_with fail
  go_loopw [9] (fun i wr => ∃ k : Nat, k ≤ p ∧ i = .int .i64 k ∧ (∀ j, j < k → maOk m ps j = true) ∧ Below w.heap.size w wr) (fun i _ => p - (intOf i).toNat)
  case atStart => exact ⟨0, Nat.zero_le _, rfl, fun j h => absurd h (by omega), Below.refl _ _⟩
  case round =>
    obtain ⟨k, hk, rfl, hno, hb⟩ := hrel
    have HO := Lib.hid hno
    clear hno
    by_cases hlt : k < p
    · obtain ⟨b, off, rfl, hbB, hc⟩ := hA (by omega)
      have hc0 := hc k (by omega)
      have hok1 := maOk_no1 (m := m) (ps := ps) (k := k)
      have hok2 := maOk_eq (m := m) (ps := ps) (k := k)
      have P := fun (W : World) (hb : Below w.heap.size w W) (x : Int) => l1Has_any (.slice (some ⟨b, off, none⟩) k c) k B ps x W ((RdP.of Hv.out (Nat.le_of_lt hlt)).below' hb hB) (Nat.le_trans hB hb.size) (by omega)
      obtain ⟨x, ex⟩ : ∃ x, ps.getD k 0 = x := ⟨_, rfl⟩
      rw [ex] at hc0 hok1 hok2
      have c0 := (hb.cell (p := ⟨b, off + k, none⟩) (Nat.lt_of_lt_of_le hbB hB)).trans hc0
      have i0 : (0 : Int) ≤ (k : Int) := by omega
      have i1 : (k : Int) < (p : Int) := by omega
      have i2 : (k : Int) ≤ (c : Int) := by omega
      have MB := Lib.hid hb
      have hsp := fun W => l1In_any x 0 ((m : Int) - 1) W
      obtain ⟨s, hs⟩ : ∃ s, inB x 0 ((m : Int) - 1) = s := ⟨_, rfl⟩
      rw [hs] at hsp
      have HSP := Lib.hid hsp
      cases s with
      | true =>
        have HK := hok2 hs
        obtain ⟨h, eh⟩ : ∃ h, hasI ps k x = h := ⟨_, rfl⟩
        have P' := fun (W : World) (hb : Below w.heap.size w W) => P W hb x
        rw [eh] at HK P'
        have HP := Lib.hid P'
        replace HK := Lib.hid HK
        clear hc hc0 hok1 hok2 P P' ex eh hs hsp hA hb
        go_wp2_with fail
        refine (HSP.out _).mono ?_
        rintro e w2 ⟨rfl, rfl⟩
        go_wp2_with fail
        refine (HP.out _ MB.out).mono ?_
        rintro e w2 ⟨rfl, rfl⟩
        have HB := MB
        clear c0
        cases h with
        | true =>
          have HN := Lib.hid (maB_no (m := m) (ps := ps) hlt (by rw [HK.out]; rfl))
          go_wp2_with fail
          go_ret
          exact ⟨by rw [HN.out]; rfl, HB.out⟩
        | false =>
          have HY := Lib.hid (show maOk m ps k = true by rw [HK.out]; rfl)
          go_wp2_with fail
          go_roundw
          case rel =>
            refine ⟨k + 1, by omega, by go_num, fun j hj => ?_, HB.out⟩
            rcases Nat.lt_succ_iff_lt_or_eq.1 hj with h | rfl
            · exact HO.out j h
            · exact HY.out
          case measure => simp [intOf]; omega
      | false =>
        have HN := Lib.hid (maB_no (m := m) (ps := ps) hlt (hok1 hs))
        clear hc hc0 hok1 hok2 P ex hs hsp hA hb
        go_wp2_with fail
        refine (HSP.out _).mono ?_
        rintro e w2 ⟨rfl, rfl⟩
        have HB := MB
        go_wp2_with fail
        go_ret
        exact ⟨by rw [HN.out]; rfl, HB.out⟩
    · obtain rfl : k = p := by omega
      have hF := Lib.hid (maB_all HO.out)
      clear hA
      by_cases hkm : k = m
      · subst hkm
        have hG := Lib.hid (show maB k k ps = true by rw [hF.out]; simp)
        go_wp2_with fail
        go_ret
        exact ⟨by rw [hG.out]; rfl, hb⟩
      · have hG := Lib.hid (show maB m k ps = false by rw [hF.out]; simp [hkm])
        have hne : ((k : Int) == (m : Int)) = false := by simp; omega
        go_wp2_with fail
        go_ret
        exact ⟨by rw [hG.out]; rfl, hb⟩

/-- The set of the first k places. -/
def MaskIs (ps : List Int) (k M : Nat) : Prop := M < 2 ^ 20 ∧ ∀ x : Nat, M.testBit x = hasI ps k (x : Int)
theorem hasI_succ (ps : List Int) (k : Nat) (x : Int) : hasI ps (k + 1) x = (hasI ps k x || ps.getD k 0 == x) := by
  simp [hasI, List.range_succ, List.any_append]
theorem mask_next {ps : List Int} {k M x : Nat} (h : MaskIs ps k M) (hx : ps.getD k 0 = (x : Int)) (hx2 : x < 20) : MaskIs ps (k + 1) (M ||| 2 ^ x) := by
  refine ⟨(bit_set M x h.1 hx2).2, fun y => ?_⟩
  rw [bit_new, hasI_succ, h.2 y, hx]
  congr 1
  rw [Bool.eq_iff_iff]
  simp
  omega
set_option maxHeartbeats 2000000 in
theorem isMatching_any (v : Value) (p m B : Nat) (ps : List Int) (w : World) (hv : Rd w B 1 v p ps) (hp : p ≤ 1099511627776) (hm1 : 1 ≤ m) (hm : m ≤ 12) :
    Calls Try.prog 80 #[v, .int .i64 (m : Int)] w fun e w' => e = .returned (.bool (maB m p ps)) ∧ w = w' := by
  obtain ⟨_, A, c, rfl, hA⟩ := hv
  have e1 := IntWalk.i64_in ((m : Int) - 1) (by omega)
  go_enter Try.func80, Try.ntmps80
  go_wp2_with fail
  go_loop [5, 10] (fun s i => ∃ k M : Nat, k ≤ p ∧ i = .int .i64 k ∧ s = .int .i64 (M : Int) ∧ MaskIs ps k M ∧ (∀ j, j < k → maOk m ps j = true)) (fun _ i => p - (intOf i).toNat)
  case atStart => exact ⟨0, 0, Nat.zero_le _, rfl, rfl, ⟨by decide, fun x => by simp [hasI]⟩, fun j h => absurd h (by omega)⟩
  case round =>
    obtain ⟨k, M, hk, rfl, rfl, hM, hno⟩ := hrel
    have HO := Lib.hid hno
    have HM := Lib.hid hM
    clear hno hM
    by_cases hlt : k < p
    · obtain ⟨b, off, rfl, hbB, hc⟩ := hA (by omega)
      have c0 := hc k (by omega)
      have hok1 := maOk_no1 (m := m) (ps := ps) (k := k)
      have hok2 := maOk_eq (m := m) (ps := ps) (k := k)
      obtain ⟨x, ex⟩ : ∃ x, ps.getD k 0 = x := ⟨_, rfl⟩
      rw [ex] at c0 hok1 hok2
      have i0 : (0 : Int) ≤ (k : Int) := by omega
      have i1 : (k : Int) < (p : Int) := by omega
      have hsp := fun W => within_any x 0 ((m : Int) - 1) W
      obtain ⟨s, hs⟩ : ∃ s, inB x 0 ((m : Int) - 1) = s := ⟨_, rfl⟩
      rw [hs] at hsp
      have HSP := Lib.hid hsp
      cases s with
      | false =>
        have HN := Lib.hid (maB_no (m := m) (ps := ps) hlt (hok1 hs))
        clear hc hok1 hok2 ex hs hsp hA
        go_wp2_with fail
        refine (HSP.out _).mono ?_
        rintro e w2 ⟨rfl, rfl⟩
        go_wp2_with fail
        go_ret
        exact ⟨by rw [HN.out]; rfl, rfl⟩
      | true =>
        have HK := Lib.hid (hok2 hs)
        have hx := inB_yes hs
        obtain ⟨x, rfl⟩ := Int.eq_ofNat_of_zero_le hx.1
        have EX := Lib.hid ex
        have hx2 : x < 20 := by omega
        have hx3 : 0 ≤ (x : Int) := by omega
        have hbit := bit_at2 M x (Nat.lt_trans HM.out.1 (by decide))
        have hsh := one_shl2 x (by omega)
        have hor := bit_set2 M x HM.out.1 hx2
        have hM3 := fun (h : ps.getD k 0 = (x : Int)) => mask_next HM.out h hx2
        obtain ⟨M', eM⟩ : ∃ M', M ||| 2 ^ x = M' := ⟨_, rfl⟩
        rw [eM] at hor hM3
        have hM2 := HM.out.2 x
        cases hh : M.testBit x with
        | true =>
          have HN := Lib.hid (maB_no (m := m) (ps := ps) hlt (by rw [HK.out, ← hM2, hh]; rfl))
          rw [show bitI M x = 1 by unfold bitI; rw [hh]; rfl] at hbit
          clear hc hok1 hok2 ex hs hsp hA hM2 hh hsh hor hM3 eM
          go_wp2_with fail
          refine (HSP.out _).mono ?_
          rintro e w2 ⟨rfl, rfl⟩
          go_wp2_with fail
          go_ret
          exact ⟨by rw [HN.out]; rfl, rfl⟩
        | false =>
          have HY := Lib.hid (show maOk m ps k = true by rw [HK.out, ← hM2, hh]; rfl)
          rw [show bitI M x = 0 by unfold bitI; rw [hh]; rfl] at hbit
          have HM3 := Lib.hid (hM3 EX.out)
          clear hc hok1 hok2 ex hs hsp hA hM2 hh hM3 eM
          go_wp2_with fail
          refine (HSP.out _).mono ?_
          rintro e w2 ⟨rfl, rfl⟩
          go_wp2_with fail
          go_round
          case rel =>
            refine ⟨k + 1, M', by omega, by go_num, rfl, HM3.out, fun j hj => ?_⟩
            rcases Nat.lt_succ_iff_lt_or_eq.1 hj with h | rfl
            · exact HO.out j h
            · exact HY.out
          case measure => simp [intOf]; omega
    · obtain rfl : k = p := by omega
      have hF := Lib.hid (maB_all HO.out)
      clear hA
      by_cases hkm : k = m
      · subst hkm
        have hG := Lib.hid (show maB k k ps = true by rw [hF.out]; simp)
        go_wp2_with fail
        go_ret
        exact ⟨by rw [hG.out]; rfl, rfl⟩
      · have hG := Lib.hid (show maB m k ps = false by rw [hF.out]; simp [hkm])
        have hne : ((k : Int) == (m : Int)) = false := by simp; omega
        go_wp2_with fail
        go_ret
        exact ⟨by rw [hG.out]; rfl, rfl⟩
end Go.Proofs.Ytpikhkdgohapeaa
