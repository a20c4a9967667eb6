/- Contracts of the tests whether a list of spots is a chart, a list of places a matching, and a transition good, in the program and in the reference. Conditions: the slices can be read, and their lengths are at most their capacities. Contracts of the tests whether a list of places is a matching and a transition good, in the program and in the reference. Conditions: the slices can be read, and their lengths are at most their capacities. Contracts of the tests whether a transition is good, in the program and in the reference. Conditions: the slices can be read, and their lengths are at most their capacities. -/
import Derived.Test.YtnlneblipedddaaPFnExactEvenTransition10
import Derived.Test.YtnlneblipedddaaPFnExactEvenTransition12
import Derived.Deep.RegionHeld3
namespace Go.Proofs.Ytnlneblipedddaa
open Go.RowKit

def Cap (v : Value) : Prop := ∀ A n c, v = .slice A n c → n ≤ c
theorem Own.cap {w : World} {lo hi sz n : Nat} {e : TypeId} {v : Value} {xs : List Int} (h : Own w lo hi e sz v n xs) : Cap v := by
  intro A m c he
  subst he
  rcases h.1.2 with ⟨h1, _⟩ | ⟨g, cap, cur, h1, _, _, hc, _⟩
  · simp only [Value.slice.injEq] at h1
    omega
  · simp only [Value.slice.injEq] at h1
    omega
theorem chOk_no1 {xs : List Int} {k : Nat} (h : spotB (X xs k) (Y xs k) = false) : chOk xs k = false := by simp [chOk, h]
theorem chOk_eq {xs : List Int} {k : Nat} (h : spotB (X xs k) (Y xs k) = true) : chOk xs k = !hasS xs k (X xs k) (Y xs k) := by
  simp only [chOk, h, Bool.true_and]; rfl
set_option maxHeartbeats 2000000 in
theorem IsChart_any (v : Value) (n B : Nat) (xs : List Int) (w : World) (hcp : Cap v) (hv : Rd w B 2 v n xs) (hB : B ≤ w.heap.size) (hn : n ≤ 1099511627776) :
    Calls Try.prog 45 #[v] w fun e w' => e = .returned (.bool (chB n xs)) ∧ Below w.heap.size w w' := by
  obtain ⟨A, c, rfl⟩ := hv.form
  have hnc : n ≤ c := hcp _ _ _ rfl
  cases h1 : inB n 1 12 with
  | false =>
    have hf := Lib.hid (show chB n xs = false by simp [chB, h1])
    clear hv hcp
    go_enter Try.func45, Try.ntmps45
    go_wp2_with fail
    refine (within_any _ _ _ _).mono ?_
    rintro e w' ⟨rfl, rfl⟩
    go_wp2_with fail
    go_ret
    exact ⟨by rw [hf.out]; rfl, Below.refl _ _⟩
  | true =>
    have hf := Lib.hid (show chB n xs = (List.range n).all (chOk xs) by simp [chB, h1])
    have Hv := Lib.hid hv
    clear hv hcp
    go_enter Try.func45, Try.ntmps45
    go_wp2_with fail
    refine (within_any _ _ _ _).mono ?_
    rintro e w' ⟨rfl, rfl⟩
    go_wp2_with fail
    go_loopw [11] (fun i wr => ∃ k : Nat, k ≤ n ∧ i = .int .i64 k ∧ (∀ j, j < k → chOk xs j = true) ∧ Below w.heap.size w wr) (fun i _ => n - (intOf i).toNat)
    case atStart => exact ⟨0, Nat.zero_le _, rfl, fun j h => absurd h (by omega), Below.refl _ _⟩
    case round =>
      obtain ⟨k, hk, rfl, hno, hb⟩ := hrel
      have HO := Lib.hid hno
      clear hno
      by_cases hlt : k < n
      · obtain ⟨b, off, rfl, hbB, hc⟩ := Hv.out.spot (by omega)
        have hc0 := hc k hlt
        have hok1 := chOk_no1 (xs := xs) (k := k)
        have hok2 := chOk_eq (xs := xs) (k := k)
        have P := fun (W : World) (hb : Below w.heap.size w W) (x y : Int) => sContains_any (.slice (some ⟨b, off, none⟩) k c) k B xs x y W ((RdP.of Hv.out (Nat.le_of_lt hlt)).below' hb hB) (Nat.le_trans hB hb.size) (by omega)
        obtain ⟨x, ex⟩ : ∃ x, X xs k = x := ⟨_, rfl⟩
        obtain ⟨y, ey⟩ : ∃ y, Y xs k = y := ⟨_, rfl⟩
        rw [ex, ey] at hc0 hok1 hok2
        have c0 := (hb.cell (p := ⟨b, off + k * 2, none⟩) (Nat.lt_of_lt_of_le hbB hB)).trans hc0.1
        have c1 := (hb.cell (p := ⟨b, off + k * 2 + 1, none⟩) (Nat.lt_of_lt_of_le hbB hB)).trans hc0.2
        have n0 := (Blk.new wr 75 #[.int .i64 x, .int .i64 y]).c2
        obtain ⟨n0, n1⟩ := n0
        have MB := Lib.hid (below_new hb (.cells #[.int .i64 x, .int .i64 y] 75))
        have i0 : (0 : Int) ≤ (k : Int) := by omega
        have i1 : (k : Int) < (n : Int) := by omega
        have i2 : (k : Int) ≤ (c : Int) := by omega
        cases hs : spotB x y with
        | true =>
          have hok := hok2 hs
          have HK := Lib.hid hok
          obtain ⟨h, eh⟩ : ∃ h, hasS xs k x y = h := ⟨_, rfl⟩
          have P' := fun (W : World) (hb : Below w.heap.size w W) => P W hb x y
          rw [eh] at HK P'
          have HP := Lib.hid P'
          clear hc hc0 hok1 hok2 hok P P' ex ey eh hb
          go_wp2_with fail
          go_region_held3 (fun W => W.cell? ⟨wr.heap.size, 0, none⟩ = some (.int .i64 x) ∧ W.cell? ⟨wr.heap.size, 1, none⟩ = some (.int .i64 y) ∧ Below w.heap.size w W)
            (first | exact ⟨n0, n1, MB.out.drew⟩ | (go_split_ands; exact ⟨cell_on hb2 (by assumption), cell_on hb2 (by assumption), below_on (by assumption) hb2⟩) | go_keep)
            (first | (go_at_call 80; refine (IsSpot_any x y _).mono ?_; rintro e w2 ⟨rfl, hb2⟩) | (go_at_call 56; refine (HP.out _ (by go_split_ands; assumption)).mono ?_; rintro e w2 ⟨rfl, hb2⟩))
          go_split_ands
          rename_i hb9
          have HB := Lib.hid hb9
          clear hb9 n0 n1 c0 c1
          cases h with
          | true =>
            have HN := Lib.hid (all_no (p := chOk xs) hlt (by rw [HK.out]; rfl))
            go_wp2_with fail
            go_ret
            exact ⟨by rw [hf.out, HN.out]; rfl, HB.out⟩
          | false =>
            have HY := Lib.hid (show chOk xs k = true by rw [HK.out]; rfl)
            go_wp2_with fail
            go_roundw
            case rel =>
              refine ⟨k + 1, by omega, by go_num, fun j hj => ?_, HB.out⟩
              rcases Nat.lt_succ_iff_lt_or_eq.1 hj with h | rfl
              · exact HO.out j h
              · exact HY.out
            case measure => simp [intOf]; omega
        | false =>
          have HN := Lib.hid (all_no (p := chOk xs) hlt (hok1 hs))
          have hsp := fun W => IsSpot_any x y W
          rw [hs] at hsp
          have HSP := Lib.hid hsp
          clear hsp hc hc0 hok1 hok2 P ex ey hb
          go_wp2_with fail
          refine wp_region_held_drew (S := fun W => W.cell? ⟨wr.heap.size, 0, none⟩ = some (.int .i64 x) ∧ W.cell? ⟨wr.heap.size, 1, none⟩ = some (.int .i64 y) ∧ Below w.heap.size w W) (by kernel_rfl) ⟨n0, n1, MB.out.drew⟩ (fun hHeld => ?_)
          refine take_at (i := 0) (oi := _) 16 (v := (Value.agg #[Value.int .i64 x, Value.int .i64 y])) rfl rfl (by kernel_rfl) (by kernel_rfl) (by kernel_rfl) (fun _ _ _ h => h) (Or.inl ⟨by rfl, ?_⟩) hHeld ?_
          · (intro w hSw; (try dsimp only at hSw); go_split_ands; go_simp)
          simp only [List.setIfInBounds_toArray, List.set_cons_zero, List.set_cons_succ]
          refine wpAnyH_ready (rs := [1]) (by kernel_rfl) (by simp) ?_
          refine AllReadyH.cons (o := _) rfl (fun K hK => ?_) AllReadyH.nil
          go_simp
          refine (HSP.out _).mono ?_
          rintro e w2 ⟨rfl, hb2⟩
          refine hK.out _ _ ⟨cell_on hb2 hHeld.1, cell_on hb2 hHeld.2.1, below_on hHeld.2.2 hb2⟩ (fun hHeld => ?_)
          clear hK K
          refine take_at (i := 2) (oi := _) 18 (v := .bool true) rfl rfl (by kernel_rfl) (by kernel_rfl) (by kernel_rfl) (fun _ _ _ h => h) (Or.inl ⟨by rfl, ?_⟩) hHeld ?_
          · (intro w hSw; (try dsimp only at hSw); go_split_ands; go_simp)
          simp only [List.setIfInBounds_toArray, List.set_cons_zero, List.set_cons_succ]
          refine take_at (i := 3) (oi := _) 19 (v := .bool true) rfl rfl (by kernel_rfl) (by kernel_rfl) (by kernel_rfl) (fun _ _ _ h => h) (Or.inl ⟨by rfl, ?_⟩) hHeld ?_
          · (intro w hSw; (try dsimp only at hSw); go_split_ands; go_simp)
          simp only [List.setIfInBounds_toArray, List.set_cons_zero, List.set_cons_succ]
          refine take_at (i := 4) (oi := _) 20 (v := undef) rfl rfl (by kernel_rfl) (by kernel_rfl) (by kernel_rfl) (fun _ _ _ h => h) (Or.inr ⟨by rfl, rfl⟩) hHeld ?_
          simp only [List.setIfInBounds_toArray, List.set_cons_zero, List.set_cons_succ]
          refine take_at (i := 5) (oi := _) 21 (v := undef) rfl rfl (by kernel_rfl) (by kernel_rfl) (by kernel_rfl) (fun _ _ _ h => h) (Or.inr ⟨by rfl, rfl⟩) hHeld ?_
          simp only [List.setIfInBounds_toArray, List.set_cons_zero, List.set_cons_succ]
          refine take_at (i := 6) (oi := _) 22 (v := undef) rfl rfl (by kernel_rfl) (by kernel_rfl) (by kernel_rfl) (fun _ _ _ h => h) (Or.inr ⟨by rfl, rfl⟩) hHeld ?_
          simp only [List.setIfInBounds_toArray, List.set_cons_zero, List.set_cons_succ]
          refine take_at (i := 7) (oi := _) 23 (v := undef) rfl rfl (by kernel_rfl) (by kernel_rfl) (by kernel_rfl) (fun _ _ _ h => h) (Or.inr ⟨by rfl, rfl⟩) hHeld ?_
          simp only [List.setIfInBounds_toArray, List.set_cons_zero, List.set_cons_succ]
          refine take_at (i := 8) (oi := _) 24 (v := undef) rfl rfl (by kernel_rfl) (by kernel_rfl) (by kernel_rfl) (fun _ _ _ h => h) (Or.inr ⟨by rfl, rfl⟩) hHeld ?_
          simp only [List.setIfInBounds_toArray, List.set_cons_zero, List.set_cons_succ]
          refine take_at (i := 9) (oi := _) 25 (v := .bool true) rfl rfl (by kernel_rfl) (by kernel_rfl) (by kernel_rfl) (fun _ _ _ h => h) (Or.inl ⟨by rfl, ?_⟩) hHeld ?_
          · (intro w hSw; (try dsimp only at hSw); go_split_ands; go_simp)
          simp only [List.setIfInBounds_toArray, List.set_cons_zero, List.set_cons_succ]
          refine wpAnyH_done (by kernel_rfl) ?_ _
          have HB := Lib.hid hHeld.2.2
          clear n0 n1 hHeld
          go_wp2_with fail
          go_ret
          exact ⟨by rw [hf.out, HN.out]; rfl, HB.out⟩
      · obtain rfl : k = n := by omega
        have hF := Lib.hid (all_yes HO.out)
        go_wp2_with fail
        go_ret
        exact ⟨by rw [hf.out, hF.out]; rfl, hb⟩

set_option maxHeartbeats 2000000 in
theorem chGood_any (v : Value) (n B : Nat) (xs : List Int) (w : World) (hcp : Cap v) (hv : Rd w B 2 v n xs) (hB : B ≤ w.heap.size) (hn : n ≤ 1099511627776) :
    Calls Try.prog 90 #[v] w fun e w' => e = .returned (.bool (chB n xs)) ∧ Below w.heap.size w w' := by
  obtain ⟨A, c, rfl⟩ := hv.form
  have hnc : n ≤ c := hcp _ _ _ rfl
  have Hv := Lib.hid hv
  clear hv hcp
  go_enter Try.func90, Try.ntmps90
  go_wp2_with fail
  go_loopw [9] (fun i wr => ∃ k : Nat, k ≤ n ∧ i = .int .i64 k ∧ (∀ j, j < k → chOk xs j = true) ∧ Below w.heap.size w wr) (fun i _ => n - (intOf i).toNat)
  case atStart => exact ⟨0, Nat.zero_le _, rfl, fun j h => absurd h (by omega), Below.refl _ _⟩
  case round =>
    obtain ⟨k, hk, rfl, hno, hb⟩ := hrel
    obtain ⟨wo, rfl⟩ : ∃ wo : World, wo = wr := ⟨_, rfl⟩
    have HO := Lib.hid hno
    clear hno
    by_cases hlt : k < n
    · obtain ⟨b, off, rfl, hbB, hc⟩ := Hv.out.spot (by omega)
      have hc0 := hc k hlt
      have HC := Lib.hid hc
      have hok1 := chOk_no1 (xs := xs) (k := k)
      have hok2 := chOk_eq (xs := xs) (k := k)
      obtain ⟨x, ex⟩ : ∃ x, X xs k = x := ⟨_, rfl⟩
      obtain ⟨y, ey⟩ : ∃ y, Y xs k = y := ⟨_, rfl⟩
      rw [ex, ey] at hc0 hok1 hok2
      have c0 := (hb.cell (p := ⟨b, off + k * 2, none⟩) (Nat.lt_of_lt_of_le hbB hB)).trans hc0.1
      have c1 := (hb.cell (p := ⟨b, off + k * 2 + 1, none⟩) (Nat.lt_of_lt_of_le hbB hB)).trans hc0.2
      have k0 := Blk.new wo 75 #[.int .i64 x, .int .i64 y]
      have K0 := Lib.hid k0
      obtain ⟨n0, n1⟩ := k0.c2
      have MB := Lib.hid (below_new hb (.cells #[.int .i64 x, .int .i64 y] 75))
      have i0 : (0 : Int) ≤ (k : Int) := by omega
      have i1 : (k : Int) < (n : Int) := by omega
      have i2 : (k : Int) ≤ (c : Int) := by omega
      have hsp := fun W => stGood_any x y W
      obtain ⟨s, hs⟩ : ∃ s, spotB x y = s := ⟨_, rfl⟩
      rw [hs] at hsp
      have HSP := Lib.hid hsp
      cases s with
      | false =>
        have HN := Lib.hid (all_no (p := chOk xs) hlt (hok1 hs))
        have HF := Lib.hid (show chB n xs = false by rw [chB, HN.out, Bool.and_false])
        clear hsp hc hc0 hok1 hok2 ex ey hb k0
        go_wp2_with fail
        refine (HSP.out _).mono ?_
        rintro e w2 ⟨rfl, hb2⟩
        have HB := Lib.hid (below_on MB.out hb2)
        clear hb2
        go_wp2_with fail
        go_ret
        exact ⟨by rw [HF.out]; rfl, HB.out⟩
      | true =>
        have HK := Lib.hid (hok2 hs)
        clear hsp hc hc0 hok1 hok2 ex ey hb k0
        go_wp2_with fail
        refine (HSP.out _).mono ?_
        rintro e w2 ⟨rfl, hb2⟩
        have HB := Lib.hid (below_on MB.out hb2)
        have K2 := Lib.hid (K0.out.on hb2)
        clear hb2 n0 n1 c0 c1 MB K0 HSP
        go_wp2_with fail
        go_loopw [21] (fun i wq => ∃ j : Nat, j ≤ k ∧ i = .int .i64 j ∧ (∀ p, p < j → ¬ (X xs p = x ∧ Y xs p = y)) ∧ Blk wq wo.heap.size 75 #[.int .i64 x, .int .i64 y] ∧ Below w.heap.size w wq) (fun i _ => k - (intOf i).toNat)
        case atStart => exact ⟨0, Nat.zero_le _, rfl, fun j h => absurd h (by omega), K2.out, HB.out⟩
        case round =>
          clear K2 HB
          obtain ⟨j, hj, rfl, hno, hbk, hb⟩ := hrel
          have HN := Lib.hid hno
          clear hno
          by_cases hlj : j < k
          · have hj0 := HC.out j (by omega)
            obtain ⟨p, ep⟩ : ∃ p, X xs j = p := ⟨_, rfl⟩
            obtain ⟨q, eq⟩ : ∃ q, Y xs j = q := ⟨_, rfl⟩
            rw [ep, eq] at hj0
            have c2 := (hb.cell (p := ⟨b, off + j * 2, none⟩) (Nat.lt_of_lt_of_le hbB hB)).trans hj0.1
            have c3 := (hb.cell (p := ⟨b, off + j * 2 + 1, none⟩) (Nat.lt_of_lt_of_le hbB hB)).trans hj0.2
            have EP := Lib.hid ep
            have EQ := Lib.hid eq
            obtain ⟨a0, a1⟩ := hbk.c2
            have b0 := cell_new a0 (.cells #[.int .i64 p, .int .i64 q] 75)
            have b1 := cell_new a1 (.cells #[.int .i64 p, .int .i64 q] 75)
            have hne : wo.heap.size < wr.heap.size := hbk.lt
            have K3 := Lib.hid (hbk.alloc (.cells #[.int .i64 p, .int .i64 q] 75))
            have HB3 := Lib.hid (below_new hb (.cells #[.int .i64 p, .int .i64 q] 75))
            have j0 : (0 : Int) ≤ (j : Int) := by omega
            have j1 : (j : Int) < (k : Int) := by omega
            clear hj0 ep eq hbk hb
            by_cases heq : x = p ∧ y = q
            · have HY := Lib.hid (hasS_yes (xs := xs) (n := k) (x := x) (y := y) hlj (EP.out.trans heq.1.symm) (EQ.out.trans heq.2.symm))
              have HN2 := Lib.hid (all_no (p := chOk xs) hlt (by rw [HK.out, HY.out]; rfl))
              have HF := Lib.hid (show chB n xs = false by rw [chB, HN2.out, Bool.and_false])
              obtain ⟨rfl, rfl⟩ := heq
              have ee := eql_spots_yes x y
              go_wp2_with fail
              go_ret
              exact ⟨by rw [HF.out]; rfl, HB3.out⟩
            · have HF := Lib.hid heq
              have ee := eql_spots_no heq
              clear heq
              go_wp2_with fail
              go_roundw
              case rel =>
                refine ⟨j + 1, by omega, by go_num, fun p' hp' => ?_, K3.out, HB3.out⟩
                rcases Nat.lt_succ_iff_lt_or_eq.1 hp' with h | rfl
                · exact HN.out p' h
                · intro he
                  exact HF.out ⟨he.1.symm.trans EP.out, he.2.symm.trans EQ.out⟩
              case measure => simp [intOf]; omega
          · obtain rfl : j = k := by omega
            have HY := Lib.hid (show chOk xs j = true by rw [HK.out, hasS_no HN.out]; rfl)
            have HB := Lib.hid hb
            clear hb hbk
            go_wp2_with fail
            go_roundw
            case rel =>
              refine ⟨j + 1, by omega, by go_num, fun p hp => ?_, HB.out⟩
              rcases Nat.lt_succ_iff_lt_or_eq.1 hp with h | rfl
              · exact HO.out p h
              · exact HY.out
            case measure => simp [intOf]; omega
    · obtain rfl : k = n := by omega
      have hF := Lib.hid (show chB k xs = inB k 1 12 by rw [chB, all_yes HO.out, Bool.and_true])
      obtain ⟨r, er⟩ : ∃ r, inB k 1 12 = r := ⟨_, rfl⟩
      have P := Lib.hid (fun W => l1In_any k 1 12 W)
      go_wp2_with fail
      refine (P.out _).mono ?_
      rintro e w' ⟨rfl, rfl⟩
      go_wp2_with fail
      go_ret
      exact ⟨by rw [hF.out, er]; rfl, hb⟩
end Go.Proofs.Ytnlneblipedddaa

namespace Go.Proofs.Ytnlneblipedddaa
open Go.RowKit

theorem maB_no {m p k : Nat} {ps : List Int} (hk : k < p) (h : maOk m ps k = false) : maB m p ps = false := by
  rw [maB, all_no hk h]; rfl
theorem maB_all {m p : Nat} {ps : List Int} (h : ∀ j, j < p → maOk m ps j = true) : maB m p ps = (p == m) := by
  rw [maB, all_yes h]; simp
theorem maOk_no1 {m k : Nat} {ps : List Int} (h : inB (ps.getD k 0) 0 ((m : Int) - 1) = false) : maOk m ps k = false := by rw [maOk, h]; rfl
theorem maOk_eq {m k : Nat} {ps : List Int} (h : inB (ps.getD k 0) 0 ((m : Int) - 1) = true) : maOk m ps k = !hasI ps k (ps.getD k 0) := by rw [maOk, h]; rfl
set_option maxHeartbeats 2000000 in
theorem maPlaces_any (v : Value) (p m B : Nat) (ps : List Int) (w : World) (hcp : Cap v) (hv : Rd w B 1 v p ps) (hB : B ≤ w.heap.size) (hp : p ≤ 1099511627776) (hm : m ≤ 1099511627776) :
    Calls Try.prog 81 #[v, .int .i64 (m : Int)] w fun e w' => e = .returned (.bool (maB m p ps)) ∧ Below w.heap.size w w' := by
  obtain ⟨A, c, rfl⟩ := hv.form
  have hnc : p ≤ c := hcp _ _ _ rfl
  obtain ⟨_, A', c', e, hA⟩ := id hv
  simp only [Value.slice.injEq, true_and] at e
  obtain ⟨rfl, rfl⟩ := e
  have Hv := Lib.hid hv
  have e1 := IntWalk.i64_in ((m : Int) - 1) (by omega)
  clear hv hcp
  go_enter Try.func81, Try.ntmps81
  go_wp2_with fail
  go_loopw [9] (fun i wr => ∃ k : Nat, k ≤ p ∧ i = .int .i64 k ∧ (∀ j, j < k → maOk m ps j = true) ∧ Below w.heap.size w wr) (fun i _ => p - (intOf i).toNat)
  case atStart => exact ⟨0, Nat.zero_le _, rfl, fun j h => absurd h (by omega), Below.refl _ _⟩
  case round =>
    obtain ⟨k, hk, rfl, hno, hb⟩ := hrel
    have HO := Lib.hid hno
    clear hno
    by_cases hlt : k < p
    · obtain ⟨b, off, rfl, hbB, hc⟩ := hA (by omega)
      have hc0 := hc k (by omega)
      have hok1 := maOk_no1 (m := m) (ps := ps) (k := k)
      have hok2 := maOk_eq (m := m) (ps := ps) (k := k)
      have P := fun (W : World) (hb : Below w.heap.size w W) (x : Int) => l1Has_any (.slice (some ⟨b, off, none⟩) k c) k B ps x W ((RdP.of Hv.out (Nat.le_of_lt hlt)).below' hb hB) (Nat.le_trans hB hb.size) (by omega)
      obtain ⟨x, ex⟩ : ∃ x, ps.getD k 0 = x := ⟨_, rfl⟩
      rw [ex] at hc0 hok1 hok2
      have c0 := (hb.cell (p := ⟨b, off + k, none⟩) (Nat.lt_of_lt_of_le hbB hB)).trans hc0
      have i0 : (0 : Int) ≤ (k : Int) := by omega
      have i1 : (k : Int) < (p : Int) := by omega
      have i2 : (k : Int) ≤ (c : Int) := by omega
      have MB := Lib.hid hb
      have hsp := fun W => l1In_any x 0 ((m : Int) - 1) W
      obtain ⟨s, hs⟩ : ∃ s, inB x 0 ((m : Int) - 1) = s := ⟨_, rfl⟩
      rw [hs] at hsp
      have HSP := Lib.hid hsp
      cases s with
      | true =>
        have HK := hok2 hs
        obtain ⟨h, eh⟩ : ∃ h, hasI ps k x = h := ⟨_, rfl⟩
        have P' := fun (W : World) (hb : Below w.heap.size w W) => P W hb x
        rw [eh] at HK P'
        have HP := Lib.hid P'
        replace HK := Lib.hid HK
        clear hc hc0 hok1 hok2 P P' ex eh hs hsp hA hb
        go_wp2_with fail
        refine (HSP.out _).mono ?_
        rintro e w2 ⟨rfl, rfl⟩
        go_wp2_with fail
        refine (HP.out _ MB.out).mono ?_
        rintro e w2 ⟨rfl, rfl⟩
        have HB := MB
        clear c0
        cases h with
        | true =>
          have HN := Lib.hid (maB_no (m := m) (ps := ps) hlt (by rw [HK.out]; rfl))
          go_wp2_with fail
          go_ret
          exact ⟨by rw [HN.out]; rfl, HB.out⟩
        | false =>
          have HY := Lib.hid (show maOk m ps k = true by rw [HK.out]; rfl)
          go_wp2_with fail
          go_roundw
          case rel =>
            refine ⟨k + 1, by omega, by go_num, fun j hj => ?_, HB.out⟩
            rcases Nat.lt_succ_iff_lt_or_eq.1 hj with h | rfl
            · exact HO.out j h
            · exact HY.out
          case measure => simp [intOf]; omega
      | false =>
        have HN := Lib.hid (maB_no (m := m) (ps := ps) hlt (hok1 hs))
        clear hc hc0 hok1 hok2 P ex hs hsp hA hb
        go_wp2_with fail
        refine (HSP.out _).mono ?_
        rintro e w2 ⟨rfl, rfl⟩
        have HB := MB
        go_wp2_with fail
        go_ret
        exact ⟨by rw [HN.out]; rfl, HB.out⟩
    · obtain rfl : k = p := by omega
      have hF := Lib.hid (maB_all HO.out)
      clear hA
      by_cases hkm : k = m
      · subst hkm
        have hG := Lib.hid (show maB k k ps = true by rw [hF.out]; simp)
        go_wp2_with fail
        go_ret
        exact ⟨by rw [hG.out]; rfl, hb⟩
      · have hG := Lib.hid (show maB m k ps = false by rw [hF.out]; simp [hkm])
        have hne : ((k : Int) == (m : Int)) = false := by simp; omega
        go_wp2_with fail
        go_ret
        exact ⟨by rw [hG.out]; rfl, hb⟩

/-- The set of the first k places. -/
def MaskIs (ps : List Int) (k M : Nat) : Prop := M < 2 ^ 20 ∧ ∀ x : Nat, M.testBit x = hasI ps k (x : Int)
theorem hasI_succ (ps : List Int) (k : Nat) (x : Int) : hasI ps (k + 1) x = (hasI ps k x || ps.getD k 0 == x) := by
  simp [hasI, List.range_succ, List.any_append]
theorem mask_next {ps : List Int} {k M x : Nat} (h : MaskIs ps k M) (hx : ps.getD k 0 = (x : Int)) (hx2 : x < 20) : MaskIs ps (k + 1) (M ||| 2 ^ x) := by
  refine ⟨(bit_set M x h.1 hx2).2, fun y => ?_⟩
  rw [bit_new, hasI_succ, h.2 y, hx]
  congr 1
  rw [Bool.eq_iff_iff]
  simp
  omega
set_option maxHeartbeats 2000000 in
theorem isMatching_any (v : Value) (p m B : Nat) (ps : List Int) (w : World) (hv : Rd w B 1 v p ps) (hp : p ≤ 1099511627776) (hm1 : 1 ≤ m) (hm : m ≤ 12) :
    Calls Try.prog 47 #[v, .int .i64 (m : Int)] w fun e w' => e = .returned (.bool (maB m p ps)) ∧ w = w' := by
  obtain ⟨_, A, c, rfl, hA⟩ := hv
  have e1 := IntWalk.i64_in ((m : Int) - 1) (by omega)
  go_enter Try.func47, Try.ntmps47
  go_wp2_with fail
  go_loop [5, 10] (fun s i => ∃ k M : Nat, k ≤ p ∧ i = .int .i64 k ∧ s = .int .i64 (M : Int) ∧ MaskIs ps k M ∧ (∀ j, j < k → maOk m ps j = true)) (fun _ i => p - (intOf i).toNat)
  case atStart => exact ⟨0, 0, Nat.zero_le _, rfl, rfl, ⟨by decide, fun x => by simp [hasI]⟩, fun j h => absurd h (by omega)⟩
  case round =>
    obtain ⟨k, M, hk, rfl, rfl, hM, hno⟩ := hrel
    have HO := Lib.hid hno
    have HM := Lib.hid hM
    clear hno hM
    by_cases hlt : k < p
    · obtain ⟨b, off, rfl, hbB, hc⟩ := hA (by omega)
      have c0 := hc k (by omega)
      have hok1 := maOk_no1 (m := m) (ps := ps) (k := k)
      have hok2 := maOk_eq (m := m) (ps := ps) (k := k)
      obtain ⟨x, ex⟩ : ∃ x, ps.getD k 0 = x := ⟨_, rfl⟩
      rw [ex] at c0 hok1 hok2
      have i0 : (0 : Int) ≤ (k : Int) := by omega
      have i1 : (k : Int) < (p : Int) := by omega
      have hsp := fun W => within_any x 0 ((m : Int) - 1) W
      obtain ⟨s, hs⟩ : ∃ s, inB x 0 ((m : Int) - 1) = s := ⟨_, rfl⟩
      rw [hs] at hsp
      have HSP := Lib.hid hsp
      cases s with
      | false =>
        have HN := Lib.hid (maB_no (m := m) (ps := ps) hlt (hok1 hs))
        clear hc hok1 hok2 ex hs hsp hA
        go_wp2_with fail
        refine (HSP.out _).mono ?_
        rintro e w2 ⟨rfl, rfl⟩
        go_wp2_with fail
        go_ret
        exact ⟨by rw [HN.out]; rfl, rfl⟩
      | true =>
        have HK := Lib.hid (hok2 hs)
        have hx := inB_yes hs
        obtain ⟨x, rfl⟩ := Int.eq_ofNat_of_zero_le hx.1
        have EX := Lib.hid ex
        have hx2 : x < 20 := by omega
        have hx3 : 0 ≤ (x : Int) := by omega
        have hbit := bit_at2 M x (Nat.lt_trans HM.out.1 (by decide))
        have hsh := one_shl2 x (by omega)
        have hor := bit_set2 M x HM.out.1 hx2
        have hM3 := fun (h : ps.getD k 0 = (x : Int)) => mask_next HM.out h hx2
        obtain ⟨M', eM⟩ : ∃ M', M ||| 2 ^ x = M' := ⟨_, rfl⟩
        rw [eM] at hor hM3
        have hM2 := HM.out.2 x
        cases hh : M.testBit x with
        | true =>
          have HN := Lib.hid (maB_no (m := m) (ps := ps) hlt (by rw [HK.out, ← hM2, hh]; rfl))
          rw [show bitI M x = 1 by unfold bitI; rw [hh]; rfl] at hbit
          clear hc hok1 hok2 ex hs hsp hA hM2 hh hsh hor hM3 eM
          go_wp2_with fail
          refine (HSP.out _).mono ?_
          rintro e w2 ⟨rfl, rfl⟩
          go_wp2_with fail
          go_ret
          exact ⟨by rw [HN.out]; rfl, rfl⟩
        | false =>
          have HY := Lib.hid (show maOk m ps k = true by rw [HK.out, ← hM2, hh]; rfl)
          rw [show bitI M x = 0 by unfold bitI; rw [hh]; rfl] at hbit
          have HM3 := Lib.hid (hM3 EX.out)
          clear hc hok1 hok2 ex hs hsp hA hM2 hh hM3 eM
          go_wp2_with fail
          refine (HSP.out _).mono ?_
          rintro e w2 ⟨rfl, rfl⟩
          go_wp2_with fail
          go_round
          case rel =>
            refine ⟨k + 1, M', by omega, by go_num, rfl, HM3.out, fun j hj => ?_⟩
            rcases Nat.lt_succ_iff_lt_or_eq.1 hj with h | rfl
            · exact HO.out j h
            · exact HY.out
          case measure => simp [intOf]; omega
    · obtain rfl : k = p := by omega
      have hF := Lib.hid (maB_all HO.out)
      clear hA
      by_cases hkm : k = m
      · subst hkm
        have hG := Lib.hid (show maB k k ps = true by rw [hF.out]; simp)
        go_wp2_with fail
        go_ret
        exact ⟨by rw [hG.out]; rfl, rfl⟩
      · have hG := Lib.hid (show maB m k ps = false by rw [hF.out]; simp [hkm])
        have hne : ((k : Int) == (m : Int)) = false := by simp; omega
        go_wp2_with fail
        go_ret
        exact ⟨by rw [hG.out]; rfl, rfl⟩
end Go.Proofs.Ytnlneblipedddaa

namespace Go.Proofs.Ytnlneblipedddaa
open Go.RowKit

def CapT (v : Value) : Prop := ∀ A n ca C m cb c D p cc, v = .agg #[.slice A n ca, .slice C m cb, c, .slice D p cc] → n ≤ ca ∧ m ≤ cb ∧ p ≤ cc
theorem OwnT.cap {w : World} {lo hi : Nat} {v : Value} {t : TrN} (h : OwnT w lo hi v t) : CapT v := by
  obtain ⟨va, vb, vc, m1, m2, rfl, _, _, _, ha, hb, hc⟩ := h
  intro A n ca C m cb c D p cc he
  simp only [Value.agg.injEq, Array.mk.injEq, List.cons.injEq] at he
  obtain ⟨rfl, rfl, _, rfl, _⟩ := he
  exact ⟨ha.cap _ _ _ rfl, hb.cap _ _ _ rfl, hc.cap _ _ _ rfl⟩
theorem cap_mk {A : Option Addr} {n c : Nat} (h : n ≤ c) : Cap (.slice A n c) := by
  intro A' n' c' he
  simp only [Value.slice.injEq] at he
  omega
set_option maxHeartbeats 2000000 in
theorem IsTransition_any (v : Value) (B : Nat) (t : TrN) (w : World) (hcp : CapT v) (hv : RdT w B v t) (hB : B ≤ w.heap.size) (hs : t.small) :
    Calls Try.prog 15 #[v] w fun e w' => e = .returned (.bool (trB t)) ∧ Below w.heap.size w w' := by
  obtain ⟨A, ca, C, cb, D, cc, rfl, ha, hb, hc⟩ := hv.form
  obtain ⟨l1, l2, l3⟩ := hcp _ _ _ _ _ _ _ _ _ _ rfl
  clear hv hcp
  obtain ⟨n, xs, m, ys, c, p, ps⟩ := t
  simp only [TrN.small] at *
  obtain ⟨s1, s2, s3⟩ := hs
  obtain ⟨W1, eW1⟩ : ∃ W1, w.alloc (.cells #[.slice A n ca, .slice C m cb, .int .i64 c, .slice D p cc] 29) = W1 := ⟨_, rfl⟩
  have HB1 : Below w.heap.size w W1 := by rw [← eW1]; exact below_new (Below.refl _ _) _
  have K0 : Blk W1 w.heap.size 29 #[.slice A n ca, .slice C m cb, .int .i64 c, .slice D p cc] := by rw [← eW1]; exact Blk.new _ _ _
  obtain ⟨a0, a1, a2, a3⟩ := K0.c4
  replace K0 := Lib.hid K0
  replace HB1 := Lib.hid HB1
  have Ha := Lib.hid ha
  have Hb := Lib.hid hb
  have Hc := Lib.hid hc
  clear ha hb hc
  have HT := Lib.hid (show trB ⟨n, xs, m, ys, c, p, ps⟩ = (chB n xs && (chB m ys && (n == m && (inB c 1 64 && maB n p ps)))) from rfl)
  have P1 := fun W (hb : Below w.heap.size w W) => IsChart_any (.slice A n ca) n B xs W (cap_mk l1) (Ha.out.below' hb hB) (Nat.le_trans hB hb.size) (by omega)
  have P2 := fun W (hb : Below w.heap.size w W) => IsChart_any (.slice C m cb) m B ys W (cap_mk l2) (Hb.out.below' hb hB) (Nat.le_trans hB hb.size) (by omega)
  have P3 := fun W => within_any c 1 64 W
  have P4 := fun (h1 : 1 ≤ n) (h2 : n ≤ 12) W (hb : Below w.heap.size w W) => isMatching_any (.slice D p cc) p n B ps W (Hc.out.below' hb hB) (by omega) h1 h2
  have hsp := chB_spot (n := n) (xs := xs)
  obtain ⟨b1, e1⟩ : ∃ b, chB n xs = b := ⟨_, rfl⟩
  obtain ⟨b2, e2⟩ : ∃ b, chB m ys = b := ⟨_, rfl⟩
  obtain ⟨b3, e3⟩ : ∃ b, inB c 1 64 = b := ⟨_, rfl⟩
  obtain ⟨b4, e4⟩ : ∃ b, maB n p ps = b := ⟨_, rfl⟩
  rw [e1] at P1 HT hsp
  rw [e2] at P2 HT
  rw [e3] at P3 HT
  rw [e4] at P4 HT
  have Q1 := Lib.hid P1
  have Q2 := Lib.hid P2
  have Q3 := Lib.hid P3
  have Q4 := Lib.hid P4
  clear P1 P2 P3 P4 e1 e2 e3 e4
  cases b1 with
  | false =>
    have hf := Lib.hid (show trB ⟨n, xs, m, ys, c, p, ps⟩ = false by rw [HT.out]; rfl)
    go_enter Try.func15, Try.ntmps15
    go_wp2_with fail
    refine (Q1.out _ HB1.out).mono ?_
    rintro e w2 ⟨rfl, h2⟩
    have HB2 := Lib.hid (below_on HB1.out h2)
    have K2 := Lib.hid (K0.out.on h2)
    clear h2 a0 a1 a2 a3 HB1 K0
    have HB1 := HB2
    have K0 := K2
    clear HB2 K2
    obtain ⟨a0, a1, a2, a3⟩ := K0.out.c4
    go_wp2_with fail
    go_ret
    exact ⟨by rw [hf.out]; rfl, HB1.out⟩
  | true =>
    obtain ⟨⟨n1, n12⟩, _⟩ := hsp rfl
    cases b2 with
    | false =>
      have hf := Lib.hid (show trB ⟨n, xs, m, ys, c, p, ps⟩ = false by rw [HT.out]; rfl)
      go_enter Try.func15, Try.ntmps15
      go_wp2_with fail
      refine (Q1.out _ HB1.out).mono ?_
      rintro e w2 ⟨rfl, h2⟩
      have HB2 := Lib.hid (below_on HB1.out h2)
      have K2 := Lib.hid (K0.out.on h2)
      clear h2 a0 a1 a2 a3 HB1 K0
      have HB1 := HB2
      have K0 := K2
      clear HB2 K2
      obtain ⟨a0, a1, a2, a3⟩ := K0.out.c4
      go_wp2_with fail
      refine (Q2.out _ HB1.out).mono ?_
      rintro e w3 ⟨rfl, h2⟩
      have HB2 := Lib.hid (below_on HB1.out h2)
      have K2 := Lib.hid (K0.out.on h2)
      clear h2 a0 a1 a2 a3 HB1 K0
      have HB1 := HB2
      have K0 := K2
      clear HB2 K2
      obtain ⟨a0, a1, a2, a3⟩ := K0.out.c4
      go_wp2_with fail
      go_ret
      exact ⟨by rw [hf.out]; rfl, HB1.out⟩
    | true =>
      by_cases hnm : n = m
      · subst hnm
        have hbe : ((n : Int) == (n : Int)) = true := by simp
        cases b3 with
        | false =>
          have hf := Lib.hid (show trB ⟨n, xs, n, ys, c, p, ps⟩ = false by rw [HT.out]; simp)
          go_enter Try.func15, Try.ntmps15
          go_wp2_with fail
          refine (Q1.out _ HB1.out).mono ?_
          rintro e w2 ⟨rfl, h2⟩
          have HB2 := Lib.hid (below_on HB1.out h2)
          have K2 := Lib.hid (K0.out.on h2)
          clear h2 a0 a1 a2 a3 HB1 K0
          have HB1 := HB2
          have K0 := K2
          clear HB2 K2
          obtain ⟨a0, a1, a2, a3⟩ := K0.out.c4
          go_wp2_with fail
          refine (Q2.out _ HB1.out).mono ?_
          rintro e w3 ⟨rfl, h2⟩
          have HB2 := Lib.hid (below_on HB1.out h2)
          have K2 := Lib.hid (K0.out.on h2)
          clear h2 a0 a1 a2 a3 HB1 K0
          have HB1 := HB2
          have K0 := K2
          clear HB2 K2
          obtain ⟨a0, a1, a2, a3⟩ := K0.out.c4
          go_wp2_with fail
          refine (Q3.out _).mono ?_
          rintro e w4 ⟨rfl, rfl⟩
          go_wp2_with fail
          go_ret
          exact ⟨by rw [hf.out]; rfl, HB1.out⟩
        | true =>
          have hf := Lib.hid (show trB ⟨n, xs, n, ys, c, p, ps⟩ = b4 by rw [HT.out]; simp)
          go_enter Try.func15, Try.ntmps15
          go_wp2_with fail
          refine (Q1.out _ HB1.out).mono ?_
          rintro e w2 ⟨rfl, h2⟩
          have HB2 := Lib.hid (below_on HB1.out h2)
          have K2 := Lib.hid (K0.out.on h2)
          clear h2 a0 a1 a2 a3 HB1 K0
          have HB1 := HB2
          have K0 := K2
          clear HB2 K2
          obtain ⟨a0, a1, a2, a3⟩ := K0.out.c4
          go_wp2_with fail
          refine (Q2.out _ HB1.out).mono ?_
          rintro e w3 ⟨rfl, h2⟩
          have HB2 := Lib.hid (below_on HB1.out h2)
          have K2 := Lib.hid (K0.out.on h2)
          clear h2 a0 a1 a2 a3 HB1 K0
          have HB1 := HB2
          have K0 := K2
          clear HB2 K2
          obtain ⟨a0, a1, a2, a3⟩ := K0.out.c4
          go_wp2_with fail
          refine (Q3.out _).mono ?_
          rintro e w4 ⟨rfl, rfl⟩
          go_wp2_with fail
          refine (Q4.out n1 n12 _ HB1.out).mono ?_
          rintro e w5 ⟨rfl, rfl⟩
          go_wp2_with fail
          go_ret
          exact ⟨by rw [hf.out]; rfl, HB1.out⟩
      · have hf := Lib.hid (show trB ⟨n, xs, m, ys, c, p, ps⟩ = false by rw [HT.out]; simp [hnm])
        have hbe : ((n : Int) == (m : Int)) = false := by simp; omega
        go_enter Try.func15, Try.ntmps15
        go_wp2_with fail
        refine (Q1.out _ HB1.out).mono ?_
        rintro e w2 ⟨rfl, h2⟩
        have HB2 := Lib.hid (below_on HB1.out h2)
        have K2 := Lib.hid (K0.out.on h2)
        clear h2 a0 a1 a2 a3 HB1 K0
        have HB1 := HB2
        have K0 := K2
        clear HB2 K2
        obtain ⟨a0, a1, a2, a3⟩ := K0.out.c4
        go_wp2_with fail
        refine (Q2.out _ HB1.out).mono ?_
        rintro e w3 ⟨rfl, h2⟩
        have HB2 := Lib.hid (below_on HB1.out h2)
        have K2 := Lib.hid (K0.out.on h2)
        clear h2 a0 a1 a2 a3 HB1 K0
        have HB1 := HB2
        have K0 := K2
        clear HB2 K2
        obtain ⟨a0, a1, a2, a3⟩ := K0.out.c4
        go_wp2_with fail
        go_ret
        exact ⟨by rw [hf.out]; rfl, HB1.out⟩
set_option maxHeartbeats 2000000 in
theorem chPair_any (v u : Value) (n m B : Nat) (xs ys : List Int) (w : World) (hcp : Cap v) (hcp2 : Cap u) (hv : Rd w B 2 v n xs) (hu : Rd w B 2 u m ys) (hB : B ≤ w.heap.size) (hn : n ≤ 1099511627776) (hm : m ≤ 1099511627776) :
    Calls Try.prog 67 #[v, u] w fun e w' => e = .returned (.bool (chB n xs && (chB m ys && n == m))) ∧ Below w.heap.size w w' := by
  have P1 := chGood_any v n B xs w hcp hv hB hn
  have P2 := fun W (hb : Below w.heap.size w W) => chGood_any u m B ys W hcp2 (hu.below' hb hB) (Nat.le_trans hB hb.size) hm
  obtain ⟨A, c, rfl⟩ := hv.form
  obtain ⟨C, d, rfl⟩ := hu.form
  obtain ⟨b1, e1⟩ : ∃ b, chB n xs = b := ⟨_, rfl⟩
  obtain ⟨b2, e2⟩ : ∃ b, chB m ys = b := ⟨_, rfl⟩
  rw [e1] at P1
  rw [e2] at P2
  rw [e1, e2]
  have Q1 := Lib.hid P1
  have Q2 := Lib.hid P2
  clear P1 P2 e1 e2 hv hu hcp hcp2
  cases b1 with
  | false =>
    have hf := Lib.hid (show (false && (b2 && n == m)) = false from rfl)
    go_enter Try.func67, Try.ntmps67
    go_wp2_with fail
    refine Q1.out.mono ?_
    rintro e w2 ⟨rfl, h2⟩
    have HB1 := Lib.hid h2
    go_wp2_with fail
    go_ret
    exact ⟨by rw [hf.out]; rfl, HB1.out⟩
  | true =>
    cases b2 with
    | false =>
      have hf := Lib.hid (show (true && (false && n == m)) = false from rfl)
      go_enter Try.func67, Try.ntmps67
      go_wp2_with fail
      refine Q1.out.mono ?_
      rintro e w2 ⟨rfl, h2⟩
      go_wp2_with fail
      refine (Q2.out _ h2).mono ?_
      rintro e w3 ⟨rfl, h3⟩
      have HB1 := Lib.hid (below_on h2 h3)
      go_wp2_with fail
      go_ret
      exact ⟨by rw [hf.out]; rfl, HB1.out⟩
    | true =>
      by_cases hnm : n = m
      · subst hnm
        have hf := Lib.hid (show (true && (true && n == n)) = true by simp)
        have hbe : ((n : Int) == (n : Int)) = true := by simp
        go_enter Try.func67, Try.ntmps67
        go_wp2_with fail
        refine Q1.out.mono ?_
        rintro e w2 ⟨rfl, h2⟩
        go_wp2_with fail
        refine (Q2.out _ h2).mono ?_
        rintro e w3 ⟨rfl, h3⟩
        have HB1 := Lib.hid (below_on h2 h3)
        go_wp2_with fail
        go_ret
        exact ⟨by rw [hf.out]; rfl, HB1.out⟩
      · have hf := Lib.hid (show (true && (true && n == m)) = false by simp [hnm])
        have hbe : ((n : Int) == (m : Int)) = false := by simp; omega
        go_enter Try.func67, Try.ntmps67
        go_wp2_with fail
        refine Q1.out.mono ?_
        rintro e w2 ⟨rfl, h2⟩
        go_wp2_with fail
        refine (Q2.out _ h2).mono ?_
        rintro e w3 ⟨rfl, h3⟩
        have HB1 := Lib.hid (below_on h2 h3)
        go_wp2_with fail
        go_ret
        exact ⟨by rw [hf.out]; rfl, HB1.out⟩
set_option maxHeartbeats 2000000 in
theorem asGood_any (v : Value) (B : Nat) (t : TrN) (w : World) (hcp : CapT v) (hv : RdT w B v t) (hB : B ≤ w.heap.size) (hs : t.small) :
    Calls Try.prog 48 #[v] w fun e w' => e = .returned (.bool (trB t)) ∧ Below w.heap.size w w' := by
  obtain ⟨A, ca, C, cb, D, cc, rfl, ha, hb, hc⟩ := hv.form
  obtain ⟨l1, l2, l3⟩ := hcp _ _ _ _ _ _ _ _ _ _ rfl
  clear hv hcp
  obtain ⟨n, xs, m, ys, c, p, ps⟩ := t
  simp only [TrN.small] at *
  obtain ⟨s1, s2, s3⟩ := hs
  obtain ⟨W1, eW1⟩ : ∃ W1, w.alloc (.cells #[.slice A n ca, .slice C m cb, .int .i64 c, .slice D p cc] 29) = W1 := ⟨_, rfl⟩
  have HB1 : Below w.heap.size w W1 := by rw [← eW1]; exact below_new (Below.refl _ _) _
  have K0 : Blk W1 w.heap.size 29 #[.slice A n ca, .slice C m cb, .int .i64 c, .slice D p cc] := by rw [← eW1]; exact Blk.new _ _ _
  obtain ⟨a0, a1, a2, a3⟩ := K0.c4
  replace K0 := Lib.hid K0
  replace HB1 := Lib.hid HB1
  have Ha := Lib.hid ha
  have Hb := Lib.hid hb
  have Hc := Lib.hid hc
  clear ha hb hc
  have HT := Lib.hid (show trB ⟨n, xs, m, ys, c, p, ps⟩ = ((chB n xs && (chB m ys && n == m)) && (inB c 1 64 && maB n p ps)) by
    show (chB n xs && (chB m ys && (n == m && (inB c 1 64 && maB n p ps)))) = _
    simp only [Bool.and_assoc])
  have P1 := fun W (hb : Below w.heap.size w W) => chPair_any (.slice A n ca) (.slice C m cb) n m B xs ys W (cap_mk l1) (cap_mk l2) (Ha.out.below' hb hB) (Hb.out.below' hb hB) (Nat.le_trans hB hb.size) (by omega) (by omega)
  have P3 := fun W => l1In_any c 1 64 W
  have P4 := fun W (hb : Below w.heap.size w W) => maPlaces_any (.slice D p cc) p n B ps W (cap_mk l3) (Hc.out.below' hb hB) (Nat.le_trans hB hb.size) (by omega) (by omega)
  obtain ⟨b1, e1⟩ : ∃ b, (chB n xs && (chB m ys && n == m)) = b := ⟨_, rfl⟩
  obtain ⟨b3, e3⟩ : ∃ b, inB c 1 64 = b := ⟨_, rfl⟩
  obtain ⟨b4, e4⟩ : ∃ b, maB n p ps = b := ⟨_, rfl⟩
  rw [e1] at P1 HT
  rw [e3] at P3 HT
  rw [e4] at P4 HT
  have Q1 := Lib.hid P1
  have Q3 := Lib.hid P3
  have Q4 := Lib.hid P4
  clear P1 P3 P4 e1 e3 e4
  cases b1 with
  | false =>
    have hf := Lib.hid (show trB ⟨n, xs, m, ys, c, p, ps⟩ = false by rw [HT.out]; rfl)
    go_enter Try.func48, Try.ntmps48
    go_wp2_with fail
    refine (Q1.out _ HB1.out).mono ?_
    rintro e w2 ⟨rfl, h2⟩
    have HB2 := Lib.hid (below_on HB1.out h2)
    have K2 := Lib.hid (K0.out.on h2)
    clear h2 a0 a1 a2 a3 HB1 K0
    have HB1 := HB2
    have K0 := K2
    clear HB2 K2
    obtain ⟨a0, a1, a2, a3⟩ := K0.out.c4
    go_wp2_with fail
    go_ret
    exact ⟨by rw [hf.out]; rfl, HB1.out⟩
  | true =>
    cases b3 with
    | false =>
      have hf := Lib.hid (show trB ⟨n, xs, m, ys, c, p, ps⟩ = false by rw [HT.out]; rfl)
      go_enter Try.func48, Try.ntmps48
      go_wp2_with fail
      refine (Q1.out _ HB1.out).mono ?_
      rintro e w2 ⟨rfl, h2⟩
      have HB2 := Lib.hid (below_on HB1.out h2)
      have K2 := Lib.hid (K0.out.on h2)
      clear h2 a0 a1 a2 a3 HB1 K0
      have HB1 := HB2
      have K0 := K2
      clear HB2 K2
      obtain ⟨a0, a1, a2, a3⟩ := K0.out.c4
      go_wp2_with fail
      refine (Q3.out _).mono ?_
      rintro e w4 ⟨rfl, rfl⟩
      go_wp2_with fail
      go_ret
      exact ⟨by rw [hf.out]; rfl, HB1.out⟩
    | true =>
      have hf := Lib.hid (show trB ⟨n, xs, m, ys, c, p, ps⟩ = b4 by rw [HT.out]; rfl)
      go_enter Try.func48, Try.ntmps48
      go_wp2_with fail
      refine (Q1.out _ HB1.out).mono ?_
      rintro e w2 ⟨rfl, h2⟩
      have HB2 := Lib.hid (below_on HB1.out h2)
      have K2 := Lib.hid (K0.out.on h2)
      clear h2 a0 a1 a2 a3 HB1 K0
      have HB1 := HB2
      have K0 := K2
      clear HB2 K2
      obtain ⟨a0, a1, a2, a3⟩ := K0.out.c4
      go_wp2_with fail
      refine (Q3.out _).mono ?_
      rintro e w4 ⟨rfl, rfl⟩
      go_wp2_with fail
      refine (Q4.out _ HB1.out).mono ?_
      rintro e w5 ⟨rfl, h2⟩
      have HB2 := Lib.hid (below_on HB1.out h2)
      have K2 := Lib.hid (K0.out.on h2)
      clear h2 a0 a1 a2 a3 HB1 K0
      have HB1 := HB2
      have K0 := K2
      clear HB2 K2
      obtain ⟨a0, a1, a2, a3⟩ := K0.out.c4
      go_wp2_with fail
      go_ret
      exact ⟨by rw [hf.out]; rfl, HB1.out⟩
end Go.Proofs.Ytnlneblipedddaa
