/- Contracts of the tests whether a list of spots is a chart, a list of places a matching, and a transition good, in the program and in the reference. Conditions: the slices can be read, and their lengths are at most their capacities. -/
import Derived.Test.YtpikhkdgohapeaaChart
import Derived.Test.YtpikhkdgohapeaaTransS
import Derived.Deep.RegionHeld3
namespace Go.Proofs.Ytpikhkdgohapeaa
open Go.RowKit

def Cap (v : Value) : Prop := ∀ A n c, v = .slice A n c → n ≤ c
theorem Own.cap {w : World} {lo hi sz n : Nat} {e : TypeId} {v : Value} {xs : List Int} (h : Own w lo hi e sz v n xs) : Cap v := by
  intro A m c he
  subst he
  rcases h.1.2 with ⟨h1, _⟩ | ⟨g, cap, cur, h1, _, _, hc, _⟩
  · simp only [Value.slice.injEq] at h1
    omega
  · simp only [Value.slice.injEq] at h1
    omega
theorem chOk_no1 {xs : List Int} {k : Nat} (h : spotB (X xs k) (Y xs k) = false) : chOk xs k = false := by simp [chOk, h]
theorem chOk_eq {xs : List Int} {k : Nat} (h : spotB (X xs k) (Y xs k) = true) : chOk xs k = !hasS xs k (X xs k) (Y xs k) := by
  simp only [chOk, h, Bool.true_and]; rfl
set_option maxHeartbeats 2000000 in
theorem IsChart_any (v : Value) (n B : Nat) (xs : List Int) (w : World) (hcp : Cap v) (hv : Rd w B 2 v n xs) (hB : B ≤ w.heap.size) (hn : n ≤ 1099511627776) :
    Calls Try.prog 79 #[v] w fun e w' => e = .returned (.bool (chB n xs)) ∧ Below w.heap.size w w' := by
  obtain ⟨A, c, rfl⟩ := hv.form
  have hnc : n ≤ c := hcp _ _ _ rfl
  cases h1 : inB n 1 12 with
  | false =>
    have hf := Lib.hid (show chB n xs = false by simp [chB, h1])
    clear hv hcp
    go_enter Try.func79, Try.ntmps79
    go_wp2_with fail
    refine (within_any _ _ _ _).mono ?_
    rintro e w' ⟨rfl, rfl⟩
    go_wp2_with fail
    go_ret
    exact ⟨by rw [hf.out]; rfl, Below.refl _ _⟩
  | true =>
    have hf := Lib.hid (show chB n xs = (List.range n).all (chOk xs) by simp [chB, h1])
    have Hv := Lib.hid hv
    clear hv hcp
    go_enter Try.func79, Try.ntmps79
    go_wp2_with fail
    refine (within_any _ _ _ _).mono ?_
    rintro e w' ⟨rfl, rfl⟩
    go_wp2_with fail
    go_loopw [11] (fun i wr => ∃ k : Nat, k ≤ n ∧ i = .int .i64 k ∧ (∀ j, j < k → chOk xs j = true) ∧ Below w.heap.size w wr) (fun i _ => n - (intOf i).toNat)
    case atStart => exact ⟨0, Nat.zero_le _, rfl, fun j h => absurd h (by omega), Below.refl _ _⟩
    case round =>
      obtain ⟨k, hk, rfl, hno, hb⟩ := hrel
      have HO := Lib.hid hno
      clear hno
      by_cases hlt : k < n
      · obtain ⟨b, off, rfl, hbB, hc⟩ := Hv.out.spot (by omega)
        have hc0 := hc k hlt
        have hok1 := chOk_no1 (xs := xs) (k := k)
        have hok2 := chOk_eq (xs := xs) (k := k)
        have P := fun (W : World) (hb : Below w.heap.size w W) (x y : Int) => sContains_any (.slice (some ⟨b, off, none⟩) k c) k B xs x y W ((RdP.of Hv.out (Nat.le_of_lt hlt)).below' hb hB) (Nat.le_trans hB hb.size) (by omega)
        obtain ⟨x, ex⟩ : ∃ x, X xs k = x := ⟨_, rfl⟩
        obtain ⟨y, ey⟩ : ∃ y, Y xs k = y := ⟨_, rfl⟩
        rw [ex, ey] at hc0 hok1 hok2
        have c0 := (hb.cell (p := ⟨b, off + k * 2, none⟩) (Nat.lt_of_lt_of_le hbB hB)).trans hc0.1
        have c1 := (hb.cell (p := ⟨b, off + k * 2 + 1, none⟩) (Nat.lt_of_lt_of_le hbB hB)).trans hc0.2
        have n0 := (Blk.new wr 28 #[.int .i64 x, .int .i64 y]).c2
        obtain ⟨n0, n1⟩ := n0
        have MB := Lib.hid (below_new hb (.cells #[.int .i64 x, .int .i64 y] 28))
        have i0 : (0 : Int) ≤ (k : Int) := by omega
        have i1 : (k : Int) < (n : Int) := by omega
        have i2 : (k : Int) ≤ (c : Int) := by omega
        cases hs : spotB x y with
        | true =>
          have hok := hok2 hs
          have HK := Lib.hid hok
          obtain ⟨h, eh⟩ : ∃ h, hasS xs k x y = h := ⟨_, rfl⟩
          have P' := fun (W : World) (hb : Below w.heap.size w W) => P W hb x y
          rw [eh] at HK P'
          have HP := Lib.hid P'
          clear hc hc0 hok1 hok2 hok P P' ex ey eh hb
          go_wp2_with fail
          go_region_held3 (fun W => W.cell? ⟨wr.heap.size, 0, none⟩ = some (.int .i64 x) ∧ W.cell? ⟨wr.heap.size, 1, none⟩ = some (.int .i64 y) ∧ Below w.heap.size w W)
            (first | exact ⟨n0, n1, MB.out.drew⟩ | (go_split_ands; exact ⟨cell_on hb2 (by assumption), cell_on hb2 (by assumption), below_on (by assumption) hb2⟩) | go_keep)
            (first | (go_at_call 91; refine (IsSpot_any x y _).mono ?_; rintro e w2 ⟨rfl, hb2⟩) | (go_at_call 99; refine (HP.out _ (by go_split_ands; assumption)).mono ?_; rintro e w2 ⟨rfl, hb2⟩))
          go_split_ands
          rename_i hb9
          have HB := Lib.hid hb9
          clear hb9 n0 n1 c0 c1
          cases h with
          | true =>
            have HN := Lib.hid (all_no (p := chOk xs) hlt (by rw [HK.out]; rfl))
            go_wp2_with fail
            go_ret
            exact ⟨by rw [hf.out, HN.out]; rfl, HB.out⟩
          | false =>
            have HY := Lib.hid (show chOk xs k = true by rw [HK.out]; rfl)
            go_wp2_with fail
            go_roundw
            case rel =>
              refine ⟨k + 1, by omega, by go_num, fun j hj => ?_, HB.out⟩
              rcases Nat.lt_succ_iff_lt_or_eq.1 hj with h | rfl
              · exact HO.out j h
              · exact HY.out
            case measure => simp [intOf]; omega
        | false =>
          have HN := Lib.hid (all_no (p := chOk xs) hlt (hok1 hs))
          have hsp := fun W => IsSpot_any x y W
          rw [hs] at hsp
          have HSP := Lib.hid hsp
          clear hsp hc hc0 hok1 hok2 P ex ey hb
          go_wp2_with fail
          refine wp_region_held_drew (S := fun W => W.cell? ⟨wr.heap.size, 0, none⟩ = some (.int .i64 x) ∧ W.cell? ⟨wr.heap.size, 1, none⟩ = some (.int .i64 y) ∧ Below w.heap.size w W) (by kernel_rfl) ⟨n0, n1, MB.out.drew⟩ (fun hHeld => ?_)
          refine take_at (i := 0) (oi := _) 16 (v := (Value.agg #[Value.int .i64 x, Value.int .i64 y])) rfl rfl (by kernel_rfl) (by kernel_rfl) (by kernel_rfl) (fun _ _ _ h => h) (Or.inl ⟨by rfl, ?_⟩) hHeld ?_
          · (intro w hSw; (try dsimp only at hSw); go_split_ands; go_simp)
          simp only [List.setIfInBounds_toArray, List.set_cons_zero, List.set_cons_succ]
          refine wpAnyH_ready (rs := [1]) (by kernel_rfl) (by simp) ?_
          refine AllReadyH.cons (o := _) rfl (fun K hK => ?_) AllReadyH.nil
          go_simp
          refine (HSP.out _).mono ?_
          rintro e w2 ⟨rfl, hb2⟩
          refine hK.out _ _ ⟨cell_on hb2 hHeld.1, cell_on hb2 hHeld.2.1, below_on hHeld.2.2 hb2⟩ (fun hHeld => ?_)
          clear hK K
          refine take_at (i := 2) (oi := _) 18 (v := .bool true) rfl rfl (by kernel_rfl) (by kernel_rfl) (by kernel_rfl) (fun _ _ _ h => h) (Or.inl ⟨by rfl, ?_⟩) hHeld ?_
          · (intro w hSw; (try dsimp only at hSw); go_split_ands; go_simp)
          simp only [List.setIfInBounds_toArray, List.set_cons_zero, List.set_cons_succ]
          refine take_at (i := 3) (oi := _) 19 (v := .bool true) rfl rfl (by kernel_rfl) (by kernel_rfl) (by kernel_rfl) (fun _ _ _ h => h) (Or.inl ⟨by rfl, ?_⟩) hHeld ?_
          · (intro w hSw; (try dsimp only at hSw); go_split_ands; go_simp)
          simp only [List.setIfInBounds_toArray, List.set_cons_zero, List.set_cons_succ]
          refine take_at (i := 4) (oi := _) 20 (v := undef) rfl rfl (by kernel_rfl) (by kernel_rfl) (by kernel_rfl) (fun _ _ _ h => h) (Or.inr ⟨by rfl, rfl⟩) hHeld ?_
          simp only [List.setIfInBounds_toArray, List.set_cons_zero, List.set_cons_succ]
          refine take_at (i := 5) (oi := _) 21 (v := undef) rfl rfl (by kernel_rfl) (by kernel_rfl) (by kernel_rfl) (fun _ _ _ h => h) (Or.inr ⟨by rfl, rfl⟩) hHeld ?_
          simp only [List.setIfInBounds_toArray, List.set_cons_zero, List.set_cons_succ]
          refine take_at (i := 6) (oi := _) 22 (v := undef) rfl rfl (by kernel_rfl) (by kernel_rfl) (by kernel_rfl) (fun _ _ _ h => h) (Or.inr ⟨by rfl, rfl⟩) hHeld ?_
          simp only [List.setIfInBounds_toArray, List.set_cons_zero, List.set_cons_succ]
          refine take_at (i := 7) (oi := _) 23 (v := undef) rfl rfl (by kernel_rfl) (by kernel_rfl) (by kernel_rfl) (fun _ _ _ h => h) (Or.inr ⟨by rfl, rfl⟩) hHeld ?_
          simp only [List.setIfInBounds_toArray, List.set_cons_zero, List.set_cons_succ]
          refine take_at (i := 8) (oi := _) 24 (v := undef) rfl rfl (by kernel_rfl) (by kernel_rfl) (by kernel_rfl) (fun _ _ _ h => h) (Or.inr ⟨by rfl, rfl⟩) hHeld ?_
          simp only [List.setIfInBounds_toArray, List.set_cons_zero, List.set_cons_succ]
          refine take_at (i := 9) (oi := _) 25 (v := .bool true) rfl rfl (by kernel_rfl) (by kernel_rfl) (by kernel_rfl) (fun _ _ _ h => h) (Or.inl ⟨by rfl, ?_⟩) hHeld ?_
          · (intro w hSw; (try dsimp only at hSw); go_split_ands; go_simp)
          simp only [List.setIfInBounds_toArray, List.set_cons_zero, List.set_cons_succ]
          refine wpAnyH_done (by kernel_rfl) ?_ _
          have HB := Lib.hid hHeld.2.2
          clear n0 n1 hHeld
          go_wp2_with fail
          go_ret
          exact ⟨by rw [hf.out, HN.out]; rfl, HB.out⟩
      · obtain rfl : k = n := by omega
        have hF := Lib.hid (all_yes HO.out)
        go_wp2_with fail
        go_ret
        exact ⟨by rw [hf.out, hF.out]; rfl, hb⟩

set_option maxHeartbeats 2000000 in
theorem chGood_any (v : Value) (n B : Nat) (xs : List Int) (w : World) (hcp : Cap v) (hv : Rd w B 2 v n xs) (hB : B ≤ w.heap.size) (hn : n ≤ 1099511627776) :
    Calls Try.prog 95 #[v] w fun e w' => e = .returned (.bool (chB n xs)) ∧ Below w.heap.size w w' := by
  obtain ⟨A, c, rfl⟩ := hv.form
  have hnc : n ≤ c := hcp _ _ _ rfl
  have Hv := Lib.hid hv
  clear hv hcp
  go_enter Try.func95, Try.ntmps95
  go_wp2_with fail
  go_loopw [9] (fun i wr => ∃ k : Nat, k ≤ n ∧ i = .int .i64 k ∧ (∀ j, j < k → chOk xs j = true) ∧ Below w.heap.size w wr) (fun i _ => n - (intOf i).toNat)
  case atStart => exact ⟨0, Nat.zero_le _, rfl, fun j h => absurd h (by omega), Below.refl _ _⟩
  case round =>
    obtain ⟨k, hk, rfl, hno, hb⟩ := hrel
    obtain ⟨wo, rfl⟩ : ∃ wo : World, wo = wr := ⟨_, rfl⟩
    have HO := Lib.hid hno
    clear hno
    by_cases hlt : k < n
    · obtain ⟨b, off, rfl, hbB, hc⟩ := Hv.out.spot (by omega)
      have hc0 := hc k hlt
      have HC := Lib.hid hc
      have hok1 := chOk_no1 (xs := xs) (k := k)
      have hok2 := chOk_eq (xs := xs) (k := k)
      obtain ⟨x, ex⟩ : ∃ x, X xs k = x := ⟨_, rfl⟩
      obtain ⟨y, ey⟩ : ∃ y, Y xs k = y := ⟨_, rfl⟩
      rw [ex, ey] at hc0 hok1 hok2
      have c0 := (hb.cell (p := ⟨b, off + k * 2, none⟩) (Nat.lt_of_lt_of_le hbB hB)).trans hc0.1
      have c1 := (hb.cell (p := ⟨b, off + k * 2 + 1, none⟩) (Nat.lt_of_lt_of_le hbB hB)).trans hc0.2
      have k0 := Blk.new wo 28 #[.int .i64 x, .int .i64 y]
      have K0 := Lib.hid k0
      obtain ⟨n0, n1⟩ := k0.c2
      have MB := Lib.hid (below_new hb (.cells #[.int .i64 x, .int .i64 y] 28))
      have i0 : (0 : Int) ≤ (k : Int) := by omega
      have i1 : (k : Int) < (n : Int) := by omega
      have i2 : (k : Int) ≤ (c : Int) := by omega
      have hsp := fun W => stGood_any x y W
      obtain ⟨s, hs⟩ : ∃ s, spotB x y = s := ⟨_, rfl⟩
      rw [hs] at hsp
      have HSP := Lib.hid hsp
      cases s with
      | false =>
        have HN := Lib.hid (all_no (p := chOk xs) hlt (hok1 hs))
        have HF := Lib.hid (show chB n xs = false by rw [chB, HN.out, Bool.and_false])
        clear hsp hc hc0 hok1 hok2 ex ey hb k0
        go_wp2_with fail
        refine (HSP.out _).mono ?_
        rintro e w2 ⟨rfl, hb2⟩
        have HB := Lib.hid (below_on MB.out hb2)
        clear hb2
        go_wp2_with fail
        go_ret
        exact ⟨by rw [HF.out]; rfl, HB.out⟩
      | true =>
        have HK := Lib.hid (hok2 hs)
        clear hsp hc hc0 hok1 hok2 ex ey hb k0
        go_wp2_with fail
        refine (HSP.out _).mono ?_
        rintro e w2 ⟨rfl, hb2⟩
        have HB := Lib.hid (below_on MB.out hb2)
        have K2 := Lib.hid (K0.out.on hb2)
        clear hb2 n0 n1 c0 c1 MB K0 HSP
        go_wp2_with fail
        go_loopw [21] (fun i wq => ∃ j : Nat, j ≤ k ∧ i = .int .i64 j ∧ (∀ p, p < j → ¬ (X xs p = x ∧ Y xs p = y)) ∧ Blk wq wo.heap.size 28 #[.int .i64 x, .int .i64 y] ∧ Below w.heap.size w wq) (fun i _ => k - (intOf i).toNat)
        case atStart => exact ⟨0, Nat.zero_le _, rfl, fun j h => absurd h (by omega), K2.out, HB.out⟩
        case round =>
          clear K2 HB
          obtain ⟨j, hj, rfl, hno, hbk, hb⟩ := hrel
          have HN := Lib.hid hno
          clear hno
          by_cases hlj : j < k
          · have hj0 := HC.out j (by omega)
            obtain ⟨p, ep⟩ : ∃ p, X xs j = p := ⟨_, rfl⟩
            obtain ⟨q, eq⟩ : ∃ q, Y xs j = q := ⟨_, rfl⟩
            rw [ep, eq] at hj0
            have c2 := (hb.cell (p := ⟨b, off + j * 2, none⟩) (Nat.lt_of_lt_of_le hbB hB)).trans hj0.1
            have c3 := (hb.cell (p := ⟨b, off + j * 2 + 1, none⟩) (Nat.lt_of_lt_of_le hbB hB)).trans hj0.2
            have EP := Lib.hid ep
            have EQ := Lib.hid eq
            obtain ⟨a0, a1⟩ := hbk.c2
            have b0 := cell_new a0 (.cells #[.int .i64 p, .int .i64 q] 28)
            have b1 := cell_new a1 (.cells #[.int .i64 p, .int .i64 q] 28)
            have hne : wo.heap.size < wr.heap.size := hbk.lt
            have K3 := Lib.hid (hbk.alloc (.cells #[.int .i64 p, .int .i64 q] 28))
            have HB3 := Lib.hid (below_new hb (.cells #[.int .i64 p, .int .i64 q] 28))
            have j0 : (0 : Int) ≤ (j : Int) := by omega
            have j1 : (j : Int) < (k : Int) := by omega
            clear hj0 ep eq hbk hb
            by_cases heq : x = p ∧ y = q
            · have HY := Lib.hid (hasS_yes (xs := xs) (n := k) (x := x) (y := y) hlj (EP.out.trans heq.1.symm) (EQ.out.trans heq.2.symm))
              have HN2 := Lib.hid (all_no (p := chOk xs) hlt (by rw [HK.out, HY.out]; rfl))
              have HF := Lib.hid (show chB n xs = false by rw [chB, HN2.out, Bool.and_false])
              obtain ⟨rfl, rfl⟩ := heq
              have ee := eql_spots_yes x y
              go_wp2_with fail
              go_ret
              exact ⟨by rw [HF.out]; rfl, HB3.out⟩
            · have HF := Lib.hid heq
              have ee := eql_spots_no heq
              clear heq
              go_wp2_with fail
              go_roundw
              case rel =>
                refine ⟨j + 1, by omega, by go_num, fun p' hp' => ?_, K3.out, HB3.out⟩
                rcases Nat.lt_succ_iff_lt_or_eq.1 hp' with h | rfl
                · exact HN.out p' h
                · intro he
                  exact HF.out ⟨he.1.symm.trans EP.out, he.2.symm.trans EQ.out⟩
              case measure => simp [intOf]; omega
          · obtain rfl : j = k := by omega
            have HY := Lib.hid (show chOk xs j = true by rw [HK.out, hasS_no HN.out]; rfl)
            have HB := Lib.hid hb
            clear hb hbk
            go_wp2_with fail
            go_roundw
            case rel =>
              refine ⟨j + 1, by omega, by go_num, fun p hp => ?_, HB.out⟩
              rcases Nat.lt_succ_iff_lt_or_eq.1 hp with h | rfl
              · exact HO.out p h
              · exact HY.out
            case measure => simp [intOf]; omega
    · obtain rfl : k = n := by omega
      have hF := Lib.hid (show chB k xs = inB k 1 12 by rw [chB, all_yes HO.out, Bool.and_true])
      obtain ⟨r, er⟩ : ∃ r, inB k 1 12 = r := ⟨_, rfl⟩
      have P := Lib.hid (fun W => l1In_any k 1 12 W)
      go_wp2_with fail
      refine (P.out _).mono ?_
      rintro e w' ⟨rfl, rfl⟩
      go_wp2_with fail
      go_ret
      exact ⟨by rw [hF.out, er]; rfl, hb⟩
end Go.Proofs.Ytpikhkdgohapeaa
