/- Contracts of the two EffortOf. Condition: the slices can be read, and the first one's length is at most its capacity. -/
import Derived.Test.YtamehlafmfmgmaaAreSpec
import Derived.Test.YtamehlafmfmgmaaAll
namespace Go.Proofs.Ytamehlafmfmgmaa
open Go.RowKit

def efTo (xs ws : List Int) (who : Int) : Nat → Int
  | 0 => 0
  | k + 1 => if cP xs k = who then efTo xs ws who k + ws.getD (cL xs k - 1).toNat 0 * (cT xs k - cF xs k) else efTo xs ws who k
def efB (n : Nat) (xs : List Int) (m : Nat) (ws : List Int) (who : Int) : Bool := gcB n xs && (m == 9) && okAll 0 100 ws && inB who 1 12
def efV (n : Nat) (xs : List Int) (m : Nat) (ws : List Int) (who : Int) : Int := if efB n xs m ws who = true then efTo xs ws who n else 0
theorem ef_no {n m : Nat} {xs ws : List Int} {who : Int} (h : efB n xs m ws who = false) : efB n xs m ws who = false ∧ efV n xs m ws who = 0 := by simp [efV, h]
theorem ef_yes {n m : Nat} {xs ws : List Int} {who : Int} (h : efB n xs m ws who = true) : efB n xs m ws who = true ∧ efV n xs m ws who = efTo xs ws who n := by simp [efV, h]
theorem share_in {x d : Int} (h0 : 0 ≤ x) (h1 : x ≤ 100) (h2 : 0 < d) (h3 : d ≤ 1000) : 0 ≤ x * d ∧ x * d ≤ 100000 := by
  have a := Int.mul_nonneg h0 (Int.le_of_lt h2)
  have b : x * d ≤ 100 * d := Int.mul_le_mul_of_nonneg_right h1 (by omega)
  omega
theorem efTo_in {n : Nat} {xs ws : List Int} (hg : GoodC n xs) (hw : okTo 0 100 ws 9) (who : Int) : ∀ k, k ≤ n → 0 ≤ efTo xs ws who k ∧ efTo xs ws who k ≤ 100000 * (k : Int)
  | 0, _ => by simp [efTo]
  | k + 1, hk => by
    have ih := efTo_in hg hw who k (by omega)
    obtain ⟨_, hl, h1, h2, h3⟩ := caB_yes (hg.each k hk)
    have hx := hw (cL xs k - 1).toNat (by omega)
    have hs := share_in hx.1 hx.2 (d := cT xs k - cF xs k) (by omega) (by omega)
    unfold efTo
    split <;> omega
set_option maxRecDepth 100000 in
set_option maxHeartbeats 4000000 in
theorem EffortOf_any (v : Value) (n B : Nat) (xs : List Int) (u : Value) (m : Nat) (ws : List Int) (who : Int) (w : World) (hcp : Cap v) (hv : Rd w B 4 v n xs) (hu : Rd w B 1 u m ws) (hB : B ≤ w.heap.size) (hn : n ≤ 1099511627776) (hm : m ≤ 1099511627776) :
    Calls Try.prog 20 #[v, u, .int .i64 who] w fun e w' => e = .returned (.tuple #[.int .i64 (efV n xs m ws who), .bool (efB n xs m ws who)]) ∧ Below w.heap.size w w' := by
  obtain ⟨A, c, rfl⟩ := hv.form4
  have Hv := Lib.hid hv
  have Hc := Lib.hid hcp
  obtain ⟨hul, A2, c2, rfl, huc⟩ := hu
  clear hv hcp
  cases h1 : gcB n xs with
  | false =>
    have hf := Lib.hid (ef_no (m := m) (ws := ws) (who := who) (show efB n xs m ws who = false by simp [efB, h1]))
    clear huc hul
    go_enter Try.func20, Try.ntmps20
    go_wp2_with fail
    refine (AreCarries_any _ n B xs _ Hc.out Hv.out hB hn).mono ?_
    rintro e w1 ⟨rfl, hb1⟩
    have HB1 := Lib.hid hb1
    clear hb1
    go_wp2_with fail
    go_ret2
    exact ⟨by rw [hf.out.1, hf.out.2]; rfl, HB1.out⟩
  | true =>
    cases h9 : (m == 9) with
    | false =>
      have hf := Lib.hid (ef_no (m := m) (ws := ws) (who := who) (show efB n xs m ws who = false by simp [efB, h9]))
      have h9i : ((m : Int) != 9) = true := by have : m ≠ 9 := by simpa using h9
                                               rw [bne_iff_ne]; omega
      clear huc hul h9
      go_enter Try.func20, Try.ntmps20
      go_wp2_with fail
      refine (AreCarries_any _ n B xs _ Hc.out Hv.out hB hn).mono ?_
      rintro e w1 ⟨rfl, hb1⟩
      have HB1 := Lib.hid hb1
      clear hb1
      go_wp2_with fail
      go_ret2
      exact ⟨by rw [hf.out.1, hf.out.2]; rfl, HB1.out⟩
    | true =>
      obtain rfl : m = 9 := by simpa using h9
      cases h2 : inB who 1 12 with
      | false =>
        have hf := Lib.hid (ef_no (m := 9) (ws := ws) (who := who) (show efB n xs 9 ws who = false by simp [efB, h2]))
        clear huc hul
        go_enter Try.func20, Try.ntmps20
        go_wp2_with fail
        refine (AreCarries_any _ n B xs _ Hc.out Hv.out hB hn).mono ?_
        rintro e w1 ⟨rfl, hb1⟩
        have HB1 := Lib.hid hb1
        clear hb1
        go_wp2_with fail
        refine (within_any _ _ _ _).mono ?_
        rintro e w' ⟨rfl, rfl⟩
        go_wp2_with fail
        go_ret2
        exact ⟨by rw [hf.out.1, hf.out.2]; rfl, HB1.out⟩
      | true =>
        obtain ⟨b2, off2, hA2, hb2B, hc2⟩ := huc (by omega)
        subst hA2
        have HG := Lib.hid (gc_yes h1)
        have h40 := HG.out.len
        have HNo := Lib.hid (fun (j : Nat) (hj : j < 9) (hx : inB (ws.getD j 0) 0 100 = false) => ef_no (n := n) (xs := xs) (m := 9) (ws := ws) (who := who) (show efB n xs 9 ws who = false by simp [efB, okAll_no (lo := 0) (hi := 100) (xs := ws) (i := j) (by omega) (inB_no hx)]))
        have HYes := Lib.hid (fun (h : okTo 0 100 ws 9) => ef_yes (n := n) (xs := xs) (m := 9) (ws := ws) (who := who) (show efB n xs 9 ws who = true by
          have : okAll 0 100 ws = true := okAll_mk (by rw [show ws.length = 9 by omega]; exact h)
          simp [efB, h1, h2, this]))
        have HC2 := Lib.hid hc2
        clear huc hul hc2 h9
        go_enter Try.func20, Try.ntmps20
        go_wp2_with fail
        refine (AreCarries_any _ n B xs _ Hc.out Hv.out hB hn).mono ?_
        rintro e w1 ⟨rfl, hb1⟩
        have HB1 := Lib.hid hb1
        clear hb1
        go_wp2_with fail
        refine (within_any _ _ _ _).mono ?_
        rintro e w' ⟨rfl, rfl⟩
        go_wp2_with fail
        go_loopw [28] (fun s wr => ∃ i : Nat, i ≤ 9 ∧ s = .int .i64 i ∧ okTo 0 100 ws i ∧ Below w.heap.size w wr) (fun s _ => 9 - (intOf s).toNat)
        case atStart => exact ⟨0, Nat.zero_le _, rfl, fun i h => absurd h (by omega), HB1.out⟩
        case round =>
          clear HB1
          obtain ⟨i, hi, rfl, hok, hb⟩ := hrel
          have HK := Lib.hid hok
          have HB1 := Lib.hid hb
          by_cases hlt : i < 9
          · have e0 := (hb.cell (p := ⟨b2, off2 + i, none⟩) (Nat.lt_of_lt_of_le hb2B hB)).trans (HC2.out i (by omega))
            obtain ⟨x, ex⟩ : ∃ x, ws.getD i 0 = x := ⟨_, rfl⟩
            rw [ex] at e0
            have Ex := Lib.hid ex
            clear ex hb hok
            cases hin : inB x 0 100 with
            | true =>
              have HI := Lib.hid (inB_yes hin)
              go_wp2_with fail
              refine (within_any _ _ _ _).mono ?_
              rintro e w' ⟨rfl, rfl⟩
              go_wp2_with fail
              go_roundw
              case rel =>
                have hR : okTo 0 100 ws (i + 1) := fun a ha => by
                  rcases Nat.lt_succ_iff_lt_or_eq.1 ha with h | rfl
                  · exact HK.out a h
                  · rw [Ex.out]; exact HI.out
                first
                | exact ⟨i + 1, by omega, by go_num, hR, HB1.out⟩
                | ((repeat apply Exists.intro); exact ⟨⟨i + 1, by omega, rfl, hR, HB1.out⟩, rfl⟩)
              case measure => simp [intOf]; omega
            | false =>
              have hf := Lib.hid (HNo.out i hlt (by rw [Ex.out]; exact hin))
              go_wp2_with fail
              refine (within_any _ _ _ _).mono ?_
              rintro e w' ⟨rfl, rfl⟩
              go_wp2_with fail
              go_ret2
              exact ⟨by rw [hf.out.1, hf.out.2]; rfl, HB1.out⟩
          · obtain rfl : i = 9 := by omega
            have HO9 := HK
            have hf := Lib.hid (HYes.out HK.out)
            clear hb hok
            go_wp2_with fail
            go_loopw [10, 38] (fun o s wr => ∃ k : Nat, k ≤ n ∧ s = .int .i64 k ∧ o = .int .i64 (efTo xs ws who k) ∧ Below w.heap.size w wr) (fun _ s _ => n - (intOf s).toNat)
            case atStart => exact ⟨0, Nat.zero_le _, rfl, rfl, HB1.out⟩
            case round =>
              clear HB1
              obtain ⟨k, hk, rfl, rfl, hb⟩ := hrel
              by_cases hlt : k < n
              · obtain ⟨b, off, rfl, hbB, hc⟩ := Hv.out.carry (by omega)
                have hcip := hc k (by omega)
                obtain ⟨p, ep⟩ : ∃ a, cP xs k = a := ⟨_, rfl⟩
                obtain ⟨l, el⟩ : ∃ a, cL xs k = a := ⟨_, rfl⟩
                obtain ⟨f, ef⟩ : ∃ a, cF xs k = a := ⟨_, rfl⟩
                obtain ⟨t, et⟩ : ∃ a, cT xs k = a := ⟨_, rfl⟩
                rw [ep, el, ef, et] at hcip
                have c0 := (hb.cell (p := ⟨b, off + k * 4, none⟩) (Nat.lt_of_lt_of_le hbB hB)).trans hcip.1
                have c1 := (hb.cell (p := ⟨b, off + k * 4 + 1, none⟩) (Nat.lt_of_lt_of_le hbB hB)).trans hcip.2.1
                have c2 := (hb.cell (p := ⟨b, off + k * 4 + 2, none⟩) (Nat.lt_of_lt_of_le hbB hB)).trans hcip.2.2.1
                have c3 := (hb.cell (p := ⟨b, off + k * 4 + 3, none⟩) (Nat.lt_of_lt_of_le hbB hB)).trans hcip.2.2.2
                have i0 : (0 : Int) ≤ (k : Int) := by omega
                have i1 : (k : Int) < (n : Int) := by omega
                have hgi : caB p l f t = true := by rw [← ep, ← el, ← ef, ← et]; exact HG.out.each k hlt
                obtain ⟨_, ⟨v0, v00⟩, v1, v2, v3⟩ := caB_yes hgi
                have hst : efTo xs ws who (k + 1) = if p = who then efTo xs ws who k + ws.getD (l - 1).toNat 0 * (t - f) else efTo xs ws who k := by rw [← ep, ← el, ← ef, ← et]; rfl
                obtain ⟨j, hj⟩ : ∃ j : Nat, l = (j : Int) + 1 := ⟨(l - 1).toNat, by omega⟩
                subst hj
                rw [show ((j : Int) + 1 - 1).toNat = j by omega] at hst
                have hj9 : j < 9 := by omega
                have hx := HO9.out j hj9
                have e0 := (hb.cell (p := ⟨b2, off2 + j, none⟩) (Nat.lt_of_lt_of_le hb2B hB)).trans (HC2.out j (by omega))
                obtain ⟨x, ex⟩ : ∃ x, ws.getD j 0 = x := ⟨_, rfl⟩
                rw [ex] at hx e0 hst
                obtain ⟨x1, x2⟩ := hx
                have hin := efTo_in HG.out HO9.out who k hk
                obtain ⟨s, es⟩ : ∃ s, efTo xs ws who k = s := ⟨_, rfl⟩
                rw [es] at hin hst
                rw [es]
                obtain ⟨s1, s2⟩ := hin
                have HB := Lib.hid (below_new hb (.cells #[.int .i64 p, .int .i64 ((j : Int) + 1), .int .i64 f, .int .i64 t] 52))
                have e1 := cell_new e0 (.cells #[.int .i64 p, .int .i64 ((j : Int) + 1), .int .i64 f, .int .i64 t] 52)
                have hs := share_in x1 x2 (d := t - f) (by omega) (by omega)
                obtain ⟨y1, y2⟩ := hs
                clear hc hcip ep el ef et hgi hb ex es
                by_cases hp : p = who
                · subst hp
                  have hpp : (p == p) = true := by simp
                  have HS := Lib.hid (hst.trans (if_pos rfl))
                  have i2 : (0 : Int) ≤ (j : Int) := by omega
                  have i3 : (j : Int) < 9 := by omega
                  have f0 := IntWalk.i64_in ((j : Int) + 1 - 1) (by omega)
                  have f00 := IntWalk.i64_in (j : Int) (by omega)
                  have f1 := IntWalk.i64_in (t - f) (by omega)
                  have f2 := IntWalk.i64_in (x * (t - f)) (by omega)
                  have f3 := IntWalk.i64_in (s + x * (t - f)) (by omega)
                  clear hst
                  go_wp2_with fail
                  go_quiet (fail)
                  clear f0 f00 f1 f2 f3
                  go_wp2_with fail
                  go_roundw
                  case rel => exact ⟨k + 1, by omega, by go_num, by rw [HS.out], below_drewN HB.out _⟩
                  case measure => simp [intOf]; omega
                · have hpp : (p == who) = false := by simp [hp]
                  have HS := Lib.hid (hst.trans (if_neg hp))
                  clear hst hp
                  go_wp2_with fail
                  go_roundw
                  case rel => exact ⟨k + 1, by omega, by go_num, by rw [HS.out], HB.out⟩
                  case measure => simp [intOf]; omega
              · obtain rfl : k = n := by omega
                have HB := Lib.hid hb
                clear hb
                go_wp2_with fail
                go_ret2
                exact ⟨by rw [hf.out.1, hf.out.2]; rfl, HB.out⟩

set_option maxRecDepth 100000 in
set_option maxHeartbeats 4000000 in
theorem specEffortOf_any (v : Value) (n B : Nat) (xs : List Int) (u : Value) (m : Nat) (ws : List Int) (who : Int) (w : World) (hcp : Cap v) (hv : Rd w B 4 v n xs) (hu : Rd w B 1 u m ws) (hB : B ≤ w.heap.size) (hn : n ≤ 1099511627776) (hm : m ≤ 1099511627776) :
    Calls Try.prog 21 #[v, u, .int .i64 who] w fun e w' => e = .returned (.tuple #[.int .i64 (efV n xs m ws who), .bool (efB n xs m ws who)]) ∧ Below w.heap.size w w' := by
  obtain ⟨A, c, rfl⟩ := hv.form4
  have Hv := Lib.hid hv
  have Hc := Lib.hid hcp
  have Hu := Lib.hid hu
  obtain ⟨hul, A2, c2, rfl, huc⟩ := hu
  clear hv hcp
  cases h1 : gcB n xs with
  | false =>
    have hf := Lib.hid (ef_no (m := m) (ws := ws) (who := who) (show efB n xs m ws who = false by simp [efB, h1]))
    clear huc hul
    go_enter Try.func21, Try.ntmps21
    go_wp2_with fail
    refine (caGood_any _ n B xs _ Hc.out Hv.out hB hn).mono ?_
    rintro e w1 ⟨rfl, hb1⟩
    have HB1 := Lib.hid hb1
    clear hb1
    go_wp2_with fail
    go_ret2
    exact ⟨by rw [hf.out.1, hf.out.2]; rfl, HB1.out⟩
  | true =>
    cases h9 : (m == 9) with
    | false =>
      have hf := Lib.hid (ef_no (m := m) (ws := ws) (who := who) (show efB n xs m ws who = false by simp [efB, h9]))
      have h9i : ((m : Int) != 9) = true := by have : m ≠ 9 := by simpa using h9
                                               rw [bne_iff_ne]; omega
      clear huc hul h9
      go_enter Try.func21, Try.ntmps21
      go_wp2_with fail
      refine (caGood_any _ n B xs _ Hc.out Hv.out hB hn).mono ?_
      rintro e w1 ⟨rfl, hb1⟩
      have HB1 := Lib.hid hb1
      clear hb1
      go_wp2_with fail
      go_ret2
      exact ⟨by rw [hf.out.1, hf.out.2]; rfl, HB1.out⟩
    | true =>
      obtain rfl : m = 9 := by simpa using h9
      have hA := fun W (h : Rd W B 1 (.slice A2 9 c2) 9 ws) => l1All_any _ 9 B ws 0 100 W h (by omega)
      cases h8 : okAll 0 100 ws with
      | false =>
        have hf := Lib.hid (ef_no (m := 9) (ws := ws) (who := who) (show efB n xs 9 ws who = false by simp [efB, h8]))
        rw [h8] at hA
        have HAl := Lib.hid hA
        clear huc hul h9 hA
        go_enter Try.func21, Try.ntmps21
        go_wp2_with fail
        refine (caGood_any _ n B xs _ Hc.out Hv.out hB hn).mono ?_
        rintro e w1 ⟨rfl, hb1⟩
        have HB1 := Lib.hid hb1
        clear hb1
        go_wp2_with fail
        refine (HAl.out _ (Hu.out.below' HB1.out hB)).mono ?_
        rintro e w' ⟨rfl, rfl⟩
        go_wp2_with fail
        go_ret2
        exact ⟨by rw [hf.out.1, hf.out.2]; rfl, HB1.out⟩
      | true =>
        have hok := okAll_yes h8
        rw [show ws.length = 9 by omega] at hok
        rw [h8] at hA
        have HAl := Lib.hid hA
        cases h2 : inB who 1 12 with
        | false =>
          have hf := Lib.hid (ef_no (m := 9) (ws := ws) (who := who) (show efB n xs 9 ws who = false by simp [efB, h2]))
          clear huc hul h9 hA hok
          go_enter Try.func21, Try.ntmps21
          go_wp2_with fail
          refine (caGood_any _ n B xs _ Hc.out Hv.out hB hn).mono ?_
          rintro e w1 ⟨rfl, hb1⟩
          have HB1 := Lib.hid hb1
          clear hb1
          go_wp2_with fail
          refine (HAl.out _ (Hu.out.below' HB1.out hB)).mono ?_
          rintro e w' ⟨rfl, rfl⟩
          go_wp2_with fail
          refine (caPerformer_any _ _).mono ?_
          rintro e w' ⟨rfl, rfl⟩
          go_wp2_with fail
          go_ret2
          exact ⟨by rw [hf.out.1, hf.out.2]; rfl, HB1.out⟩
        | true =>
          obtain ⟨b2, off2, hA2, hb2B, hc2⟩ := huc (by omega)
          subst hA2
          have HG := Lib.hid (gc_yes h1)
          have h40 := HG.out.len
          have HO9 := Lib.hid hok
          have hf := Lib.hid (ef_yes (n := n) (xs := xs) (m := 9) (ws := ws) (who := who) (show efB n xs 9 ws who = true by simp [efB, h1, h2, h8]))
          have HC2 := Lib.hid hc2
          clear huc hul hc2 h9 hA hok
          go_enter Try.func21, Try.ntmps21
          go_wp2_with fail
          refine (caGood_any _ n B xs _ Hc.out Hv.out hB hn).mono ?_
          rintro e w1 ⟨rfl, hb1⟩
          have HB1 := Lib.hid hb1
          clear hb1
          go_wp2_with fail
          refine (HAl.out _ (Hu.out.below' HB1.out hB)).mono ?_
          rintro e w' ⟨rfl, rfl⟩
          go_wp2_with fail
          refine (caPerformer_any _ _).mono ?_
          rintro e w' ⟨rfl, rfl⟩
          go_wp2_with fail
          go_loopw [8, 31] (fun o s wr => ∃ k : Nat, k ≤ n ∧ s = .int .i64 k ∧ o = .int .i64 (efTo xs ws who k) ∧ Below w.heap.size w wr) (fun _ s _ => n - (intOf s).toNat)
          case atStart => exact ⟨0, Nat.zero_le _, rfl, rfl, HB1.out⟩
          case round =>
            clear HB1
            obtain ⟨k, hk, rfl, rfl, hb⟩ := hrel
            by_cases hlt : k < n
            · obtain ⟨b, off, rfl, hbB, hc⟩ := Hv.out.carry (by omega)
              have hcip := hc k (by omega)
              obtain ⟨p, ep⟩ : ∃ a, cP xs k = a := ⟨_, rfl⟩
              obtain ⟨l, el⟩ : ∃ a, cL xs k = a := ⟨_, rfl⟩
              obtain ⟨f, ef⟩ : ∃ a, cF xs k = a := ⟨_, rfl⟩
              obtain ⟨t, et⟩ : ∃ a, cT xs k = a := ⟨_, rfl⟩
              rw [ep, el, ef, et] at hcip
              have c0 := (hb.cell (p := ⟨b, off + k * 4, none⟩) (Nat.lt_of_lt_of_le hbB hB)).trans hcip.1
              have c1 := (hb.cell (p := ⟨b, off + k * 4 + 1, none⟩) (Nat.lt_of_lt_of_le hbB hB)).trans hcip.2.1
              have c2 := (hb.cell (p := ⟨b, off + k * 4 + 2, none⟩) (Nat.lt_of_lt_of_le hbB hB)).trans hcip.2.2.1
              have c3 := (hb.cell (p := ⟨b, off + k * 4 + 3, none⟩) (Nat.lt_of_lt_of_le hbB hB)).trans hcip.2.2.2
              have i0 : (0 : Int) ≤ (k : Int) := by omega
              have i1 : (k : Int) < (n : Int) := by omega
              have hgi : caB p l f t = true := by rw [← ep, ← el, ← ef, ← et]; exact HG.out.each k hlt
              obtain ⟨_, ⟨v0, v00⟩, v1, v2, v3⟩ := caB_yes hgi
              have hst : efTo xs ws who (k + 1) = if p = who then efTo xs ws who k + ws.getD (l - 1).toNat 0 * (t - f) else efTo xs ws who k := by rw [← ep, ← el, ← ef, ← et]; rfl
              obtain ⟨j, hj⟩ : ∃ j : Nat, l = (j : Int) + 1 := ⟨(l - 1).toNat, by omega⟩
              subst hj
              rw [show ((j : Int) + 1 - 1).toNat = j by omega] at hst
              have hj9 : j < 9 := by omega
              have hx := HO9.out j hj9
              have e0 := (hb.cell (p := ⟨b2, off2 + j, none⟩) (Nat.lt_of_lt_of_le hb2B hB)).trans (HC2.out j (by omega))
              obtain ⟨x, ex⟩ : ∃ x, ws.getD j 0 = x := ⟨_, rfl⟩
              rw [ex] at hx e0 hst
              obtain ⟨x1, x2⟩ := hx
              have hin := efTo_in HG.out HO9.out who k hk
              obtain ⟨s, es⟩ : ∃ s, efTo xs ws who k = s := ⟨_, rfl⟩
              rw [es] at hin hst
              rw [es]
              obtain ⟨s1, s2⟩ := hin
              have HB := Lib.hid (below_new hb (.cells #[.int .i64 p, .int .i64 ((j : Int) + 1), .int .i64 f, .int .i64 t] 52))
              have e1 := cell_new e0 (.cells #[.int .i64 p, .int .i64 ((j : Int) + 1), .int .i64 f, .int .i64 t] 52)
              have hs := share_in x1 x2 (d := t - f) (by omega) (by omega)
              obtain ⟨y1, y2⟩ := hs
              clear hc hcip ep el ef et hgi hb ex es
              by_cases hp : p = who
              · subst hp
                have hpp : (p == p) = true := by simp
                have HS := Lib.hid (hst.trans (if_pos rfl))
                have i2 : (0 : Int) ≤ (j : Int) := by omega
                have i3 : (j : Int) < 9 := by omega
                have f0 := IntWalk.i64_in ((j : Int) + 1 - 1) (by omega)
                have f00 := IntWalk.i64_in (j : Int) (by omega)
                have f1 := IntWalk.i64_in (t - f) (by omega)
                have f2 := IntWalk.i64_in (x * (t - f)) (by omega)
                have f3 := IntWalk.i64_in (s + x * (t - f)) (by omega)
                clear hst
                go_wp2_with fail
                go_quiet (fail)
                clear f0 f00 f1 f2 f3
                go_wp2_with fail
                go_roundw
                case rel => exact ⟨k + 1, by omega, by go_num, by rw [HS.out], below_drewN HB.out _⟩
                case measure => simp [intOf]; omega
              · have hpp : (p == who) = false := by simp [hp]
                have HS := Lib.hid (hst.trans (if_neg hp))
                clear hst hp
                go_wp2_with fail
                go_roundw
                case rel => exact ⟨k + 1, by omega, by go_num, by rw [HS.out], HB.out⟩
                case measure => simp [intOf]; omega
            · obtain rfl : k = n := by omega
              have HB := Lib.hid hb
              clear hb
              go_wp2_with fail
              go_ret2
              exact ⟨by rw [hf.out.1, hf.out.2]; rfl, HB.out⟩
end Go.Proofs.Ytamehlafmfmgmaa
