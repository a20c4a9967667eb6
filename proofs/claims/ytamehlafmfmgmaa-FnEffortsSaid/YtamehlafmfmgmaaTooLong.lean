/- Contracts of the two TooLong. Condition: the slice can be read, and its length is at most its capacity. -/
import Derived.Test.YtamehlafmfmgmaaLongest
import Derived.Test.YtamehlafmfmgmaaIntApp
namespace Go.Proofs.Ytamehlafmfmgmaa
open Go.RowKit

def tlTo (n : Nat) (xs : List Int) (lim : Int) : Nat → List Int
  | 0 => []
  | k + 1 => if (lgTo xs ((k : Int) + 1) n).t - (lgTo xs ((k : Int) + 1) n).f > lim then tlTo n xs lim k ++ [(k : Int) + 1] else tlTo n xs lim k
theorem tlTo_len (n : Nat) (xs : List Int) (lim : Int) : ∀ k, (tlTo n xs lim k).length ≤ k
  | 0 => Nat.le_refl _
  | k + 1 => by
    have := tlTo_len n xs lim k
    unfold tlTo
    split
    · simp; omega
    · omega
def tlB (n : Nat) (xs : List Int) (lim : Int) : Bool := gcB n xs && inB lim 1 999
def tlL (n : Nat) (xs : List Int) (lim : Int) : List Int := if tlB n xs lim = true then tlTo n xs lim 12 else []
def tlN (n : Nat) (xs : List Int) (lim : Int) : Nat := (tlL n xs lim).length
theorem tl_no {n : Nat} {xs : List Int} {lim : Int} (h : tlB n xs lim = false) : tlB n xs lim = false ∧ tlL n xs lim = [] ∧ tlN n xs lim = 0 := by simp [tlN, tlL, h]
theorem tl_yes {n : Nat} {xs : List Int} {lim : Int} (h : tlB n xs lim = true) : tlB n xs lim = true ∧ tlL n xs lim = tlTo n xs lim 12 ∧ tlN n xs lim = (tlTo n xs lim 12).length := by simp [tlN, tlL, h]
theorem tlN_le (n : Nat) (xs : List Int) (lim : Int) : tlN n xs lim ≤ 12 := by
  cases h : tlB n xs lim with
  | false => rw [(tl_no h).2.2]; omega
  | true => rw [(tl_yes h).2.2]; exact tlTo_len _ _ _ _
set_option maxRecDepth 100000 in
set_option maxHeartbeats 2000000 in
theorem TooLong_any (v : Value) (n B : Nat) (xs : List Int) (lim : Int) (w : World) (hcp : Cap v) (hv : Rd w B 4 v n xs) (hB : B ≤ w.heap.size) (hn : n ≤ 1099511627776) :
    Calls Try.prog 17 #[v, .int .i64 lim] w fun e w' => ∃ u, e = .returned (.tuple #[u, .bool (tlB n xs lim)]) ∧ w'.ownsRow w.heap.size 3 1 u (tlN n xs lim) (ints (tlL n xs lim)) ∧ Below w.heap.size w w' := by
  obtain ⟨A, c, rfl⟩ := hv.form4
  have Hv := Lib.hid hv
  have Hc := Lib.hid hcp
  clear hv hcp
  cases h1 : gcB n xs with
  | false =>
    have hf := Lib.hid (tl_no (lim := lim) (show tlB n xs lim = false by simp [tlB, h1]))
    go_enter Try.func17, Try.ntmps17
    go_wp2_with fail
    refine (AreCarries_any _ n B xs _ Hc.out Hv.out hB hn).mono ?_
    rintro e w1 ⟨rfl, hb1⟩
    go_wp2_with fail
    go_ret2
    rw [hf.out.1, hf.out.2.1, hf.out.2.2]
    exact ⟨_, rfl, World.ownsRow_nil _ _ _ _, hb1⟩
  | true =>
    cases h2 : inB lim 1 999 with
    | false =>
      have hf := Lib.hid (tl_no (lim := lim) (show tlB n xs lim = false by simp [tlB, h2]))
      go_enter Try.func17, Try.ntmps17
      go_wp2_with fail
      refine (AreCarries_any _ n B xs _ Hc.out Hv.out hB hn).mono ?_
      rintro e w1 ⟨rfl, hb1⟩
      go_wp2_with fail
      refine (within_any _ _ _ _).mono ?_
      rintro e w' ⟨rfl, rfl⟩
      go_wp2_with fail
      go_ret2
      rw [hf.out.1, hf.out.2.1, hf.out.2.2]
      exact ⟨_, rfl, World.ownsRow_nil _ _ _ _, hb1⟩
    | true =>
      have hf := Lib.hid (tl_yes (lim := lim) (show tlB n xs lim = true by simp [tlB, h1, h2]))
      have HG := Lib.hid (gc_yes h1)
      obtain ⟨l1, l2⟩ := inB_yes h2
      go_enter Try.func17, Try.ntmps17
      go_wp2_with fail
      refine (AreCarries_any _ n B xs _ Hc.out Hv.out hB hn).mono ?_
      rintro e w1 ⟨rfl, hb1⟩
      go_wp2_with fail
      refine (within_any _ _ _ _).mono ?_
      rintro e w' ⟨rfl, rfl⟩
      go_wp2_with fail
      go_loopw [6, 7] (fun o s wr => ∃ k : Nat, k ≤ 12 ∧ s = .int .i64 ((k : Int) + 1) ∧ wr.ownsRow w.heap.size 3 1 o (tlTo n xs lim k).length (ints (tlTo n xs lim k)) ∧ Below w.heap.size w wr) (fun _ s _ => 13 - (intOf s).toNat)
      case atStart => exact ⟨0, Nat.zero_le _, by simp, own_base (own_empty _ _ _) (by simp [hb1.size]), below_new hb1 _⟩
      case round =>
        clear hb1
        obtain ⟨k, hk, rfl, hown, hb⟩ := hrel
        have HB := Lib.hid hb
        have HO := Lib.hid hown
        clear hb hown
        by_cases hlt : k < 12
        · have hP := fun W (h : Rd W B 4 (.slice A n c) n xs) (hB : B ≤ W.heap.size) => longestCarry_any _ n B xs ((k : Int) + 1) W h hB HG.out
          have hst : tlTo n xs lim (k + 1) = if (lgTo xs ((k : Int) + 1) n).t - (lgTo xs ((k : Int) + 1) n).f > lim then tlTo n xs lim k ++ [(k : Int) + 1] else tlTo n xs lim k := rfl
          have hok := lgTo_ok HG.out ((k : Int) + 1) n (Nat.le_refl _)
          obtain ⟨⟨sf, st, sb, se⟩, hs⟩ : ∃ s, lgTo xs ((k : Int) + 1) n = s := ⟨_, rfl⟩
          rw [hs] at hst hP hok
          dsimp only at hst hP
          obtain ⟨⟨o1, o2⟩, ⟨o3, o4⟩, _⟩ := hok
          dsimp only at o1 o2 o3 o4
          have HP := Lib.hid hP
          have HSt := Lib.hid hst
          have hlen := tlTo_len n xs lim k
          clear hP hst hs
          go_wp2_with fail
          refine (HP.out _ (Hv.out.below' HB.out hB) (Nat.le_trans hB HB.out.size)).mono ?_
          rintro e w2 ⟨rfl, hb2⟩
          have HO2 := Lib.hid (own_below HO.out hb2 (Nat.le_refl _))
          have HB2 := Lib.hid (below_on HB.out hb2)
          clear hb2
          by_cases hm : st - sf > lim
          · have HS := Lib.hid (HSt.out.trans (if_pos hm))
            have HO4 := Lib.hid (HO2.out.alloc (.cells #[.int .i64 ((k : Int) + 1)] 3))
            have HB4 := Lib.hid (below_new HB2.out (.cells #[.int .i64 ((k : Int) + 1)] 3))
            have n0 := (Blk.new w2 3 #[.int .i64 ((k : Int) + 1)]).c1
            have hsz := HB2.out.size
            go_wp2_with (at_builtin; refine app_int rfl _ _ rfl w.heap.size _ _ _ rfl HO4.out w2.heap.size ((k : Int) + 1) rfl n0 (by omega) (by simp; omega) ?_; intro v' w3 ho3 hg3)
            have hb3 : Below w.heap.size w w3 := HB4.out.grown hg3 (by simp; omega) (fun g hg => (HO4.out.lt g hg).1)
            have HO5 := Lib.hid (show w3.ownsRow w.heap.size 3 1 v' (tlTo n xs lim (k + 1)).length (ints (tlTo n xs lim (k + 1))) by rw [HS.out, List.length_append]; exact ho3)
            have HB5 := Lib.hid hb3
            clear ho3 hb3 hg3 n0
            go_wp2_with fail
            go_roundw
            case rel => exact ⟨k + 1, by omega, by go_num, HO5.out, HB5.out⟩
            case measure => simp [intOf]; omega
          · have HS := Lib.hid (HSt.out.trans (if_neg hm))
            go_wp2_with fail
            go_roundw
            case rel => exact ⟨k + 1, by omega, by go_num, by rw [HS.out]; exact HO2.out, HB2.out⟩
            case measure => simp [intOf]; omega
        · obtain rfl : k = 12 := by omega
          go_wp2_with fail
          go_ret2
          rw [hf.out.1, hf.out.2.1, hf.out.2.2]
          exact ⟨_, rfl, HO.out, HB.out⟩
set_option maxRecDepth 100000 in
set_option maxHeartbeats 2000000 in
theorem specTooLong_any (v : Value) (n B : Nat) (xs : List Int) (lim : Int) (w : World) (hcp : Cap v) (hv : Rd w B 4 v n xs) (hB : B ≤ w.heap.size) (hn : n ≤ 1099511627776) :
    Calls Try.prog 18 #[v, .int .i64 lim] w fun e w' => ∃ u, e = .returned (.tuple #[u, .bool (tlB n xs lim)]) ∧ w'.ownsRow w.heap.size 3 1 u (tlN n xs lim) (ints (tlL n xs lim)) ∧ Below w.heap.size w w' := by
  obtain ⟨A, c, rfl⟩ := hv.form4
  have Hv := Lib.hid hv
  have Hc := Lib.hid hcp
  clear hv hcp
  cases h1 : gcB n xs with
  | false =>
    have hf := Lib.hid (tl_no (lim := lim) (show tlB n xs lim = false by simp [tlB, h1]))
    go_enter Try.func18, Try.ntmps18
    go_wp2_with fail
    refine (caGood_any _ n B xs _ Hc.out Hv.out hB hn).mono ?_
    rintro e w1 ⟨rfl, hb1⟩
    go_wp2_with fail
    go_ret2
    rw [hf.out.1, hf.out.2.1, hf.out.2.2]
    exact ⟨_, rfl, World.ownsRow_nil _ _ _ _, hb1⟩
  | true =>
    cases h2 : inB lim 1 999 with
    | false =>
      have hf := Lib.hid (tl_no (lim := lim) (show tlB n xs lim = false by simp [tlB, h2]))
      go_enter Try.func18, Try.ntmps18
      go_wp2_with fail
      refine (caGood_any _ n B xs _ Hc.out Hv.out hB hn).mono ?_
      rintro e w1 ⟨rfl, hb1⟩
      go_wp2_with fail
      refine (l1In_any _ _ _ _).mono ?_
      rintro e w' ⟨rfl, rfl⟩
      go_wp2_with fail
      go_ret2
      rw [hf.out.1, hf.out.2.1, hf.out.2.2]
      exact ⟨_, rfl, World.ownsRow_nil _ _ _ _, hb1⟩
    | true =>
      have hf := Lib.hid (tl_yes (lim := lim) (show tlB n xs lim = true by simp [tlB, h1, h2]))
      have HG := Lib.hid (gc_yes h1)
      obtain ⟨l1, l2⟩ := inB_yes h2
      go_enter Try.func18, Try.ntmps18
      go_wp2_with fail
      refine (caGood_any _ n B xs _ Hc.out Hv.out hB hn).mono ?_
      rintro e w1 ⟨rfl, hb1⟩
      go_wp2_with fail
      refine (l1In_any _ _ _ _).mono ?_
      rintro e w' ⟨rfl, rfl⟩
      go_wp2_with fail
      go_loopw [6, 7] (fun o s wr => ∃ k : Nat, k ≤ 12 ∧ s = .int .i64 ((k : Int) + 1) ∧ wr.ownsRow w.heap.size 3 1 o (tlTo n xs lim k).length (ints (tlTo n xs lim k)) ∧ Below w.heap.size w wr) (fun _ s _ => 13 - (intOf s).toNat)
      case atStart => exact ⟨0, Nat.zero_le _, by simp, World.ownsRow_nil _ _ _ _, hb1⟩
      case round =>
        clear hb1
        obtain ⟨k, hk, rfl, hown, hb⟩ := hrel
        have HB := Lib.hid hb
        have HO := Lib.hid hown
        clear hb hown
        by_cases hlt : k < 12
        · have hP := fun W (h : Rd W B 4 (.slice A n c) n xs) (hB : B ≤ W.heap.size) => caLongest_any _ n B xs ((k : Int) + 1) W h hB HG.out
          have hst : tlTo n xs lim (k + 1) = if (lgTo xs ((k : Int) + 1) n).t - (lgTo xs ((k : Int) + 1) n).f > lim then tlTo n xs lim k ++ [(k : Int) + 1] else tlTo n xs lim k := rfl
          have hok := lgTo_ok HG.out ((k : Int) + 1) n (Nat.le_refl _)
          obtain ⟨⟨sf, st, sb, se⟩, hs⟩ : ∃ s, lgTo xs ((k : Int) + 1) n = s := ⟨_, rfl⟩
          rw [hs] at hst hP hok
          dsimp only at hst hP
          obtain ⟨⟨o1, o2⟩, ⟨o3, o4⟩, _⟩ := hok
          dsimp only at o1 o2 o3 o4
          have HP := Lib.hid hP
          have HSt := Lib.hid hst
          have hlen := tlTo_len n xs lim k
          clear hP hst hs
          go_wp2_with fail
          refine (HP.out _ (Hv.out.below' HB.out hB) (Nat.le_trans hB HB.out.size)).mono ?_
          rintro e w2 ⟨rfl, hb2⟩
          have HO2 := Lib.hid (own_below HO.out hb2 (Nat.le_refl _))
          have HB2 := Lib.hid (below_on HB.out hb2)
          clear hb2
          by_cases hm : st - sf > lim
          · have HS := Lib.hid (HSt.out.trans (if_pos hm))
            have HO4 := Lib.hid (HO2.out.alloc (.cells #[.int .i64 ((k : Int) + 1)] 3))
            have HB4 := Lib.hid (below_new HB2.out (.cells #[.int .i64 ((k : Int) + 1)] 3))
            have n0 := (Blk.new w2 3 #[.int .i64 ((k : Int) + 1)]).c1
            have hsz := HB2.out.size
            go_wp2_with (at_builtin; refine app_int rfl _ _ rfl w.heap.size _ _ _ rfl HO4.out w2.heap.size ((k : Int) + 1) rfl n0 (by omega) (by simp; omega) ?_; intro v' w3 ho3 hg3)
            have hb3 : Below w.heap.size w w3 := HB4.out.grown hg3 (by simp; omega) (fun g hg => (HO4.out.lt g hg).1)
            have HO5 := Lib.hid (show w3.ownsRow w.heap.size 3 1 v' (tlTo n xs lim (k + 1)).length (ints (tlTo n xs lim (k + 1))) by rw [HS.out, List.length_append]; exact ho3)
            have HB5 := Lib.hid hb3
            clear ho3 hb3 hg3 n0
            go_wp2_with fail
            go_roundw
            case rel => exact ⟨k + 1, by omega, by go_num, HO5.out, HB5.out⟩
            case measure => simp [intOf]; omega
          · have HS := Lib.hid (HSt.out.trans (if_neg hm))
            go_wp2_with fail
            go_roundw
            case rel => exact ⟨k + 1, by omega, by go_num, by rw [HS.out]; exact HO2.out, HB2.out⟩
            case measure => simp [intOf]; omega
        · obtain rfl : k = 12 := by omega
          go_wp2_with fail
          go_ret2
          rw [hf.out.1, hf.out.2.1, hf.out.2.2]
          exact ⟨_, rfl, HO.out, HB.out⟩
end Go.Proofs.Ytamehlafmfmgmaa
