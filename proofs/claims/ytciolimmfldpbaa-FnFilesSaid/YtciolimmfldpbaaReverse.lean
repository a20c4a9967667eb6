/- Contracts of the two ReverseWay: the spots of a way from the last to the first, in memory of its own. Condition: the slice can be read. -/
import Derived.Test.YtciolimmfldpbaaWayLaw
import Derived.Test.YtciolimmfldpbaaSpotS
namespace Go.Proofs.Ytciolimmfldpbaa
open Go.RowKit

/-- The last k spots, the last first. -/
def revTo (n : Nat) (xs : List Int) : Nat → List Int
  | 0 => []
  | k + 1 => revTo n xs k ++ [X xs (n - 1 - k), Y xs (n - 1 - k)]
theorem revTo_length (n : Nat) (xs : List Int) : ∀ k, (revTo n xs k).length = k * 2
  | 0 => rfl
  | k + 1 => by simp [revTo, revTo_length n xs k]; omega
def rwL (n : Nat) (xs : List Int) : List Int := if wayB n xs = true then revTo n xs n else []
def rwN (n : Nat) (xs : List Int) : Nat := if wayB n xs = true then n else 0

set_option maxHeartbeats 1000000 in
theorem ReverseWay_any (v : Value) (n B : Nat) (xs : List Int) (w : World) (hv : Rd w B 2 v n xs) (hB : B ≤ w.heap.size) (hn : n ≤ 1099511627776) :
    Calls Try.prog 31 #[v] w fun e w' => ∃ u, e = .returned (.tuple #[u, .bool (wayB n xs)]) ∧ w'.ownsRow w.heap.size 29 2 u (rwN n xs) (ints (rwL n xs)) ∧ Below w.heap.size w w' := by
  obtain ⟨A, c, rfl⟩ := hv.form
  have Hv := Lib.hid hv
  clear hv
  cases h1 : wayB n xs with
  | false =>
    have hf := Lib.hid (show rwL n xs = [] ∧ rwN n xs = 0 by simp [rwL, rwN, h1])
    go_enter Try.func31, Try.ntmps31
    go_wp2_with fail
    refine (IsWay_any _ n B xs _ Hv.out hB hn).mono ?_
    rintro e w1 ⟨rfl, hb1⟩
    go_wp2_with fail
    go_ret2
    rw [hf.out.1, hf.out.2]
    exact ⟨_, rfl, World.ownsRow_nil _ _ _ _, hb1⟩
  | true =>
    have hf := Lib.hid (show rwL n xs = revTo n xs n ∧ rwN n xs = n by simp [rwL, rwN, h1])
    go_enter Try.func31, Try.ntmps31
    go_wp2_with fail
    refine (IsWay_any _ n B xs _ Hv.out hB hn).mono ?_
    rintro e w1 ⟨rfl, hb1⟩
    go_wp2_with fail
    go_loopw [4, 5] (fun o i wr => ∃ k m : Nat, k + m = n ∧ i = .int .i64 ((m : Int) - 1) ∧ wr.ownsRow w.heap.size 29 2 o k (ints (revTo n xs k)) ∧ Below w.heap.size w wr) (fun _ i _ => (intOf i + 1).toNat)
    case atStart => exact ⟨0, n, Nat.zero_add _, by go_num, own_base (own_empty _ _ _) (by simp [hb1.size]), below_new hb1 _⟩
    case round =>
      obtain ⟨k, m, hkm, rfl, hown, hb⟩ := hrel
      by_cases hlt : 0 < m
      · obtain ⟨b, off, rfl, hbB, hc⟩ := Hv.out.spot (by omega)
        have hc0 := hc (m - 1) (by omega)
        have hs : revTo n xs (k + 1) = revTo n xs k ++ [X xs (m - 1), Y xs (m - 1)] := by rw [show m - 1 = n - 1 - k by omega]; rfl
        obtain ⟨x, ex⟩ : ∃ x, X xs (m - 1) = x := ⟨_, rfl⟩
        obtain ⟨y, ey⟩ : ∃ y, Y xs (m - 1) = y := ⟨_, rfl⟩
        rw [ex, ey] at hc0 hs
        have c0 := (hb.cell (p := ⟨b, off + (m - 1) * 2, none⟩) (Nat.lt_of_lt_of_le hbB hB)).trans hc0.1
        have c1 := (hb.cell (p := ⟨b, off + (m - 1) * 2 + 1, none⟩) (Nat.lt_of_lt_of_le hbB hB)).trans hc0.2
        have hi0 : (0 : Int) ≤ (m : Int) - 1 := by omega
        have hi1 : (m : Int) - 1 < (n : Int) := by omega
        have hi2 : ((m : Int) - 1).toNat = m - 1 := by omega
        have hi3 := IntWalk.i64_in ((m : Int) - 1) (by omega)
        have hi4 := IntWalk.i64_in ((m : Int) - 1 - 1) (by omega)
        have HS := Lib.hid hs
        have HB := Lib.hid hb
        have HO := Lib.hid (hown.alloc (.cells #[.int .i64 x, .int .i64 y] 29))
        have n0 := (Blk.new wr 29 #[.int .i64 x, .int .i64 y]).c2
        have hsz := hb.size
        obtain ⟨n0, n1⟩ := n0
        clear hc hc0 hs ex ey hown hb
        go_wp2_with (at_builtin; refine app_spot rfl _ _ rfl w.heap.size _ k _ rfl HO.out wr.heap.size x y rfl n0 n1 (by omega) (by simp; omega) ?_; intro v' w2 ho2 hg2)
        have hb2 : Below w.heap.size w w2 := (HB.out.alloc hsz _).grown hg2 (by simp; omega) (fun g hg => (HO.out.lt g hg).1)
        rw [← HS.out] at ho2
        have HO2 := Lib.hid ho2
        have HB2 := Lib.hid hb2
        clear ho2 hb2 hg2 n0 n1 HO HB
        go_wp2_with fail
        go_roundw
        case rel => exact ⟨k + 1, m - 1, by omega, by go_num, HO2.out, HB2.out⟩
        case measure => simp [intOf]; omega
      · obtain rfl : m = 0 := by omega
        obtain rfl : k = n := by omega
        go_wp2_with fail
        go_ret2
        rw [hf.out.1, hf.out.2]
        exact ⟨_, rfl, hown, hb⟩
set_option maxHeartbeats 1000000 in
theorem specReverseWay_any (v : Value) (n B : Nat) (xs : List Int) (w : World) (hv : Rd w B 2 v n xs) (hB : B ≤ w.heap.size) (hn : n ≤ 1099511627776) :
    Calls Try.prog 32 #[v] w fun e w' => ∃ u, e = .returned (.tuple #[u, .bool (wayB n xs)]) ∧ w'.ownsRow w.heap.size 29 2 u (rwN n xs) (ints (rwL n xs)) ∧ Below w.heap.size w w' := by
  obtain ⟨A, c, rfl⟩ := hv.form
  have Hv := Lib.hid hv
  clear hv
  cases h1 : wayB n xs with
  | false =>
    have hf := Lib.hid (show rwL n xs = [] ∧ rwN n xs = 0 by simp [rwL, rwN, h1])
    go_enter Try.func32, Try.ntmps32
    go_wp2_with fail
    refine (foGood_any _ n B xs _ Hv.out hB hn).mono ?_
    rintro e w1 ⟨rfl, hb1⟩
    go_wp2_with fail
    go_ret2
    rw [hf.out.1, hf.out.2]
    exact ⟨_, rfl, World.ownsRow_nil _ _ _ _, hb1⟩
  | true =>
    have hf := Lib.hid (show rwL n xs = revTo n xs n ∧ rwN n xs = n by simp [rwL, rwN, h1])
    go_enter Try.func32, Try.ntmps32
    go_wp2_with fail
    refine (foGood_any _ n B xs _ Hv.out hB hn).mono ?_
    rintro e w1 ⟨rfl, hb1⟩
    go_wp2_with fail
    go_loopw [4, 5] (fun o i wr => ∃ k m : Nat, k + m = n ∧ i = .int .i64 ((m : Int) - 1) ∧ wr.ownsRow w.heap.size 29 2 o k (ints (revTo n xs k)) ∧ Below w.heap.size w wr) (fun _ i _ => (intOf i + 1).toNat)
    case atStart => exact ⟨0, n, Nat.zero_add _, by go_num, World.ownsRow_nil _ _ _ _, hb1⟩
    case round =>
      obtain ⟨k, m, hkm, rfl, hown, hb⟩ := hrel
      by_cases hlt : 0 < m
      · obtain ⟨b, off, rfl, hbB, hc⟩ := Hv.out.spot (by omega)
        have hc0 := hc (m - 1) (by omega)
        have hs : revTo n xs (k + 1) = revTo n xs k ++ [X xs (m - 1), Y xs (m - 1)] := by rw [show m - 1 = n - 1 - k by omega]; rfl
        obtain ⟨x, ex⟩ : ∃ x, X xs (m - 1) = x := ⟨_, rfl⟩
        obtain ⟨y, ey⟩ : ∃ y, Y xs (m - 1) = y := ⟨_, rfl⟩
        rw [ex, ey] at hc0 hs
        have c0 := (hb.cell (p := ⟨b, off + (m - 1) * 2, none⟩) (Nat.lt_of_lt_of_le hbB hB)).trans hc0.1
        have c1 := (hb.cell (p := ⟨b, off + (m - 1) * 2 + 1, none⟩) (Nat.lt_of_lt_of_le hbB hB)).trans hc0.2
        have hi0 : (0 : Int) ≤ (m : Int) - 1 := by omega
        have hi1 : (m : Int) - 1 < (n : Int) := by omega
        have hi2 : ((m : Int) - 1).toNat = m - 1 := by omega
        have hi3 := IntWalk.i64_in ((m : Int) - 1) (by omega)
        have hi4 := IntWalk.i64_in ((m : Int) - 1 - 1) (by omega)
        have HS := Lib.hid hs
        have HB := Lib.hid hb
        have HO := Lib.hid (hown.alloc (.cells #[.int .i64 x, .int .i64 y] 29))
        have n0 := (Blk.new wr 29 #[.int .i64 x, .int .i64 y]).c2
        have hsz := hb.size
        obtain ⟨n0, n1⟩ := n0
        clear hc hc0 hs ex ey hown hb
        go_wp2_with (at_builtin; refine app_spot rfl _ _ rfl w.heap.size _ k _ rfl HO.out wr.heap.size x y rfl n0 n1 (by omega) (by simp; omega) ?_; intro v' w2 ho2 hg2)
        have hb2 : Below w.heap.size w w2 := (HB.out.alloc hsz _).grown hg2 (by simp; omega) (fun g hg => (HO.out.lt g hg).1)
        rw [← HS.out] at ho2
        have HO2 := Lib.hid ho2
        have HB2 := Lib.hid hb2
        clear ho2 hb2 hg2 n0 n1 HO HB
        go_wp2_with fail
        go_roundw
        case rel => exact ⟨k + 1, m - 1, by omega, by go_num, HO2.out, HB2.out⟩
        case measure => simp [intOf]; omega
      · obtain rfl : m = 0 := by omega
        obtain rfl : k = n := by omega
        go_wp2_with fail
        go_ret2
        rw [hf.out.1, hf.out.2]
        exact ⟨_, rfl, hown, hb⟩
end Go.Proofs.Ytciolimmfldpbaa
