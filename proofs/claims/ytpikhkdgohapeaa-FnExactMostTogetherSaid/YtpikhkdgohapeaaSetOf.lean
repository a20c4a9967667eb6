/- Contracts of the reference's lists of a set's members, and of the order of such lists. Conditions: sets of numbers below twelve; lists of one length. -/
import Derived.Test.YtpikhkdgohapeaaSetsFn
import Derived.Test.YtpikhkdgohapeaaBits
import Derived.Test.YtpikhkdgohapeaaIntApp
namespace Go.Proofs.Ytpikhkdgohapeaa
open Go.RowKit

set_option maxHeartbeats 2000000 in
theorem cfSet_any (s n : Nat) (w : World) (hs : s < 2 ^ n) (hn : n ≤ 12) :
    Calls Try.prog 60 #[.int .i64 (s : Int)] w fun e w' => ∃ u, e = .returned u ∧ w'.ownsRow w.heap.size 3 1 u (setL n s).length (ints (nats (setL n s))) ∧ Below w.heap.size w w' := by
  have hs62 : s < 2 ^ 62 := Nat.lt_of_lt_of_le hs (Nat.pow_le_pow_right (by decide) (by omega))
  rw [← setL_more (m := 12) hs hn]
  have HB := Lib.hid (fun i => bit_at2 s i hs62)
  have HS := Lib.hid (fun i => setL_succ i s)
  have HL := Lib.hid (fun i => setL_len i s)
  clear hs62 hs
  go_enter Try.func60, Try.ntmps60
  go_wp2_with fail
  go_loopw [3, 4] (fun o x wr => ∃ i : Nat, i ≤ 12 ∧ x = .int .i64 i ∧ wr.ownsRow w.heap.size 3 1 o (setL i s).length (ints (nats (setL i s))) ∧ Below w.heap.size w wr) (fun _ x _ => 12 - (intOf x).toNat)
  case atStart => exact ⟨0, Nat.zero_le _, rfl, by simpa [setL, nats, ints] using World.ownsRow_nil w w.heap.size 3 1, Below.refl _ _⟩
  case round =>
    obtain ⟨i, hi, rfl, hown, hb⟩ := hrel
    by_cases hlt : i < 12
    · have hi0 : (0 : Int) ≤ (i : Int) := by omega
      have hi1 : (i : Int) < 12 := by omega
      have hbit := HB.out i
      have hst := HS.out i
      have hln := HL.out i
      cases hb1 : s.testBit i with
      | true =>
        rw [show bitI s i = 1 by unfold bitI; rw [hb1]; rfl] at hbit
        have HST := Lib.hid (show setL (i + 1) s = setL i s ++ [i] by rw [hst, if_pos hb1])
        have HB0 := Lib.hid (below_new hb (.cells #[.int .i64 (i : Int)] 3))
        have HO := Lib.hid (hown.alloc (.cells #[.int .i64 (i : Int)] 3))
        have n0 := (Blk.new wr 3 #[.int .i64 (i : Int)]).c1
        have hsz := hb.size
        clear hst hown hb hb1
        go_wp2_with (at_builtin; refine app_int rfl _ _ rfl w.heap.size _ _ _ rfl HO.out wr.heap.size (i : Int) rfl n0 (by omega) (by simp; omega) ?_; intro v' w9 ho9 hg9)
        have hb9 : Below w.heap.size w w9 := HB0.out.grown hg9 (by simp; omega) (fun g hg => (HO.out.lt g hg).1)
        have HO9 := Lib.hid (show w9.ownsRow w.heap.size 3 1 v' (setL (i + 1) s).length (ints (nats (setL (i + 1) s))) by
          rw [HST.out, List.length_append, nats, List.map_append]; exact ho9)
        have HB9 := Lib.hid hb9
        clear ho9 hb9 hg9 n0 HO HB0
        go_wp2_with fail
        go_roundw
        case rel => exact ⟨i + 1, by omega, by go_num, HO9.out, HB9.out⟩
        case measure => simp [intOf]; omega
      | false =>
        rw [show bitI s i = 0 by unfold bitI; rw [hb1]; rfl] at hbit
        have HST := Lib.hid (show setL (i + 1) s = setL i s by rw [hst, if_neg (by simp [hb1]), List.append_nil])
        have HO9 := Lib.hid (show wr.ownsRow w.heap.size 3 1 _ (setL (i + 1) s).length (ints (nats (setL (i + 1) s))) by rw [HST.out]; exact hown)
        have HB9 := Lib.hid hb
        clear hst hown hb hb1
        go_wp2_with fail
        go_roundw
        case rel => exact ⟨i + 1, by omega, by go_num, HO9.out, HB9.out⟩
        case measure => simp [intOf]; omega
    · obtain rfl : i = 12 := by omega
      have HO9 := Lib.hid hown
      have HB9 := Lib.hid hb
      clear hown hb
      go_wp2_with fail
      go_ret
      exact ⟨_, rfl, HO9.out, HB9.out⟩
set_option maxHeartbeats 1000000 in
theorem cfBefore_any (v u : Value) (a b : List Nat) (m B C : Nat) (w : World) (hv : Rd w B 1 v m (nats a)) (hu : Rd w C 1 u m (nats b)) (ha : a.length = m) (hb : b.length = m) (hm : m ≤ 1099511627776) :
    Calls Try.prog 61 #[v, u] w fun e w' => e = .returned (.bool (bf a b)) ∧ w = w' := by
  have HBF := Lib.hid (fun (k : Nat) (hk : k ≤ a.length) (h : ∀ j, j < k → a.getD j 0 = b.getD j 0) => bf_at (ha.trans hb.symm) hk h)
  obtain ⟨_, A, c, rfl, hA⟩ := hv
  obtain ⟨_, D, d, rfl, hD⟩ := hu
  have HA := Lib.hid hA
  have HD := Lib.hid hD
  have HLA := Lib.hid ha
  clear hA hD ha hb
  go_enter Try.func61, Try.ntmps61
  go_wp2_with fail
  go_loopw [9] (fun x wr => ∃ k : Nat, k ≤ m ∧ x = .int .i64 k ∧ (∀ j, j < k → a.getD j 0 = b.getD j 0) ∧ wr = w) (fun x _ => m - (intOf x).toNat)
  case atStart => exact ⟨0, Nat.zero_le _, rfl, fun j h => absurd h (by omega), rfl⟩
  case round =>
    obtain ⟨k, hk, rfl, hj, rfl⟩ := hrel
    have HJ := Lib.hid hj
    clear hj
    by_cases hlt : k < m
    · have hk0 : (0 : Int) ≤ (k : Int) := by omega
      have hk1 : (k : Int) < (m : Int) := by omega
      obtain ⟨b1, o1, rfl, _, h1⟩ := HA.out (by omega)
      obtain ⟨b2, o2, rfl, _, h2⟩ := HD.out (by omega)
      have g1 := h1 k (by omega)
      have g2 := h2 k (by omega)
      rw [nats_get] at g1 g2
      have hbf := HBF.out k (by have := HLA.out; omega) HJ.out
      have hlt2 : k < a.length := by have := HLA.out; omega
      by_cases he : a.getD k 0 = b.getD k 0
      · have HJ2 := Lib.hid (show ∀ j, j < k + 1 → a.getD j 0 = b.getD j 0 from fun j hj => by
          rcases Nat.lt_succ_iff_lt_or_eq.1 hj with h | rfl
          · exact HJ.out j h
          · exact he)
        rw [he] at g1
        have hne : (((b.getD k 0 : Nat) : Int) != ((b.getD k 0 : Nat) : Int)) = false := by simp
        clear h1 h2 hbf he HJ
        go_wp2_with fail
        go_roundw
        case rel => exact ⟨k + 1, by omega, by go_num, HJ2.out, trivial⟩
        case measure => simp [intOf]; omega
      · have HF := Lib.hid (hbf.2 hlt2 he)
        obtain ⟨x, ex⟩ : ∃ x, a.getD k 0 = x := ⟨_, rfl⟩
        obtain ⟨y, ey⟩ : ∃ x, b.getD k 0 = x := ⟨_, rfl⟩
        rw [ex] at HF g1 he
        rw [ey] at HF g2 he
        have hne : ((x : Int) != (y : Int)) = true := by simp; omega
        have hne2 : ¬ (x : Int) = (y : Int) := by omega
        have HD2 := Lib.hid (show decide ((x : Int) < (y : Int)) = decide (x < y) from decide_eq_decide.2 (by omega))
        clear h1 h2 hbf ex ey
        go_wp2_with fail
        go_ret
        exact ⟨by rw [HF.out, ← HD2.out]; rfl, rfl⟩
    · obtain rfl : k = m := by omega
      have HF := Lib.hid ((HBF.out k (by have := HLA.out; omega) HJ.out).1 HLA.out.symm)
      go_wp2_with fail
      go_ret
      exact ⟨by rw [HF.out]; rfl, rfl⟩
end Go.Proofs.Ytpikhkdgohapeaa
