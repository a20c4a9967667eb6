/- A contract of what the program asks ahead of a transition, and of bits.OnesCount. Conditions: short slices that can be read; numbers below 4096. -/
import Derived.Test.YtnlneblipedddaaPFnExactEvenTransition18
import Derived.Test.YtnlneblipedddaaPFnExactEvenTransition25
namespace Go.Proofs.Ytnlneblipedddaa
open Go.RowKit

set_option maxHeartbeats 2000000 in
theorem canChange_any (v u : Value) (n m B : Nat) (xs ys : List Int) (c : Int) (w : World) (hcp : Cap v) (hcp2 : Cap u) (hv : Rd w B 2 v n xs) (hu : Rd w B 2 u m ys) (hB : B ≤ w.heap.size) (hn : n ≤ 1099511627776) (hm : m ≤ 1099511627776) :
    Calls Try.prog 33 #[v, u, .int .i64 c] w fun e w' => e = .returned (.bool (aaB n xs m ys c)) ∧ Below w.heap.size w w' := by
  have P1 := Lib.hid (IsChart_any v n B xs w hcp hv hB hn)
  have P2 := Lib.hid (fun W (hb : Below w.heap.size w W) => IsChart_any u m B ys W hcp2 (hu.below' hb hB) (Nat.le_trans hB hb.size) hm)
  obtain ⟨A, ca, rfl⟩ := hv.form
  obtain ⟨C, cb, rfl⟩ := hu.form
  have hdef : aaB n xs m ys c = ((chB n xs && (chB m ys && n == m)) && inB c 1 64) := rfl
  clear hv hu hcp hcp2
  cases h1 : chB n xs with
  | false =>
    rw [h1] at P1 hdef
    have HD := Lib.hid hdef
    clear hdef h1
    go_enter Try.func33, Try.ntmps33
    go_wp2_with fail
    refine P1.out.mono ?_
    rintro e w2 ⟨rfl, hb⟩
    have HB := Lib.hid hb
    clear hb
    go_wp2_with fail
    go_ret
    exact ⟨by rw [HD.out]; rfl, HB.out⟩
  | true =>
    rw [h1] at P1 hdef
    clear h1
    cases h2 : chB m ys with
    | false =>
      rw [h2] at P2 hdef
      have HD := Lib.hid hdef
      clear hdef h2
      go_enter Try.func33, Try.ntmps33
      go_wp2_with fail
      refine P1.out.mono ?_
      rintro e w2 ⟨rfl, hb⟩
      have HB := Lib.hid hb
      clear hb
      go_wp2_with fail
      refine (P2.out _ HB.out).mono ?_
      rintro e w3 ⟨rfl, hb⟩
      have HB2 := Lib.hid (below_on HB.out hb)
      clear hb
      go_wp2_with fail
      go_ret
      exact ⟨by rw [HD.out]; rfl, HB2.out⟩
    | true =>
      rw [h2] at P2 hdef
      clear h2
      obtain ⟨b, eb, hb⟩ : ∃ b, (n == m) = b ∧ ((n : Int) == (m : Int)) = b := ⟨_, rfl, by rw [Bool.eq_iff_iff]; simp; omega⟩
      rw [eb] at hdef
      clear eb
      have HD := Lib.hid hdef
      clear hdef
      cases b with
      | false =>
        go_enter Try.func33, Try.ntmps33
        go_wp2_with fail
        refine P1.out.mono ?_
        rintro e w2 ⟨rfl, hb⟩
        have HB := Lib.hid hb
        clear hb
        go_wp2_with fail
        refine (P2.out _ HB.out).mono ?_
        rintro e w3 ⟨rfl, hb⟩
        have HB2 := Lib.hid (below_on HB.out hb)
        clear hb
        go_wp2_with fail
        go_ret
        exact ⟨by rw [HD.out]; rfl, HB2.out⟩
      | true =>
        go_enter Try.func33, Try.ntmps33
        go_wp2_with fail
        refine P1.out.mono ?_
        rintro e w2 ⟨rfl, hb⟩
        have HB := Lib.hid hb
        clear hb
        go_wp2_with fail
        refine (P2.out _ HB.out).mono ?_
        rintro e w3 ⟨rfl, hb⟩
        have HB2 := Lib.hid (below_on HB.out hb)
        clear hb
        go_wp2_with fail
        refine (within_any c 1 64 _).mono ?_
        rintro e w4 ⟨rfl, rfl⟩
        go_wp2_with fail
        go_ret
        exact ⟨by rw [HD.out]; rfl, HB2.out⟩
set_option maxHeartbeats 2000000 in
theorem OnesCount_any (u : Nat) (hu : u < 4096) (w : World) :
    Calls Try.prog 74 #[.int .u64 (u : Int)] w fun e w' => e = .returned (.int .i64 ((popc u 12 : Nat) : Int)) ∧ w = w' := by
  have P := Lib.hid (fun W => OnesCount64_any u hu W)
  go_enter Try.func74, Try.ntmps74
  go_wp2_with fail
  refine (P.out _).mono ?_
  rintro e w' ⟨rfl, rfl⟩
  go_wp2_with fail
  go_ret
  exact ⟨rfl, rfl⟩
theorem popc_more {u n : Nat} (h : u < 2 ^ n) : ∀ k, popc u (n + k) = popc u n
  | 0 => rfl
  | k + 1 => by
    have hb : u.testBit (n + k) = false := Nat.testBit_lt_two_pow (Nat.lt_of_lt_of_le h (Nat.pow_le_pow_right (by decide) (by omega)))
    rw [← Nat.add_assoc, popc, popc_more h k, hb]
    simp
theorem popc_12 {u n : Nat} (hn : n ≤ 12) (h : u < 2 ^ n) : popc u 12 = popc u n := by
  have := popc_more h (12 - n)
  rwa [show n + (12 - n) = 12 by omega] at this
end Go.Proofs.Ytnlneblipedddaa
