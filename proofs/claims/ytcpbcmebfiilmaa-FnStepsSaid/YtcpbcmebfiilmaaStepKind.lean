/- Contracts of the two StepKind. Without conditions. -/
import Derived.Test.YtcpbcmebfiilmaaKind
namespace Go.Proofs.Ytcpbcmebfiilmaa
open Go.RowKit

def skB (f x y z u c : Int) : Bool := inB f 0 7 && dirB x y z u c
def skV (f x y z u c : Int) : Int := if skB f x y z u c = true then kindL f (dirL (z - x) (u - y)) else 0
theorem sk_no1 {f x y z u c : Int} (h : inB f 0 7 = false) : skB f x y z u c = false ∧ skV f x y z u c = 0 := by simp [skV, skB, h]
theorem sk_no2 {f x y z u c : Int} (h : dirB x y z u c = false) : skB f x y z u c = false ∧ skV f x y z u c = 0 := by simp [skV, skB, h]
theorem sk_yes {f x y z u c : Int} (h1 : inB f 0 7 = true) (h : dirB x y z u c = true) : skB f x y z u c = true ∧ skV f x y z u c = kindL f (dirL (z - x) (u - y)) := by simp [skV, skB, h, h1]


set_option maxHeartbeats 400000 in
theorem specStepKind_any (f x y z u c : Int) (w : World) : Calls Try.prog 18 #[.int .i64 f, (Value.agg #[Value.int .i64 x, Value.int .i64 y, Value.int .i64 z, Value.int .i64 u, Value.int .i64 c])] w fun e w' => e = .returned (.tuple #[.int .i64 (skV f x y z u c), .bool (skB f x y z u c)]) ∧ Below w.heap.size w w' := by
  cases h1 : inB f 0 7 with
  | false =>
    have hf := Lib.hid (sk_no1 (x := x) (y := y) (z := z) (u := u) (c := c) h1)
    go_enter Try.func18, Try.ntmps18
    go_wp2_with fail
    refine (tuGood_any _ _).mono ?_
    rintro e w' ⟨rfl, rfl⟩
    go_wp2_with fail
    go_ret2
    exact ⟨by rw [hf.out.1, hf.out.2]; rfl, (Below.refl _ _).alloc (Nat.le_refl _) _⟩
  | true =>
    obtain ⟨f1, f2⟩ := inB_yes h1
    cases h2 : dirB x y z u c with
    | false =>
      have hf := Lib.hid (sk_no2 (f := f) h2)
      go_enter Try.func18, Try.ntmps18
      go_wp2_with fail
      refine (tuGood_any _ _).mono ?_
      rintro e w' ⟨rfl, rfl⟩
      go_wp2_with fail
      refine (tuMoves_any _ _ _ _ _ _).mono ?_
      rintro e w1 ⟨rfl, hb1⟩
      have k1 := (Blk.new w 27 #[.int .i64 x, .int .i64 y, .int .i64 z, .int .i64 u, .int .i64 c]).on hb1
      obtain ⟨c0, c1, c2, c3, c4⟩ := k1.c5
      replace hb1 := Lib.hid (below_box hb1)
      go_wp2_with fail
      go_ret2
      exact ⟨by rw [hf.out.1, hf.out.2]; rfl, hb1.out⟩
    | true =>
      have hf := Lib.hid (sk_yes h1 h2)
      have hm := mvB_yes (dirB_mv h2)
      obtain ⟨d1, d2⟩ := dirL_in (z - x) (u - y)
      go_enter Try.func18, Try.ntmps18
      go_wp2_with fail
      refine (tuGood_any _ _).mono ?_
      rintro e w' ⟨rfl, rfl⟩
      go_wp2_with fail
      refine (tuMoves_any _ _ _ _ _ _).mono ?_
      rintro e w1 ⟨rfl, hb1⟩
      have k1 := (Blk.new w 27 #[.int .i64 x, .int .i64 y, .int .i64 z, .int .i64 u, .int .i64 c]).on hb1
      obtain ⟨c0, c1, c2, c3, c4⟩ := k1.c5
      replace hb1 := Lib.hid (below_box hb1)
      go_wp2_with fail
      refine (tuDirection_any x y z u c _ (by omega) (by omega) (by omega) (by omega)).mono ?_
      rintro e w2 ⟨rfl, hb2⟩
      replace hb2 := Lib.hid (below_on hb1.out hb2)
      go_wp2_with fail
      refine (tuKind_any f _ _ f1 f2 d1 d2).mono ?_
      rintro e w' ⟨rfl, rfl⟩
      go_wp2_with fail
      go_ret2
      exact ⟨by rw [hf.out.1, hf.out.2]; rfl, hb2.out⟩

set_option maxHeartbeats 1000000 in
theorem StepKind_any (f x y z u c : Int) (w : World) : Calls Try.prog 9 #[.int .i64 f, (Value.agg #[Value.int .i64 x, Value.int .i64 y, Value.int .i64 z, Value.int .i64 u, Value.int .i64 c])] w fun e w' => e = .returned (.tuple #[.int .i64 (skV f x y z u c), .bool (skB f x y z u c)]) ∧ Below w.heap.size w w' := by
  cases h1 : inB f 0 7 with
  | false =>
    have hf := Lib.hid (sk_no1 (x := x) (y := y) (z := z) (u := u) (c := c) h1)
    go_enter Try.func9, Try.ntmps9
    go_wp2_with fail
    refine (isFacing_any _ _).mono ?_
    rintro e w' ⟨rfl, rfl⟩
    go_wp2_with fail
    go_ret2
    exact ⟨by rw [hf.out.1, hf.out.2]; rfl, (Below.refl _ _).alloc (Nat.le_refl _) _⟩
  | true =>
    obtain ⟨f1, f2⟩ := inB_yes h1
    cases h2 : mvB x y z u c with
    | false =>
      have hf := Lib.hid (sk_no2 (f := f) (dirB_no h2).1)
      go_enter Try.func9, Try.ntmps9
      go_wp2_with fail
      refine (isFacing_any _ _).mono ?_
      rintro e w' ⟨rfl, rfl⟩
      go_wp2_with fail
      refine (IsMove_any _ _ _ _ _ _).mono ?_
      rintro e w1 ⟨rfl, hb1⟩
      have k1 := (Blk.new w 27 #[.int .i64 x, .int .i64 y, .int .i64 z, .int .i64 u, .int .i64 c]).on hb1
      obtain ⟨c0, c1, c2, c3, c4⟩ := k1.c5
      replace hb1 := Lib.hid (below_box hb1)
      go_wp2_with fail
      go_ret2
      exact ⟨by rw [hf.out.1, hf.out.2]; rfl, hb1.out⟩
    | true =>
      have H2 := Lib.hid h2
      by_cases hx : x = z
      · subst hx
        by_cases hy : y = u
        · subst hy
          have hf := Lib.hid (sk_no2 (f := f) (dirB_same x y c).1)
          go_enter Try.func9, Try.ntmps9
          go_wp2_with fail
          refine (isFacing_any _ _).mono ?_
          rintro e w' ⟨rfl, rfl⟩
          go_wp2_with fail
          refine (IsMove_any _ _ _ _ _ _).mono ?_
          rintro e w1 ⟨rfl, hb1⟩
          have k1 := (Blk.new w 27 #[.int .i64 x, .int .i64 y, .int .i64 x, .int .i64 y, .int .i64 c]).on hb1
          obtain ⟨c0, c1, c2, c3, c4⟩ := k1.c5
          replace hb1 := Lib.hid (below_box hb1)
          go_wp2_with fail
          go_ret2
          exact ⟨by rw [hf.out.1, hf.out.2]; rfl, hb1.out⟩
        · have hf := Lib.hid (sk_yes h1 (dirB_yes h2 (.inr hy)).1)
          go_enter Try.func9, Try.ntmps9
          go_wp2_with fail
          refine (isFacing_any _ _).mono ?_
          rintro e w' ⟨rfl, rfl⟩
          go_wp2_with fail
          refine (IsMove_any _ _ _ _ _ _).mono ?_
          rintro e w1 ⟨rfl, hb1⟩
          have k1 := (Blk.new w 27 #[.int .i64 x, .int .i64 y, .int .i64 x, .int .i64 u, .int .i64 c]).on hb1
          obtain ⟨c0, c1, c2, c3, c4⟩ := k1.c5
          replace hb1 := Lib.hid (below_box hb1)
          go_wp2_with fail
          refine (stepKind_any f x y x u c _ f1 f2 H2.out).mono ?_
          rintro e w2 ⟨rfl, hb2⟩
          replace hb2 := Lib.hid (below_on hb1.out hb2)
          go_wp2_with fail
          go_ret2
          exact ⟨by rw [hf.out.1, hf.out.2, Int.sub_self]; rfl, hb2.out⟩
      · have hf := Lib.hid (sk_yes h1 (dirB_yes h2 (.inl hx)).1)
        go_enter Try.func9, Try.ntmps9
        go_wp2_with fail
        refine (isFacing_any _ _).mono ?_
        rintro e w' ⟨rfl, rfl⟩
        go_wp2_with fail
        refine (IsMove_any _ _ _ _ _ _).mono ?_
        rintro e w1 ⟨rfl, hb1⟩
        have k1 := (Blk.new w 27 #[.int .i64 x, .int .i64 y, .int .i64 z, .int .i64 u, .int .i64 c]).on hb1
        obtain ⟨c0, c1, c2, c3, c4⟩ := k1.c5
        replace hb1 := Lib.hid (below_box hb1)
        go_wp2_with fail
        refine (stepKind_any f x y z u c _ f1 f2 H2.out).mono ?_
        rintro e w2 ⟨rfl, hb2⟩
        replace hb2 := Lib.hid (below_on hb1.out hb2)
        go_wp2_with fail
        go_ret2
        exact ⟨by rw [hf.out.1, hf.out.2]; rfl, hb2.out⟩
end Go.Proofs.Ytcpbcmebfiilmaa
