/- Contracts of the two StepAllowed. Without conditions. -/
import Derived.Test.YtcpbcmebfiilmaaKind
import Derived.Test.YtcpbcmebfiilmaaSquare
import Derived.Test.YtcpbcmebfiilmaaEql
import Derived.Test.YtcpbcmebfiilmaaStep
namespace Go.Proofs.Ytcpbcmebfiilmaa
open Go.RowKit

def saB (f x y z u c p q r : Int) : Bool := inB f 0 7 && mvB x y z u c && inB p 1 24 && inB q 1 24 && inB r 1 24
def pick3 (k p q r : Int) : Int := if k = 0 then p else if k = 1 then q else r
def saV (f x y z u c p q r : Int) : Bool := saB f x y z u c p q r && (decide (x = z ∧ y = u) || wsB x y z u c (pick3 (kindL f (dirL (z - x) (u - y))) p q r))
theorem sa_no {f x y z u c p q r : Int} (h : saB f x y z u c p q r = false) : saB f x y z u c p q r = false ∧ saV f x y z u c p q r = false := by simp [saV, h]
theorem sa_same {f x y c p q r : Int} (h : saB f x y x y c p q r = true) : saB f x y x y c p q r = true ∧ saV f x y x y c p q r = true := by simp [saV, h]
theorem sa_yes {f x y z u c p q r k : Int} (h : saB f x y z u c p q r = true) (hd : ¬ (x = z ∧ y = u)) (hk : kindL f (dirL (z - x) (u - y)) = k) : saB f x y z u c p q r = true ∧ saV f x y z u c p q r = wsB x y z u c (pick3 k p q r) := by
  have : decide (x = z ∧ y = u) = false := by simpa using hd
  simp [saV, h, this, hk]
theorem pick3_in {k p q r : Int} (h1 : 1 ≤ p ∧ p ≤ 24) (h2 : 1 ≤ q ∧ q ≤ 24) (h3 : 1 ≤ r ∧ r ≤ 24) : 1 ≤ pick3 k p q r ∧ pick3 k p q r ≤ 24 := by unfold pick3; (repeat' split) <;> omega


theorem idx3 {k p q r : Int} (h : k = 0 ∨ k = 1 ∨ k = 2) : ∀ w, (Instr.index 60 (Value.agg #[Value.int .i64 p, Value.int .i64 q, Value.int .i64 r]) (.int .i64 k)).run Try.prog w = .ok (.int .i64 (pick3 k p q r)) w := by
  intro w
  rcases h with rfl | rfl | rfl <;> rfl

set_option maxHeartbeats 2000000 in
theorem StepAllowed_any (f x y z u c p q r : Int) (w : World) : Calls Try.prog 16 #[.int .i64 f, (Value.agg #[Value.int .i64 x, Value.int .i64 y, Value.int .i64 z, Value.int .i64 u, Value.int .i64 c]), .int .i64 p, .int .i64 q, .int .i64 r] w fun e w' => e = .returned (.tuple #[.bool (saV f x y z u c p q r), .bool (saB f x y z u c p q r)]) ∧ Below w.heap.size w w' := by
  cases h1 : inB f 0 7 with
  | false =>
    have hf := Lib.hid (sa_no (show saB f x y z u c p q r = false by simp [saB, h1]))
    go_enter Try.func16, Try.ntmps16
    go_wp2_with fail
    refine (isFacing_any _ _).mono ?_
    rintro e w' ⟨rfl, rfl⟩
    go_wp2_with fail
    go_ret2
    exact ⟨by rw [hf.out.1, hf.out.2]; rfl, (Below.refl _ _).alloc (Nat.le_refl _) _⟩
  | true =>
    cases h2 : mvB x y z u c with
    | false =>
      have hf := Lib.hid (sa_no (show saB f x y z u c p q r = false by simp [saB, h1, h2]))
      go_enter Try.func16, Try.ntmps16
      go_wp2_with fail
      refine (isFacing_any _ _).mono ?_
      rintro e w' ⟨rfl, rfl⟩
      go_wp2_with fail
      refine (IsMove_any _ _ _ _ _ _).mono ?_
      rintro e w1 ⟨rfl, hb1⟩
      have k1 := (Blk.new w 27 #[.int .i64 x, .int .i64 y, .int .i64 z, .int .i64 u, .int .i64 c]).on hb1
      obtain ⟨c0, c1, c2, c3, c4⟩ := k1.c5
      replace hb1 := Lib.hid (below_box hb1)
      go_wp2_with fail
      go_ret2
      exact ⟨by rw [hf.out.1, hf.out.2]; rfl, hb1.out⟩
    | true =>
      cases h3 : (inB p 1 24 && inB q 1 24 && inB r 1 24) with
      | false =>
        have hf := Lib.hid (sa_no (show saB f x y z u c p q r = false by simp only [saB, h1, h2, Bool.true_and]; exact h3))
        go_enter Try.func16, Try.ntmps16
        go_wp2_with fail
        refine (isFacing_any _ _).mono ?_
        rintro e w' ⟨rfl, rfl⟩
        go_wp2_with fail
        refine (IsMove_any _ _ _ _ _ _).mono ?_
        rintro e w1 ⟨rfl, hb1⟩
        have k1 := (Blk.new w 27 #[.int .i64 x, .int .i64 y, .int .i64 z, .int .i64 u, .int .i64 c]).on hb1
        obtain ⟨c0, c1, c2, c3, c4⟩ := k1.c5
        replace hb1 := Lib.hid (below_box hb1)
        cases h4 : inB p 1 24 with
        | false =>
          go_wp2_with (go_at_call 36; refine (within_any _ _ _ _).mono ?_; rintro e w' ⟨rfl, rfl⟩)
          go_ret2
          exact ⟨by rw [hf.out.1, hf.out.2]; rfl, hb1.out⟩
        | true =>
          cases h5 : inB q 1 24 with
          | false =>
            go_wp2_with (go_at_call 36; refine (within_any _ _ _ _).mono ?_; rintro e w' ⟨rfl, rfl⟩)
            go_ret2
            exact ⟨by rw [hf.out.1, hf.out.2]; rfl, hb1.out⟩
          | true =>
            have h6 : inB r 1 24 = false := by simpa [h4, h5] using h3
            go_wp2_with (go_at_call 36; refine (within_any _ _ _ _).mono ?_; rintro e w' ⟨rfl, rfl⟩)
            go_ret2
            exact ⟨by rw [hf.out.1, hf.out.2]; rfl, hb1.out⟩
      | true =>
        have hs : saB f x y z u c p q r = true := by simp only [saB, h1, h2, Bool.true_and]; exact h3
        simp only [Bool.and_eq_true] at h3
        obtain ⟨⟨h4, h5⟩, h6⟩ := h3
        have f1 := inB_yes h1
        have p1 := inB_yes h4
        have q1 := inB_yes h5
        have r1 := inB_yes h6
        by_cases hd : x = z ∧ y = u
        · obtain ⟨rfl, rfl⟩ := hd
          have hf := Lib.hid (sa_same hs)
          clear hs
          go_enter Try.func16, Try.ntmps16
          go_wp2_with fail
          refine (isFacing_any _ _).mono ?_
          rintro e w' ⟨rfl, rfl⟩
          go_wp2_with fail
          refine (IsMove_any _ _ _ _ _ _).mono ?_
          rintro e w1 ⟨rfl, hb1⟩
          have k1 := (Blk.new w 27 #[.int .i64 x, .int .i64 y, .int .i64 x, .int .i64 y, .int .i64 c]).on hb1
          obtain ⟨c0, c1, c2, c3, c4⟩ := k1.c5
          replace hb1 := Lib.hid (below_box hb1)
          go_wp2_with (go_at_call 36; refine (within_any _ _ _ _).mono ?_; rintro e w' ⟨rfl, rfl⟩)
          go_ret2
          exact ⟨by rw [hf.out.1, hf.out.2]; rfl, hb1.out⟩
        · obtain ⟨k, hk⟩ : ∃ k, kindL f (dirL (z - x) (u - y)) = k := ⟨_, rfl⟩
          have hkc := kindL_cases f (dirL (z - x) (u - y))
          have hf := Lib.hid (sa_yes hs hd hk)
          have HK := Lib.hid hk
          have H2 := Lib.hid h2
          have hpk := pick3_in (k := k) p1 q1 r1
          have he := eql_spots_no hd
          have hK := fun W => stepKind_any f x y z u c W f1.1 f1.2 h2
          rw [hk] at hK
          have HKc := Lib.hid hK
          have HWc := Lib.hid (fun W => withinStep_any x y z u c (pick3 k p q r) W h2 hpk.1 hpk.2)
          have hix := idx3 (p := p) (q := q) (r := r) (show k = 0 ∨ k = 1 ∨ k = 2 by rw [← hk]; exact hkc)
          clear hs hpk hk hd hK hkc HK H2
          go_enter Try.func16, Try.ntmps16
          go_wp2_with fail
          refine (isFacing_any _ _).mono ?_
          rintro e w' ⟨rfl, rfl⟩
          go_wp2_with fail
          refine (IsMove_any _ _ _ _ _ _).mono ?_
          rintro e w1 ⟨rfl, hb1⟩
          have k1 := (Blk.new w 27 #[.int .i64 x, .int .i64 y, .int .i64 z, .int .i64 u, .int .i64 c]).on hb1
          obtain ⟨c0, c1, c2, c3, c4⟩ := k1.c5
          replace hb1 := Lib.hid (below_box hb1)
          go_wp2_with (go_at_call 36; refine (within_any _ _ _ _).mono ?_; rintro e w' ⟨rfl, rfl⟩)
          clear he
          go_region_held3 (fun W => W.cell? ⟨w.heap.size, 0, none⟩ = some (.int .i64 x) ∧ W.cell? ⟨w.heap.size, 1, none⟩ = some (.int .i64 y) ∧ W.cell? ⟨w.heap.size, 2, none⟩ = some (.int .i64 z) ∧ W.cell? ⟨w.heap.size, 3, none⟩ = some (.int .i64 u) ∧ W.cell? ⟨w.heap.size, 4, none⟩ = some (.int .i64 c) ∧ Below w.heap.size w W)
            (first | exact ⟨c0, c1, c2, c3, c4, hb1.out.drew⟩ | (go_split_ands; exact ⟨cell_on hb2 (by assumption), cell_on hb2 (by assumption), cell_on hb2 (by assumption), cell_on hb2 (by assumption), cell_on hb2 (by assumption), below_on (by assumption) hb2⟩) | go_keep)
            (first | (go_at_call 27; refine (HKc.out _).mono ?_; rintro e w2 ⟨rfl, hb2⟩) | (go_at_call 37; refine (HWc.out _).mono ?_; rintro e w2 ⟨rfl, hb2⟩))
          go_split_ands
          clear c0 c1 c2 c3 c4
          go_wp2
          go_ret2
          exact ⟨by rw [hf.out.1, hf.out.2]; rfl, by assumption⟩
end Go.Proofs.Ytcpbcmebfiilmaa
