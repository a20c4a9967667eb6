/- The contract of the reference's StepAllowed. Without conditions. -/
import Derived.Test.YtcpbcmebfiilmaaStepAllowed
import Derived.Deep.RegionWith
namespace Go.Proofs.Ytcpbcmebfiilmaa
open Go.RowKit

theorem arr3 {kn : Nat} {p q r : Int} (h : kn < 3) : (#[Value.int .i64 p, Value.int .i64 q, Value.int .i64 r] : Array Value)[kn]? = some (.int .i64 (pick3 kn p q r)) := by
  match kn, h with
  | 0, _ => rfl
  | 1, _ => rfl
  | 2, _ => rfl
set_option maxHeartbeats 8000000 in
theorem specStepAllowed_any (f x y z u c p q r : Int) (w : World) : Calls Try.prog 17 #[.int .i64 f, (Value.agg #[Value.int .i64 x, Value.int .i64 y, Value.int .i64 z, Value.int .i64 u, Value.int .i64 c]), .int .i64 p, .int .i64 q, .int .i64 r] w fun e w' => e = .returned (.tuple #[.bool (saV f x y z u c p q r), .bool (saB f x y z u c p q r)]) ∧ Below w.heap.size w w' := by
  cases h1 : inB f 0 7 with
  | false =>
    have hf := Lib.hid (sa_no (show saB f x y z u c p q r = false by simp [saB, h1]))
    go_enter Try.func17, Try.ntmps17
    go_wp2_with fail
    refine (tuGood_any _ _).mono ?_
    rintro e w' ⟨rfl, rfl⟩
    go_wp2_with fail
    go_ret2
    exact ⟨by rw [hf.out.1, hf.out.2]; rfl, (Below.refl _ _).alloc (Nat.le_refl _) _⟩
  | true =>
    cases h2 : mvB x y z u c with
    | false =>
      have hf := Lib.hid (sa_no (show saB f x y z u c p q r = false by simp [saB, h1, h2]))
      go_enter Try.func17, Try.ntmps17
      go_wp2_with fail
      refine (tuGood_any _ _).mono ?_
      rintro e w' ⟨rfl, rfl⟩
      go_wp2_with fail
      refine (mvGood_any _ _ _ _ _ _).mono ?_
      rintro e w1 ⟨rfl, hb1⟩
      have k1 := (Blk.new w 27 #[.int .i64 x, .int .i64 y, .int .i64 z, .int .i64 u, .int .i64 c]).on hb1
      obtain ⟨c0, c1, c2, c3, c4⟩ := k1.c5
      replace hb1 := Lib.hid (below_box hb1)
      go_wp2_with fail
      go_ret2
      exact ⟨by rw [hf.out.1, hf.out.2]; rfl, hb1.out⟩
    | true =>
      cases h3 : (inB p 1 24 && inB q 1 24 && inB r 1 24) with
      | false =>
        have hf := Lib.hid (sa_no (show saB f x y z u c p q r = false by simp only [saB, h1, h2, Bool.true_and]; exact h3))
        go_enter Try.func17, Try.ntmps17
        go_wp2_with fail
        refine (tuGood_any _ _).mono ?_
        rintro e w' ⟨rfl, rfl⟩
        go_wp2_with fail
        refine (mvGood_any _ _ _ _ _ _).mono ?_
        rintro e w1 ⟨rfl, hb1⟩
        have k1 := (Blk.new w 27 #[.int .i64 x, .int .i64 y, .int .i64 z, .int .i64 u, .int .i64 c]).on hb1
        obtain ⟨c0, c1, c2, c3, c4⟩ := k1.c5
        replace hb1 := Lib.hid (below_box hb1)
        cases h4 : inB p 1 24 with
        | false =>
          go_wp2_with (go_at_call 38; refine (mvStep_any _ _).mono ?_; rintro e w' ⟨rfl, rfl⟩)
          go_ret2
          exact ⟨by rw [hf.out.1, hf.out.2]; rfl, hb1.out⟩
        | true =>
          cases h5 : inB q 1 24 with
          | false =>
            go_wp2_with (go_at_call 38; refine (mvStep_any _ _).mono ?_; rintro e w' ⟨rfl, rfl⟩)
            go_ret2
            exact ⟨by rw [hf.out.1, hf.out.2]; rfl, hb1.out⟩
          | true =>
            have h6 : inB r 1 24 = false := by simpa [h4, h5] using h3
            go_wp2_with (go_at_call 38; refine (mvStep_any _ _).mono ?_; rintro e w' ⟨rfl, rfl⟩)
            go_ret2
            exact ⟨by rw [hf.out.1, hf.out.2]; rfl, hb1.out⟩
      | true =>
        have hs : saB f x y z u c p q r = true := by simp only [saB, h1, h2, Bool.true_and]; exact h3
        simp only [Bool.and_eq_true] at h3
        obtain ⟨⟨h4, h5⟩, h6⟩ := h3
        have f1 := inB_yes h1
        have p1 := inB_yes h4
        have q1 := inB_yes h5
        have r1 := inB_yes h6
        by_cases hd : x = z ∧ y = u
        · obtain ⟨rfl, rfl⟩ := hd
          have hf := Lib.hid (sa_same hs)
          clear hs
          go_enter Try.func17, Try.ntmps17
          go_wp2_with fail
          refine (tuGood_any _ _).mono ?_
          rintro e w' ⟨rfl, rfl⟩
          go_wp2_with fail
          refine (mvGood_any _ _ _ _ _ _).mono ?_
          rintro e w1 ⟨rfl, hb1⟩
          have k1 := (Blk.new w 27 #[.int .i64 x, .int .i64 y, .int .i64 x, .int .i64 y, .int .i64 c]).on hb1
          obtain ⟨c0, c1, c2, c3, c4⟩ := k1.c5
          replace hb1 := Lib.hid (below_box hb1)
          go_wp2_with (go_at_call 38; refine (mvStep_any _ _).mono ?_; rintro e w' ⟨rfl, rfl⟩)
          go_ret2
          exact ⟨by rw [hf.out.1, hf.out.2]; rfl, hb1.out⟩
        · obtain ⟨kn, hkn, hk⟩ : ∃ kn : Nat, kn < 3 ∧ kindL f (dirL (z - x) (u - y)) = (kn : Int) := by
            rcases kindL_cases f (dirL (z - x) (u - y)) with h | h | h
            · exact ⟨0, by omega, h⟩
            · exact ⟨1, by omega, h⟩
            · exact ⟨2, by omega, h⟩
          have hf := Lib.hid (sa_yes hs hd hk)
          have hpk := pick3_in (k := (kn : Int)) p1 q1 r1
          have he := eql_spots_no hd
          have hm := mvB_yes h2
          have hdl := dirL_in (z - x) (u - y)
          have HDc := Lib.hid (fun W => tuDirection_exact x y z u c W (by omega) (by omega) (by omega) (by omega))
          have hK := fun W => tuKind_any f (dirL (z - x) (u - y)) W f1.1 f1.2 hdl.1 hdl.2
          rw [hk] at hK
          have HKc := Lib.hid hK
          have HWc := Lib.hid (fun W => mvWithin_any x y z u c (pick3 (kn : Int) p q r) W h2 hpk.1 hpk.2)
          have HA := Lib.hid (arr3 (p := p) (q := q) (r := r) hkn)
          have hk1 : (kn : Int) < 3 := by omega
          clear hs hpk hk hd hK hdl hm
          go_enter Try.func17, Try.ntmps17
          go_wp2_with fail
          refine (tuGood_any _ _).mono ?_
          rintro e w' ⟨rfl, rfl⟩
          go_wp2_with fail
          refine (mvGood_any _ _ _ _ _ _).mono ?_
          rintro e w1 ⟨rfl, hb1⟩
          have k1 := (Blk.new w 27 #[.int .i64 x, .int .i64 y, .int .i64 z, .int .i64 u, .int .i64 c]).on hb1
          obtain ⟨c0, c1, c2, c3, c4⟩ := k1.c5
          replace hb1 := Lib.hid (below_box hb1)
          go_wp2_with (go_at_call 38; refine (mvStep_any _ _).mono ?_; rintro e w' ⟨rfl, rfl⟩)
          clear he
          have hz : w.heap.size < w1.heap.size := block_lt_of_cell c0
          have hA := HA.out
          clear h1 h2 h4 h5 h6 f1 p1 q1 r1 k1 HA hkn
          go_region_with (first | (go_at_call 25; refine (HDc.out _).mono ?_; rintro e w2 ⟨rfl, n2, rfl⟩) | (go_at_call 31; refine (HKc.out _).mono ?_; rintro e w2 ⟨rfl, rfl⟩) | (go_at_call 39; refine (HWc.out _).mono ?_; rintro e w2 ⟨rfl, hb2⟩))
          all_goals go_wp2
          all_goals go_ret2
          all_goals
            refine ⟨by rw [hf.out.1, hf.out.2]; rfl, below_on ?_ hb2⟩
            repeat (first | exact hb1.out | refine below_new ?_ _ | refine below_drewN ?_ _ | refine Below.drew ?_)
end Go.Proofs.Ytcpbcmebfiilmaa
