/- Contracts of TurnNeeded, TurnBy, MirrorFacing and CountsToTurn, in the program and in the reference. Without conditions. -/
import Derived.Test.YtcpbcmebfiilmaaTurnFn
import Derived.IntWalk
namespace Go.Proofs.Ytcpbcmebfiilmaa
open Go.RowKit

theorem TurnNeeded_any (f g : Int) (w : World) : Calls Try.prog 13 #[.int .i64 f, .int .i64 g] w fun e w' => e = .returned (.tuple #[.int .i64 (tnV f g), .bool (tnB f g)]) ∧ w = w' := by
  by_cases h0 : 0 ≤ f
  · by_cases h1 : f ≤ 7
    · by_cases h2 : 0 ≤ g
      · by_cases h3 : g ≤ 7
        · by_cases h4 : (g - f + 8) % 8 ≤ 4
          · have HV := Lib.hid (show tnB f g = true ∧ tnV f g = (g - f + 8) % 8 from ⟨(tn_yes ⟨h0, h1⟩ ⟨h2, h3⟩).1, (tn_yes ⟨h0, h1⟩ ⟨h2, h3⟩).2.trans (tnR_lo h4)⟩)
            go_enter Try.func13, Try.ntmps13
            go_wp2
            all_goals go_ret2
            all_goals exact ⟨ret_iv (by rw [HV.out.2]; try (first | omega | (congr 1; omega))) (by rw [HV.out.1]), rfl⟩
          · have HV := Lib.hid (show tnB f g = true ∧ tnV f g = (g - f + 8) % 8 - 8 from ⟨(tn_yes ⟨h0, h1⟩ ⟨h2, h3⟩).1, (tn_yes ⟨h0, h1⟩ ⟨h2, h3⟩).2.trans (tnR_hi (by omega))⟩)
            go_enter Try.func13, Try.ntmps13
            go_wp2
            all_goals go_ret2
            all_goals exact ⟨ret_iv (by rw [HV.out.2]; try (first | omega | (congr 1; omega))) (by rw [HV.out.1]), rfl⟩
        · have HV := Lib.hid (tn_no (f := f) (.inr (fun h => h3 h.2)))
          go_enter Try.func13, Try.ntmps13
          go_wp2
          all_goals go_ret2
          all_goals exact ⟨ret_iv (by rw [HV.out.2]; try (first | omega | (congr 1; omega))) (by rw [HV.out.1]), rfl⟩
      · have HV := Lib.hid (tn_no (f := f) (.inr (fun h => h2 h.1)))
        go_enter Try.func13, Try.ntmps13
        go_wp2
        all_goals go_ret2
        all_goals exact ⟨ret_iv (by rw [HV.out.2]; try (first | omega | (congr 1; omega))) (by rw [HV.out.1]), rfl⟩
    · have HV := Lib.hid (tn_no (g := g) (.inl (fun h => h1 h.2)))
      go_enter Try.func13, Try.ntmps13
      go_wp2
      all_goals go_ret2
      all_goals exact ⟨ret_iv (by rw [HV.out.2]; try (first | omega | (congr 1; omega))) (by rw [HV.out.1]), rfl⟩
  · have HV := Lib.hid (tn_no (g := g) (.inl (fun h => h0 h.1)))
    go_enter Try.func13, Try.ntmps13
    go_wp2
    all_goals go_ret2
    all_goals exact ⟨ret_iv (by rw [HV.out.2]; try (first | omega | (congr 1; omega))) (by rw [HV.out.1]), rfl⟩
theorem specTurnNeeded_any (f g : Int) (w : World) : Calls Try.prog 14 #[.int .i64 f, .int .i64 g] w fun e w' => e = .returned (.tuple #[.int .i64 (tnV f g), .bool (tnB f g)]) ∧ w = w' := by
  by_cases h0 : 0 ≤ f
  · by_cases h1 : f ≤ 7
    · by_cases h2 : 0 ≤ g
      · by_cases h3 : g ≤ 7
        · by_cases h4 : (g - f + 8) % 8 ≤ 4
          · have HV := Lib.hid (show tnB f g = true ∧ tnV f g = (g - f + 8) % 8 from ⟨(tn_yes ⟨h0, h1⟩ ⟨h2, h3⟩).1, (tn_yes ⟨h0, h1⟩ ⟨h2, h3⟩).2.trans (tnR_lo h4)⟩)
            go_enter Try.func14, Try.ntmps14
            go_wp2
            all_goals go_ret2
            all_goals exact ⟨ret_iv (by rw [HV.out.2]; try (first | omega | (congr 1; omega))) (by rw [HV.out.1]), rfl⟩
          · have HV := Lib.hid (show tnB f g = true ∧ tnV f g = (g - f + 8) % 8 - 8 from ⟨(tn_yes ⟨h0, h1⟩ ⟨h2, h3⟩).1, (tn_yes ⟨h0, h1⟩ ⟨h2, h3⟩).2.trans (tnR_hi (by omega))⟩)
            go_enter Try.func14, Try.ntmps14
            go_wp2
            all_goals go_ret2
            all_goals exact ⟨ret_iv (by rw [HV.out.2]; try (first | omega | (congr 1; omega))) (by rw [HV.out.1]), rfl⟩
        · have HV := Lib.hid (tn_no (f := f) (.inr (fun h => h3 h.2)))
          go_enter Try.func14, Try.ntmps14
          go_wp2
          all_goals go_ret2
          all_goals exact ⟨ret_iv (by rw [HV.out.2]; try (first | omega | (congr 1; omega))) (by rw [HV.out.1]), rfl⟩
      · have HV := Lib.hid (tn_no (f := f) (.inr (fun h => h2 h.1)))
        go_enter Try.func14, Try.ntmps14
        go_wp2
        all_goals go_ret2
        all_goals exact ⟨ret_iv (by rw [HV.out.2]; try (first | omega | (congr 1; omega))) (by rw [HV.out.1]), rfl⟩
    · have HV := Lib.hid (tn_no (g := g) (.inl (fun h => h1 h.2)))
      go_enter Try.func14, Try.ntmps14
      go_wp2
      all_goals go_ret2
      all_goals exact ⟨ret_iv (by rw [HV.out.2]; try (first | omega | (congr 1; omega))) (by rw [HV.out.1]), rfl⟩
  · have HV := Lib.hid (tn_no (g := g) (.inl (fun h => h0 h.1)))
    go_enter Try.func14, Try.ntmps14
    go_wp2
    all_goals go_ret2
    all_goals exact ⟨ret_iv (by rw [HV.out.2]; try (first | omega | (congr 1; omega))) (by rw [HV.out.1]), rfl⟩
end Go.Proofs.Ytcpbcmebfiilmaa
