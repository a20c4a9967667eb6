/- Contracts of TurnNeeded, TurnBy, MirrorFacing and CountsToTurn, in the program and in the reference. Without conditions. -/
import Derived.Test.YtcpbcmebfiilmaaDoorTurnFn
import Derived.IntWalk
namespace Go.Proofs.YtcpbcmebfiilmaaDoor
open Go.RowKit

theorem TurnNeeded_any (f g : Int) (w : World) : Calls Tryd.prog 6 #[.int .i64 f, .int .i64 g] w fun e w' => e = .returned (.tuple #[.int .i64 (tnV f g), .bool (tnB f g)]) ∧ w = w' := by
  by_cases h0 : 0 ≤ f
  · by_cases h1 : f ≤ 7
    · by_cases h2 : 0 ≤ g
      · by_cases h3 : g ≤ 7
        · by_cases h4 : (g - f + 8) % 8 ≤ 4
          · have HV := Lib.hid (show tnB f g = true ∧ tnV f g = (g - f + 8) % 8 from ⟨(tn_yes ⟨h0, h1⟩ ⟨h2, h3⟩).1, (tn_yes ⟨h0, h1⟩ ⟨h2, h3⟩).2.trans (tnR_lo h4)⟩)
            go_enter Tryd.func6, Tryd.ntmps6
            go_wp2
            all_goals go_ret2
            all_goals exact ⟨ret_iv (by rw [HV.out.2]; try (first | omega | (congr 1; omega))) (by rw [HV.out.1]), rfl⟩
          · have HV := Lib.hid (show tnB f g = true ∧ tnV f g = (g - f + 8) % 8 - 8 from ⟨(tn_yes ⟨h0, h1⟩ ⟨h2, h3⟩).1, (tn_yes ⟨h0, h1⟩ ⟨h2, h3⟩).2.trans (tnR_hi (by omega))⟩)
            go_enter Tryd.func6, Tryd.ntmps6
            go_wp2
            all_goals go_ret2
            all_goals exact ⟨ret_iv (by rw [HV.out.2]; try (first | omega | (congr 1; omega))) (by rw [HV.out.1]), rfl⟩
        · have HV := Lib.hid (tn_no (f := f) (.inr (fun h => h3 h.2)))
          go_enter Tryd.func6, Tryd.ntmps6
          go_wp2
          all_goals go_ret2
          all_goals exact ⟨ret_iv (by rw [HV.out.2]; try (first | omega | (congr 1; omega))) (by rw [HV.out.1]), rfl⟩
      · have HV := Lib.hid (tn_no (f := f) (.inr (fun h => h2 h.1)))
        go_enter Tryd.func6, Tryd.ntmps6
        go_wp2
        all_goals go_ret2
        all_goals exact ⟨ret_iv (by rw [HV.out.2]; try (first | omega | (congr 1; omega))) (by rw [HV.out.1]), rfl⟩
    · have HV := Lib.hid (tn_no (g := g) (.inl (fun h => h1 h.2)))
      go_enter Tryd.func6, Tryd.ntmps6
      go_wp2
      all_goals go_ret2
      all_goals exact ⟨ret_iv (by rw [HV.out.2]; try (first | omega | (congr 1; omega))) (by rw [HV.out.1]), rfl⟩
  · have HV := Lib.hid (tn_no (g := g) (.inl (fun h => h0 h.1)))
    go_enter Tryd.func6, Tryd.ntmps6
    go_wp2
    all_goals go_ret2
    all_goals exact ⟨ret_iv (by rw [HV.out.2]; try (first | omega | (congr 1; omega))) (by rw [HV.out.1]), rfl⟩
theorem specTurnNeeded_any (f g : Int) (w : World) : Calls Tryd.prog 7 #[.int .i64 f, .int .i64 g] w fun e w' => e = .returned (.tuple #[.int .i64 (tnV f g), .bool (tnB f g)]) ∧ w = w' := by
  by_cases h0 : 0 ≤ f
  · by_cases h1 : f ≤ 7
    · by_cases h2 : 0 ≤ g
      · by_cases h3 : g ≤ 7
        · by_cases h4 : (g - f + 8) % 8 ≤ 4
          · have HV := Lib.hid (show tnB f g = true ∧ tnV f g = (g - f + 8) % 8 from ⟨(tn_yes ⟨h0, h1⟩ ⟨h2, h3⟩).1, (tn_yes ⟨h0, h1⟩ ⟨h2, h3⟩).2.trans (tnR_lo h4)⟩)
            go_enter Tryd.func7, Tryd.ntmps7
            go_wp2
            all_goals go_ret2
            all_goals exact ⟨ret_iv (by rw [HV.out.2]; try (first | omega | (congr 1; omega))) (by rw [HV.out.1]), rfl⟩
          · have HV := Lib.hid (show tnB f g = true ∧ tnV f g = (g - f + 8) % 8 - 8 from ⟨(tn_yes ⟨h0, h1⟩ ⟨h2, h3⟩).1, (tn_yes ⟨h0, h1⟩ ⟨h2, h3⟩).2.trans (tnR_hi (by omega))⟩)
            go_enter Tryd.func7, Tryd.ntmps7
            go_wp2
            all_goals go_ret2
            all_goals exact ⟨ret_iv (by rw [HV.out.2]; try (first | omega | (congr 1; omega))) (by rw [HV.out.1]), rfl⟩
        · have HV := Lib.hid (tn_no (f := f) (.inr (fun h => h3 h.2)))
          go_enter Tryd.func7, Tryd.ntmps7
          go_wp2
          all_goals go_ret2
          all_goals exact ⟨ret_iv (by rw [HV.out.2]; try (first | omega | (congr 1; omega))) (by rw [HV.out.1]), rfl⟩
      · have HV := Lib.hid (tn_no (f := f) (.inr (fun h => h2 h.1)))
        go_enter Tryd.func7, Tryd.ntmps7
        go_wp2
        all_goals go_ret2
        all_goals exact ⟨ret_iv (by rw [HV.out.2]; try (first | omega | (congr 1; omega))) (by rw [HV.out.1]), rfl⟩
    · have HV := Lib.hid (tn_no (g := g) (.inl (fun h => h1 h.2)))
      go_enter Tryd.func7, Tryd.ntmps7
      go_wp2
      all_goals go_ret2
      all_goals exact ⟨ret_iv (by rw [HV.out.2]; try (first | omega | (congr 1; omega))) (by rw [HV.out.1]), rfl⟩
  · have HV := Lib.hid (tn_no (g := g) (.inl (fun h => h0 h.1)))
    go_enter Tryd.func7, Tryd.ntmps7
    go_wp2
    all_goals go_ret2
    all_goals exact ⟨ret_iv (by rw [HV.out.2]; try (first | omega | (congr 1; omega))) (by rw [HV.out.1]), rfl⟩
theorem TurnBy_any (f t : Int) (w : World) : Calls Tryd.prog 8 #[.int .i64 f, .int .i64 t] w fun e w' => e = .returned (.tuple #[.int .i64 (tbV f t), .bool (tbB f t)]) ∧ w = w' := by
  by_cases h0 : 0 ≤ f
  · by_cases h1 : f ≤ 7
    · by_cases h2 : -8 ≤ t
      · by_cases h3 : t ≤ 8
        · have HV := Lib.hid (tb_yes ⟨h0, h1⟩ ⟨h2, h3⟩)
          go_enter Tryd.func8, Tryd.ntmps8
          go_wp2
          all_goals go_ret2
          all_goals exact ⟨ret_iv (by rw [HV.out.2]; try (first | omega | (congr 1; omega))) (by rw [HV.out.1]), rfl⟩
        · have HV := Lib.hid (tb_no (f := f) (.inr (fun h => h3 h.2)))
          go_enter Tryd.func8, Tryd.ntmps8
          go_wp2
          all_goals go_ret2
          all_goals exact ⟨ret_iv (by rw [HV.out.2]; try (first | omega | (congr 1; omega))) (by rw [HV.out.1]), rfl⟩
      · have HV := Lib.hid (tb_no (f := f) (.inr (fun h => h2 h.1)))
        go_enter Tryd.func8, Tryd.ntmps8
        go_wp2
        all_goals go_ret2
        all_goals exact ⟨ret_iv (by rw [HV.out.2]; try (first | omega | (congr 1; omega))) (by rw [HV.out.1]), rfl⟩
    · have HV := Lib.hid (tb_no (t := t) (.inl (fun h => h1 h.2)))
      go_enter Tryd.func8, Tryd.ntmps8
      go_wp2
      all_goals go_ret2
      all_goals exact ⟨ret_iv (by rw [HV.out.2]; try (first | omega | (congr 1; omega))) (by rw [HV.out.1]), rfl⟩
  · have HV := Lib.hid (tb_no (t := t) (.inl (fun h => h0 h.1)))
    go_enter Tryd.func8, Tryd.ntmps8
    go_wp2
    all_goals go_ret2
    all_goals exact ⟨ret_iv (by rw [HV.out.2]; try (first | omega | (congr 1; omega))) (by rw [HV.out.1]), rfl⟩
theorem specTurnBy_any (f t : Int) (w : World) : Calls Tryd.prog 20 #[.int .i64 f, .int .i64 t] w fun e w' => e = .returned (.tuple #[.int .i64 (tbV f t), .bool (tbB f t)]) ∧ w = w' := by
  by_cases h0 : 0 ≤ f
  · by_cases h1 : f ≤ 7
    · by_cases h2 : -8 ≤ t
      · by_cases h3 : t ≤ 8
        · have HV := Lib.hid (tb_yes ⟨h0, h1⟩ ⟨h2, h3⟩)
          go_enter Tryd.func20, Tryd.ntmps20
          go_wp2
          all_goals go_ret2
          all_goals exact ⟨ret_iv (by rw [HV.out.2]; try (first | omega | (congr 1; omega))) (by rw [HV.out.1]), rfl⟩
        · have HV := Lib.hid (tb_no (f := f) (.inr (fun h => h3 h.2)))
          go_enter Tryd.func20, Tryd.ntmps20
          go_wp2
          all_goals go_ret2
          all_goals exact ⟨ret_iv (by rw [HV.out.2]; try (first | omega | (congr 1; omega))) (by rw [HV.out.1]), rfl⟩
      · have HV := Lib.hid (tb_no (f := f) (.inr (fun h => h2 h.1)))
        go_enter Tryd.func20, Tryd.ntmps20
        go_wp2
        all_goals go_ret2
        all_goals exact ⟨ret_iv (by rw [HV.out.2]; try (first | omega | (congr 1; omega))) (by rw [HV.out.1]), rfl⟩
    · have HV := Lib.hid (tb_no (t := t) (.inl (fun h => h1 h.2)))
      go_enter Tryd.func20, Tryd.ntmps20
      go_wp2
      all_goals go_ret2
      all_goals exact ⟨ret_iv (by rw [HV.out.2]; try (first | omega | (congr 1; omega))) (by rw [HV.out.1]), rfl⟩
  · have HV := Lib.hid (tb_no (t := t) (.inl (fun h => h0 h.1)))
    go_enter Tryd.func20, Tryd.ntmps20
    go_wp2
    all_goals go_ret2
    all_goals exact ⟨ret_iv (by rw [HV.out.2]; try (first | omega | (congr 1; omega))) (by rw [HV.out.1]), rfl⟩
theorem MirrorFacing_any (f : Int) (w : World) : Calls Tryd.prog 11 #[.int .i64 f] w fun e w' => e = .returned (.tuple #[.int .i64 (mfV f), .bool (inB f 0 7)]) ∧ w = w' := by
  by_cases h0 : 0 ≤ f
  · by_cases h1 : f ≤ 7
    · have HV := Lib.hid (mf_yes ⟨h0, h1⟩)
      go_enter Tryd.func11, Tryd.ntmps11
      go_wp2
      all_goals go_ret2
      all_goals exact ⟨ret_iv (by rw [HV.out.2]; try (first | omega | (congr 1; omega))) (by rw [HV.out.1]), rfl⟩
    · have HV := Lib.hid (mf_no (f := f) (fun h => h1 h.2))
      go_enter Tryd.func11, Tryd.ntmps11
      go_wp2
      all_goals go_ret2
      all_goals exact ⟨ret_iv (by rw [HV.out.2]; try (first | omega | (congr 1; omega))) (by rw [HV.out.1]), rfl⟩
  · have HV := Lib.hid (mf_no (f := f) (fun h => h0 h.1))
    go_enter Tryd.func11, Tryd.ntmps11
    go_wp2
    all_goals go_ret2
    all_goals exact ⟨ret_iv (by rw [HV.out.2]; try (first | omega | (congr 1; omega))) (by rw [HV.out.1]), rfl⟩
theorem specMirrorFacing_any (f : Int) (w : World) : Calls Tryd.prog 26 #[.int .i64 f] w fun e w' => e = .returned (.tuple #[.int .i64 (mfV f), .bool (inB f 0 7)]) ∧ w = w' := by
  by_cases h0 : 0 ≤ f
  · by_cases h1 : f ≤ 7
    · have HV := Lib.hid (mf_yes ⟨h0, h1⟩)
      go_enter Tryd.func26, Tryd.ntmps26
      go_wp2
      all_goals go_ret2
      all_goals exact ⟨ret_iv (by rw [HV.out.2]; try (first | omega | (congr 1; omega))) (by rw [HV.out.1]), rfl⟩
    · have HV := Lib.hid (mf_no (f := f) (fun h => h1 h.2))
      go_enter Tryd.func26, Tryd.ntmps26
      go_wp2
      all_goals go_ret2
      all_goals exact ⟨ret_iv (by rw [HV.out.2]; try (first | omega | (congr 1; omega))) (by rw [HV.out.1]), rfl⟩
  · have HV := Lib.hid (mf_no (f := f) (fun h => h0 h.1))
    go_enter Tryd.func26, Tryd.ntmps26
    go_wp2
    all_goals go_ret2
    all_goals exact ⟨ret_iv (by rw [HV.out.2]; try (first | omega | (congr 1; omega))) (by rw [HV.out.1]), rfl⟩

set_option maxHeartbeats 1000000 in
theorem CountsToTurn_any (f g d : Int) (w : World) : Calls Tryd.prog 13 #[.int .i64 f, .int .i64 g, .int .i64 d] w fun e w' => e = .returned (.tuple #[.int .i64 (ctV f g d), .bool (ctB f g d)]) ∧ w = w' := by
  by_cases h0 : 0 ≤ f
  · by_cases h1 : f ≤ 7
    · by_cases h2 : 0 ≤ g
      · by_cases h3 : g ≤ 7
        · have hy := (tn_yes ⟨h0, h1⟩ ⟨h2, h3⟩).1
          by_cases h5 : 1 ≤ d
          · by_cases h6 : d ≤ 8
            · by_cases h4 : (g - f + 8) % 8 ≤ 4
              · have HV := Lib.hid (show ctB f g d = true ∧ ctV f g d = ((g - f + 8) % 8 + d - 1) / d from ⟨(ct_yes hy ⟨h5, h6⟩).1, by rw [(ct_yes hy ⟨h5, h6⟩).2, tnR_lo h4, if_neg (by omega)]⟩)
                clear hy
                go_enter Tryd.func13, Tryd.ntmps13
                go_wp2
                all_goals go_ret2
                all_goals exact ⟨ret_iv (by rw [HV.out.2]; try (first | omega | (congr 1; omega))) (by rw [HV.out.1]), rfl⟩
              · have HV := Lib.hid (show ctB f g d = true ∧ ctV f g d = (-((g - f + 8) % 8 - 8) + d - 1) / d from ⟨(ct_yes hy ⟨h5, h6⟩).1, by rw [(ct_yes hy ⟨h5, h6⟩).2, tnR_hi (by omega), if_pos (by omega)]⟩)
                clear hy
                go_enter Tryd.func13, Tryd.ntmps13
                go_wp2
                all_goals go_ret2
                all_goals exact ⟨ret_iv (by rw [HV.out.2]; try (first | omega | (congr 1; omega))) (by rw [HV.out.1]), rfl⟩
            · have HV := Lib.hid (ct_no (f := f) (g := g) (.inr (fun h => h6 h.2)))
              clear hy
              go_enter Tryd.func13, Tryd.ntmps13
              go_wp2
              all_goals go_ret2
              all_goals exact ⟨ret_iv (by rw [HV.out.2]; try (first | omega | (congr 1; omega))) (by rw [HV.out.1]), rfl⟩
          · have HV := Lib.hid (ct_no (f := f) (g := g) (.inr (fun h => h5 h.1)))
            clear hy
            go_enter Tryd.func13, Tryd.ntmps13
            go_wp2
            all_goals go_ret2
            all_goals exact ⟨ret_iv (by rw [HV.out.2]; try (first | omega | (congr 1; omega))) (by rw [HV.out.1]), rfl⟩
        · have HV := Lib.hid (ct_no (d := d) (.inl (tn_no (f := f) (.inr (fun h => h3 h.2))).1))
          go_enter Tryd.func13, Tryd.ntmps13
          go_wp2
          all_goals go_ret2
          all_goals exact ⟨ret_iv (by rw [HV.out.2]; try (first | omega | (congr 1; omega))) (by rw [HV.out.1]), rfl⟩
      · have HV := Lib.hid (ct_no (d := d) (.inl (tn_no (f := f) (.inr (fun h => h2 h.1))).1))
        go_enter Tryd.func13, Tryd.ntmps13
        go_wp2
        all_goals go_ret2
        all_goals exact ⟨ret_iv (by rw [HV.out.2]; try (first | omega | (congr 1; omega))) (by rw [HV.out.1]), rfl⟩
    · have HV := Lib.hid (ct_no (d := d) (.inl (tn_no (g := g) (.inl (fun h => h1 h.2))).1))
      go_enter Tryd.func13, Tryd.ntmps13
      go_wp2
      all_goals go_ret2
      all_goals exact ⟨ret_iv (by rw [HV.out.2]; try (first | omega | (congr 1; omega))) (by rw [HV.out.1]), rfl⟩
  · have HV := Lib.hid (ct_no (d := d) (.inl (tn_no (g := g) (.inl (fun h => h0 h.1))).1))
    go_enter Tryd.func13, Tryd.ntmps13
    go_wp2
    all_goals go_ret2
    all_goals exact ⟨ret_iv (by rw [HV.out.2]; try (first | omega | (congr 1; omega))) (by rw [HV.out.1]), rfl⟩
set_option maxHeartbeats 1000000 in
theorem specCountsToTurn_any (f g d : Int) (w : World) : Calls Tryd.prog 14 #[.int .i64 f, .int .i64 g, .int .i64 d] w fun e w' => e = .returned (.tuple #[.int .i64 (ctV f g d), .bool (ctB f g d)]) ∧ w = w' := by
  by_cases h0 : 0 ≤ f
  · by_cases h1 : f ≤ 7
    · by_cases h2 : 0 ≤ g
      · by_cases h3 : g ≤ 7
        · have hy := (tn_yes ⟨h0, h1⟩ ⟨h2, h3⟩).1
          by_cases h5 : 1 ≤ d
          · by_cases h6 : d ≤ 8
            · by_cases h4 : (g - f + 8) % 8 ≤ 4
              · have HV := Lib.hid (show ctB f g d = true ∧ ctV f g d = ((g - f + 8) % 8 + d - 1) / d from ⟨(ct_yes hy ⟨h5, h6⟩).1, by rw [(ct_yes hy ⟨h5, h6⟩).2, tnR_lo h4, if_neg (by omega)]⟩)
                clear hy
                go_enter Tryd.func14, Tryd.ntmps14
                go_wp2
                all_goals go_ret2
                all_goals exact ⟨ret_iv (by rw [HV.out.2]; try (first | omega | (congr 1; omega))) (by rw [HV.out.1]), rfl⟩
              · have HV := Lib.hid (show ctB f g d = true ∧ ctV f g d = (-((g - f + 8) % 8 - 8) + d - 1) / d from ⟨(ct_yes hy ⟨h5, h6⟩).1, by rw [(ct_yes hy ⟨h5, h6⟩).2, tnR_hi (by omega), if_pos (by omega)]⟩)
                clear hy
                go_enter Tryd.func14, Tryd.ntmps14
                go_wp2
                all_goals go_ret2
                all_goals exact ⟨ret_iv (by rw [HV.out.2]; try (first | omega | (congr 1; omega))) (by rw [HV.out.1]), rfl⟩
            · have HV := Lib.hid (ct_no (f := f) (g := g) (.inr (fun h => h6 h.2)))
              clear hy
              go_enter Tryd.func14, Tryd.ntmps14
              go_wp2
              all_goals go_ret2
              all_goals exact ⟨ret_iv (by rw [HV.out.2]; try (first | omega | (congr 1; omega))) (by rw [HV.out.1]), rfl⟩
          · have HV := Lib.hid (ct_no (f := f) (g := g) (.inr (fun h => h5 h.1)))
            clear hy
            go_enter Tryd.func14, Tryd.ntmps14
            go_wp2
            all_goals go_ret2
            all_goals exact ⟨ret_iv (by rw [HV.out.2]; try (first | omega | (congr 1; omega))) (by rw [HV.out.1]), rfl⟩
        · have HV := Lib.hid (ct_no (d := d) (.inl (tn_no (f := f) (.inr (fun h => h3 h.2))).1))
          go_enter Tryd.func14, Tryd.ntmps14
          go_wp2
          all_goals go_ret2
          all_goals exact ⟨ret_iv (by rw [HV.out.2]; try (first | omega | (congr 1; omega))) (by rw [HV.out.1]), rfl⟩
      · have HV := Lib.hid (ct_no (d := d) (.inl (tn_no (f := f) (.inr (fun h => h2 h.1))).1))
        go_enter Tryd.func14, Tryd.ntmps14
        go_wp2
        all_goals go_ret2
        all_goals exact ⟨ret_iv (by rw [HV.out.2]; try (first | omega | (congr 1; omega))) (by rw [HV.out.1]), rfl⟩
    · have HV := Lib.hid (ct_no (d := d) (.inl (tn_no (g := g) (.inl (fun h => h1 h.2))).1))
      go_enter Tryd.func14, Tryd.ntmps14
      go_wp2
      all_goals go_ret2
      all_goals exact ⟨ret_iv (by rw [HV.out.2]; try (first | omega | (congr 1; omega))) (by rw [HV.out.1]), rfl⟩
  · have HV := Lib.hid (ct_no (d := d) (.inl (tn_no (g := g) (.inl (fun h => h0 h.1))).1))
    go_enter Tryd.func14, Tryd.ntmps14
    go_wp2
    all_goals go_ret2
    all_goals exact ⟨ret_iv (by rw [HV.out.2]; try (first | omega | (congr 1; omega))) (by rw [HV.out.1]), rfl⟩
end Go.Proofs.YtcpbcmebfiilmaaDoor
