/- The contracts of the two FewestCarriers. Without conditions. -/
import Derived.Test.YtamehlafmfmgmaaEffFn
import Derived.Test.YtamehlafmfmgmaaAreSpec
namespace Go.Proofs.Ytamehlafmfmgmaa
open Go.RowKit

set_option maxHeartbeats 2000000 in
theorem FewestCarriers_any (a b c d : Int) (ha : -100000 ≤ a ∧ a ≤ 100000 ∧ -100000 ≤ b ∧ b ≤ 100000 ∧ -100000 ≤ c ∧ c ≤ 100000 ∧ -100000 ≤ d ∧ d ≤ 100000) (w : World) :
    Calls Try.prog 23 #[.int .i64 a, .int .i64 b, .int .i64 c, .int .i64 d] w fun e w' => e = .returned (.tuple #[.int .i64 (fcV a b c d), .bool (fcB a b c d)]) ∧ w = w' := by
  by_cases h0 : 0 ≤ a
  · by_cases h1 : a ≤ 999
    · by_cases h2 : a < b
      · by_cases h3 : b ≤ 1000
        · by_cases h4 : 1 ≤ c
          · by_cases h5 : c ≤ 999
            · by_cases h6 : 1 ≤ d
              · by_cases h7 : d ≤ 999
                · have hf := Lib.hid (fc_yes h0 h1 h2 h3 h4 h5 h6 h7)
                  have p1 : 0 ≤ (d + c - 1) / c := Int.ediv_nonneg (by omega) (by omega)
                  have p2 : (d + c - 1) / c ≤ d + c - 1 := Int.ediv_le_self _ (by omega)
                  have p3 : (d + c - 1) / c ≤ 2000 := by omega
                  have q1 : 0 ≤ (b - a + c - 1) / c := Int.ediv_nonneg (by omega) (by omega)
                  have q2 : (b - a + c - 1) / c ≤ b - a + c - 1 := Int.ediv_le_self _ (by omega)
                  have q3 : (b - a + c - 1) / c ≤ 2000 := by omega
                  clear p2 q2
                  rcases Int.lt_or_le ((b - a + c - 1) / c) ((d + c - 1) / c + 1) with hlt | hge
                  · have hv := Lib.hid (fcW_lo (a := a) (b := b) (d := d) hlt)
                    go_enter Try.func23, Try.ntmps23
                    go_wp2
                    all_goals go_ret2
                    all_goals first | omega | skip
                    all_goals refine ⟨?_, rfl⟩
                    all_goals rw [hf.out.1, hf.out.2]
                    all_goals first | (show Ending.returned (.tuple #[.int .i64 (min ((b - a + c - 1) / c) ((d + c - 1) / c + 1)), .bool true]) = _; rw [fcW]; done) | (rw [hv.out]; rfl) | (rw [hv.out, Int.add_comm ((d + c - 1) / c) 1]; rfl)
                  · have hv := Lib.hid (fcW_hi (a := a) (b := b) (d := d) hge)
                    go_enter Try.func23, Try.ntmps23
                    go_wp2
                    all_goals go_ret2
                    all_goals first | omega | skip
                    all_goals refine ⟨?_, rfl⟩
                    all_goals rw [hf.out.1, hf.out.2]
                    all_goals first | (show Ending.returned (.tuple #[.int .i64 (min ((b - a + c - 1) / c) ((d + c - 1) / c + 1)), .bool true]) = _; rw [fcW]; done) | (rw [hv.out]; rfl) | (rw [hv.out, Int.add_comm ((d + c - 1) / c) 1]; rfl)
                · have hf := Lib.hid (fc_no (a := a) (b := b) (c := c) (d := d) (by omega))
                  go_enter Try.func23, Try.ntmps23
                  go_wp2
                  all_goals go_ret2
                  all_goals first | omega | skip
                  all_goals refine ⟨?_, rfl⟩
                  all_goals rw [hf.out.1, hf.out.2]
                  all_goals rfl
              · have hf := Lib.hid (fc_no (a := a) (b := b) (c := c) (d := d) (by omega))
                go_enter Try.func23, Try.ntmps23
                go_wp2
                all_goals go_ret2
                all_goals first | omega | skip
                all_goals refine ⟨?_, rfl⟩
                all_goals rw [hf.out.1, hf.out.2]
                all_goals rfl
            · have hf := Lib.hid (fc_no (a := a) (b := b) (c := c) (d := d) (by omega))
              go_enter Try.func23, Try.ntmps23
              go_wp2
              all_goals go_ret2
              all_goals first | omega | skip
              all_goals refine ⟨?_, rfl⟩
              all_goals rw [hf.out.1, hf.out.2]
              all_goals rfl
          · have hf := Lib.hid (fc_no (a := a) (b := b) (c := c) (d := d) (by omega))
            go_enter Try.func23, Try.ntmps23
            go_wp2
            all_goals go_ret2
            all_goals first | omega | skip
            all_goals refine ⟨?_, rfl⟩
            all_goals rw [hf.out.1, hf.out.2]
            all_goals rfl
        · have hf := Lib.hid (fc_no (a := a) (b := b) (c := c) (d := d) (by omega))
          go_enter Try.func23, Try.ntmps23
          go_wp2
          all_goals go_ret2
          all_goals first | omega | skip
          all_goals refine ⟨?_, rfl⟩
          all_goals rw [hf.out.1, hf.out.2]
          all_goals rfl
      · have hf := Lib.hid (fc_no (a := a) (b := b) (c := c) (d := d) (by omega))
        go_enter Try.func23, Try.ntmps23
        go_wp2
        all_goals go_ret2
        all_goals first | omega | skip
        all_goals refine ⟨?_, rfl⟩
        all_goals rw [hf.out.1, hf.out.2]
        all_goals rfl
    · have hf := Lib.hid (fc_no (a := a) (b := b) (c := c) (d := d) (by omega))
      go_enter Try.func23, Try.ntmps23
      go_wp2
      all_goals go_ret2
      all_goals first | omega | skip
      all_goals refine ⟨?_, rfl⟩
      all_goals rw [hf.out.1, hf.out.2]
      all_goals rfl
  · have hf := Lib.hid (fc_no (a := a) (b := b) (c := c) (d := d) (by omega))
    go_enter Try.func23, Try.ntmps23
    go_wp2
    all_goals go_ret2
    all_goals first | omega | skip
    all_goals refine ⟨?_, rfl⟩
    all_goals rw [hf.out.1, hf.out.2]
    all_goals rfl
set_option maxHeartbeats 2000000 in
theorem specFewestCarriers_any (a b c d : Int) (ha : -100000 ≤ a ∧ a ≤ 100000 ∧ -100000 ≤ b ∧ b ≤ 100000 ∧ -100000 ≤ c ∧ c ≤ 100000 ∧ -100000 ≤ d ∧ d ≤ 100000) (w : World) :
    Calls Try.prog 24 #[.int .i64 a, .int .i64 b, .int .i64 c, .int .i64 d] w fun e w' => e = .returned (.tuple #[.int .i64 (fcV a b c d), .bool (fcB a b c d)]) ∧ w = w' := by
  by_cases h0 : 0 ≤ a
  · by_cases h1 : a ≤ 999
    · by_cases h2 : a < b
      · by_cases h3 : b ≤ 1000
        · by_cases h4 : 1 ≤ c
          · by_cases h5 : c ≤ 999
            · by_cases h6 : 1 ≤ d
              · by_cases h7 : d ≤ 999
                · have hf := Lib.hid (fc_yes h0 h1 h2 h3 h4 h5 h6 h7)
                  have p1 : 0 ≤ (d + c - 1) / c := Int.ediv_nonneg (by omega) (by omega)
                  have p2 : (d + c - 1) / c ≤ d + c - 1 := Int.ediv_le_self _ (by omega)
                  have p3 : (d + c - 1) / c ≤ 2000 := by omega
                  have q1 : 0 ≤ (b - a + c - 1) / c := Int.ediv_nonneg (by omega) (by omega)
                  have q2 : (b - a + c - 1) / c ≤ b - a + c - 1 := Int.ediv_le_self _ (by omega)
                  have q3 : (b - a + c - 1) / c ≤ 2000 := by omega
                  clear p2 q2
                  rcases Int.lt_or_le ((b - a + c - 1) / c) ((d + c - 1) / c + 1) with hlt | hge
                  · have hv := Lib.hid (fcW_lo (a := a) (b := b) (d := d) hlt)
                    go_enter Try.func24, Try.ntmps24
                    go_wp2
                    all_goals go_ret2
                    all_goals first | omega | skip
                    all_goals refine ⟨?_, rfl⟩
                    all_goals rw [hf.out.1, hf.out.2]
                    all_goals first | (show Ending.returned (.tuple #[.int .i64 (min ((b - a + c - 1) / c) ((d + c - 1) / c + 1)), .bool true]) = _; rw [fcW]; done) | (rw [hv.out]; rfl) | (rw [hv.out, Int.add_comm ((d + c - 1) / c) 1]; rfl)
                  · have hv := Lib.hid (fcW_hi (a := a) (b := b) (d := d) hge)
                    go_enter Try.func24, Try.ntmps24
                    go_wp2
                    all_goals go_ret2
                    all_goals first | omega | skip
                    all_goals refine ⟨?_, rfl⟩
                    all_goals rw [hf.out.1, hf.out.2]
                    all_goals first | (show Ending.returned (.tuple #[.int .i64 (min ((b - a + c - 1) / c) ((d + c - 1) / c + 1)), .bool true]) = _; rw [fcW]; done) | (rw [hv.out]; rfl) | (rw [hv.out, Int.add_comm ((d + c - 1) / c) 1]; rfl)
                · have hf := Lib.hid (fc_no (a := a) (b := b) (c := c) (d := d) (by omega))
                  go_enter Try.func24, Try.ntmps24
                  go_wp2
                  all_goals go_ret2
                  all_goals first | omega | skip
                  all_goals refine ⟨?_, rfl⟩
                  all_goals rw [hf.out.1, hf.out.2]
                  all_goals rfl
              · have hf := Lib.hid (fc_no (a := a) (b := b) (c := c) (d := d) (by omega))
                go_enter Try.func24, Try.ntmps24
                go_wp2
                all_goals go_ret2
                all_goals first | omega | skip
                all_goals refine ⟨?_, rfl⟩
                all_goals rw [hf.out.1, hf.out.2]
                all_goals rfl
            · have hf := Lib.hid (fc_no (a := a) (b := b) (c := c) (d := d) (by omega))
              go_enter Try.func24, Try.ntmps24
              go_wp2
              all_goals go_ret2
              all_goals first | omega | skip
              all_goals refine ⟨?_, rfl⟩
              all_goals rw [hf.out.1, hf.out.2]
              all_goals rfl
          · have hf := Lib.hid (fc_no (a := a) (b := b) (c := c) (d := d) (by omega))
            go_enter Try.func24, Try.ntmps24
            go_wp2
            all_goals go_ret2
            all_goals first | omega | skip
            all_goals refine ⟨?_, rfl⟩
            all_goals rw [hf.out.1, hf.out.2]
            all_goals rfl
        · have hf := Lib.hid (fc_no (a := a) (b := b) (c := c) (d := d) (by omega))
          go_enter Try.func24, Try.ntmps24
          go_wp2
          all_goals go_ret2
          all_goals first | omega | skip
          all_goals refine ⟨?_, rfl⟩
          all_goals rw [hf.out.1, hf.out.2]
          all_goals rfl
      · have hf := Lib.hid (fc_no (a := a) (b := b) (c := c) (d := d) (by omega))
        go_enter Try.func24, Try.ntmps24
        go_wp2
        all_goals go_ret2
        all_goals first | omega | skip
        all_goals refine ⟨?_, rfl⟩
        all_goals rw [hf.out.1, hf.out.2]
        all_goals rfl
    · have hf := Lib.hid (fc_no (a := a) (b := b) (c := c) (d := d) (by omega))
      go_enter Try.func24, Try.ntmps24
      go_wp2
      all_goals go_ret2
      all_goals first | omega | skip
      all_goals refine ⟨?_, rfl⟩
      all_goals rw [hf.out.1, hf.out.2]
      all_goals rfl
  · have hf := Lib.hid (fc_no (a := a) (b := b) (c := c) (d := d) (by omega))
    go_enter Try.func24, Try.ntmps24
    go_wp2
    all_goals go_ret2
    all_goals first | omega | skip
    all_goals refine ⟨?_, rfl⟩
    all_goals rw [hf.out.1, hf.out.2]
    all_goals rfl
end Go.Proofs.Ytamehlafmfmgmaa
