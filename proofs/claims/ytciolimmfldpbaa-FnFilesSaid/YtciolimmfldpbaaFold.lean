/- The contract of the program's FoldsBack. Condition: the slice can be read. -/
import Derived.Test.YtciolimmfldpbaaFoldBase
namespace Go.Proofs.Ytciolimmfldpbaa
open Go.RowKit

set_option maxHeartbeats 2000000 in
theorem FoldsBack_any (v : Value) (n B : Nat) (xs : List Int) (w : World) (hv : Rd w B 2 v n xs) (hB : B ≤ w.heap.size) (hn : n ≤ 1099511627776) :
    Calls Try.prog 29 #[v] w fun e w' => e = .returned (.tuple #[.bool (fbV n xs), .bool (wayB n xs)]) ∧ Below w.heap.size w w' := by
  obtain ⟨A, c, rfl⟩ := hv.form
  have Hv := Lib.hid hv
  clear hv
  cases h1 : wayB n xs with
  | false =>
    have hf := Lib.hid (show fbV n xs = false by simp [fbV, h1])
    go_enter Try.func29, Try.ntmps29
    go_wp2_with fail
    refine (IsWay_any _ n B xs _ Hv.out hB hn).mono ?_
    rintro e w1 ⟨rfl, hb1⟩
    go_wp2_with fail
    go_ret2
    exact ⟨by rw [hf.out]; rfl, hb1⟩
  | true =>
    have hf := Lib.hid (show fbV n xs = fbAny n xs by simp [fbV, h1])
    have hw := wayB_yes h1
    have h12 : 2 ≤ n := hw.1.1
    have h13 : n ≤ 12 := hw.1.2
    have HL := Lib.hid hw.2.1
    clear hw
    go_enter Try.func29, Try.ntmps29
    go_wp2_with fail
    refine (IsWay_any _ n B xs _ Hv.out hB hn).mono ?_
    rintro e w1 ⟨rfl, hb1⟩
    go_wp2_with fail
    go_loopw [4] (fun i wr => ∃ a : Nat, a + 1 ≤ n ∧ i = .int .i64 ((a : Int) + 1) ∧ (∀ p q, p < q → q + 1 < n → p < a → foldAt xs p q = false) ∧ Below w.heap.size w wr) (fun i _ => n - (intOf i).toNat)
    case atStart => exact ⟨0, by omega, by simp, fun p q _ _ h => absurd h (by omega), hb1⟩
    case round =>
      obtain ⟨i, hi, rfl, hno, hb⟩ := hrel
      have HO := Lib.hid hno
      have HB := Lib.hid hb
      clear hno hb hb1
      by_cases hlt : i + 1 < n
      · obtain ⟨b, off, rfl, hbB, hc⟩ := Hv.out.spot (show 0 < n by omega)
        have HC := Lib.hid hc
        clear hc
        go_wp2_with fail
        go_loopw [5] (fun s wq => ∃ k : Nat, i + 1 ≤ k ∧ k + 1 ≤ n ∧ s = .int .i64 ((k : Int) + 1) ∧ (∀ q, i < q → q < k → foldAt xs i q = false) ∧ Below w.heap.size w wq) (fun s _ => n - (intOf s).toNat)
        case atStart => exact ⟨i + 1, by omega, by omega, by go_num, fun q h1 h2 => absurd h1 (by omega), HB.out⟩
        case round =>
          obtain ⟨k, hk1, hk2, rfl, hno, hb⟩ := hrel
          have HIn := Lib.hid hno
          clear hno HB
          by_cases hlk : k + 1 < n
          · have hc := HC.out
            have hc0 := hc i (by omega)
            have hc1 := hc (i + 1) (by omega)
            have hc2 := hc k (by omega)
            have hc3 := hc (k + 1) (by omega)
            obtain ⟨x0, ex0⟩ : ∃ x, X xs i = x := ⟨_, rfl⟩
            obtain ⟨y0, ey0⟩ : ∃ x, Y xs i = x := ⟨_, rfl⟩
            obtain ⟨x1, ex1⟩ : ∃ x, X xs (i + 1) = x := ⟨_, rfl⟩
            obtain ⟨y1, ey1⟩ : ∃ x, Y xs (i + 1) = x := ⟨_, rfl⟩
            obtain ⟨x2, ex2⟩ : ∃ x, X xs k = x := ⟨_, rfl⟩
            obtain ⟨y2, ey2⟩ : ∃ x, Y xs k = x := ⟨_, rfl⟩
            obtain ⟨x3, ex3⟩ : ∃ x, X xs (k + 1) = x := ⟨_, rfl⟩
            obtain ⟨y3, ey3⟩ : ∃ x, Y xs (k + 1) = x := ⟨_, rfl⟩
            have s0 := HL.out i (by omega)
            have s1 := HL.out (i + 1) (by omega)
            have s2 := HL.out k (by omega)
            have s3 := HL.out (k + 1) (by omega)
            rw [ex0, ey0] at hc0 s0
            rw [ex1, ey1] at hc1 s1
            rw [ex2, ey2] at hc2 s2
            rw [ex3, ey3] at hc3 s3
            have c0 := (hb.cell (p := ⟨b, off + i * 2, none⟩) (Nat.lt_of_lt_of_le hbB hB)).trans hc0.1
            have c1 := (hb.cell (p := ⟨b, off + i * 2 + 1, none⟩) (Nat.lt_of_lt_of_le hbB hB)).trans hc0.2
            have c2 := (hb.cell (p := ⟨b, off + (i + 1) * 2, none⟩) (Nat.lt_of_lt_of_le hbB hB)).trans hc1.1
            have c3 := (hb.cell (p := ⟨b, off + (i + 1) * 2 + 1, none⟩) (Nat.lt_of_lt_of_le hbB hB)).trans hc1.2
            have c4 := (hb.cell (p := ⟨b, off + k * 2, none⟩) (Nat.lt_of_lt_of_le hbB hB)).trans hc2.1
            have c5 := (hb.cell (p := ⟨b, off + k * 2 + 1, none⟩) (Nat.lt_of_lt_of_le hbB hB)).trans hc2.2
            have c6 := (hb.cell (p := ⟨b, off + (k + 1) * 2, none⟩) (Nat.lt_of_lt_of_le hbB hB)).trans hc3.1
            have c7 := (hb.cell (p := ⟨b, off + (k + 1) * 2 + 1, none⟩) (Nat.lt_of_lt_of_le hbB hB)).trans hc3.2
            have i0 : (0 : Int) ≤ (i : Int) := by omega
            have i1 : (i : Int) < (n : Int) := by omega
            have i2 : (0 : Int) ≤ (i : Int) + 1 := by omega
            have i3 : (i : Int) + 1 < (n : Int) := by omega
            have i4 : ((i : Int) + 1).toNat = i + 1 := by omega
            have i5 := IntWalk.i64_in (i : Int) (by omega)
            have i6 := IntWalk.i64_in ((i : Int) + 1) (by omega)
            have j0 : (0 : Int) ≤ (k : Int) := by omega
            have j1 : (k : Int) < (n : Int) := by omega
            have j2 : (0 : Int) ≤ (k : Int) + 1 := by omega
            have j3 : (k : Int) + 1 < (n : Int) := by omega
            have j4 : ((k : Int) + 1).toNat = k + 1 := by omega
            have j5 := IntWalk.i64_in (k : Int) (by omega)
            have j6 := IntWalk.i64_in ((k : Int) + 1) (by omega)
            have hP := fun W => commonRoom_any x0 y0 x1 y1 x2 y2 x3 y3 W s0 s1 s2 s3
            have hfar := fold_far (xs := xs) (i := i) (k := k)
            have hnext := fold_next xs i
            rw [ex0, ey0, ex1, ey1, ex2, ey2, ex3, ey3] at hfar
            rw [ex0, ey0, ex1, ey1] at hnext
            have hnx : k = i + 1 → foldAt xs i k = decide (0 < roomL x0 y0 x1 y1 x2 y2 x3 y3) := by
              intro h
              subst h
              rw [← ex1, ← ey1] at hnext
              rw [hnext, ← ex2, ← ey2, ← ex3, ← ey3, ex1, ey1]
            obtain ⟨r, er⟩ : ∃ r, roomL x0 y0 x1 y1 x2 y2 x3 y3 = r := ⟨_, rfl⟩
            rw [er] at hP hfar hnx
            have HFar := Lib.hid hfar
            have HNx := Lib.hid hnx
            have HP := Lib.hid hP
            have HB := Lib.hid hb
            clear hP hfar hnext hnx er ex0 ey0 ex1 ey1 ex2 ey2 ex3 ey3 hc hc0 hc1 hc2 hc3 s0 s1 s2 s3 hb
            go_wp2_with fail
            go_region_held3 (fun W => W.cell? ⟨b, off + i * 2, none⟩ = some (.int .i64 x0) ∧ W.cell? ⟨b, off + i * 2 + 1, none⟩ = some (.int .i64 y0) ∧ W.cell? ⟨b, off + (i + 1) * 2, none⟩ = some (.int .i64 x1) ∧ W.cell? ⟨b, off + (i + 1) * 2 + 1, none⟩ = some (.int .i64 y1) ∧ W.cell? ⟨b, off + k * 2, none⟩ = some (.int .i64 x2) ∧ W.cell? ⟨b, off + k * 2 + 1, none⟩ = some (.int .i64 y2) ∧ W.cell? ⟨b, off + (k + 1) * 2, none⟩ = some (.int .i64 x3) ∧ W.cell? ⟨b, off + (k + 1) * 2 + 1, none⟩ = some (.int .i64 y3) ∧ Below w.heap.size w W)
              (first | exact ⟨c0, c1, c2, c3, c4, c5, c6, c7, HB.out.drew⟩ | (go_split_ands; exact ⟨cell_on hb2 (by assumption), cell_on hb2 (by assumption), cell_on hb2 (by assumption), cell_on hb2 (by assumption), cell_on hb2 (by assumption), cell_on hb2 (by assumption), cell_on hb2 (by assumption), cell_on hb2 (by assumption), below_on (by assumption) hb2⟩) | go_keep)
              (first | (go_at_call 63; refine (HP.out _).mono ?_; rintro e w2 ⟨rfl, hb2⟩))
            go_split_ands
            rename_i hb9
            have HB9 := Lib.hid hb9
            clear c0 c1 c2 c3 c4 c5 c6 c7 hb9
            by_cases hr : 0 < r
            · have HT : foldAt xs i k = true := by
                by_cases he : k = i + 1
                · rw [HNx.out he]; simpa using hr
                · rw [HFar.out (by omega)]; simp; omega
              have HF := Lib.hid (fb_yes (show i < k by omega) hlk HT)
              clear HT
              go_wp2_with fail
              go_ret2
              exact ⟨by rw [hf.out, HF.out]; rfl, HB9.out⟩
            · by_cases hz : r = 0
              · by_cases he : i + 1 < k
                · have HT : foldAt xs i k = true := by rw [HFar.out he]; simp; omega
                  have HF := Lib.hid (fb_yes (show i < k by omega) hlk HT)
                  have hz0 : (r == 0) = true := by simp [hz]
                  have he2 : (i : Int) + 1 < (k : Int) := by omega
                  clear HT hz
                  go_wp2_with fail
                  go_ret2
                  exact ⟨by rw [hf.out, HF.out]; rfl, HB9.out⟩
                · have HF : foldAt xs i k = false := by rw [HNx.out (by omega)]; simp; omega
                  replace HF := Lib.hid HF
                  have hz0 : (r == 0) = true := by simp [hz]
                  have he2 : (k : Int) ≤ (i : Int) + 1 := by omega
                  clear hz
                  go_wp2_with fail
                  go_roundw
                  case rel =>
                    refine ⟨_, _, _, ?_, rfl, rfl, rfl⟩
                    refine ⟨k + 1, by omega, by omega, by go_num, fun b h1 h2 => ?_, HB9.out⟩
                    rcases Nat.lt_succ_iff_lt_or_eq.1 h2 with h | rfl
                    · exact HIn.out b h1 h
                    · exact HF.out
                  case measure => simp [intOf]; omega
              · have HF : foldAt xs i k = false := by
                  by_cases he : k = i + 1
                  · rw [HNx.out he]; simp; omega
                  · rw [HFar.out (by omega)]; simp; omega
                replace HF := Lib.hid HF
                have hz0 : (r == 0) = false := by simp [hz]
                clear hz
                go_wp2_with fail
                go_roundw
                case rel =>
                  refine ⟨_, _, _, ?_, rfl, rfl, rfl⟩
                  refine ⟨k + 1, by omega, by omega, by go_num, fun b h1 h2 => ?_, HB9.out⟩
                  rcases Nat.lt_succ_iff_lt_or_eq.1 h2 with h | rfl
                  · exact HIn.out b h1 h
                  · exact HF.out
                case measure => simp [intOf]; omega
          · have HB := Lib.hid hb
            clear hb
            go_wp2_with fail
            go_roundw
            case rel =>
              refine ⟨i + 1, by omega, by go_num, fun p q h1 h2 h3 => ?_, HB.out⟩
              rcases Nat.lt_succ_iff_lt_or_eq.1 h3 with h | rfl
              · exact HO.out p q h1 h2 h
              · exact HIn.out q h1 (by omega)
            case measure => simp [intOf]; omega
      · have HF := Lib.hid (fb_no (n := n) (xs := xs) (fun p q h1 h2 => HO.out p q h1 h2 (by omega)))
        go_wp2_with fail
        go_ret2
        exact ⟨by rw [hf.out, HF.out]; rfl, HB.out⟩

end Go.Proofs.Ytciolimmfldpbaa
