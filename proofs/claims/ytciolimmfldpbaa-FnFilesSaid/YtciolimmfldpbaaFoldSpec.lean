/- The contract of the reference's FoldsBack. Condition: the slice can be read. -/
import Derived.Test.YtciolimmfldpbaaFoldBase
namespace Go.Proofs.Ytciolimmfldpbaa
open Go.RowKit

/-! The reference's test -/
set_option maxRecDepth 100000 in
set_option maxHeartbeats 2000000 in
theorem specFoldsBack_any (v : Value) (n B : Nat) (xs : List Int) (w : World) (hv : Rd w B 2 v n xs) (hB : B ≤ w.heap.size) (hn : n ≤ 1099511627776) :
    Calls Try.prog 30 #[v] w fun e w' => e = .returned (.tuple #[.bool (fbV n xs), .bool (wayB n xs)]) ∧ Below w.heap.size w w' := by
  obtain ⟨A, c, rfl⟩ := hv.form
  have Hv := Lib.hid hv
  clear hv
  cases h1 : wayB n xs with
  | false =>
    have hf := Lib.hid (show fbV n xs = false by simp [fbV, h1])
    go_enter Try.func30, Try.ntmps30
    go_wp2_with fail
    refine (foGood_any _ n B xs _ Hv.out hB hn).mono ?_
    rintro e w1 ⟨rfl, hb1⟩
    go_wp2_with fail
    go_ret2
    exact ⟨by rw [hf.out]; rfl, hb1⟩
  | true =>
    have hf := Lib.hid (show fbV n xs = fbAny n xs by simp [fbV, h1])
    have hw := wayB_yes h1
    have h12 : 2 ≤ n := hw.1.1
    have h13 : n ≤ 12 := hw.1.2
    have HL := Lib.hid hw.2.1
    have HOk := Lib.hid hw.2.2
    clear hw
    go_enter Try.func30, Try.ntmps30
    go_wp2_with fail
    refine (foGood_any _ n B xs _ Hv.out hB hn).mono ?_
    rintro e w1 ⟨rfl, hb1⟩
    go_wp2_with fail
    go_loopw [4] (fun i wr => ∃ a : Nat, a + 1 ≤ n ∧ i = .int .i64 ((a : Int) + 1) ∧ (∀ p q, p < q → q + 1 < n → (q = p + 1 → q < a → foldAt xs p q = false) ∧ (p + 2 ≤ q → p < a → foldAt xs p q = false)) ∧ Below w.heap.size w wr) (fun i _ => n - (intOf i).toNat)
    case atStart => exact ⟨0, by omega, by simp, fun p q _ _ => ⟨fun _ h => absurd h (by omega), fun _ h => absurd h (by omega)⟩, hb1⟩
    case round =>
      obtain ⟨i, hi, rfl, hno, hb⟩ := hrel
      have HO := Lib.hid hno
      have HB := Lib.hid hb
      clear hno hb hb1
      by_cases hlt : i + 1 < n
      · obtain ⟨b, off, rfl, hbB, hc⟩ := Hv.out.spot (show 0 < n by omega)
        have HC := Lib.hid hc
        clear hc
        by_cases hi0 : 0 < i
        · have HBack := Lib.hid (fun (h : i - 1 + 2 < n) => fold_back (xs := xs) (n := n) (i := i - 1) HOk.out h)
          rw [show i - 1 + 1 = i by omega] at HBack
          have hc := HC.out
          have hc0 := hc (i - 1) (by omega)
          have hc1 := hc i (by omega)
          have hc2 := hc (i + 1) (by omega)
          obtain ⟨x0, ex0⟩ : ∃ x, X xs (i - 1) = x := ⟨_, rfl⟩
          obtain ⟨y0, ey0⟩ : ∃ x, Y xs (i - 1) = x := ⟨_, rfl⟩
          obtain ⟨x1, ex1⟩ : ∃ x, X xs i = x := ⟨_, rfl⟩
          obtain ⟨y1, ey1⟩ : ∃ x, Y xs i = x := ⟨_, rfl⟩
          obtain ⟨x2, ex2⟩ : ∃ x, X xs (i + 1) = x := ⟨_, rfl⟩
          obtain ⟨y2, ey2⟩ : ∃ x, Y xs (i + 1) = x := ⟨_, rfl⟩
          rw [ex0, ey0] at hc0
          rw [ex1, ey1] at hc1
          rw [ex2, ey2] at hc2
          have s0 := HL.out (i - 1) (by omega)
          have s1 := HL.out i (by omega)
          have s2 := HL.out (i + 1) (by omega)
          rw [ex0, ey0] at s0
          rw [ex1, ey1] at s1
          rw [ex2, ey2] at s2
          obtain ⟨p1, p2, p3, p4⟩ := spotB_yes s0
          obtain ⟨q1, q2, q3, q4⟩ := spotB_yes s1
          obtain ⟨r1, r2, r3, r4⟩ := spotB_yes s2
          have c0 := (HB.out.cell (p := ⟨b, off + (i - 1) * 2, none⟩) (Nat.lt_of_lt_of_le hbB hB)).trans hc0.1
          have c1 := (HB.out.cell (p := ⟨b, off + (i - 1) * 2 + 1, none⟩) (Nat.lt_of_lt_of_le hbB hB)).trans hc0.2
          have c2 := (HB.out.cell (p := ⟨b, off + i * 2, none⟩) (Nat.lt_of_lt_of_le hbB hB)).trans hc1.1
          have c3 := (HB.out.cell (p := ⟨b, off + i * 2 + 1, none⟩) (Nat.lt_of_lt_of_le hbB hB)).trans hc1.2
          have c4 := (HB.out.cell (p := ⟨b, off + (i + 1) * 2, none⟩) (Nat.lt_of_lt_of_le hbB hB)).trans hc2.1
          have c5 := (HB.out.cell (p := ⟨b, off + (i + 1) * 2 + 1, none⟩) (Nat.lt_of_lt_of_le hbB hB)).trans hc2.2
          have i0 : (0 : Int) ≤ (i : Int) - 1 := by omega
          have i1 : (i : Int) - 1 < (n : Int) := by omega
          have i2 : ((i : Int) - 1).toNat = i - 1 := by omega
          have i3 := IntWalk.i64_in ((i : Int) - 1) (by omega)
          have i4 : (0 : Int) ≤ (i : Int) := by omega
          have i5 : (i : Int) < (n : Int) := by omega
          have i6 := IntWalk.i64_in (i : Int) (by omega)
          have i7 : (0 : Int) ≤ (i : Int) + 1 := by omega
          have i8 : (i : Int) + 1 < (n : Int) := by omega
          have i9 : ((i : Int) + 1).toNat = i + 1 := by omega
          have i10 := IntWalk.i64_in ((i : Int) + 1) (by omega)
          have i11 : (1 : Int) ≤ (i : Int) := by omega
          have e1 := IntWalk.i64_in (x2 - x1) (by omega)
          have e2 := IntWalk.i64_in (x1 - x0) (by omega)
          have e3 := IntWalk.i64_in (y2 - y1) (by omega)
          have e4 := IntWalk.i64_in (y1 - y0) (by omega)
          have g1 := sg_in (x1 - x0)
          have g2 := sg_in (y1 - y0)
          have e5 := IntWalk.i64_in (-sg (x1 - x0)) (by omega)
          have e6 := IntWalk.i64_in (-sg (y1 - y0)) (by omega)
          have hbk := HBack.out (by omega)
          rw [ex0, ey0, ex1, ey1, ex2, ey2] at hbk
          have HK := Lib.hid (show foldAt xs (i - 1) i = ((sg (x2 - x1) == -sg (x1 - x0)) && (sg (y2 - y1) == -sg (y1 - y0))) from hbk)
          clear hc hc0 hc1 hc2 ex0 ey0 ex1 ey1 ex2 ey2 s0 s1 s2 p1 p2 p3 p4 q1 q2 q3 q4 r1 r2 r3 r4 g1 g2 hbk
          have hd : (1 : Int) < (i : Int) + 1 := by omega
          have hd2 : decide ((1 : Int) < (i : Int) + 1) = true := by simp; omega
          cases hx : (sg (x2 - x1) == -sg (x1 - x0)) with
          | false =>
            have HF0 := Lib.hid (show foldAt xs (i - 1) i = false by rw [HK.out, hx, Bool.false_and])
            go_wp2_with fail
            go_quiet ((go_at_call 62; exact Calls.quiet_of_same (flip_same (l1Sign_any _ _))))
            clear c0 c1 c2 c3 c4 c5 i0 i1 i2 i3 i4 i5 i6 i7 i8 i9 i10 i11 e1 e2 e3 e4 e5 e6
            go_wp2_with fail
            go_loopw [5] (fun s wq => ∃ k : Nat, i + 2 ≤ k ∧ k ≤ n ∧ s = .int .i64 ((k : Int) + 1) ∧ (∀ q, i + 2 ≤ q → q < k → q + 1 < n → foldAt xs i q = false) ∧ Below w.heap.size w wq) (fun s _ => n - (intOf s).toNat)
            case atStart => exact ⟨i + 2, by omega, by omega, by go_num, fun q h1 h2 => absurd h1 (by omega), below_drewN HB.out _⟩
            case round =>
              obtain ⟨k, hk1, hk2, rfl, hno, hb⟩ := hrel
              have HIn := Lib.hid hno
              clear hno
              by_cases hlk : k + 1 < n
              · have hc := HC.out
                have hc0 := hc i (by omega)
                have hc1 := hc (i + 1) (by omega)
                have hc2 := hc k (by omega)
                have hc3 := hc (k + 1) (by omega)
                obtain ⟨x0, ex0⟩ : ∃ x, X xs i = x := ⟨_, rfl⟩
                obtain ⟨y0, ey0⟩ : ∃ x, Y xs i = x := ⟨_, rfl⟩
                obtain ⟨x1, ex1⟩ : ∃ x, X xs (i + 1) = x := ⟨_, rfl⟩
                obtain ⟨y1, ey1⟩ : ∃ x, Y xs (i + 1) = x := ⟨_, rfl⟩
                obtain ⟨x2, ex2⟩ : ∃ x, X xs k = x := ⟨_, rfl⟩
                obtain ⟨y2, ey2⟩ : ∃ x, Y xs k = x := ⟨_, rfl⟩
                obtain ⟨x3, ex3⟩ : ∃ x, X xs (k + 1) = x := ⟨_, rfl⟩
                obtain ⟨y3, ey3⟩ : ∃ x, Y xs (k + 1) = x := ⟨_, rfl⟩
                have s0 := HL.out i (by omega)
                have s1 := HL.out (i + 1) (by omega)
                have s2 := HL.out k (by omega)
                have s3 := HL.out (k + 1) (by omega)
                rw [ex0, ey0] at hc0 s0
                rw [ex1, ey1] at hc1 s1
                rw [ex2, ey2] at hc2 s2
                rw [ex3, ey3] at hc3 s3
                have c0 := (hb.cell (p := ⟨b, off + i * 2, none⟩) (Nat.lt_of_lt_of_le hbB hB)).trans hc0.1
                have c1 := (hb.cell (p := ⟨b, off + i * 2 + 1, none⟩) (Nat.lt_of_lt_of_le hbB hB)).trans hc0.2
                have c2 := (hb.cell (p := ⟨b, off + (i + 1) * 2, none⟩) (Nat.lt_of_lt_of_le hbB hB)).trans hc1.1
                have c3 := (hb.cell (p := ⟨b, off + (i + 1) * 2 + 1, none⟩) (Nat.lt_of_lt_of_le hbB hB)).trans hc1.2
                have c4 := (hb.cell (p := ⟨b, off + k * 2, none⟩) (Nat.lt_of_lt_of_le hbB hB)).trans hc2.1
                have c5 := (hb.cell (p := ⟨b, off + k * 2 + 1, none⟩) (Nat.lt_of_lt_of_le hbB hB)).trans hc2.2
                have c6 := (hb.cell (p := ⟨b, off + (k + 1) * 2, none⟩) (Nat.lt_of_lt_of_le hbB hB)).trans hc3.1
                have c7 := (hb.cell (p := ⟨b, off + (k + 1) * 2 + 1, none⟩) (Nat.lt_of_lt_of_le hbB hB)).trans hc3.2
                have i0 : (0 : Int) ≤ (i : Int) := by omega
                have i1 : (i : Int) < (n : Int) := by omega
                have i2 : (0 : Int) ≤ (i : Int) + 1 := by omega
                have i3 : (i : Int) + 1 < (n : Int) := by omega
                have i4 : ((i : Int) + 1).toNat = i + 1 := by omega
                have i5 := IntWalk.i64_in (i : Int) (by omega)
                have i6 := IntWalk.i64_in ((i : Int) + 1) (by omega)
                have j0 : (0 : Int) ≤ (k : Int) := by omega
                have j1 : (k : Int) < (n : Int) := by omega
                have j2 : (0 : Int) ≤ (k : Int) + 1 := by omega
                have j3 : (k : Int) + 1 < (n : Int) := by omega
                have j4 : ((k : Int) + 1).toNat = k + 1 := by omega
                have j5 := IntWalk.i64_in (k : Int) (by omega)
                have j6 := IntWalk.i64_in ((k : Int) + 1) (by omega)
                have hP := fun W => foMeet_any x0 y0 x1 y1 x2 y2 x3 y3 W
                have hfar := fold_meet (xs := xs) (i := i) (k := k) (by omega)
                rw [ex0, ey0, ex1, ey1, ex2, ey2, ex3, ey3] at hfar
                obtain ⟨r, er⟩ : ∃ r, meetL x0 y0 x1 y1 x2 y2 x3 y3 = r := ⟨_, rfl⟩
                rw [er] at hP hfar
                have HP := Lib.hid hP
                have HB := Lib.hid hb
                have HFr := Lib.hid hfar
                clear hP hfar er ex0 ey0 ex1 ey1 ex2 ey2 ex3 ey3 hc hc0 hc1 hc2 hc3 s0 s1 s2 s3 hb
                go_wp2_with fail
                go_region_held3 (fun W => W.cell? ⟨b, off + i * 2, none⟩ = some (.int .i64 x0) ∧ W.cell? ⟨b, off + i * 2 + 1, none⟩ = some (.int .i64 y0) ∧ W.cell? ⟨b, off + (i + 1) * 2, none⟩ = some (.int .i64 x1) ∧ W.cell? ⟨b, off + (i + 1) * 2 + 1, none⟩ = some (.int .i64 y1) ∧ W.cell? ⟨b, off + k * 2, none⟩ = some (.int .i64 x2) ∧ W.cell? ⟨b, off + k * 2 + 1, none⟩ = some (.int .i64 y2) ∧ W.cell? ⟨b, off + (k + 1) * 2, none⟩ = some (.int .i64 x3) ∧ W.cell? ⟨b, off + (k + 1) * 2 + 1, none⟩ = some (.int .i64 y3) ∧ Below w.heap.size w W)
                  (first | exact ⟨c0, c1, c2, c3, c4, c5, c6, c7, HB.out.drew⟩ | (go_split_ands; exact ⟨cell_on hb2 (by assumption), cell_on hb2 (by assumption), cell_on hb2 (by assumption), cell_on hb2 (by assumption), cell_on hb2 (by assumption), cell_on hb2 (by assumption), cell_on hb2 (by assumption), cell_on hb2 (by assumption), below_on (by assumption) hb2⟩) | go_keep)
                  (first | (go_at_call 64; refine (HP.out _).mono ?_; rintro e w2 ⟨rfl, hb2⟩))
                go_split_ands
                rename_i hb9
                have HB9 := Lib.hid hb9
                clear c0 c1 c2 c3 c4 c5 c6 c7 hb9
                cases r with
                | true =>
                  have HF := Lib.hid (fb_yes (show i < k by omega) hlk HFr.out)
                  go_wp2_with fail
                  go_ret2
                  exact ⟨by rw [hf.out, HF.out]; rfl, HB9.out⟩
                | false =>
                  have HF := HFr
                  go_wp2_with fail
                  go_roundw
                  case rel =>
                    have hR : ∀ b, i + 2 ≤ b → b < k + 1 → b + 1 < n → foldAt xs i b = false := fun b h1 h2 h3 => by
                      rcases Nat.lt_succ_iff_lt_or_eq.1 h2 with h | rfl
                      · exact HIn.out b h1 h h3
                      · exact HF.out
                    first
                    | exact ⟨k + 1, by omega, by omega, by go_num, hR, HB9.out⟩
                    | ((repeat apply Exists.intro); exact ⟨⟨k + 1, by omega, by omega, rfl, hR, HB9.out⟩, rfl⟩)
                    | ((repeat apply Exists.intro); refine ⟨?_, rfl⟩; exact ⟨k + 1, by omega, by omega, by go_num, hR, HB9.out⟩)
                  case measure => simp [intOf]; omega
              · have HB := Lib.hid hb
                clear hb
                go_wp2_with fail
                go_roundw
                case rel =>
                  refine ⟨i + 1, by omega, by go_num, fun p q h1 h2 => ⟨fun h3 h4 => ?_, fun h3 h4 => ?_⟩, HB.out⟩
                  · subst h3
                    rcases Nat.lt_succ_iff_lt_or_eq.1 h4 with h | h
                    · exact (HO.out p (p + 1) h1 h2).1 rfl h
                    · subst h; exact HF0.out
                  · rcases Nat.lt_succ_iff_lt_or_eq.1 h4 with h | h
                    · exact (HO.out p q h1 h2).2 h3 h
                    · subst h; exact HIn.out q (by omega) (by omega) h2
                case measure => simp [intOf]; omega
          | true =>
            cases hy : (sg (y2 - y1) == -sg (y1 - y0)) with
            | false =>
              have HF0 := Lib.hid (show foldAt xs (i - 1) i = false by rw [HK.out, hx, hy, Bool.true_and])
              go_wp2_with fail
              go_quiet ((go_at_call 62; exact Calls.quiet_of_same (flip_same (l1Sign_any _ _))))
              clear c0 c1 c2 c3 c4 c5 i0 i1 i2 i3 i4 i5 i6 i7 i8 i9 i10 i11 e1 e2 e3 e4 e5 e6
              go_wp2_with fail
              go_loopw [5] (fun s wq => ∃ k : Nat, i + 2 ≤ k ∧ k ≤ n ∧ s = .int .i64 ((k : Int) + 1) ∧ (∀ q, i + 2 ≤ q → q < k → q + 1 < n → foldAt xs i q = false) ∧ Below w.heap.size w wq) (fun s _ => n - (intOf s).toNat)
              case atStart => exact ⟨i + 2, by omega, by omega, by go_num, fun q h1 h2 => absurd h1 (by omega), below_drewN HB.out _⟩
              case round =>
                obtain ⟨k, hk1, hk2, rfl, hno, hb⟩ := hrel
                have HIn := Lib.hid hno
                clear hno
                by_cases hlk : k + 1 < n
                · have hc := HC.out
                  have hc0 := hc i (by omega)
                  have hc1 := hc (i + 1) (by omega)
                  have hc2 := hc k (by omega)
                  have hc3 := hc (k + 1) (by omega)
                  obtain ⟨x0, ex0⟩ : ∃ x, X xs i = x := ⟨_, rfl⟩
                  obtain ⟨y0, ey0⟩ : ∃ x, Y xs i = x := ⟨_, rfl⟩
                  obtain ⟨x1, ex1⟩ : ∃ x, X xs (i + 1) = x := ⟨_, rfl⟩
                  obtain ⟨y1, ey1⟩ : ∃ x, Y xs (i + 1) = x := ⟨_, rfl⟩
                  obtain ⟨x2, ex2⟩ : ∃ x, X xs k = x := ⟨_, rfl⟩
                  obtain ⟨y2, ey2⟩ : ∃ x, Y xs k = x := ⟨_, rfl⟩
                  obtain ⟨x3, ex3⟩ : ∃ x, X xs (k + 1) = x := ⟨_, rfl⟩
                  obtain ⟨y3, ey3⟩ : ∃ x, Y xs (k + 1) = x := ⟨_, rfl⟩
                  have s0 := HL.out i (by omega)
                  have s1 := HL.out (i + 1) (by omega)
                  have s2 := HL.out k (by omega)
                  have s3 := HL.out (k + 1) (by omega)
                  rw [ex0, ey0] at hc0 s0
                  rw [ex1, ey1] at hc1 s1
                  rw [ex2, ey2] at hc2 s2
                  rw [ex3, ey3] at hc3 s3
                  have c0 := (hb.cell (p := ⟨b, off + i * 2, none⟩) (Nat.lt_of_lt_of_le hbB hB)).trans hc0.1
                  have c1 := (hb.cell (p := ⟨b, off + i * 2 + 1, none⟩) (Nat.lt_of_lt_of_le hbB hB)).trans hc0.2
                  have c2 := (hb.cell (p := ⟨b, off + (i + 1) * 2, none⟩) (Nat.lt_of_lt_of_le hbB hB)).trans hc1.1
                  have c3 := (hb.cell (p := ⟨b, off + (i + 1) * 2 + 1, none⟩) (Nat.lt_of_lt_of_le hbB hB)).trans hc1.2
                  have c4 := (hb.cell (p := ⟨b, off + k * 2, none⟩) (Nat.lt_of_lt_of_le hbB hB)).trans hc2.1
                  have c5 := (hb.cell (p := ⟨b, off + k * 2 + 1, none⟩) (Nat.lt_of_lt_of_le hbB hB)).trans hc2.2
                  have c6 := (hb.cell (p := ⟨b, off + (k + 1) * 2, none⟩) (Nat.lt_of_lt_of_le hbB hB)).trans hc3.1
                  have c7 := (hb.cell (p := ⟨b, off + (k + 1) * 2 + 1, none⟩) (Nat.lt_of_lt_of_le hbB hB)).trans hc3.2
                  have i0 : (0 : Int) ≤ (i : Int) := by omega
                  have i1 : (i : Int) < (n : Int) := by omega
                  have i2 : (0 : Int) ≤ (i : Int) + 1 := by omega
                  have i3 : (i : Int) + 1 < (n : Int) := by omega
                  have i4 : ((i : Int) + 1).toNat = i + 1 := by omega
                  have i5 := IntWalk.i64_in (i : Int) (by omega)
                  have i6 := IntWalk.i64_in ((i : Int) + 1) (by omega)
                  have j0 : (0 : Int) ≤ (k : Int) := by omega
                  have j1 : (k : Int) < (n : Int) := by omega
                  have j2 : (0 : Int) ≤ (k : Int) + 1 := by omega
                  have j3 : (k : Int) + 1 < (n : Int) := by omega
                  have j4 : ((k : Int) + 1).toNat = k + 1 := by omega
                  have j5 := IntWalk.i64_in (k : Int) (by omega)
                  have j6 := IntWalk.i64_in ((k : Int) + 1) (by omega)
                  have hP := fun W => foMeet_any x0 y0 x1 y1 x2 y2 x3 y3 W
                  have hfar := fold_meet (xs := xs) (i := i) (k := k) (by omega)
                  rw [ex0, ey0, ex1, ey1, ex2, ey2, ex3, ey3] at hfar
                  obtain ⟨r, er⟩ : ∃ r, meetL x0 y0 x1 y1 x2 y2 x3 y3 = r := ⟨_, rfl⟩
                  rw [er] at hP hfar
                  have HP := Lib.hid hP
                  have HB := Lib.hid hb
                  have HFr := Lib.hid hfar
                  clear hP hfar er ex0 ey0 ex1 ey1 ex2 ey2 ex3 ey3 hc hc0 hc1 hc2 hc3 s0 s1 s2 s3 hb
                  go_wp2_with fail
                  go_region_held3 (fun W => W.cell? ⟨b, off + i * 2, none⟩ = some (.int .i64 x0) ∧ W.cell? ⟨b, off + i * 2 + 1, none⟩ = some (.int .i64 y0) ∧ W.cell? ⟨b, off + (i + 1) * 2, none⟩ = some (.int .i64 x1) ∧ W.cell? ⟨b, off + (i + 1) * 2 + 1, none⟩ = some (.int .i64 y1) ∧ W.cell? ⟨b, off + k * 2, none⟩ = some (.int .i64 x2) ∧ W.cell? ⟨b, off + k * 2 + 1, none⟩ = some (.int .i64 y2) ∧ W.cell? ⟨b, off + (k + 1) * 2, none⟩ = some (.int .i64 x3) ∧ W.cell? ⟨b, off + (k + 1) * 2 + 1, none⟩ = some (.int .i64 y3) ∧ Below w.heap.size w W)
                    (first | exact ⟨c0, c1, c2, c3, c4, c5, c6, c7, HB.out.drew⟩ | (go_split_ands; exact ⟨cell_on hb2 (by assumption), cell_on hb2 (by assumption), cell_on hb2 (by assumption), cell_on hb2 (by assumption), cell_on hb2 (by assumption), cell_on hb2 (by assumption), cell_on hb2 (by assumption), cell_on hb2 (by assumption), below_on (by assumption) hb2⟩) | go_keep)
                    (first | (go_at_call 64; refine (HP.out _).mono ?_; rintro e w2 ⟨rfl, hb2⟩))
                  go_split_ands
                  rename_i hb9
                  have HB9 := Lib.hid hb9
                  clear c0 c1 c2 c3 c4 c5 c6 c7 hb9
                  cases r with
                  | true =>
                    have HF := Lib.hid (fb_yes (show i < k by omega) hlk HFr.out)
                    go_wp2_with fail
                    go_ret2
                    exact ⟨by rw [hf.out, HF.out]; rfl, HB9.out⟩
                  | false =>
                    have HF := HFr
                    go_wp2_with fail
                    go_roundw
                    case rel =>
                      have hR : ∀ b, i + 2 ≤ b → b < k + 1 → b + 1 < n → foldAt xs i b = false := fun b h1 h2 h3 => by
                        rcases Nat.lt_succ_iff_lt_or_eq.1 h2 with h | rfl
                        · exact HIn.out b h1 h h3
                        · exact HF.out
                      first
                      | exact ⟨k + 1, by omega, by omega, by go_num, hR, HB9.out⟩
                      | ((repeat apply Exists.intro); exact ⟨⟨k + 1, by omega, by omega, rfl, hR, HB9.out⟩, rfl⟩)
                      | ((repeat apply Exists.intro); refine ⟨?_, rfl⟩; exact ⟨k + 1, by omega, by omega, by go_num, hR, HB9.out⟩)
                    case measure => simp [intOf]; omega
                · have HB := Lib.hid hb
                  clear hb
                  go_wp2_with fail
                  go_roundw
                  case rel =>
                    refine ⟨i + 1, by omega, by go_num, fun p q h1 h2 => ⟨fun h3 h4 => ?_, fun h3 h4 => ?_⟩, HB.out⟩
                    · subst h3
                      rcases Nat.lt_succ_iff_lt_or_eq.1 h4 with h | h
                      · exact (HO.out p (p + 1) h1 h2).1 rfl h
                      · subst h; exact HF0.out
                    · rcases Nat.lt_succ_iff_lt_or_eq.1 h4 with h | h
                      · exact (HO.out p q h1 h2).2 h3 h
                      · subst h; exact HIn.out q (by omega) (by omega) h2
                  case measure => simp [intOf]; omega
            | true =>
              have HF := Lib.hid (fb_yes (n := n) (show i - 1 < i by omega) hlt (by rw [HK.out, hx, hy]; rfl))
              go_wp2_with fail
              go_quiet ((go_at_call 62; exact Calls.quiet_of_same (flip_same (l1Sign_any _ _))))
              clear c0 c1 c2 c3 c4 c5 i0 i1 i2 i3 i4 i5 i6 i7 i8 i9 i10 i11 e1 e2 e3 e4 e5 e6
              go_wp2_with fail
              go_ret2
              exact ⟨by rw [hf.out, HF.out]; rfl, below_drewN HB.out _⟩
        · have hd : decide ((1 : Int) < (i : Int) + 1) = false := by simp; omega
          have hin : (i : Int) + 1 < (n : Int) := by omega
          have HI0 := Lib.hid hi0
          clear hi0
          go_wp2_with fail
          go_quiet (fail)
          go_wp2_with fail
          go_loopw [5] (fun s wq => ∃ k : Nat, i + 2 ≤ k ∧ k ≤ n ∧ s = .int .i64 ((k : Int) + 1) ∧ (∀ q, i + 2 ≤ q → q < k → q + 1 < n → foldAt xs i q = false) ∧ Below w.heap.size w wq) (fun s _ => n - (intOf s).toNat)
          case atStart => exact ⟨i + 2, by omega, by omega, by go_num, fun q h1 h2 => absurd h1 (by omega), below_drewN HB.out _⟩
          case round =>
            obtain ⟨k, hk1, hk2, rfl, hno, hb⟩ := hrel
            have HIn := Lib.hid hno
            clear hno
            by_cases hlk : k + 1 < n
            · have hc := HC.out
              have hc0 := hc i (by omega)
              have hc1 := hc (i + 1) (by omega)
              have hc2 := hc k (by omega)
              have hc3 := hc (k + 1) (by omega)
              obtain ⟨x0, ex0⟩ : ∃ x, X xs i = x := ⟨_, rfl⟩
              obtain ⟨y0, ey0⟩ : ∃ x, Y xs i = x := ⟨_, rfl⟩
              obtain ⟨x1, ex1⟩ : ∃ x, X xs (i + 1) = x := ⟨_, rfl⟩
              obtain ⟨y1, ey1⟩ : ∃ x, Y xs (i + 1) = x := ⟨_, rfl⟩
              obtain ⟨x2, ex2⟩ : ∃ x, X xs k = x := ⟨_, rfl⟩
              obtain ⟨y2, ey2⟩ : ∃ x, Y xs k = x := ⟨_, rfl⟩
              obtain ⟨x3, ex3⟩ : ∃ x, X xs (k + 1) = x := ⟨_, rfl⟩
              obtain ⟨y3, ey3⟩ : ∃ x, Y xs (k + 1) = x := ⟨_, rfl⟩
              have s0 := HL.out i (by omega)
              have s1 := HL.out (i + 1) (by omega)
              have s2 := HL.out k (by omega)
              have s3 := HL.out (k + 1) (by omega)
              rw [ex0, ey0] at hc0 s0
              rw [ex1, ey1] at hc1 s1
              rw [ex2, ey2] at hc2 s2
              rw [ex3, ey3] at hc3 s3
              have c0 := (hb.cell (p := ⟨b, off + i * 2, none⟩) (Nat.lt_of_lt_of_le hbB hB)).trans hc0.1
              have c1 := (hb.cell (p := ⟨b, off + i * 2 + 1, none⟩) (Nat.lt_of_lt_of_le hbB hB)).trans hc0.2
              have c2 := (hb.cell (p := ⟨b, off + (i + 1) * 2, none⟩) (Nat.lt_of_lt_of_le hbB hB)).trans hc1.1
              have c3 := (hb.cell (p := ⟨b, off + (i + 1) * 2 + 1, none⟩) (Nat.lt_of_lt_of_le hbB hB)).trans hc1.2
              have c4 := (hb.cell (p := ⟨b, off + k * 2, none⟩) (Nat.lt_of_lt_of_le hbB hB)).trans hc2.1
              have c5 := (hb.cell (p := ⟨b, off + k * 2 + 1, none⟩) (Nat.lt_of_lt_of_le hbB hB)).trans hc2.2
              have c6 := (hb.cell (p := ⟨b, off + (k + 1) * 2, none⟩) (Nat.lt_of_lt_of_le hbB hB)).trans hc3.1
              have c7 := (hb.cell (p := ⟨b, off + (k + 1) * 2 + 1, none⟩) (Nat.lt_of_lt_of_le hbB hB)).trans hc3.2
              have i0 : (0 : Int) ≤ (i : Int) := by omega
              have i1 : (i : Int) < (n : Int) := by omega
              have i2 : (0 : Int) ≤ (i : Int) + 1 := by omega
              have i3 : (i : Int) + 1 < (n : Int) := by omega
              have i4 : ((i : Int) + 1).toNat = i + 1 := by omega
              have i5 := IntWalk.i64_in (i : Int) (by omega)
              have i6 := IntWalk.i64_in ((i : Int) + 1) (by omega)
              have j0 : (0 : Int) ≤ (k : Int) := by omega
              have j1 : (k : Int) < (n : Int) := by omega
              have j2 : (0 : Int) ≤ (k : Int) + 1 := by omega
              have j3 : (k : Int) + 1 < (n : Int) := by omega
              have j4 : ((k : Int) + 1).toNat = k + 1 := by omega
              have j5 := IntWalk.i64_in (k : Int) (by omega)
              have j6 := IntWalk.i64_in ((k : Int) + 1) (by omega)
              have hP := fun W => foMeet_any x0 y0 x1 y1 x2 y2 x3 y3 W
              have hfar := fold_meet (xs := xs) (i := i) (k := k) (by omega)
              rw [ex0, ey0, ex1, ey1, ex2, ey2, ex3, ey3] at hfar
              obtain ⟨r, er⟩ : ∃ r, meetL x0 y0 x1 y1 x2 y2 x3 y3 = r := ⟨_, rfl⟩
              rw [er] at hP hfar
              have HP := Lib.hid hP
              have HB := Lib.hid hb
              have HFr := Lib.hid hfar
              clear hP hfar er ex0 ey0 ex1 ey1 ex2 ey2 ex3 ey3 hc hc0 hc1 hc2 hc3 s0 s1 s2 s3 hb
              go_wp2_with fail
              go_region_held3 (fun W => W.cell? ⟨b, off + i * 2, none⟩ = some (.int .i64 x0) ∧ W.cell? ⟨b, off + i * 2 + 1, none⟩ = some (.int .i64 y0) ∧ W.cell? ⟨b, off + (i + 1) * 2, none⟩ = some (.int .i64 x1) ∧ W.cell? ⟨b, off + (i + 1) * 2 + 1, none⟩ = some (.int .i64 y1) ∧ W.cell? ⟨b, off + k * 2, none⟩ = some (.int .i64 x2) ∧ W.cell? ⟨b, off + k * 2 + 1, none⟩ = some (.int .i64 y2) ∧ W.cell? ⟨b, off + (k + 1) * 2, none⟩ = some (.int .i64 x3) ∧ W.cell? ⟨b, off + (k + 1) * 2 + 1, none⟩ = some (.int .i64 y3) ∧ Below w.heap.size w W)
                (first | exact ⟨c0, c1, c2, c3, c4, c5, c6, c7, HB.out.drew⟩ | (go_split_ands; exact ⟨cell_on hb2 (by assumption), cell_on hb2 (by assumption), cell_on hb2 (by assumption), cell_on hb2 (by assumption), cell_on hb2 (by assumption), cell_on hb2 (by assumption), cell_on hb2 (by assumption), cell_on hb2 (by assumption), below_on (by assumption) hb2⟩) | go_keep)
                (first | (go_at_call 64; refine (HP.out _).mono ?_; rintro e w2 ⟨rfl, hb2⟩))
              go_split_ands
              rename_i hb9
              have HB9 := Lib.hid hb9
              clear c0 c1 c2 c3 c4 c5 c6 c7 hb9
              cases r with
              | true =>
                have HF := Lib.hid (fb_yes (show i < k by omega) hlk HFr.out)
                go_wp2_with fail
                go_ret2
                exact ⟨by rw [hf.out, HF.out]; rfl, HB9.out⟩
              | false =>
                have HF := HFr
                go_wp2_with fail
                go_roundw
                case rel =>
                  have hR : ∀ b, i + 2 ≤ b → b < k + 1 → b + 1 < n → foldAt xs i b = false := fun b h1 h2 h3 => by
                    rcases Nat.lt_succ_iff_lt_or_eq.1 h2 with h | rfl
                    · exact HIn.out b h1 h h3
                    · exact HF.out
                  first
                  | exact ⟨k + 1, by omega, by omega, by go_num, hR, HB9.out⟩
                  | ((repeat apply Exists.intro); exact ⟨⟨k + 1, by omega, by omega, rfl, hR, HB9.out⟩, rfl⟩)
                  | ((repeat apply Exists.intro); refine ⟨?_, rfl⟩; exact ⟨k + 1, by omega, by omega, by go_num, hR, HB9.out⟩)
                case measure => simp [intOf]; omega
            · have HB := Lib.hid hb
              clear hb
              go_wp2_with fail
              go_roundw
              case rel =>
                refine ⟨i + 1, by omega, by go_num, fun p q h1 h2 => ⟨fun h3 h4 => ?_, fun h3 h4 => ?_⟩, HB.out⟩
                · subst h3
                  rcases Nat.lt_succ_iff_lt_or_eq.1 h4 with h | h
                  · exact (HO.out p (p + 1) h1 h2).1 rfl h
                  · subst h; exact absurd (Nat.succ_pos _) HI0.out
                · rcases Nat.lt_succ_iff_lt_or_eq.1 h4 with h | h
                  · exact (HO.out p q h1 h2).2 h3 h
                  · subst h; exact HIn.out q (by omega) (by omega) h2
              case measure => simp [intOf]; omega
      · have HF := Lib.hid (fb_no (n := n) (xs := xs) (fun p q h1 h2 => by
          rcases Nat.lt_or_ge (p + 1) q with h | h
          · exact (HO.out p q h1 h2).2 (by omega) (by omega)
          · exact (HO.out p q h1 h2).1 (by omega) (by omega)))
        go_wp2_with fail
        go_ret2
        exact ⟨by rw [hf.out, HF.out]; rfl, HB.out⟩
end Go.Proofs.Ytciolimmfldpbaa
