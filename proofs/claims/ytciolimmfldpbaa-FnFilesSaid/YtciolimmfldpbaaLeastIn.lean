/- Contracts of the closest pair of a list of spots, and of the program's LeastInFile. Condition: the slice can be read. -/
import Derived.Test.YtciolimmfldpbaaLeastFn
import Derived.Test.YtciolimmfldpbaaCorners
import Derived.Deep.DeepCutAuto
namespace Go.Proofs.Ytciolimmfldpbaa
open Go.RowKit

/-- Returned are the places of two spots with the least square. -/
def Closest (n : Nat) (xs : List Int) (w : World) (e : Ending) (w' : World) : Prop :=
  ∃ i k : Nat, i < k ∧ k < n ∧ (∀ a b, a < b → b < n → sqAt xs i k ≤ sqAt xs a b) ∧ e = .returned (.tuple #[.int .i64 i, .int .i64 k]) ∧ Below w.heap.size w w'
set_option maxRecDepth 100000 in
set_option maxHeartbeats 2000000 in
theorem closestPair_any (v : Value) (n B : Nat) (xs : List Int) (w : World) (hv : Rd w B 2 v n xs) (hB : B ≤ w.heap.size) (h2 : 2 ≤ n) (hn : n ≤ 1000) (hnear : allNear xs n) :
    Calls Try.prog 56 #[v] w (Closest n xs w) := by
  obtain ⟨A, c, rfl⟩ := hv.form
  obtain ⟨b, off, rfl, hbB, hc⟩ := hv.spot (show 0 < n by omega)
  have HC := Lib.hid hc
  have HN := Lib.hid hnear
  clear hc hv hnear
  go_enter Try.func56, Try.ntmps56
  go_wp2_with fail
  go_loopw [4, 5, 10] (fun s t u wr => ∃ a i k : Nat, a ≤ n ∧ u = .int .i64 a ∧ s = .int .i64 i ∧ t = .int .i64 k ∧ i < k ∧ k < n ∧ (∀ p q, p < q → q < n → p < a → sqAt xs i k ≤ sqAt xs p q) ∧ Below w.heap.size w wr) (fun _ _ u _ => n - (intOf u).toNat)
  case atStart => exact ⟨0, 0, 1, Nat.zero_le _, rfl, by simp, by simp, by omega, by omega, fun p q _ _ h => absurd h (by omega), Below.refl _ _⟩
  case round =>
    obtain ⟨a, i, k, ha, rfl, rfl, rfl, hik, hkn, hall, hb⟩ := hrel
    have HA := Lib.hid hall
    have HB := Lib.hid hb
    clear hall hb
    by_cases hlt : a < n
    · have ha1 : (a : Int) < (n : Int) := by omega
      go_wp2_with fail
      go_loopw [4, 5, 7] (fun s t u wq => ∃ d i k : Nat, a + 1 ≤ d ∧ d ≤ n ∧ u = .int .i64 d ∧ s = .int .i64 i ∧ t = .int .i64 k ∧ i < k ∧ k < n ∧ (∀ p q, p < q → q < n → p < a → sqAt xs i k ≤ sqAt xs p q) ∧ (∀ q, a < q → q < d → sqAt xs i k ≤ sqAt xs a q) ∧ Below w.heap.size w wq) (fun _ _ u _ => n - (intOf u).toNat)
      case atStart => exact ⟨a + 1, i, k, by omega, by omega, by go_num, rfl, rfl, hik, hkn, HA.out, fun q h1 h2 => absurd h1 (by omega), HB.out⟩
      case round =>
        clear HA HB hik hkn
        obtain ⟨d, i, k, hd1, hd2, rfl, rfl, rfl, hik, hkn, hall, hin, hb⟩ := hrel
        have HA := Lib.hid hall
        have HIn := Lib.hid hin
        clear hall hin
        by_cases hlk : d < n
        · have ha0 := HC.out a (by omega)
          have hd0 := HC.out d (by omega)
          have hi0 := HC.out i (by omega)
          have hk0 := HC.out k (by omega)
          obtain ⟨x0, ex0⟩ : ∃ x, X xs a = x := ⟨_, rfl⟩
          obtain ⟨y0, ey0⟩ : ∃ x, Y xs a = x := ⟨_, rfl⟩
          obtain ⟨x1, ex1⟩ : ∃ x, X xs d = x := ⟨_, rfl⟩
          obtain ⟨y1, ey1⟩ : ∃ x, Y xs d = x := ⟨_, rfl⟩
          obtain ⟨x2, ex2⟩ : ∃ x, X xs i = x := ⟨_, rfl⟩
          obtain ⟨y2, ey2⟩ : ∃ x, Y xs i = x := ⟨_, rfl⟩
          obtain ⟨x3, ex3⟩ : ∃ x, X xs k = x := ⟨_, rfl⟩
          obtain ⟨y3, ey3⟩ : ∃ x, Y xs k = x := ⟨_, rfl⟩
          rw [ex0, ey0] at ha0
          rw [ex1, ey1] at hd0
          rw [ex2, ey2] at hi0
          rw [ex3, ey3] at hk0
          have n0 := HN.out a (by omega)
          have n1 := HN.out d (by omega)
          have n2 := HN.out i (by omega)
          have n3 := HN.out k (by omega)
          rw [ex0, ey0] at n0
          rw [ex1, ey1] at n1
          rw [ex2, ey2] at n2
          rw [ex3, ey3] at n3
          have P0 := Lib.hid (fun W => squareOf_any x0 y0 x1 y1 W n0 n1)
          have P1 := Lib.hid (fun W => squareOf_any x2 y2 x3 y3 W n2 n3)
          have E0 := Lib.hid (show sqAt xs a d = sqL x0 y0 x1 y1 by rw [← ex0, ← ey0, ← ex1, ← ey1]; rfl)
          have E1 := Lib.hid (show sqAt xs i k = sqL x2 y2 x3 y3 by rw [← ex2, ← ey2, ← ex3, ← ey3]; rfl)
          have c0 := (hb.cell (p := ⟨b, off + a * 2, none⟩) (Nat.lt_of_lt_of_le hbB hB)).trans ha0.1
          have c1 := (hb.cell (p := ⟨b, off + a * 2 + 1, none⟩) (Nat.lt_of_lt_of_le hbB hB)).trans ha0.2
          have c2 := (hb.cell (p := ⟨b, off + d * 2, none⟩) (Nat.lt_of_lt_of_le hbB hB)).trans hd0.1
          have c3 := (hb.cell (p := ⟨b, off + d * 2 + 1, none⟩) (Nat.lt_of_lt_of_le hbB hB)).trans hd0.2
          have c4 := (hb.cell (p := ⟨b, off + i * 2, none⟩) (Nat.lt_of_lt_of_le hbB hB)).trans hi0.1
          have c5 := (hb.cell (p := ⟨b, off + i * 2 + 1, none⟩) (Nat.lt_of_lt_of_le hbB hB)).trans hi0.2
          have c6 := (hb.cell (p := ⟨b, off + k * 2, none⟩) (Nat.lt_of_lt_of_le hbB hB)).trans hk0.1
          have c7 := (hb.cell (p := ⟨b, off + k * 2 + 1, none⟩) (Nat.lt_of_lt_of_le hbB hB)).trans hk0.2
          have j0 : (0 : Int) ≤ (a : Int) := by omega
          have j2 : (0 : Int) ≤ (d : Int) := by omega
          have j3 : (d : Int) < (n : Int) := by omega
          have j4 : (0 : Int) ≤ (i : Int) := by omega
          have j5 : (i : Int) < (n : Int) := by omega
          have j6 : (0 : Int) ≤ (k : Int) := by omega
          have j7 : (k : Int) < (n : Int) := by omega
          have HB := Lib.hid hb
          clear hb ha0 hd0 hi0 hk0 ex0 ey0 ex1 ey1 ex2 ey2 ex3 ey3 n0 n1 n2 n3
          go_upto_region 8 with (fail)
          go_cut [39] (fun s wx => s = .bool (decide (sqL x0 y0 x1 y1 < sqL x2 y2 x3 y3)) ∧ Below w.heap.size w wx)
          case first =>
            go_region_held3 (fun W => W.cell? ⟨b, off + a * 2, none⟩ = some (.int .i64 x0) ∧ W.cell? ⟨b, off + a * 2 + 1, none⟩ = some (.int .i64 y0) ∧ W.cell? ⟨b, off + d * 2, none⟩ = some (.int .i64 x1) ∧ W.cell? ⟨b, off + d * 2 + 1, none⟩ = some (.int .i64 y1) ∧ W.cell? ⟨b, off + i * 2, none⟩ = some (.int .i64 x2) ∧ W.cell? ⟨b, off + i * 2 + 1, none⟩ = some (.int .i64 y2) ∧ W.cell? ⟨b, off + k * 2, none⟩ = some (.int .i64 x3) ∧ W.cell? ⟨b, off + k * 2 + 1, none⟩ = some (.int .i64 y3) ∧ Below w.heap.size w W)
              (first | exact ⟨c0, c1, c2, c3, c4, c5, c6, c7, HB.out.drew⟩ | (go_split_ands; exact ⟨cell_on hb2 (by assumption), cell_on hb2 (by assumption), cell_on hb2 (by assumption), cell_on hb2 (by assumption), cell_on hb2 (by assumption), cell_on hb2 (by assumption), cell_on hb2 (by assumption), cell_on hb2 (by assumption), below_on (by assumption) hb2⟩) | go_keep)
              (first | (go_at_call_of 57 ((Value.agg #[Value.int .i64 x0, Value.int .i64 y0])); refine (P0.out _).mono ?_; rintro e w2 ⟨rfl, hb2⟩) | (go_at_call_of 57 ((Value.agg #[Value.int .i64 x2, Value.int .i64 y2])); refine (P1.out _).mono ?_; rintro e w2 ⟨rfl, hb2⟩))
            all_goals
              go_split_ands
              go_wp2_with fail
              go_meet
              exact ⟨rfl, by assumption⟩
          case rest =>
            obtain ⟨rfl, hb5⟩ := hcut
            have HB5 := Lib.hid hb5
            clear hb5 c0 c1 c2 c3 c4 c5 c6 c7 P0 P1
            obtain ⟨s0, es0⟩ : ∃ s, sqL x0 y0 x1 y1 = s := ⟨_, rfl⟩
            obtain ⟨s1, es1⟩ : ∃ s, sqL x2 y2 x3 y3 = s := ⟨_, rfl⟩
            rw [es0] at E0
            rw [es1] at E1
            rw [es0, es1]
            clear es0 es1
            by_cases hless : s0 < s1
            · have HF := Lib.hid (show (∀ p q, p < q → q < n → p < a → sqAt xs a d ≤ sqAt xs p q) ∧ (∀ q, a < q → q < d + 1 → sqAt xs a d ≤ sqAt xs a q) by
                have e0 := E0.out
                have e1 := E1.out
                refine ⟨fun p q g1 g2 g3 => ?_, fun q g1 g2 => ?_⟩
                · have := HA.out p q g1 g2 g3; omega
                · rcases Nat.lt_succ_iff_lt_or_eq.1 g2 with g | rfl
                  · have := HIn.out q g1 g; omega
                  · exact Int.le_refl _)
              go_wp2_with fail
              go_roundw
              case rel => exact ⟨d + 1, a, d, by omega, by omega, by go_num, rfl, rfl, by omega, by omega, HF.out.1, HF.out.2, HB5.out⟩
              case measure => simp [intOf]; omega
            · have HF := Lib.hid (show ∀ q, a < q → q < d + 1 → sqAt xs i k ≤ sqAt xs a q by
                have e0 := E0.out
                have e1 := E1.out
                intro q g1 g2
                rcases Nat.lt_succ_iff_lt_or_eq.1 g2 with g | rfl
                · exact HIn.out q g1 g
                · omega)
              go_wp2_with fail
              go_roundw
              case rel => exact ⟨d + 1, i, k, by omega, by omega, by go_num, rfl, rfl, by omega, by omega, HA.out, HF.out, HB5.out⟩
              case measure => simp [intOf]; omega
        · have HF := Lib.hid (show ∀ p q, p < q → q < n → p < a + 1 → sqAt xs i k ≤ sqAt xs p q by
            intro p q g1 g2 g3
            rcases Nat.lt_succ_iff_lt_or_eq.1 g3 with g | rfl
            · exact HA.out p q g1 g2 g
            · exact HIn.out q g1 (by omega))
          have HB := Lib.hid hb
          clear hb
          go_wp2_with fail
          go_roundw
          case rel => exact ⟨a + 1, i, k, by omega, by go_num, rfl, rfl, by omega, by omega, HF.out, HB.out⟩
          case measure => simp [intOf]; omega
    · obtain rfl : a = n := by omega
      go_wp2_with fail
      go_ret2
      exact ⟨i, k, hik, hkn, fun p q h1 h2 => HA.out p q h1 h2 (by omega), rfl, HB.out⟩

def liB (n : Nat) (xs : List Int) (m g L : Int) : Bool := fiB n xs m g L && decide (2 ≤ m)
def liV (n : Nat) (xs : List Int) (m g L : Int) : Int := if liB n xs m g L = true then lsOut (fiL n xs m g L) (fiN n xs m g L) else 0
theorem li_no {n : Nat} {xs : List Int} {m g L : Int} (h : liB n xs m g L = false) : liB n xs m g L = false ∧ liV n xs m g L = 0 := by simp [liV, h]
theorem li_yes {n : Nat} {xs : List Int} {m g L : Int} (h : liB n xs m g L = true) : liB n xs m g L = true ∧ liV n xs m g L = lsOut (fiL n xs m g L) (fiN n xs m g L) := by simp [liV, h]
/-- What is known of a file of at least two. -/
theorem fi_open {n : Nat} {xs : List Int} {m g L : Int} (h : fiB n xs m g L = true) : ∃ M : Nat, m = (M : Int) ∧ 1 ≤ M ∧ M ≤ 12 ∧ fiL n xs m g L = flTo n xs g L M ∧ fiN n xs m g L = M ∧ allNear (flTo n xs g L M) M ∧
    (wayB n xs = true ∧ 0 ≤ L ∧ L ≤ lenTo xs (n - 1)) ∧ 1 ≤ g ∧ g ≤ 200 ∧ ((M : Int) - 1) * g ≤ L := by
  have hy := fi_yes h
  simp only [fiB, Bool.and_eq_true, decide_eq_true_eq] at h
  obtain ⟨⟨⟨d1, d2⟩, d3⟩, d4⟩ := h
  obtain ⟨m1, m2⟩ := inB_yes d2
  obtain ⟨g1, g2⟩ := inB_yes d3
  obtain ⟨M, rfl⟩ := Int.eq_ofNat_of_zero_le (show 0 ≤ m by omega)
  rw [Int.toNat_natCast] at hy
  have hs := slB_yes d1
  exact ⟨M, rfl, by omega, by omega, hy.2.1, hy.2.2, fl_near hs g1 d4, hs, g1, g2, d4⟩
set_option maxHeartbeats 1000000 in
theorem LeastInFile_any (v : Value) (n B : Nat) (xs : List Int) (m g L : Int) (w : World) (hv : Rd w B 2 v n xs) (hB : B ≤ w.heap.size) (hn : n ≤ 1099511627776) :
    Calls Try.prog 24 #[v, .int .i64 m, .int .i64 g, .int .i64 L] w fun e w' => e = .returned (.tuple #[.int .i64 (liV n xs m g L), .bool (liB n xs m g L)]) ∧ Below w.heap.size w w' := by
  obtain ⟨A, c, rfl⟩ := hv.form
  have hP := fun W (h : Rd W B 2 (.slice A n c) n xs) (hB : B ≤ W.heap.size) => FileAt_any _ n B xs m g L W h hB hn
  have Hv := Lib.hid hv
  clear hv
  cases h1 : fiB n xs m g L with
  | false =>
    have hf := Lib.hid (li_no (show liB n xs m g L = false by simp [liB, h1]))
    rw [h1] at hP
    have HP := Lib.hid hP
    clear hP
    go_enter Try.func24, Try.ntmps24
    go_wp2_with fail
    refine (HP.out _ Hv.out hB).mono ?_
    rintro e w1 ⟨u, rfl, ho, hb1⟩
    clear ho
    go_wp2_with fail
    go_ret2
    exact ⟨by rw [hf.out.1, hf.out.2]; rfl, hb1⟩
  | true =>
    have ho := fi_open h1
    obtain ⟨M, rfl, m1, m2, e1, e2, hnear, _⟩ := ho
    rw [h1, e1, e2] at hP
    have HP := Lib.hid hP
    have HN := Lib.hid hnear
    clear hP hnear
    by_cases h2 : 2 ≤ M
    · have hf := Lib.hid (li_yes (show liB n xs (M : Int) g L = true by simp [liB, h1]; omega))
      rw [e1, e2] at hf
      clear e1 e2
      have hd : decide ((M : Int) < 2) = false := by simp; omega
      go_enter Try.func24, Try.ntmps24
      go_wp2_with fail
      refine (HP.out _ Hv.out hB).mono ?_
      rintro e w1 ⟨u, rfl, ho, hb1⟩
      have HO := Lib.hid (Rd.of_own ho)
      have HB1 := Lib.hid hb1
      clear ho hb1
      go_wp2_with fail
      refine (closestPair_any u M w1.heap.size _ _ HO.out (Nat.le_refl _) h2 (by omega) HN.out).mono ?_
      rintro e w2 ⟨i, k, hik, hkn, hall, rfl, hb2⟩
      obtain ⟨A', c', rfl⟩ := HO.out.form
      obtain ⟨b, off, rfl, hbB, hc⟩ := (HO.out.below hb2).spot (show 0 < M by omega)
      have hi0 := hc i (by omega)
      have hk0 := hc k (by omega)
      have HE := Lib.hid ((lsOut_eq HN.out hik hkn hall).trans (show sqAt _ i k = sqL _ _ _ _ from rfl))
      obtain ⟨x2, ex2⟩ : ∃ x, X (flTo n xs g L M) i = x := ⟨_, rfl⟩
      obtain ⟨y2, ey2⟩ : ∃ x, Y (flTo n xs g L M) i = x := ⟨_, rfl⟩
      obtain ⟨x3, ex3⟩ : ∃ x, X (flTo n xs g L M) k = x := ⟨_, rfl⟩
      obtain ⟨y3, ey3⟩ : ∃ x, Y (flTo n xs g L M) k = x := ⟨_, rfl⟩
      have n2 := HN.out i (by omega)
      have n3 := HN.out k (by omega)
      rw [ex2, ey2] at hi0 n2
      rw [ex3, ey3] at hk0 n3
      rw [ex2, ey2, ex3, ey3] at HE
      obtain ⟨c4, c5⟩ := hi0
      obtain ⟨c6, c7⟩ := hk0
      have P1 := Lib.hid (fun W => squareOf_any x2 y2 x3 y3 W n2 n3)
      have HB2 := Lib.hid (below_on HB1.out hb2)
      have j4 : (0 : Int) ≤ (i : Int) := by omega
      have j5 : (i : Int) < (M : Int) := by omega
      have j6 : (0 : Int) ≤ (k : Int) := by omega
      have j7 : (k : Int) < (M : Int) := by omega
      clear hc hall ex2 ey2 ex3 ey3 n2 n3 hb2
      go_wp2_with fail
      go_region_held3 (fun W => W.cell? ⟨b, off + i * 2, none⟩ = some (.int .i64 x2) ∧ W.cell? ⟨b, off + i * 2 + 1, none⟩ = some (.int .i64 y2) ∧ W.cell? ⟨b, off + k * 2, none⟩ = some (.int .i64 x3) ∧ W.cell? ⟨b, off + k * 2 + 1, none⟩ = some (.int .i64 y3) ∧ Below w.heap.size w W)
        (first | exact ⟨c4, c5, c6, c7, HB2.out.drew⟩ | (go_split_ands; exact ⟨cell_on hb3 (by assumption), cell_on hb3 (by assumption), cell_on hb3 (by assumption), cell_on hb3 (by assumption), below_on (by assumption) hb3⟩) | go_keep)
        (first | (go_at_call 57; refine (P1.out _).mono ?_; rintro e w3 ⟨rfl, hb3⟩))
      go_split_ands
      rename_i hb9
      go_wp2_with fail
      go_ret2
      exact ⟨by rw [hf.out.1, hf.out.2, HE.out]; rfl, hb9⟩
    · have hf := Lib.hid (li_no (show liB n xs (M : Int) g L = false by simp [liB]; omega))
      have hd : decide ((M : Int) < 2) = true := by simp; omega
      go_enter Try.func24, Try.ntmps24
      go_wp2_with fail
      refine (HP.out _ Hv.out hB).mono ?_
      rintro e w1 ⟨u, rfl, ho, hb1⟩
      clear ho
      go_wp2_with fail
      go_ret2
      exact ⟨by rw [hf.out.1, hf.out.2]; rfl, hb1⟩
end Go.Proofs.Ytciolimmfldpbaa
