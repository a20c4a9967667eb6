/- Contracts of the search for the two moves that come closest, in the program and in the reference. Conditions: the moves of a good transition of at least two performers. -/
import Derived.Test.YtpikhkdgohapeaaPairsSpec
import Derived.Test.YtpikhkdgohapeaaFrac
namespace Go.Proofs.Ytpikhkdgohapeaa
open Go.RowKit

theorem ap_bounds {t : TrN} (h : TrOk t) {i k : Nat} (hi : i < t.n) (hk : k < t.n) : 0 ≤ apT t i k ∧ apT t i k ≤ 42949672960000 ∧ 1 ≤ apB t i k ∧ apB t i k ≤ 13107200 := lp_bounds (okMs h hi hk).1 (okMs h hi hk).2
theorem rm_lt {t : TrN} (hn : 2 ≤ t.n) (a : Nat) {d : Nat} (hd : d ≤ t.n) : (rmOut t t.n a).1 < (rmOut t t.n a).2 ∧ (rmOut t t.n a).2 < t.n ∧ (rmIn t a (rmOut t t.n a) d).1 < (rmIn t a (rmOut t t.n a) d).2 ∧ (rmIn t a (rmOut t t.n a) d).2 < t.n := by
  have h1 := rmOut_lt (t := t) hn a
  have h2 := rmIn_lt (t := t) (a := a) h1 d hd
  exact ⟨h1.1, h1.2, h2.1, h2.2⟩
-- the cells of two moves (worlds' name, first, second) and what the contract says of them
set_option maxRecDepth 100000 in
set_option maxHeartbeats 4000000 in
theorem closestMoves_any (v : Value) (B : Nat) (t : TrN) (w : World) (hv : Rd w B 5 v t.n (mvTo t t.n)) (hB : B ≤ w.heap.size) (hok : TrOk t) (hn : 2 ≤ t.n) :
    Calls Try.prog 50 #[v] w fun e w' => e = .returned (.tuple #[.int .i64 (rmOut t t.n t.n).1, .int .i64 (rmOut t t.n t.n).2]) ∧ Below w.heap.size w w' := by
  have hn1 := hok.n1
  have HRM := Lib.hid (fun (a d : Nat) (hd : d ≤ t.n) => rm_lt hn a hd)
  have HAP := Lib.hid (fun (i k : Nat) (hi : i < t.n) (hk : k < t.n) => ap_bounds hok hi hk)
  have HF := Lib.hid (fun i k => okMs hok (i := i) (k := k))
  have HAT := Lib.hid (fun (i k : Nat) => show apT t i k = lpT (X t.xs i - X t.xs k) (Y t.xs i - Y t.xs k) (X t.ys (plc t i) - X t.ys (plc t k)) (Y t.ys (plc t i) - Y t.ys (plc t k)) ∧ apB t i k = lpB (X t.xs i - X t.xs k) (Y t.xs i - Y t.xs k) (X t.ys (plc t i) - X t.ys (plc t k)) (Y t.ys (plc t i) - Y t.ys (plc t k)) from ⟨rfl, rfl⟩)
  have HLS := Lib.hid (fun (a b : Nat) (s : Nat × Nat) => show lsAt t a b s = decide (apT t a b * apB t s.1 s.2 < apT t s.1 s.2 * apB t a b) from rfl)
  have HO := Lib.hid (show rmOut t t.n 0 = (0, 1) ∧ ∀ a, rmOut t t.n (a + 1) = rmIn t a (rmOut t t.n a) t.n from ⟨rfl, fun a => rfl⟩)
  have HI1 := Lib.hid (fun (a : Nat) (s : Nat × Nat) (d : Nat) (h : d ≤ a + 1) => rmIn_first t a s d h)
  have HIY := Lib.hid (fun (a d : Nat) (s : Nat × Nat) => rmIn_yes (t := t) (a := a) (d := d) (s := s))
  have HIN := Lib.hid (fun (a d : Nat) (s : Nat × Nat) => rmIn_no (t := t) (a := a) (d := d) (s := s))
  obtain ⟨A, c, rfl⟩ := hv.form
  obtain ⟨b, off, rfl, hbB, hcells⟩ := hv.moves (by omega)
  have HC := Lib.hid (fun (W : World) (j : Nat) (hW : Below w.heap.size w W) (hj : j < t.n) => hcells W j (hW.mono hB) hj)
  obtain ⟨n, en⟩ : ∃ n, t.n = n := ⟨_, rfl⟩
  rw [en] at HRM HAP HF HO HC hn1 hn ⊢
  have hn01 : (0 : Int) < (n : Int) := by omega
  have hn02 : (1 : Int) < (n : Int) := by omega
  have hn03 : 0 < n := by omega
  clear hcells hv hok en
  obtain ⟨c0, c1', c2, c3, c4⟩ := HC.out w 0 (Below.refl _ _) (by omega)
  obtain ⟨e0, e1, e2, e3, e4⟩ := HC.out w 1 (Below.refl _ _) (by omega)
  have hokm := HF.out 0 1 (by omega) (by omega)
  have hat := HAT.out 0 1
  obtain ⟨x1, ex1⟩ : ∃ x, X t.xs 0 = x := ⟨_, rfl⟩
  obtain ⟨x2, ex2⟩ : ∃ x, Y t.xs 0 = x := ⟨_, rfl⟩
  obtain ⟨x3, ex3⟩ : ∃ x, X t.ys (plc t 0) = x := ⟨_, rfl⟩
  obtain ⟨x4, ex4⟩ : ∃ x, Y t.ys (plc t 0) = x := ⟨_, rfl⟩
  obtain ⟨y1, ey1⟩ : ∃ x, X t.xs 1 = x := ⟨_, rfl⟩
  obtain ⟨y2, ey2⟩ : ∃ x, Y t.xs 1 = x := ⟨_, rfl⟩
  obtain ⟨y3, ey3⟩ : ∃ x, X t.ys (plc t 1) = x := ⟨_, rfl⟩
  obtain ⟨y4, ey4⟩ : ∃ x, Y t.ys (plc t 1) = x := ⟨_, rfl⟩
  obtain ⟨tc, etc⟩ : ∃ x, t.c = x := ⟨_, rfl⟩
  rw [ex1] at c0
  rw [ex2] at c1'
  rw [ex3] at c2
  rw [ex4] at c3
  rw [etc] at c4 e4
  rw [ey1] at e0
  rw [ey2] at e1
  rw [ey3] at e2
  rw [ey4] at e3
  rw [ex1, ex2, ex3, ex4, ey1, ey2, ey3, ey4] at hokm hat
  have P := fun W => leastApart_any x1 x2 x3 x4 tc y1 y2 y3 y4 tc W hokm.1 hokm.2
  obtain ⟨T, eT⟩ : ∃ q, lpT (x1 - y1) (x2 - y2) (x3 - y3) (x4 - y4) = q := ⟨_, rfl⟩
  obtain ⟨U, eU⟩ : ∃ q, lpB (x1 - y1) (x2 - y2) (x3 - y3) (x4 - y4) = q := ⟨_, rfl⟩
  rw [eT, eU] at hat P
  have HT := Lib.hid hat
  have HP := Lib.hid P
  clear hokm hat ex1 ex2 ex3 ex4 ey1 ey2 ey3 ey4 etc P eT eU
  simp only [Nat.zero_mul, Nat.add_zero, Nat.one_mul] at c0 c1' c2 c3 c4 e0 e1 e2 e3 e4
  go_enter Try.func50, Try.ntmps50
  go_upto_region 2 with (fail)
  go_cut [6, 7] (fun s u wx => s = .int .i64 T ∧ u = .int .i64 U ∧ Below w.heap.size w wx)
  case first =>
    go_region_held3 (fun W => W.cell? ⟨b, off, none⟩ = some (.int .i64 x1) ∧ W.cell? ⟨b, off + 1, none⟩ = some (.int .i64 x2) ∧ W.cell? ⟨b, off + 2, none⟩ = some (.int .i64 x3) ∧ W.cell? ⟨b, off + 3, none⟩ = some (.int .i64 x4) ∧ W.cell? ⟨b, off + 4, none⟩ = some (.int .i64 tc) ∧ W.cell? ⟨b, off + 5, none⟩ = some (.int .i64 y1) ∧ W.cell? ⟨b, off + 5 + 1, none⟩ = some (.int .i64 y2) ∧ W.cell? ⟨b, off + 5 + 2, none⟩ = some (.int .i64 y3) ∧ W.cell? ⟨b, off + 5 + 3, none⟩ = some (.int .i64 y4) ∧ W.cell? ⟨b, off + 5 + 4, none⟩ = some (.int .i64 tc) ∧ Below w.heap.size w W)
      (first | exact ⟨c0, c1', c2, c3, c4, e0, e1, e2, e3, e4, (Below.refl _ _).drew⟩ | (go_split_ands; exact ⟨cell_on hb2 (by assumption), cell_on hb2 (by assumption), cell_on hb2 (by assumption), cell_on hb2 (by assumption), cell_on hb2 (by assumption), cell_on hb2 (by assumption), cell_on hb2 (by assumption), cell_on hb2 (by assumption), cell_on hb2 (by assumption), cell_on hb2 (by assumption), below_on (by assumption) hb2⟩) | go_keep)
      (first | (go_at_call 51; refine (HP.out _).mono ?_; rintro e w2 ⟨rfl, hb2⟩))
    all_goals
      go_split_ands
      go_wp2_with fail
      go_meet
      exact ⟨rfl, rfl, by assumption⟩
  case rest =>
    obtain ⟨rfl, rfl, hb5⟩ := hcut
    have HB := Lib.hid hb5
    have HT0 := HT
    clear hb5 c0 c1' c2 c3 c4 e0 e1 e2 e3 e4 HP HT
    go_wp2_with fail
    go_loopw [4, 5, 6, 7, 24] (fun s u q r x wr => ∃ (a : Nat) (p : Nat × Nat), a ≤ n ∧ p = rmOut t n a ∧ s = .int .i64 p.1 ∧ u = .int .i64 p.2 ∧ q = .int .i64 (apT t p.1 p.2) ∧ r = .int .i64 (apB t p.1 p.2) ∧ x = .int .i64 a ∧ Below w.heap.size w wr) (fun _ _ _ _ x _ => n - (intOf x).toNat)
    case atStart => exact ⟨0, _, Nat.zero_le _, rfl, by rw [HO.out.1]; rfl, by rw [HO.out.1]; rfl, by rw [HO.out.1]; exact congrArg _ HT0.out.1.symm, by rw [HO.out.1]; exact congrArg _ HT0.out.2.symm, rfl, HB.out⟩
    case round =>
      clear HB
      obtain ⟨a, p, ha, hp, rfl, rfl, rfl, rfl, rfl, hb⟩ := hrel
      obtain ⟨wo, rfl⟩ : ∃ wo : World, wo = wr := ⟨_, rfl⟩
      have HB := Lib.hid hb
      have HPO := Lib.hid hp
      clear hb hp
      by_cases hlt : a < n
      · have ha1 : (a : Int) < (n : Int) := by omega
        have ha2 : (0 : Int) ≤ (a : Int) := by omega
        go_wp2_with fail
        go_loopw [4, 5, 6, 7, 9] (fun s u q r x wq => ∃ (d : Nat) (p : Nat × Nat), a + 1 ≤ d ∧ d ≤ n ∧ p = rmIn t a (rmOut t n a) d ∧ s = .int .i64 p.1 ∧ u = .int .i64 p.2 ∧ q = .int .i64 (apT t p.1 p.2) ∧ r = .int .i64 (apB t p.1 p.2) ∧ x = .int .i64 d ∧ Below w.heap.size w wq) (fun _ _ _ _ x _ => n - (intOf x).toNat)
        case atStart => exact ⟨a + 1, p, by omega, by omega, by rw [HI1.out _ _ _ (Nat.le_refl _)]; exact HPO.out, rfl, rfl, rfl, rfl, by go_num, HB.out⟩
        case round =>
          clear HB HPO
          obtain ⟨d, p, hd1, hd2, hp, rfl, rfl, rfl, rfl, rfl, hb⟩ := hrel
          by_cases hlk : d < n
          · have hrm := (HRM.out a d hd2).2.2
            rw [← hp] at hrm
            have hbd := HAP.out p.1 p.2 (by omega) hrm.2
            have hls := HLS.out a d p
            have hyes := HIY.out a d (rmOut t n a) (by omega)
            have hno := HIN.out a d (rmOut t n a)
            rw [← hp] at hyes hno
            obtain ⟨c0, c1', c2, c3, c4⟩ := HC.out wr a hb (by omega)
            obtain ⟨e0, e1, e2, e3, e4⟩ := HC.out wr d hb (by omega)
            have hokm := HF.out a d (by omega) (by omega)
            have hat := HAT.out a d
            obtain ⟨x1, ex1⟩ : ∃ x, X t.xs a = x := ⟨_, rfl⟩
            obtain ⟨x2, ex2⟩ : ∃ x, Y t.xs a = x := ⟨_, rfl⟩
            obtain ⟨x3, ex3⟩ : ∃ x, X t.ys (plc t a) = x := ⟨_, rfl⟩
            obtain ⟨x4, ex4⟩ : ∃ x, Y t.ys (plc t a) = x := ⟨_, rfl⟩
            obtain ⟨y1, ey1⟩ : ∃ x, X t.xs d = x := ⟨_, rfl⟩
            obtain ⟨y2, ey2⟩ : ∃ x, Y t.xs d = x := ⟨_, rfl⟩
            obtain ⟨y3, ey3⟩ : ∃ x, X t.ys (plc t d) = x := ⟨_, rfl⟩
            obtain ⟨y4, ey4⟩ : ∃ x, Y t.ys (plc t d) = x := ⟨_, rfl⟩
            obtain ⟨tc, etc⟩ : ∃ x, t.c = x := ⟨_, rfl⟩
            rw [ex1] at c0
            rw [ex2] at c1'
            rw [ex3] at c2
            rw [ex4] at c3
            rw [etc] at c4 e4
            rw [ey1] at e0
            rw [ey2] at e1
            rw [ey3] at e2
            rw [ey4] at e3
            rw [ex1, ex2, ex3, ex4, ey1, ey2, ey3, ey4] at hokm hat
            have P := fun W => leastApart_any x1 x2 x3 x4 tc y1 y2 y3 y4 tc W hokm.1 hokm.2
            obtain ⟨T, eT⟩ : ∃ q, lpT (x1 - y1) (x2 - y2) (x3 - y3) (x4 - y4) = q := ⟨_, rfl⟩
            obtain ⟨U, eU⟩ : ∃ q, lpB (x1 - y1) (x2 - y2) (x3 - y3) (x4 - y4) = q := ⟨_, rfl⟩
            rw [eT, eU] at hat P
            have HT := Lib.hid hat
            have HP := Lib.hid P
            clear hokm hat ex1 ex2 ex3 ex4 ey1 ey2 ey3 ey4 etc P eT eU
            have hbd2 := HAP.out a d hlt hlk
            rw [HT.out.1, HT.out.2] at hbd2 hls
            obtain ⟨T0, eT0⟩ : ∃ q, apT t p.1 p.2 = q := ⟨_, rfl⟩
            obtain ⟨U0, eU0⟩ : ∃ q, apB t p.1 p.2 = q := ⟨_, rfl⟩
            rw [eT0, eU0] at hbd hls
            have Q := fun W => lessFraction_any T U T0 U0 W (by omega) (by omega) (by omega) (by omega) (by omega) (by omega) (by omega) (by omega)
            rw [← hls] at Q
            obtain ⟨q, eq⟩ : ∃ q, lsAt t a d p = q := ⟨_, rfl⟩
            rw [eq] at Q hyes hno
            have HQ := Lib.hid Q
            have HB := Lib.hid hb
            have HPI := Lib.hid hp
            have HE0 := Lib.hid (And.intro eT0 eU0)
            have i0 : (0 : Int) ≤ (a : Int) := by omega
            have i2 : (0 : Int) ≤ (d : Int) := by omega
            have i3 : (d : Int) < (n : Int) := by omega
            rw [eT0, eU0]
            clear hb hp hls Q eq hbd hbd2 hrm eT0 eU0
            go_upto_region 9 with (fail)
            go_cut [10, 11] (fun s u wx => s = .int .i64 T ∧ u = .int .i64 U ∧ Below wr.heap.size wr wx)
            case first =>
              go_region_held3 (fun W => W.cell? ⟨b, off + a * 5, none⟩ = some (.int .i64 x1) ∧ W.cell? ⟨b, off + a * 5 + 1, none⟩ = some (.int .i64 x2) ∧ W.cell? ⟨b, off + a * 5 + 2, none⟩ = some (.int .i64 x3) ∧ W.cell? ⟨b, off + a * 5 + 3, none⟩ = some (.int .i64 x4) ∧ W.cell? ⟨b, off + a * 5 + 4, none⟩ = some (.int .i64 tc) ∧ W.cell? ⟨b, off + d * 5, none⟩ = some (.int .i64 y1) ∧ W.cell? ⟨b, off + d * 5 + 1, none⟩ = some (.int .i64 y2) ∧ W.cell? ⟨b, off + d * 5 + 2, none⟩ = some (.int .i64 y3) ∧ W.cell? ⟨b, off + d * 5 + 3, none⟩ = some (.int .i64 y4) ∧ W.cell? ⟨b, off + d * 5 + 4, none⟩ = some (.int .i64 tc) ∧ Below wr.heap.size wr W)
                (first | exact ⟨c0, c1', c2, c3, c4, e0, e1, e2, e3, e4, (Below.refl _ _).drew⟩ | (go_split_ands; exact ⟨cell_on hb2 (by assumption), cell_on hb2 (by assumption), cell_on hb2 (by assumption), cell_on hb2 (by assumption), cell_on hb2 (by assumption), cell_on hb2 (by assumption), cell_on hb2 (by assumption), cell_on hb2 (by assumption), cell_on hb2 (by assumption), cell_on hb2 (by assumption), below_on (by assumption) hb2⟩) | go_keep)
                (first | (go_at_call 51; refine (HP.out _).mono ?_; rintro e w2 ⟨rfl, hb2⟩))
              all_goals
                go_split_ands
                go_wp2_with fail
                go_meet
                exact ⟨rfl, rfl, by assumption⟩
            case rest =>
              obtain ⟨rfl, rfl, hb5⟩ := hcut
              have HB5 := Lib.hid (below_on HB.out hb5)
              clear hb5 c0 c1' c2 c3 c4 e0 e1 e2 e3 e4 HP HB
              go_wp2_with fail
              refine (HQ.out _).mono ?_
              rintro e w7 ⟨rfl, rfl⟩
              cases q with
              | false =>
                have HN := Lib.hid (hno rfl)
                go_wp2_with fail
                go_roundw
                case rel => exact ⟨d + 1, p, by omega, by omega, HN.out.symm, rfl, rfl, by rw [HE0.out.1], by rw [HE0.out.2], by go_num, HB5.out⟩
                case measure => simp [intOf]; omega
              | true =>
                have HY := Lib.hid (hyes rfl)
                go_wp2_with fail
                go_roundw
                case rel => exact ⟨d + 1, (a, d), by omega, by omega, HY.out.symm, rfl, rfl, congrArg (Value.int .i64) HT.out.1.symm, congrArg (Value.int .i64) HT.out.2.symm, by go_num, HB5.out⟩
                case measure => simp [intOf]; omega
          · obtain rfl : d = n := by omega
            have HB := Lib.hid hb
            have HPI := Lib.hid hp
            clear hb hp
            go_wp2_with fail
            go_roundw
            case rel => exact ⟨a + 1, p, by omega, by rw [HO.out.2]; exact HPI.out, rfl, rfl, rfl, rfl, by go_num, HB.out⟩
            case measure => simp [intOf]; omega
      · obtain rfl : a = n := by omega
        go_wp2_with fail
        go_ret2
        exact ⟨by rw [← HPO.out]; rfl, HB.out⟩
set_option maxRecDepth 100000 in
set_option maxHeartbeats 4000000 in
theorem apClosest_any (v : Value) (B : Nat) (t : TrN) (w : World) (hv : Rd w B 5 v t.n (mvTo t t.n)) (hB : B ≤ w.heap.size) (hok : TrOk t) (hn : 2 ≤ t.n) :
    Calls Try.prog 77 #[v] w fun e w' => e = .returned (.tuple #[.int .i64 (rmOut t t.n t.n).1, .int .i64 (rmOut t t.n t.n).2]) ∧ Below w.heap.size w w' := by
  have hn1 := hok.n1
  have HRM := Lib.hid (fun (a d : Nat) (hd : d ≤ t.n) => rm_lt hn a hd)
  have HAP := Lib.hid (fun (i k : Nat) (hi : i < t.n) (hk : k < t.n) => ap_bounds hok hi hk)
  have HF := Lib.hid (fun i k => okMs hok (i := i) (k := k))
  have HAT := Lib.hid (fun (i k : Nat) => show apT t i k = lpT (X t.xs i - X t.xs k) (Y t.xs i - Y t.xs k) (X t.ys (plc t i) - X t.ys (plc t k)) (Y t.ys (plc t i) - Y t.ys (plc t k)) ∧ apB t i k = lpB (X t.xs i - X t.xs k) (Y t.xs i - Y t.xs k) (X t.ys (plc t i) - X t.ys (plc t k)) (Y t.ys (plc t i) - Y t.ys (plc t k)) from ⟨rfl, rfl⟩)
  have HLS := Lib.hid (fun (a b : Nat) (s : Nat × Nat) => show lsAt t a b s = decide (apT t a b * apB t s.1 s.2 < apT t s.1 s.2 * apB t a b) from rfl)
  have HO := Lib.hid (show rmOut t t.n 0 = (0, 1) ∧ ∀ a, rmOut t t.n (a + 1) = rmIn t a (rmOut t t.n a) t.n from ⟨rfl, fun a => rfl⟩)
  have HI1 := Lib.hid (fun (a : Nat) (s : Nat × Nat) (d : Nat) (h : d ≤ a + 1) => rmIn_first t a s d h)
  have HIY := Lib.hid (fun (a d : Nat) (s : Nat × Nat) => rmIn_yes (t := t) (a := a) (d := d) (s := s))
  have HIN := Lib.hid (fun (a d : Nat) (s : Nat × Nat) => rmIn_no (t := t) (a := a) (d := d) (s := s))
  obtain ⟨A, c, rfl⟩ := hv.form
  obtain ⟨b, off, rfl, hbB, hcells⟩ := hv.moves (by omega)
  have HC := Lib.hid (fun (W : World) (j : Nat) (hW : Below w.heap.size w W) (hj : j < t.n) => hcells W j (hW.mono hB) hj)
  obtain ⟨n, en⟩ : ∃ n, t.n = n := ⟨_, rfl⟩
  rw [en] at HRM HAP HF HO HC hn1 hn ⊢
  have hn01 : (0 : Int) < (n : Int) := by omega
  have hn02 : (1 : Int) < (n : Int) := by omega
  have hn03 : 0 < n := by omega
  clear hcells hv hok en
  obtain ⟨c0, c1', c2, c3, c4⟩ := HC.out w 0 (Below.refl _ _) (by omega)
  obtain ⟨e0, e1, e2, e3, e4⟩ := HC.out w 1 (Below.refl _ _) (by omega)
  have hokm := HF.out 0 1 (by omega) (by omega)
  have hat := HAT.out 0 1
  obtain ⟨x1, ex1⟩ : ∃ x, X t.xs 0 = x := ⟨_, rfl⟩
  obtain ⟨x2, ex2⟩ : ∃ x, Y t.xs 0 = x := ⟨_, rfl⟩
  obtain ⟨x3, ex3⟩ : ∃ x, X t.ys (plc t 0) = x := ⟨_, rfl⟩
  obtain ⟨x4, ex4⟩ : ∃ x, Y t.ys (plc t 0) = x := ⟨_, rfl⟩
  obtain ⟨y1, ey1⟩ : ∃ x, X t.xs 1 = x := ⟨_, rfl⟩
  obtain ⟨y2, ey2⟩ : ∃ x, Y t.xs 1 = x := ⟨_, rfl⟩
  obtain ⟨y3, ey3⟩ : ∃ x, X t.ys (plc t 1) = x := ⟨_, rfl⟩
  obtain ⟨y4, ey4⟩ : ∃ x, Y t.ys (plc t 1) = x := ⟨_, rfl⟩
  obtain ⟨tc, etc⟩ : ∃ x, t.c = x := ⟨_, rfl⟩
  rw [ex1] at c0
  rw [ex2] at c1'
  rw [ex3] at c2
  rw [ex4] at c3
  rw [etc] at c4 e4
  rw [ey1] at e0
  rw [ey2] at e1
  rw [ey3] at e2
  rw [ey4] at e3
  rw [ex1, ex2, ex3, ex4, ey1, ey2, ey3, ey4] at hokm hat
  have P := fun W => apLeast_any x1 x2 x3 x4 tc y1 y2 y3 y4 tc W hokm.1 hokm.2
  obtain ⟨T, eT⟩ : ∃ q, lpT (x1 - y1) (x2 - y2) (x3 - y3) (x4 - y4) = q := ⟨_, rfl⟩
  obtain ⟨U, eU⟩ : ∃ q, lpB (x1 - y1) (x2 - y2) (x3 - y3) (x4 - y4) = q := ⟨_, rfl⟩
  rw [eT, eU] at hat P
  have HT := Lib.hid hat
  have HP := Lib.hid P
  clear hokm hat ex1 ex2 ex3 ex4 ey1 ey2 ey3 ey4 etc P eT eU
  simp only [Nat.zero_mul, Nat.add_zero, Nat.one_mul] at c0 c1' c2 c3 c4 e0 e1 e2 e3 e4
  go_enter Try.func77, Try.ntmps77
  go_upto_region 2 with (fail)
  go_cut [6, 7] (fun s u wx => s = .int .i64 T ∧ u = .int .i64 U ∧ Below w.heap.size w wx)
  case first =>
    go_region_held3 (fun W => W.cell? ⟨b, off, none⟩ = some (.int .i64 x1) ∧ W.cell? ⟨b, off + 1, none⟩ = some (.int .i64 x2) ∧ W.cell? ⟨b, off + 2, none⟩ = some (.int .i64 x3) ∧ W.cell? ⟨b, off + 3, none⟩ = some (.int .i64 x4) ∧ W.cell? ⟨b, off + 4, none⟩ = some (.int .i64 tc) ∧ W.cell? ⟨b, off + 5, none⟩ = some (.int .i64 y1) ∧ W.cell? ⟨b, off + 5 + 1, none⟩ = some (.int .i64 y2) ∧ W.cell? ⟨b, off + 5 + 2, none⟩ = some (.int .i64 y3) ∧ W.cell? ⟨b, off + 5 + 3, none⟩ = some (.int .i64 y4) ∧ W.cell? ⟨b, off + 5 + 4, none⟩ = some (.int .i64 tc) ∧ Below w.heap.size w W)
      (first | exact ⟨c0, c1', c2, c3, c4, e0, e1, e2, e3, e4, (Below.refl _ _).drew⟩ | (go_split_ands; exact ⟨cell_on hb2 (by assumption), cell_on hb2 (by assumption), cell_on hb2 (by assumption), cell_on hb2 (by assumption), cell_on hb2 (by assumption), cell_on hb2 (by assumption), cell_on hb2 (by assumption), cell_on hb2 (by assumption), cell_on hb2 (by assumption), cell_on hb2 (by assumption), below_on (by assumption) hb2⟩) | go_keep)
      (first | (go_at_call 78; refine (HP.out _).mono ?_; rintro e w2 ⟨rfl, hb2⟩))
    all_goals
      go_split_ands
      go_wp2_with fail
      go_meet
      exact ⟨rfl, rfl, by assumption⟩
  case rest =>
    obtain ⟨rfl, rfl, hb5⟩ := hcut
    have HB := Lib.hid hb5
    have HT0 := HT
    clear hb5 c0 c1' c2 c3 c4 e0 e1 e2 e3 e4 HP HT
    go_wp2_with fail
    go_loopw [4, 5, 6, 7, 25] (fun s u q r x wr => ∃ (a : Nat) (p : Nat × Nat), a ≤ n ∧ p = rmOut t n a ∧ s = .int .i64 p.1 ∧ u = .int .i64 p.2 ∧ q = .int .i64 (apT t p.1 p.2) ∧ r = .int .i64 (apB t p.1 p.2) ∧ x = .int .i64 a ∧ Below w.heap.size w wr) (fun _ _ _ _ x _ => n - (intOf x).toNat)
    case atStart => exact ⟨0, _, Nat.zero_le _, rfl, by rw [HO.out.1]; rfl, by rw [HO.out.1]; rfl, by rw [HO.out.1]; exact congrArg _ HT0.out.1.symm, by rw [HO.out.1]; exact congrArg _ HT0.out.2.symm, rfl, HB.out⟩
    case round =>
      clear HB
      obtain ⟨a, p, ha, hp, rfl, rfl, rfl, rfl, rfl, hb⟩ := hrel
      obtain ⟨wo, rfl⟩ : ∃ wo : World, wo = wr := ⟨_, rfl⟩
      have HB := Lib.hid hb
      have HPO := Lib.hid hp
      clear hb hp
      by_cases hlt : a < n
      · have ha1 : (a : Int) < (n : Int) := by omega
        have ha2 : (0 : Int) ≤ (a : Int) := by omega
        obtain ⟨c0, c1', c2, c3, c4⟩ := HC.out wo a HB.out hlt
        obtain ⟨x1, ex1⟩ : ∃ x, X t.xs a = x := ⟨_, rfl⟩
        obtain ⟨x2, ex2⟩ : ∃ x, Y t.xs a = x := ⟨_, rfl⟩
        obtain ⟨x3, ex3⟩ : ∃ x, X t.ys (plc t a) = x := ⟨_, rfl⟩
        obtain ⟨x4, ex4⟩ : ∃ x, Y t.ys (plc t a) = x := ⟨_, rfl⟩
        obtain ⟨tc, etc⟩ : ∃ x, t.c = x := ⟨_, rfl⟩
        rw [ex1] at c0
        rw [ex2] at c1'
        rw [ex3] at c2
        rw [ex4] at c3
        rw [etc] at c4
        have K := Lib.hid (Blk.new wo 30 #[.int .i64 x1, .int .i64 x2, .int .i64 x3, .int .i64 x4, .int .i64 tc])
        have HBB := Lib.hid (below_new HB.out (.cells #[.int .i64 x1, .int .i64 x2, .int .i64 x3, .int .i64 x4, .int .i64 tc] 30))
        have EX := Lib.hid (And.intro ex1 (And.intro ex2 (And.intro ex3 (And.intro ex4 etc))))
        clear HB ex1 ex2 ex3 ex4 etc
        go_wp2_with fail
        go_loopw [4, 5, 6, 7, 10] (fun s u q r x wq => ∃ (d : Nat) (p : Nat × Nat), a + 1 ≤ d ∧ d ≤ n ∧ p = rmIn t a (rmOut t n a) d ∧ s = .int .i64 p.1 ∧ u = .int .i64 p.2 ∧ q = .int .i64 (apT t p.1 p.2) ∧ r = .int .i64 (apB t p.1 p.2) ∧ x = .int .i64 d ∧ Blk wq wo.heap.size 30 #[.int .i64 x1, .int .i64 x2, .int .i64 x3, .int .i64 x4, .int .i64 tc] ∧ Below w.heap.size w wq) (fun _ _ _ _ x _ => n - (intOf x).toNat)
        case atStart => exact ⟨a + 1, p, by omega, by omega, by rw [HI1.out _ _ _ (Nat.le_refl _)]; exact HPO.out, rfl, rfl, rfl, rfl, by go_num, K.out, HBB.out⟩
        case round =>
          clear HBB K c0 c1' c2 c3 c4 HPO
          obtain ⟨d, p, hd1, hd2, hp, rfl, rfl, rfl, rfl, rfl, hbk, hb⟩ := hrel
          by_cases hlk : d < n
          · have hrm := (HRM.out a d hd2).2.2
            rw [← hp] at hrm
            have hbd := HAP.out p.1 p.2 (by omega) hrm.2
            have hls := HLS.out a d p
            have hyes := HIY.out a d (rmOut t n a) (by omega)
            have hno := HIN.out a d (rmOut t n a)
            rw [← hp] at hyes hno
            obtain ⟨ex1, ex2, ex3, ex4, etc⟩ := EX.out
            obtain ⟨c0, c1', c2, c3, c4⟩ := hbk.c5
            have HK := Lib.hid hbk
            clear hbk
            obtain ⟨e0, e1, e2, e3, e4⟩ := HC.out wr d hb hlk
            have hokm := HF.out a d (by omega) (by omega)
            have hat := HAT.out a d
            obtain ⟨y1, ey1⟩ : ∃ x, X t.xs d = x := ⟨_, rfl⟩
            obtain ⟨y2, ey2⟩ : ∃ x, Y t.xs d = x := ⟨_, rfl⟩
            obtain ⟨y3, ey3⟩ : ∃ x, X t.ys (plc t d) = x := ⟨_, rfl⟩
            obtain ⟨y4, ey4⟩ : ∃ x, Y t.ys (plc t d) = x := ⟨_, rfl⟩
            rw [etc] at e4
            rw [ey1] at e0
            rw [ey2] at e1
            rw [ey3] at e2
            rw [ey4] at e3
            rw [ex1, ex2, ex3, ex4, ey1, ey2, ey3, ey4] at hokm hat
            have P := fun W => apLeast_any x1 x2 x3 x4 tc y1 y2 y3 y4 tc W hokm.1 hokm.2
            obtain ⟨T, eT⟩ : ∃ q, lpT (x1 - y1) (x2 - y2) (x3 - y3) (x4 - y4) = q := ⟨_, rfl⟩
            obtain ⟨U, eU⟩ : ∃ q, lpB (x1 - y1) (x2 - y2) (x3 - y3) (x4 - y4) = q := ⟨_, rfl⟩
            rw [eT, eU] at hat P
            have HT := Lib.hid hat
            have HP := Lib.hid P
            clear hokm hat ex1 ex2 ex3 ex4 ey1 ey2 ey3 ey4 etc P eT eU
            have hbd2 := HAP.out a d hlt hlk
            rw [HT.out.1, HT.out.2] at hbd2 hls
            obtain ⟨T0, eT0⟩ : ∃ q, apT t p.1 p.2 = q := ⟨_, rfl⟩
            obtain ⟨U0, eU0⟩ : ∃ q, apB t p.1 p.2 = q := ⟨_, rfl⟩
            rw [eT0, eU0] at hbd hls
            have Q := fun W => apLess_any T U T0 U0 W (by omega) (by omega) (by omega) (by omega) (by omega) (by omega) (by omega) (by omega)
            rw [← hls] at Q
            obtain ⟨q, eq⟩ : ∃ q, lsAt t a d p = q := ⟨_, rfl⟩
            rw [eq] at Q hyes hno
            have HQ := Lib.hid Q
            have HB := Lib.hid hb
            have HPI := Lib.hid hp
            have HE0 := Lib.hid (And.intro eT0 eU0)
            have i0 : (0 : Int) ≤ (a : Int) := by omega
            have i2 : (0 : Int) ≤ (d : Int) := by omega
            have i3 : (d : Int) < (n : Int) := by omega
            rw [eT0, eU0]
            clear hb hp hls Q eq hbd hbd2 hrm eT0 eU0
            go_upto_region 9 with (fail)
            go_cut [11, 12] (fun s u wx => s = .int .i64 T ∧ u = .int .i64 U ∧ Below wr.heap.size wr wx)
            case first =>
              go_region_held3 (fun W => W.cell? ⟨wo.heap.size, 0, none⟩ = some (.int .i64 x1) ∧ W.cell? ⟨wo.heap.size, 1, none⟩ = some (.int .i64 x2) ∧ W.cell? ⟨wo.heap.size, 2, none⟩ = some (.int .i64 x3) ∧ W.cell? ⟨wo.heap.size, 3, none⟩ = some (.int .i64 x4) ∧ W.cell? ⟨wo.heap.size, 4, none⟩ = some (.int .i64 tc) ∧ W.cell? ⟨b, off + d * 5, none⟩ = some (.int .i64 y1) ∧ W.cell? ⟨b, off + d * 5 + 1, none⟩ = some (.int .i64 y2) ∧ W.cell? ⟨b, off + d * 5 + 2, none⟩ = some (.int .i64 y3) ∧ W.cell? ⟨b, off + d * 5 + 3, none⟩ = some (.int .i64 y4) ∧ W.cell? ⟨b, off + d * 5 + 4, none⟩ = some (.int .i64 tc) ∧ Below wr.heap.size wr W)
                (first | exact ⟨c0, c1', c2, c3, c4, e0, e1, e2, e3, e4, (Below.refl _ _).drew⟩ | (go_split_ands; exact ⟨cell_on hb2 (by assumption), cell_on hb2 (by assumption), cell_on hb2 (by assumption), cell_on hb2 (by assumption), cell_on hb2 (by assumption), cell_on hb2 (by assumption), cell_on hb2 (by assumption), cell_on hb2 (by assumption), cell_on hb2 (by assumption), cell_on hb2 (by assumption), below_on (by assumption) hb2⟩) | go_keep)
                (first | (go_at_call 78; refine (HP.out _).mono ?_; rintro e w2 ⟨rfl, hb2⟩))
              all_goals
                go_split_ands
                go_wp2_with fail
                go_meet
                exact ⟨rfl, rfl, by assumption⟩
            case rest =>
              obtain ⟨rfl, rfl, hb5⟩ := hcut
              have HB5 := Lib.hid (below_on HB.out hb5)
              have HK5 := Lib.hid (HK.out.on hb5)
              clear hb5 c0 c1' c2 c3 c4 e0 e1 e2 e3 e4 HP HB
              go_wp2_with fail
              refine (HQ.out _).mono ?_
              rintro e w7 ⟨rfl, h7⟩
              replace HB5 := Lib.hid (below_on HB5.out h7)
              replace HK5 := Lib.hid (HK5.out.on h7)
              clear h7
              cases q with
              | false =>
                have HN := Lib.hid (hno rfl)
                go_wp2_with fail
                go_roundw
                case rel => exact ⟨d + 1, p, by omega, by omega, HN.out.symm, rfl, rfl, by rw [HE0.out.1], by rw [HE0.out.2], by go_num, HK5.out, HB5.out⟩
                case measure => simp [intOf]; omega
              | true =>
                have HY := Lib.hid (hyes rfl)
                go_wp2_with fail
                go_roundw
                case rel => exact ⟨d + 1, (a, d), by omega, by omega, HY.out.symm, rfl, rfl, congrArg (Value.int .i64) HT.out.1.symm, congrArg (Value.int .i64) HT.out.2.symm, by go_num, HK5.out, HB5.out⟩
                case measure => simp [intOf]; omega
          · obtain rfl : d = n := by omega
            have HB := Lib.hid hb
            have HPI := Lib.hid hp
            clear hb hp
            go_wp2_with fail
            go_roundw
            case rel => exact ⟨a + 1, p, by omega, by rw [HO.out.2]; exact HPI.out, rfl, rfl, rfl, rfl, by go_num, HB.out⟩
            case measure => simp [intOf]; omega
      · obtain rfl : a = n := by omega
        go_wp2_with fail
        go_ret2
        exact ⟨by rw [← HPO.out]; rfl, HB.out⟩
end Go.Proofs.Ytpikhkdgohapeaa
