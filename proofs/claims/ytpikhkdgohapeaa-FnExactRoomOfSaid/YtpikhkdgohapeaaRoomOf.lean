/- Contracts of the two RoomOf. Conditions: the transition's slices can be read, and are short. -/
import Derived.Test.YtpikhkdgohapeaaNearest
import Derived.Test.YtpikhkdgohapeaaTimes
import Derived.OwnWalk
namespace Go.Proofs.Ytpikhkdgohapeaa
open Go.RowKit

theorem rm_last {t : TrN} (hn : 2 ≤ t.n) : (rmOut t t.n t.n).1 < t.n ∧ (rmOut t t.n t.n).2 < t.n := by
  have := rmOut_lt (t := t) hn t.n
  omega
set_option maxRecDepth 100000 in
set_option maxHeartbeats 2000000 in
theorem apList_any (v : Value) (B : Nat) (t : TrN) (w : World) (hv : Rd w B 5 v t.n (mvTo t t.n)) (hB : B ≤ w.heap.size) (hok : TrOk t) (hn : 2 ≤ t.n) :
    Calls Try.prog 76 #[v] w fun e w' => e = .returned (.bool true) ∧ Below w.heap.size w w' := by
  have HMV := Lib.hid (fun i (hi : i < t.n) => mvB_of hok hi)
  have hn1 := hok.n1
  obtain ⟨A, c, rfl⟩ := hv.form
  obtain ⟨b, off, rfl, hbB, hcells⟩ := hv.moves (by omega)
  have HC := Lib.hid (fun (W : World) (j : Nat) (hW : Below w.heap.size w W) (hj : j < t.n) => hcells W j (hW.mono hB) hj)
  obtain ⟨n, en⟩ : ∃ n, t.n = n := ⟨_, rfl⟩
  rw [en] at HMV HC hn1 hn ⊢
  have hn03 : 0 < n := by omega
  have hn01 : (0 : Int) < (n : Int) := by omega
  have hq := fun W => l1In_any (n : Int) 2 12 W
  rw [show inB (n : Int) 2 12 = true by simp [inB]; omega] at hq
  have HQ := Lib.hid hq
  clear hcells hv hok en hq
  go_enter Try.func76, Try.ntmps76
  go_wp2_with fail
  go_loopw [7] (fun s wr => ∃ j : Nat, j ≤ n ∧ s = .int .i64 j ∧ Below w.heap.size w wr) (fun s _ => n - (intOf s).toNat)
  case atStart => exact ⟨0, Nat.zero_le _, rfl, Below.refl _ _⟩
  case round =>
    obtain ⟨j, hj, rfl, hb⟩ := hrel
    have HB := Lib.hid hb
    clear hb
    by_cases hlt : j < n
    · have j0 : (0 : Int) ≤ (j : Int) := by omega
      have j1 : (j : Int) < (n : Int) := by omega
      obtain ⟨c0, c1', c2, c3, c4⟩ := HC.out wr 0 HB.out hn03
      obtain ⟨e0, e1, e2, e3, e4⟩ := HC.out wr j HB.out hlt
      have hm0 := HMV.out 0 hn03
      have hmj := HMV.out j hlt
      obtain ⟨x1, ex1⟩ : ∃ x, X t.xs 0 = x := ⟨_, rfl⟩
      obtain ⟨x2, ex2⟩ : ∃ x, Y t.xs 0 = x := ⟨_, rfl⟩
      obtain ⟨x3, ex3⟩ : ∃ x, X t.ys (plc t 0) = x := ⟨_, rfl⟩
      obtain ⟨x4, ex4⟩ : ∃ x, Y t.ys (plc t 0) = x := ⟨_, rfl⟩
      obtain ⟨y1, ey1⟩ : ∃ x, X t.xs j = x := ⟨_, rfl⟩
      obtain ⟨y2, ey2⟩ : ∃ x, Y t.xs j = x := ⟨_, rfl⟩
      obtain ⟨y3, ey3⟩ : ∃ x, X t.ys (plc t j) = x := ⟨_, rfl⟩
      obtain ⟨y4, ey4⟩ : ∃ x, Y t.ys (plc t j) = x := ⟨_, rfl⟩
      obtain ⟨tc, etc⟩ : ∃ x, t.c = x := ⟨_, rfl⟩
      rw [ex1] at c0
      rw [ex2] at c1'
      rw [ex3] at c2
      rw [ex4] at c3
      rw [etc] at c4 e4
      rw [ey1] at e0
      rw [ey2] at e1
      rw [ey3] at e2
      rw [ey4] at e3
      rw [ex1, ex2, ex3, ex4, etc] at hm0
      rw [ey1, ey2, ey3, ey4, etc] at hmj
      have HP := Lib.hid (fun W => apGood_any x1 x2 x3 x4 y1 y2 y3 y4 tc W hm0 hmj)
      have k0 := Blk.new wr 30 #[.int .i64 y1, .int .i64 y2, .int .i64 y3, .int .i64 y4, .int .i64 tc]
      have hb0 := below_new (Below.refl wr.heap.size wr) (.cells #[.int .i64 y1, .int .i64 y2, .int .i64 y3, .int .i64 y4, .int .i64 tc] 30)
      simp only [Nat.zero_mul, Nat.add_zero] at c0 c1' c2 c3 c4
      have d0 := cell_on hb0 c0
      have d1 := cell_on hb0 c1'
      have d2 := cell_on hb0 c2
      have d3 := cell_on hb0 c3
      have d4 := cell_on hb0 c4
      obtain ⟨g0, g1, g2, g3, g4⟩ := k0.c5
      have HB0 := Lib.hid (HB.out.trans (hb0.mono HB.out.size))
      clear hm0 hmj ex1 ex2 ex3 ex4 ey1 ey2 ey3 ey4 etc c0 c1' c2 c3 c4 k0 hb0
      go_upto_region 4 with (fail)
      go_cut [16] (fun s wx => s = .bool false ∧ Below w.heap.size w wx)
      case first =>
        go_region_held3 (fun W => W.cell? ⟨b, off, none⟩ = some (.int .i64 x1) ∧ W.cell? ⟨b, off + 1, none⟩ = some (.int .i64 x2) ∧ W.cell? ⟨b, off + 2, none⟩ = some (.int .i64 x3) ∧ W.cell? ⟨b, off + 3, none⟩ = some (.int .i64 x4) ∧ W.cell? ⟨b, off + 4, none⟩ = some (.int .i64 tc) ∧ W.cell? ⟨wr.heap.size, 0, none⟩ = some (.int .i64 y1) ∧ W.cell? ⟨wr.heap.size, 1, none⟩ = some (.int .i64 y2) ∧ W.cell? ⟨wr.heap.size, 2, none⟩ = some (.int .i64 y3) ∧ W.cell? ⟨wr.heap.size, 3, none⟩ = some (.int .i64 y4) ∧ W.cell? ⟨wr.heap.size, 4, none⟩ = some (.int .i64 tc) ∧ Below w.heap.size w W)
          (first | exact ⟨d0, d1, d2, d3, d4, g0, g1, g2, g3, g4, HB0.out.drew⟩ | (go_split_ands; exact ⟨cell_on hb2 (by assumption), cell_on hb2 (by assumption), cell_on hb2 (by assumption), cell_on hb2 (by assumption), cell_on hb2 (by assumption), cell_on hb2 (by assumption), cell_on hb2 (by assumption), cell_on hb2 (by assumption), cell_on hb2 (by assumption), cell_on hb2 (by assumption), below_on (by assumption) hb2⟩) | go_keep)
          (first | (go_at_call 38; refine (HP.out _).mono ?_; rintro e w2 ⟨rfl, hb2⟩))
        all_goals
          go_split_ands
          go_wp2_with fail
          go_meet
          exact ⟨rfl, by assumption⟩
      case rest =>
        obtain ⟨rfl, hb5⟩ := hcut
        have HB5 := Lib.hid hb5
        clear hb5 d0 d1 d2 d3 d4 e0 e1 e2 e3 e4 g0 g1 g2 g3 g4 HB HB0
        go_wp2_with fail
        go_roundw
        case rel => exact ⟨j + 1, by omega, by go_num, HB5.out⟩
        case measure => simp [intOf]; omega
    · obtain rfl : j = n := by omega
      go_wp2_with fail
      refine (HQ.out _).mono ?_
      rintro e w2 ⟨rfl, rfl⟩
      go_wp2_with fail
      go_ret
      exact ⟨rfl, HB.out⟩
set_option maxRecDepth 100000 in
set_option maxHeartbeats 2000000 in
theorem LeastOfAll_any (v : Value) (B : Nat) (t : TrN) (w : World) (hv : Rd w B 5 v t.n (mvTo t t.n)) (hB : B ≤ w.heap.size) (hok : TrOk t) (hn : 2 ≤ t.n) :
    Calls Try.prog 44 #[v] w fun e w' => e = .returned (.tuple #[.int .i64 (apT t (rmOut t t.n t.n).1 (rmOut t t.n t.n).2), .int .i64 (apB t (rmOut t t.n t.n).1 (rmOut t t.n t.n).2), .bool true]) ∧ Below w.heap.size w w' := by
  have HP1 := Lib.hid (fun W (hW : Below w.heap.size w W) => apList_any v B t W (hv.below' hW hB) (Nat.le_trans hB hW.size) hok hn)
  have HP2 := Lib.hid (fun W (hW : Below w.heap.size w W) => apClosest_any v B t W (hv.below' hW hB) (Nat.le_trans hB hW.size) hok hn)
  have HF := Lib.hid (fun i k => okMs hok (i := i) (k := k))
  obtain ⟨hi, hk⟩ := rm_last hn
  obtain ⟨A, c, rfl⟩ := hv.form
  obtain ⟨b, off, rfl, hbB, hcells⟩ := hv.moves (by omega)
  have HC := Lib.hid (fun (W : World) (j : Nat) (hW : Below w.heap.size w W) (hj : j < t.n) => hcells W j (hW.mono hB) hj)
  obtain ⟨i, ei⟩ : ∃ i, (rmOut t t.n t.n).1 = i := ⟨_, rfl⟩
  obtain ⟨k, ek⟩ : ∃ i, (rmOut t t.n t.n).2 = i := ⟨_, rfl⟩
  rw [ei] at hi HP2 ⊢
  rw [ek] at hk HP2 ⊢
  have HAT : apT t i k = lpT (X t.xs i - X t.xs k) (Y t.xs i - Y t.xs k) (X t.ys (plc t i) - X t.ys (plc t k)) (Y t.ys (plc t i) - Y t.ys (plc t k)) ∧ apB t i k = lpB (X t.xs i - X t.xs k) (Y t.xs i - Y t.xs k) (X t.ys (plc t i) - X t.ys (plc t k)) (Y t.ys (plc t i) - Y t.ys (plc t k)) := ⟨rfl, rfl⟩
  clear hcells hv hok ei ek
  go_enter Try.func44, Try.ntmps44
  go_wp2_with fail
  refine (HP1.out _ (Below.refl _ _)).mono ?_
  rintro e w1 ⟨rfl, h1⟩
  have HB1 := Lib.hid h1
  clear h1
  go_wp2_with fail
  refine (HP2.out _ HB1.out).mono ?_
  rintro e w2 ⟨rfl, h2⟩
  have HB2 := Lib.hid (below_on HB1.out h2)
  clear h2
  obtain ⟨c0, c1', c2, c3, c4⟩ := HC.out w2 i HB2.out hi
  obtain ⟨e0, e1, e2, e3, e4⟩ := HC.out w2 k HB2.out hk
  have hokm := HF.out i k hi hk
  obtain ⟨x1, ex1⟩ : ∃ x, X t.xs i = x := ⟨_, rfl⟩
  obtain ⟨x2, ex2⟩ : ∃ x, Y t.xs i = x := ⟨_, rfl⟩
  obtain ⟨x3, ex3⟩ : ∃ x, X t.ys (plc t i) = x := ⟨_, rfl⟩
  obtain ⟨x4, ex4⟩ : ∃ x, Y t.ys (plc t i) = x := ⟨_, rfl⟩
  obtain ⟨y1, ey1⟩ : ∃ x, X t.xs k = x := ⟨_, rfl⟩
  obtain ⟨y2, ey2⟩ : ∃ x, Y t.xs k = x := ⟨_, rfl⟩
  obtain ⟨y3, ey3⟩ : ∃ x, X t.ys (plc t k) = x := ⟨_, rfl⟩
  obtain ⟨y4, ey4⟩ : ∃ x, Y t.ys (plc t k) = x := ⟨_, rfl⟩
  obtain ⟨tc, etc⟩ : ∃ x, t.c = x := ⟨_, rfl⟩
  rw [ex1] at c0
  rw [ex2] at c1'
  rw [ex3] at c2
  rw [ex4] at c3
  rw [etc] at c4 e4
  rw [ey1] at e0
  rw [ey2] at e1
  rw [ey3] at e2
  rw [ey4] at e3
  rw [ex1, ex2, ex3, ex4, ey1, ey2, ey3, ey4] at hokm HAT
  have P := fun W => apLeast_any x1 x2 x3 x4 tc y1 y2 y3 y4 tc W hokm.1 hokm.2
  obtain ⟨T, eT⟩ : ∃ q, lpT (x1 - y1) (x2 - y2) (x3 - y3) (x4 - y4) = q := ⟨_, rfl⟩
  obtain ⟨U, eU⟩ : ∃ q, lpB (x1 - y1) (x2 - y2) (x3 - y3) (x4 - y4) = q := ⟨_, rfl⟩
  rw [eT, eU] at P HAT
  have HP := Lib.hid P
  replace HAT := Lib.hid HAT
  have i0 : (0 : Int) ≤ (i : Int) := by omega
  have i1 : (i : Int) < (t.n : Int) := by omega
  have i2 : (0 : Int) ≤ (k : Int) := by omega
  have i3 : (k : Int) < (t.n : Int) := by omega
  clear hokm ex1 ex2 ex3 ex4 ey1 ey2 ey3 ey4 etc P eT eU
  go_upto_region 4 with (fail)
  go_cut [7, 8] (fun s u wx => s = .int .i64 T ∧ u = .int .i64 U ∧ Below w2.heap.size w2 wx)
  case first =>
    go_region_held3 (fun W => W.cell? ⟨b, off + i * 5, none⟩ = some (.int .i64 x1) ∧ W.cell? ⟨b, off + i * 5 + 1, none⟩ = some (.int .i64 x2) ∧ W.cell? ⟨b, off + i * 5 + 2, none⟩ = some (.int .i64 x3) ∧ W.cell? ⟨b, off + i * 5 + 3, none⟩ = some (.int .i64 x4) ∧ W.cell? ⟨b, off + i * 5 + 4, none⟩ = some (.int .i64 tc) ∧ W.cell? ⟨b, off + k * 5, none⟩ = some (.int .i64 y1) ∧ W.cell? ⟨b, off + k * 5 + 1, none⟩ = some (.int .i64 y2) ∧ W.cell? ⟨b, off + k * 5 + 2, none⟩ = some (.int .i64 y3) ∧ W.cell? ⟨b, off + k * 5 + 3, none⟩ = some (.int .i64 y4) ∧ W.cell? ⟨b, off + k * 5 + 4, none⟩ = some (.int .i64 tc) ∧ Below w2.heap.size w2 W)
      (first | exact ⟨c0, c1', c2, c3, c4, e0, e1, e2, e3, e4, (Below.refl _ _).drew⟩ | (go_split_ands; exact ⟨cell_on hb2 (by assumption), cell_on hb2 (by assumption), cell_on hb2 (by assumption), cell_on hb2 (by assumption), cell_on hb2 (by assumption), cell_on hb2 (by assumption), cell_on hb2 (by assumption), cell_on hb2 (by assumption), cell_on hb2 (by assumption), cell_on hb2 (by assumption), below_on (by assumption) hb2⟩) | go_keep)
      (first | (go_at_call 78; refine (HP.out _).mono ?_; rintro e w2 ⟨rfl, hb2⟩))
    all_goals
      go_split_ands
      go_wp2_with fail
      go_meet
      exact ⟨rfl, rfl, by assumption⟩
  case rest =>
    obtain ⟨rfl, rfl, hb5⟩ := hcut
    have HB5 := Lib.hid (below_on HB2.out hb5)
    clear hb5 c0 c1' c2 c3 c4 e0 e1 e2 e3 e4 HP
    go_wp2_with fail
    go_ret3
    exact ⟨by rw [HAT.out.1, HAT.out.2]; rfl, HB5.out⟩
set_option maxRecDepth 100000 in
set_option maxHeartbeats 2000000 in
theorem RoomOf_any (v : Value) (B : Nat) (t : TrN) (w : World) (hcp : CapT v) (hv : RdT w B v t) (hB : B ≤ w.heap.size) (hs : t.small) :
    Calls Try.prog 17 #[v] w fun e w' => e = .returned (.tuple #[.int .i64 (roA t), .int .i64 (roC t), .bool (roB t)]) ∧ Below w.heap.size w w' := by
  obtain ⟨A, ca, C, cb, D, cc, rfl, _, _, _⟩ := hv.form
  have hb0 : Below w.heap.size w (w.alloc (.cells #[.slice A t.n ca, .slice C t.m cb, .int .i64 t.c, .slice D t.p cc] 43)) := below_new (Below.refl _ _) _
  have k0 := Blk.new w 43 #[.slice A t.n ca, .slice C t.m cb, .int .i64 t.c, .slice D t.p cc]
  have Hv := Lib.hid (fun W (hb : Below w.heap.size w W) => hv.below' hb hB)
  have Hc := Lib.hid hcp
  have HB0 := Lib.hid hb0
  have K0 := Lib.hid k0
  obtain ⟨a0, a1, a2, a3⟩ := k0.c4
  clear hv hcp hb0 k0
  have P := IsTransition_any _ B t _ Hc.out (Hv.out _ HB0.out) (Nat.le_trans hB HB0.out.size) hs
  have hT : roB t = (trB t && decide (2 ≤ t.n)) := rfl
  cases b1 : trB t with
  | false =>
    have HT := Lib.hid (ro_no (show roB t = false by rw [hT, b1]; rfl))
    rw [b1] at P
    have HP := Lib.hid P
    clear P hT b1
    go_enter Try.func17, Try.ntmps17
    go_wp2_with fail
    refine HP.out.mono ?_
    rintro e w2 ⟨rfl, h2⟩
    have HB1 := Lib.hid (below_on HB0.out h2)
    have K1 := Lib.hid (K0.out.on h2)
    clear h2 a0 a1 a2 a3 HB0 K0
    have HB0 := HB1
    have K0 := K1
    clear HB1 K1
    obtain ⟨a0, a1, a2, a3⟩ := K0.out.c4
    go_wp2_with fail
    go_ret3
    exact ⟨by rw [HT.out.1, HT.out.2.1, HT.out.2.2]; rfl, HB0.out⟩
  | true =>
    rw [b1] at P
    have HP := Lib.hid P
    by_cases hn : 2 ≤ t.n
    · have HT := Lib.hid (ro_yes (show roB t = true by rw [hT, b1, decide_eq_true hn]; rfl))
      have hok := tr_ok b1
      have HQ1 := Lib.hid (fun W (hb : Below w.heap.size w W) => movesOf_any _ B t W (Hv.out W hb) (Nat.le_trans hB hb.size) hok)
      have HCL := Lib.hid (fun (u : Value) (C : Nat) (W : World) (h1 : Rd W C 5 u t.n (mvTo t t.n)) (h2 : C ≤ W.heap.size) => closestMoves_any u C t W h1 h2 hok hn)
      have HF := Lib.hid (fun i k => okMs hok (i := i) (k := k))
      obtain ⟨hi, hk⟩ := rm_last hn
      have HAT : apT t (rmOut t t.n t.n).1 (rmOut t t.n t.n).2 = lpT (X t.xs (rmOut t t.n t.n).1 - X t.xs (rmOut t t.n t.n).2) (Y t.xs (rmOut t t.n t.n).1 - Y t.xs (rmOut t t.n t.n).2) (X t.ys (plc t (rmOut t t.n t.n).1) - X t.ys (plc t (rmOut t t.n t.n).2)) (Y t.ys (plc t (rmOut t t.n t.n).1) - Y t.ys (plc t (rmOut t t.n t.n).2)) ∧ apB t (rmOut t t.n t.n).1 (rmOut t t.n t.n).2 = lpB (X t.xs (rmOut t t.n t.n).1 - X t.xs (rmOut t t.n t.n).2) (Y t.xs (rmOut t t.n t.n).1 - Y t.xs (rmOut t t.n t.n).2) (X t.ys (plc t (rmOut t t.n t.n).1) - X t.ys (plc t (rmOut t t.n t.n).2)) (Y t.ys (plc t (rmOut t t.n t.n).1) - Y t.ys (plc t (rmOut t t.n t.n).2)) := ⟨rfl, rfl⟩
      obtain ⟨i, ei⟩ : ∃ i, (rmOut t t.n t.n).1 = i := ⟨_, rfl⟩
      obtain ⟨k, ek⟩ : ∃ i, (rmOut t t.n t.n).2 = i := ⟨_, rfl⟩
      rw [ei, ek] at HT HAT
      rw [ei] at hi HCL
      rw [ek] at hk HCL
      have hn2 : ¬ (t.n : Int) < 2 := by omega
      have hn3 : decide ((t.n : Int) < 2) = false := by simp; omega
      clear P hT b1 hok ei ek
      go_enter Try.func17, Try.ntmps17
      go_wp2_with fail
      refine HP.out.mono ?_
      rintro e w2 ⟨rfl, h2⟩
      have HB1 := Lib.hid (below_on HB0.out h2)
      have K1 := Lib.hid (K0.out.on h2)
      clear h2 a0 a1 a2 a3 HB0 K0
      have HB0 := HB1
      have K0 := K1
      clear HB1 K1
      obtain ⟨a0, a1, a2, a3⟩ := K0.out.c4
      go_wp2_with fail
      refine (HQ1.out _ HB0.out).mono ?_
      rintro e w1 ⟨mv, rfl, o1, b1⟩
      obtain ⟨A1, c1, rfl⟩ := (Rd.of_own o1).form
      have HM := Lib.hid (Rd.of_own o1)
      obtain ⟨b, off, rfl, hbB, hcells⟩ := (Rd.of_own o1).moves (by omega)
      have HC := Lib.hid hcells
      have HB1 := Lib.hid (below_on HB0.out b1)
      clear o1 b1 hcells a0 a1 a2 a3 K0 HB0
      go_wp2_with fail
      refine (HCL.out _ _ _ HM.out (Nat.le_refl _)).mono ?_
      rintro e w3 ⟨rfl, h3⟩
      have HB3 := Lib.hid (below_on HB1.out h3)
      have HW3 := Lib.hid h3
      clear h3
      obtain ⟨c0, c1', c2, c3, c4⟩ := HC.out w3 i HW3.out hi
      obtain ⟨e0, e1, e2, e3, e4⟩ := HC.out w3 k HW3.out hk
      have hokm := HF.out i k hi hk
      obtain ⟨x1, ex1⟩ : ∃ x, X t.xs i = x := ⟨_, rfl⟩
      obtain ⟨x2, ex2⟩ : ∃ x, Y t.xs i = x := ⟨_, rfl⟩
      obtain ⟨x3, ex3⟩ : ∃ x, X t.ys (plc t i) = x := ⟨_, rfl⟩
      obtain ⟨x4, ex4⟩ : ∃ x, Y t.ys (plc t i) = x := ⟨_, rfl⟩
      obtain ⟨y1, ey1⟩ : ∃ x, X t.xs k = x := ⟨_, rfl⟩
      obtain ⟨y2, ey2⟩ : ∃ x, Y t.xs k = x := ⟨_, rfl⟩
      obtain ⟨y3, ey3⟩ : ∃ x, X t.ys (plc t k) = x := ⟨_, rfl⟩
      obtain ⟨y4, ey4⟩ : ∃ x, Y t.ys (plc t k) = x := ⟨_, rfl⟩
      obtain ⟨tc, etc⟩ : ∃ x, t.c = x := ⟨_, rfl⟩
      rw [ex1] at c0
      rw [ex2] at c1'
      rw [ex3] at c2
      rw [ex4] at c3
      rw [etc] at c4 e4
      rw [ey1] at e0
      rw [ey2] at e1
      rw [ey3] at e2
      rw [ey4] at e3
      rw [ex1, ex2, ex3, ex4, ey1, ey2, ey3, ey4] at hokm HAT
      have P := fun W => leastApart_any x1 x2 x3 x4 tc y1 y2 y3 y4 tc W hokm.1 hokm.2
      obtain ⟨T, eT⟩ : ∃ q, lpT (x1 - y1) (x2 - y2) (x3 - y3) (x4 - y4) = q := ⟨_, rfl⟩
      obtain ⟨U, eU⟩ : ∃ q, lpB (x1 - y1) (x2 - y2) (x3 - y3) (x4 - y4) = q := ⟨_, rfl⟩
      rw [eT, eU] at P HAT
      have HP := Lib.hid P
      replace HAT := Lib.hid HAT
      have i0 : (0 : Int) ≤ (i : Int) := by omega
      have i1 : (i : Int) < (t.n : Int) := by omega
      have i2 : (0 : Int) ≤ (k : Int) := by omega
      have i3 : (k : Int) < (t.n : Int) := by omega
      clear hokm ex1 ex2 ex3 ex4 ey1 ey2 ey3 ey4 etc P eT eU
      go_upto_region 5 with (fail)
      go_cut [8, 9] (fun s u wx => s = .int .i64 T ∧ u = .int .i64 U ∧ Below w3.heap.size w3 wx)
      case first =>
        go_region_held3 (fun W => W.cell? ⟨b, off + i * 5, none⟩ = some (.int .i64 x1) ∧ W.cell? ⟨b, off + i * 5 + 1, none⟩ = some (.int .i64 x2) ∧ W.cell? ⟨b, off + i * 5 + 2, none⟩ = some (.int .i64 x3) ∧ W.cell? ⟨b, off + i * 5 + 3, none⟩ = some (.int .i64 x4) ∧ W.cell? ⟨b, off + i * 5 + 4, none⟩ = some (.int .i64 tc) ∧ W.cell? ⟨b, off + k * 5, none⟩ = some (.int .i64 y1) ∧ W.cell? ⟨b, off + k * 5 + 1, none⟩ = some (.int .i64 y2) ∧ W.cell? ⟨b, off + k * 5 + 2, none⟩ = some (.int .i64 y3) ∧ W.cell? ⟨b, off + k * 5 + 3, none⟩ = some (.int .i64 y4) ∧ W.cell? ⟨b, off + k * 5 + 4, none⟩ = some (.int .i64 tc) ∧ Below w3.heap.size w3 W)
          (first | exact ⟨c0, c1', c2, c3, c4, e0, e1, e2, e3, e4, (Below.refl _ _).drew⟩ | (go_split_ands; exact ⟨cell_on hb2 (by assumption), cell_on hb2 (by assumption), cell_on hb2 (by assumption), cell_on hb2 (by assumption), cell_on hb2 (by assumption), cell_on hb2 (by assumption), cell_on hb2 (by assumption), cell_on hb2 (by assumption), cell_on hb2 (by assumption), cell_on hb2 (by assumption), below_on (by assumption) hb2⟩) | go_keep)
          (first | (go_at_call 51; refine (HP.out _).mono ?_; rintro e w2 ⟨rfl, hb2⟩))
        all_goals
          go_split_ands
          go_wp2_with fail
          go_meet
          exact ⟨rfl, rfl, by assumption⟩
      case rest =>
        obtain ⟨rfl, rfl, hb5⟩ := hcut
        have HB5 := Lib.hid (below_on HB3.out hb5)
        clear hb5 c0 c1' c2 c3 c4 e0 e1 e2 e3 e4 HP
        go_wp2_with fail
        go_ret3
        exact ⟨by rw [HT.out.1, HT.out.2.1, HT.out.2.2, HAT.out.1, HAT.out.2]; rfl, HB5.out⟩
    · have HT := Lib.hid (ro_no (show roB t = false by rw [hT, b1, decide_eq_false hn]; rfl))
      have hn2 : (t.n : Int) < 2 := by omega
      have hn3 : decide ((t.n : Int) < 2) = true := by simp; omega
      clear P hT b1
      go_enter Try.func17, Try.ntmps17
      go_wp2_with fail
      refine HP.out.mono ?_
      rintro e w2 ⟨rfl, h2⟩
      have HB1 := Lib.hid (below_on HB0.out h2)
      have K1 := Lib.hid (K0.out.on h2)
      clear h2 a0 a1 a2 a3 HB0 K0
      have HB0 := HB1
      have K0 := K1
      clear HB1 K1
      obtain ⟨a0, a1, a2, a3⟩ := K0.out.c4
      go_wp2_with fail
      go_ret3
      exact ⟨by rw [HT.out.1, HT.out.2.1, HT.out.2.2]; rfl, HB0.out⟩
set_option maxRecDepth 100000 in
set_option maxHeartbeats 2000000 in
theorem specRoomOf_any (v : Value) (B : Nat) (t : TrN) (w : World) (hcp : CapT v) (hv : RdT w B v t) (hB : B ≤ w.heap.size) (hs : t.small) :
    Calls Try.prog 15 #[v] w fun e w' => e = .returned (.tuple #[.int .i64 (roA t), .int .i64 (roC t), .bool (roB t)]) ∧ Below w.heap.size w w' := by
  obtain ⟨A, ca, C, cb, D, cc, rfl, _, _, _⟩ := hv.form
  have hb0 : Below w.heap.size w (w.alloc (.cells #[.slice A t.n ca, .slice C t.m cb, .int .i64 t.c, .slice D t.p cc] 43)) := below_new (Below.refl _ _) _
  have k0 := Blk.new w 43 #[.slice A t.n ca, .slice C t.m cb, .int .i64 t.c, .slice D t.p cc]
  have Hv := Lib.hid (fun W (hb : Below w.heap.size w W) => hv.below' hb hB)
  have Hc := Lib.hid hcp
  have HB0 := Lib.hid hb0
  have K0 := Lib.hid k0
  obtain ⟨a0, a1, a2, a3⟩ := k0.c4
  clear hv hcp hb0 k0
  have P := asGood_any _ B t _ Hc.out (Hv.out _ HB0.out) (Nat.le_trans hB HB0.out.size) hs
  have hT : roB t = (trB t && decide (2 ≤ t.n)) := rfl
  cases b1 : trB t with
  | false =>
    have HT := Lib.hid (ro_no (show roB t = false by rw [hT, b1]; rfl))
    rw [b1] at P
    have HP := Lib.hid P
    clear P hT b1
    go_enter Try.func15, Try.ntmps15
    go_wp2_with fail
    refine HP.out.mono ?_
    rintro e w2 ⟨rfl, h2⟩
    have HB1 := Lib.hid (below_on HB0.out h2)
    have K1 := Lib.hid (K0.out.on h2)
    clear h2 a0 a1 a2 a3 HB0 K0
    have HB0 := HB1
    have K0 := K1
    clear HB1 K1
    obtain ⟨a0, a1, a2, a3⟩ := K0.out.c4
    go_wp2_with fail
    go_ret3
    exact ⟨by rw [HT.out.1, HT.out.2.1, HT.out.2.2]; rfl, HB0.out⟩
  | true =>
    rw [b1] at P
    have HP := Lib.hid P
    by_cases hn : 2 ≤ t.n
    · have HT := Lib.hid (ro_yes (show roB t = true by rw [hT, b1, decide_eq_true hn]; rfl))
      have hok := tr_ok b1
      have HQ1 := Lib.hid (fun W (hb : Below w.heap.size w W) => asMoves_any _ B t W (Hv.out W hb) (Nat.le_trans hB hb.size) hok)
      have HCL := Lib.hid (fun (u : Value) (C : Nat) (W : World) (h1 : Rd W C 5 u t.n (mvTo t t.n)) (h2 : C ≤ W.heap.size) => LeastOfAll_any u C t W h1 h2 hok hn)
      have hn2 : ¬ (t.n : Int) < 2 := by omega
      have hn3 : decide ((t.n : Int) < 2) = false := by simp; omega
      clear P hT b1 hok
      go_enter Try.func15, Try.ntmps15
      go_wp2_with fail
      refine HP.out.mono ?_
      rintro e w2 ⟨rfl, h2⟩
      have HB1 := Lib.hid (below_on HB0.out h2)
      have K1 := Lib.hid (K0.out.on h2)
      clear h2 a0 a1 a2 a3 HB0 K0
      have HB0 := HB1
      have K0 := K1
      clear HB1 K1
      obtain ⟨a0, a1, a2, a3⟩ := K0.out.c4
      go_wp2_with fail
      refine (HQ1.out _ HB0.out).mono ?_
      rintro e w1 ⟨mv, rfl, o1, b1⟩
      have HM := Lib.hid (Rd.of_own o1)
      have HB1 := Lib.hid (below_on HB0.out b1)
      clear o1 b1 a0 a1 a2 a3 K0 HB0
      go_wp2_with fail
      refine (HCL.out _ _ _ HM.out (Nat.le_refl _)).mono ?_
      rintro e w3 ⟨rfl, h3⟩
      have HB3 := Lib.hid (below_on HB1.out h3)
      clear h3
      go_wp2_with fail
      go_ret3
      exact ⟨by rw [HT.out.1, HT.out.2.1, HT.out.2.2]; rfl, HB3.out⟩
    · have HT := Lib.hid (ro_no (show roB t = false by rw [hT, b1, decide_eq_false hn]; rfl))
      have hn2 : (t.n : Int) < 2 := by omega
      have hn3 : decide ((t.n : Int) < 2) = true := by simp; omega
      clear P hT b1
      go_enter Try.func15, Try.ntmps15
      go_wp2_with fail
      refine HP.out.mono ?_
      rintro e w2 ⟨rfl, h2⟩
      have HB1 := Lib.hid (below_on HB0.out h2)
      have K1 := Lib.hid (K0.out.on h2)
      clear h2 a0 a1 a2 a3 HB0 K0
      have HB0 := HB1
      have K0 := K1
      clear HB1 K1
      obtain ⟨a0, a1, a2, a3⟩ := K0.out.c4
      go_wp2_with fail
      go_ret3
      exact ⟨by rw [HT.out.1, HT.out.2.1, HT.out.2.2]; rfl, HB0.out⟩
end Go.Proofs.Ytpikhkdgohapeaa
