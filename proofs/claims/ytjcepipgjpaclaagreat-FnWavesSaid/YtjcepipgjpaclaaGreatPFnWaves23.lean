/- Contracts of the lists of pairs in conflict, in the program and in the reference. Conditions: the transition is good, its slices can be read, and the least distance lies within its bounds. The contract of the reference's list of pairs in conflict. Conditions: the transition is good, its slices can be read, and the least distance lies within its bounds. Contracts of the two ConflictPairs. Conditions: the transition's slices can be read, and are short. Contracts of the two GreatestLeast. Conditions: the transition's slices can be read, and are short. Contracts of the two ConflictCounts. Conditions: the transition's slices can be read, and are short. What the law on conflicts asks of the lists of pairs, counts and free performers: plain laws. Condition: a good transition, a least distance within its bounds. What the law on waves asks of the room between performers: plain laws. Condition: a good transition. Contracts of the two CollidingPairs. Conditions: the transition's slices can be read, and are short. A contract of the program's search for waves. Conditions: at most twelve sets of numbers below twelve, and an owned slice for the waves. -/
import Derived.Test.YtjcepipgjpaclaaGreatPFnWaves16
import Derived.Test.YtjcepipgjpaclaaGreatPFnWaves21
import Derived.Test.YtjcepipgjpaclaaGreatPFnWaves22
import Derived.Test.YtjcepipgjpaclaaGreatPFnWaves02
import Derived.Deep.DeepCutAuto
import Derived.Test.YtjcepipgjpaclaaGreatPFnWaves01
import Derived.Test.YtjcepipgjpaclaaGreatPFnWaves07
import Derived.Test.YtjcepipgjpaclaaGreatPFnWaves03
namespace Go.Proofs.YtjcepipgjpaclaaGreat
open Go.RowKit

theorem Rd.moves {w : World} {B n : Nat} {A : Option Addr} {c : Nat} {t : TrN} (h : Rd w B 5 (.slice A n c) n (mvTo t n)) (hn : 0 < n) : ∃ b off, A = some ⟨b, off, none⟩ ∧ b < B ∧
    ∀ (W : World) (j : Nat), Below B w W → j < n → W.cell? ⟨b, off + j * 5, none⟩ = some (.int .i64 (X t.xs j)) ∧ W.cell? ⟨b, off + j * 5 + 1, none⟩ = some (.int .i64 (Y t.xs j)) ∧
      W.cell? ⟨b, off + j * 5 + 2, none⟩ = some (.int .i64 (X t.ys (plc t j))) ∧ W.cell? ⟨b, off + j * 5 + 3, none⟩ = some (.int .i64 (Y t.ys (plc t j))) ∧ W.cell? ⟨b, off + j * 5 + 4, none⟩ = some (.int .i64 t.c) := by
  obtain ⟨_, A', c', e, h⟩ := h
  simp only [Value.slice.injEq, true_and] at e
  obtain ⟨rfl, rfl⟩ := e
  obtain ⟨b, off, rfl, hb, hc⟩ := h hn
  refine ⟨b, off, rfl, hb, fun W j hW hj => ?_⟩
  obtain ⟨g0, g1, g2, g3, g4⟩ := mvTo_get t n j hj
  have k0 := hc (j * 5) (by omega)
  have k1 := hc (j * 5 + 1) (by omega)
  have k2 := hc (j * 5 + 2) (by omega)
  have k3 := hc (j * 5 + 3) (by omega)
  have k4 := hc (j * 5 + 4) (by omega)
  rw [g0] at k0
  rw [g1, ← Nat.add_assoc] at k1
  rw [g2, ← Nat.add_assoc] at k2
  rw [g3, ← Nat.add_assoc] at k3
  rw [g4, ← Nat.add_assoc] at k4
  exact ⟨(hW.cell (p := ⟨b, off + j * 5, none⟩) hb).trans k0, (hW.cell (p := ⟨b, off + j * 5 + 1, none⟩) hb).trans k1, (hW.cell (p := ⟨b, off + j * 5 + 2, none⟩) hb).trans k2, (hW.cell (p := ⟨b, off + j * 5 + 3, none⟩) hb).trans k3, (hW.cell (p := ⟨b, off + j * 5 + 4, none⟩) hb).trans k4⟩
theorem okMs {t : TrN} (h : TrOk t) {i k : Nat} (hi : i < t.n) (hk : k < t.n) : okM (X t.xs i) (Y t.xs i) (X t.ys (plc t i)) (Y t.ys (plc t i)) ∧ okM (X t.xs k) (Y t.xs k) (X t.ys (plc t k)) (Y t.ys (plc t k)) := by
  have one : ∀ {i : Nat}, i < t.n → okM (X t.xs i) (Y t.xs i) (X t.ys (plc t i)) (Y t.ys (plc t i)) := by
    intro i hi
    have h1 := spotB_yes (h.from_ i hi)
    have h2 := spotB_yes (h.to_ _ (h.place i hi).2)
    exact ⟨⟨by omega, by omega⟩, ⟨by omega, by omega⟩, ⟨by omega, by omega⟩, by omega, by omega⟩
  exact ⟨one hi, one hk⟩
theorem sa_cf (t : TrN) (L : Int) (i k : Nat) : saB (X t.xs i) (Y t.xs i) (X t.ys (plc t i)) (Y t.ys (plc t i)) (X t.xs k) (Y t.xs k) (X t.ys (plc t k)) (Y t.ys (plc t k)) L = !cfAt t L i k := by
  show decide (L * L * apB t i k ≤ apT t i k) = !decide (apT t i k < L * L * apB t i k)
  rw [← decide_not]
  apply decide_eq_decide.2
  omega
theorem pr_len {p : Nat → Nat → Bool} {n a d : Nat} (hn : n ≤ 12) (ha : a ≤ n) (hd : d ≤ n) : (prTo p n a ++ prIn p a d).length ≤ 1000 := by
  have h1 := prTo_len p n a
  have h2 := prIn_len p a d
  have h3 : a * n ≤ 12 * 12 := Nat.mul_le_mul (by omega) hn
  rw [List.length_append]
  omega
set_option maxRecDepth 100000 in
set_option maxHeartbeats 4000000 in
theorem conflictPairs_any (v : Value) (B : Nat) (t : TrN) (L : Int) (w : World) (hv : RdT w B v t) (hB : B ≤ w.heap.size) (hok : TrOk t) (hL0 : 0 ≤ L) (hL : L ≤ 80) :
    Calls Tryz.prog 36 #[v, .int .i64 L] w fun e w' => ∃ u gs, e = .returned u ∧ Rows w' w.heap.size u (prTo (cfAt t L) t.n t.n).length gs (prTo (cfAt t L) t.n t.n) ∧ Below w.heap.size w w' := by
  obtain ⟨A, ca, C, cb, D, cc, rfl, _, _, _⟩ := hv.form
  have hb0 : Below w.heap.size w (w.alloc (.cells #[.slice A t.n ca, .slice C t.m cb, .int .i64 t.c, .slice D t.p cc] 27)) := below_new (Below.refl _ _) _
  have P1 := Lib.hid (movesOf_any _ B t _ (hv.below' hb0 hB) (Nat.le_trans hB hb0.size) hok)
  have HB0 := Lib.hid hb0
  have hn1 := hok.n1
  have hn0 := hok.n0
  have HOK := Lib.hid hok
  obtain ⟨n, en⟩ : ∃ n, t.n = n := ⟨_, rfl⟩
  rw [en] at P1 HB0 hn1 hn0
  rw [en]
  have EN := Lib.hid en
  have HF := Lib.hid (fun i k => okMs hok (i := i) (k := k))
  rw [en] at HF
  clear hb0 hv hok en
  go_enter Tryz.func36, Tryz.ntmps36
  go_wp2_with fail
  refine P1.out.mono ?_
  rintro e w1 ⟨mv, rfl, o1, b1⟩
  obtain ⟨A1, c1, rfl⟩ := (Rd.of_own o1).form
  have HM := Lib.hid (Rd.of_own o1)
  have HB1 := Lib.hid (HB0.out.trans (b1.mono HB0.out.size))
  clear o1 b1 P1
  go_wp2_with fail
  go_loopw [6, 14] (fun o s wr => ∃ (a : Nat) (gs : List Nat), a ≤ n ∧ s = .int .i64 a ∧ Rows wr w1.heap.size o (prTo (cfAt t L) n a).length gs (prTo (cfAt t L) n a) ∧ Below w1.heap.size w1 wr) (fun _ s _ => n - (intOf s).toNat)
  case atStart => exact ⟨0, [], Nat.zero_le _, rfl, Rows.empty w1, below_new (Below.refl _ _) _⟩
  case round =>
    obtain ⟨a, gs, ha, rfl, hr, hb⟩ := hrel
    obtain ⟨wo, rfl⟩ : ∃ wo : World, wo = wr := ⟨_, rfl⟩
    have HR := Lib.hid hr
    have HB := Lib.hid hb
    clear hr hb
    by_cases hlt : a < n
    · obtain ⟨b, off, rfl, hbB, hcells⟩ := HM.out.moves (by omega)
      have HC := Lib.hid hcells
      clear hcells
      have ha1 : (a : Int) < (n : Int) := by omega
      go_wp2_with fail
      go_loopw [6, 8] (fun o s wq => ∃ (d : Nat) (gs : List Nat), a + 1 ≤ d ∧ d ≤ n ∧ s = .int .i64 d ∧ Rows wq w1.heap.size o (prTo (cfAt t L) n a ++ prIn (cfAt t L) a d).length gs (prTo (cfAt t L) n a ++ prIn (cfAt t L) a d) ∧ Below w1.heap.size w1 wq) (fun _ s _ => n - (intOf s).toNat)
      case atStart => exact ⟨a + 1, gs, by omega, by omega, by go_num, by rw [prIn_first _ _ _ (Nat.le_refl _), List.append_nil]; exact HR.out, HB.out⟩
      case round =>
        clear HR HB
        obtain ⟨d, gs, hd1, hd2, rfl, hr, hb⟩ := hrel
        have HR := Lib.hid hr
        by_cases hlk : d < n
        · obtain ⟨c0, c1', c2, c3, c4⟩ := HC.out wr a hb hlt
          obtain ⟨e0, e1, e2, e3, e4⟩ := HC.out wr d hb hlk
          have hokm := HF.out a d hlt hlk
          have hsa := sa_cf t L a d
          have hy := prIn_yes (p := cfAt t L) (i := a) (d := d) (by omega)
          have hno := prIn_no (p := cfAt t L) (i := a) (d := d)
          obtain ⟨x1, ex1⟩ : ∃ x, X t.xs a = x := ⟨_, rfl⟩
          obtain ⟨x2, ex2⟩ : ∃ x, Y t.xs a = x := ⟨_, rfl⟩
          obtain ⟨x3, ex3⟩ : ∃ x, X t.ys (plc t a) = x := ⟨_, rfl⟩
          obtain ⟨x4, ex4⟩ : ∃ x, Y t.ys (plc t a) = x := ⟨_, rfl⟩
          obtain ⟨y1, ey1⟩ : ∃ x, X t.xs d = x := ⟨_, rfl⟩
          obtain ⟨y2, ey2⟩ : ∃ x, Y t.xs d = x := ⟨_, rfl⟩
          obtain ⟨y3, ey3⟩ : ∃ x, X t.ys (plc t d) = x := ⟨_, rfl⟩
          obtain ⟨y4, ey4⟩ : ∃ x, Y t.ys (plc t d) = x := ⟨_, rfl⟩
          obtain ⟨tc, etc⟩ : ∃ x, t.c = x := ⟨_, rfl⟩
          rw [ex1] at c0
          rw [ex2] at c1'
          rw [ex3] at c2
          rw [ex4] at c3
          rw [etc] at c4 e4
          rw [ey1] at e0
          rw [ey2] at e1
          rw [ey3] at e2
          rw [ey4] at e3
          rw [ex1, ex2, ex3, ex4, ey1, ey2, ey3, ey4] at hokm hsa
          have P := fun W => stayApart_any x1 x2 x3 x4 tc y1 y2 y3 y4 tc L W hokm.1 hokm.2 hL0 hL
          rw [hsa] at P
          obtain ⟨q, eq⟩ : ∃ q, cfAt t L a d = q := ⟨_, rfl⟩
          rw [eq] at P hy hno
          have HP := Lib.hid P
          have HB := Lib.hid hb
          have i0 : (0 : Int) ≤ (a : Int) := by omega
          have i2 : (0 : Int) ≤ (d : Int) := by omega
          have i3 : (d : Int) < (n : Int) := by omega
          clear hr hb hokm hsa ex1 ex2 ex3 ex4 ey1 ey2 ey3 ey4 etc P eq
          go_upto_region 8 with (fail)
          go_cut [35] (fun s wx => s = .bool q ∧ Below wr.heap.size wr wx)
          case first =>
            go_region_held3 (fun W => W.cell? ⟨b, off + a * 5, none⟩ = some (.int .i64 x1) ∧ W.cell? ⟨b, off + a * 5 + 1, none⟩ = some (.int .i64 x2) ∧ W.cell? ⟨b, off + a * 5 + 2, none⟩ = some (.int .i64 x3) ∧ W.cell? ⟨b, off + a * 5 + 3, none⟩ = some (.int .i64 x4) ∧ W.cell? ⟨b, off + a * 5 + 4, none⟩ = some (.int .i64 tc) ∧ W.cell? ⟨b, off + d * 5, none⟩ = some (.int .i64 y1) ∧ W.cell? ⟨b, off + d * 5 + 1, none⟩ = some (.int .i64 y2) ∧ W.cell? ⟨b, off + d * 5 + 2, none⟩ = some (.int .i64 y3) ∧ W.cell? ⟨b, off + d * 5 + 3, none⟩ = some (.int .i64 y4) ∧ W.cell? ⟨b, off + d * 5 + 4, none⟩ = some (.int .i64 tc) ∧ Below wr.heap.size wr W)
              (first | exact ⟨c0, c1', c2, c3, c4, e0, e1, e2, e3, e4, (Below.refl _ _).drew⟩ | (go_split_ands; exact ⟨cell_on hb2 (by assumption), cell_on hb2 (by assumption), cell_on hb2 (by assumption), cell_on hb2 (by assumption), cell_on hb2 (by assumption), cell_on hb2 (by assumption), cell_on hb2 (by assumption), cell_on hb2 (by assumption), cell_on hb2 (by assumption), cell_on hb2 (by assumption), below_on (by assumption) hb2⟩) | go_keep)
              (first | (go_at_call 54; refine (HP.out _).mono ?_; rintro e w2 ⟨rfl, hb2⟩))
            all_goals
              go_split_ands
              go_wp2_with fail
              go_meet
              exact ⟨by simp, by assumption⟩
          case rest =>
            obtain ⟨rfl, hb5⟩ := hcut
            have HR5 := Lib.hid (HR.out.below hb5 (Nat.le_refl _))
            have HB5 := Lib.hid (below_on HB.out hb5)
            clear hb5 c0 c1' c2 c3 c4 e0 e1 e2 e3 e4 HP HR HB
            cases q with
            | false =>
              have HN := Lib.hid (hno rfl)
              go_wp2_with fail
              go_roundw
              case rel => exact ⟨d + 1, gs, by omega, by omega, by go_num, by rw [HN.out]; exact HR5.out, HB5.out⟩
              case measure => simp [intOf]; omega
            | true =>
              have HY := Lib.hid (hy rfl)
              have HR := HR5
              have HB := HB5
              have g0 : Blk ((wc.alloc (.cells #[.int .i64 (a : Int), .int .i64 (d : Int)] 3)).alloc (.cells #[.slice (some ⟨wc.heap.size, 0, none⟩) 2 2] 25)) wc.heap.size 3 (ints [(a : Int), (d : Int)]).toArray := (Blk.new _ _ _).alloc _
              have g1 := (Blk.new2 wc (.cells #[.int .i64 (a : Int), .int .i64 (d : Int)] 3) 25 #[.slice (some ⟨wc.heap.size, 0, none⟩) 2 2]).c1
              have hr2 := Lib.hid ((HR.out.alloc (.cells #[.int .i64 (a : Int), .int .i64 (d : Int)] 3)).alloc (.cells #[.slice (some ⟨wc.heap.size, 0, none⟩) 2 2] 25))
              have hb2 := Lib.hid (below_new (below_new HB.out (.cells #[.int .i64 (a : Int), .int .i64 (d : Int)] 3)) (.cells #[.slice (some ⟨wc.heap.size, 0, none⟩) 2 2] 25))
              have G0 := Lib.hid g0
              have hnew : wc.heap.size ∉ gs := fun hm => by have := (HR.out.mem hm).2; omega
              have hwz : w1.heap.size ≤ wc.heap.size := HB.out.size
              have hln := pr_len (p := (cfAt t L)) (n := n) (a := a) (d := d) hn1 (by omega) (by omega)
              have HLN := Lib.hid hln
              have HNW := Lib.hid hnew
              have HWZ := Lib.hid hwz
              clear g0 hln hnew hwz
              go_wp2_with (at_builtin; refine app_row rfl _ _ rfl w1.heap.size _ _ gs _ rfl hr2.out (wc.heap.size + 1) wc.heap.size [(a : Int), (d : Int)] rfl g1 G0.out HWZ.out HNW.out (by have := HLN.out; omega) (by simp; have := HWZ.out; omega) ?_; intro v9 w9 hr9 hg9)
              have hb3 : Below w1.heap.size w1 w9 := hb2.out.grown hg9 (by simp; have := HWZ.out; omega) (fun g hg => (hr2.out.own.lt g hg).1)
              have HR9 := Lib.hid (show Rows w9 w1.heap.size v9 (prTo (cfAt t L) n a ++ prIn (cfAt t L) a (d + 1)).length (gs ++ [wc.heap.size]) (prTo (cfAt t L) n a ++ prIn (cfAt t L) a (d + 1)) by
                rw [HY.out, ← List.append_assoc]
                have := hr9
                rwa [show (prTo (cfAt t L) n a ++ prIn (cfAt t L) a d ++ [[(a : Int), (d : Int)]]).length = (prTo (cfAt t L) n a ++ prIn (cfAt t L) a d).length + 1 by rw [List.length_append]; rfl])
              have HB9 := Lib.hid hb3
              go_wp2_with fail
              go_roundw
              case rel => exact ⟨d + 1, gs ++ [wc.heap.size], by omega, by omega, by go_num, HR9.out, HB9.out⟩
              case measure => simp [intOf]; omega
        · obtain rfl : d = n := by omega
          have HB := Lib.hid hb
          clear hr hb
          go_wp2_with fail
          go_roundw
          case rel => exact ⟨a + 1, gs, by omega, by go_num, HR.out, HB.out⟩
          case measure => simp [intOf]; omega
    · obtain rfl : a = n := by omega
      go_wp2_with fail
      go_ret
      exact ⟨_, gs, rfl, HR.out.base HB1.out.size, HB1.out.trans (HB.out.mono HB1.out.size)⟩
end Go.Proofs.YtjcepipgjpaclaaGreat

namespace Go.Proofs.YtjcepipgjpaclaaGreat
open Go.RowKit

set_option maxRecDepth 100000 in
set_option maxHeartbeats 4000000 in
theorem cfPairs_any (v : Value) (B : Nat) (t : TrN) (L : Int) (w : World) (hv : RdT w B v t) (hB : B ≤ w.heap.size) (hok : TrOk t) (hL0 : 0 ≤ L) (hL : L ≤ 80) :
    Calls Tryz.prog 37 #[v, .int .i64 L] w fun e w' => ∃ u gs, e = .returned u ∧ Rows w' w.heap.size u (prTo (cfAt t L) t.n t.n).length gs (prTo (cfAt t L) t.n t.n) ∧ Below w.heap.size w w' := by
  obtain ⟨A, ca, C, cb, D, cc, rfl, _, _, _⟩ := hv.form
  have hb0 : Below w.heap.size w (w.alloc (.cells #[.slice A t.n ca, .slice C t.m cb, .int .i64 t.c, .slice D t.p cc] 27)) := below_new (Below.refl _ _) _
  have P1 := Lib.hid (asMoves_any _ B t _ (hv.below' hb0 hB) (Nat.le_trans hB hb0.size) hok)
  have HB0 := Lib.hid hb0
  have hn1 := hok.n1
  have hn0 := hok.n0
  have HOK := Lib.hid hok
  obtain ⟨n, en⟩ : ∃ n, t.n = n := ⟨_, rfl⟩
  rw [en] at P1 HB0 hn1 hn0
  rw [en]
  have EN := Lib.hid en
  have HF := Lib.hid (fun i k => okMs hok (i := i) (k := k))
  rw [en] at HF
  clear hb0 hv hok en
  go_enter Tryz.func37, Tryz.ntmps37
  go_wp2_with fail
  refine P1.out.mono ?_
  rintro e w1 ⟨mv, rfl, o1, b1⟩
  obtain ⟨A1, c1, rfl⟩ := (Rd.of_own o1).form
  have HM := Lib.hid (Rd.of_own o1)
  have HB1 := Lib.hid (HB0.out.trans (b1.mono HB0.out.size))
  clear o1 b1 P1
  go_wp2_with fail
  go_loopw [6, 14] (fun o s wr => ∃ (a : Nat) (gs : List Nat), a ≤ n ∧ s = .int .i64 a ∧ Rows wr w1.heap.size o (prTo (cfAt t L) n a).length gs (prTo (cfAt t L) n a) ∧ Below w1.heap.size w1 wr) (fun _ s _ => n - (intOf s).toNat)
  case atStart => exact ⟨0, [], Nat.zero_le _, rfl, Rows.nil w1 _, Below.refl _ _⟩
  case round =>
    obtain ⟨a, gs, ha, rfl, hr, hb⟩ := hrel
    obtain ⟨wo, rfl⟩ : ∃ wo : World, wo = wr := ⟨_, rfl⟩
    have HR := Lib.hid hr
    have HB := Lib.hid hb
    clear hr hb
    by_cases hlt : a < n
    · obtain ⟨b, off, rfl, hbB, hcells⟩ := HM.out.moves (by omega)
      have HC := Lib.hid hcells
      clear hcells
      have ha1 : (a : Int) < (n : Int) := by omega
      have ha2 : (0 : Int) ≤ (a : Int) := by omega
      obtain ⟨c0, c1', c2, c3, c4⟩ := HC.out wo a HB.out hlt
      obtain ⟨x1, ex1⟩ : ∃ x, X t.xs a = x := ⟨_, rfl⟩
      obtain ⟨x2, ex2⟩ : ∃ x, Y t.xs a = x := ⟨_, rfl⟩
      obtain ⟨x3, ex3⟩ : ∃ x, X t.ys (plc t a) = x := ⟨_, rfl⟩
      obtain ⟨x4, ex4⟩ : ∃ x, Y t.ys (plc t a) = x := ⟨_, rfl⟩
      obtain ⟨tc, etc⟩ : ∃ x, t.c = x := ⟨_, rfl⟩
      rw [ex1] at c0
      rw [ex2] at c1'
      rw [ex3] at c2
      rw [ex4] at c3
      rw [etc] at c4
      have K := Lib.hid (Blk.new wo 70 #[.int .i64 x1, .int .i64 x2, .int .i64 x3, .int .i64 x4, .int .i64 tc])
      have HR0 := Lib.hid (HR.out.alloc (.cells #[.int .i64 x1, .int .i64 x2, .int .i64 x3, .int .i64 x4, .int .i64 tc] 70))
      have HBB := Lib.hid (below_new HB.out (.cells #[.int .i64 x1, .int .i64 x2, .int .i64 x3, .int .i64 x4, .int .i64 tc] 70))
      have EX := Lib.hid (And.intro ex1 (And.intro ex2 (And.intro ex3 (And.intro ex4 etc))))
      clear HR HB ex1 ex2 ex3 ex4 etc
      go_wp2_with fail
      go_loopw [6, 9] (fun o s wq => ∃ (d : Nat) (gs : List Nat), a + 1 ≤ d ∧ d ≤ n ∧ s = .int .i64 d ∧ Rows wq w1.heap.size o (prTo (cfAt t L) n a ++ prIn (cfAt t L) a d).length gs (prTo (cfAt t L) n a ++ prIn (cfAt t L) a d) ∧ Blk wq wo.heap.size 70 #[.int .i64 x1, .int .i64 x2, .int .i64 x3, .int .i64 x4, .int .i64 tc] ∧ Below w1.heap.size w1 wq) (fun _ s _ => n - (intOf s).toNat)
      case atStart => exact ⟨a + 1, gs, by omega, by omega, by go_num, by rw [prIn_first _ _ _ (Nat.le_refl _), List.append_nil]; exact HR0.out, K.out, HBB.out⟩
      case round =>
        clear HR0 HBB K c0 c1' c2 c3 c4
        obtain ⟨d, gs, hd1, hd2, rfl, hr, hbk, hb⟩ := hrel
        have HR := Lib.hid hr
        by_cases hlk : d < n
        · obtain ⟨ex1, ex2, ex3, ex4, etc⟩ := EX.out
          obtain ⟨c0, c1', c2, c3, c4⟩ := hbk.c5
          have HK := Lib.hid hbk
          obtain ⟨e0, e1, e2, e3, e4⟩ := HC.out wr d hb hlk
          have hokm := HF.out a d hlt hlk
          have hsa := sa_cf t L a d
          have hy := prIn_yes (p := cfAt t L) (i := a) (d := d) (by omega)
          have hno := prIn_no (p := cfAt t L) (i := a) (d := d)
          obtain ⟨y1, ey1⟩ : ∃ x, X t.xs d = x := ⟨_, rfl⟩
          obtain ⟨y2, ey2⟩ : ∃ x, Y t.xs d = x := ⟨_, rfl⟩
          obtain ⟨y3, ey3⟩ : ∃ x, X t.ys (plc t d) = x := ⟨_, rfl⟩
          obtain ⟨y4, ey4⟩ : ∃ x, Y t.ys (plc t d) = x := ⟨_, rfl⟩
          rw [etc] at e4
          rw [ey1] at e0
          rw [ey2] at e1
          rw [ey3] at e2
          rw [ey4] at e3
          rw [ex1, ex2, ex3, ex4, ey1, ey2, ey3, ey4] at hokm hsa
          have P := fun W => apStay_any x1 x2 x3 x4 tc y1 y2 y3 y4 tc L W hokm.1 hokm.2 hL0 hL
          rw [hsa] at P
          obtain ⟨q, eq⟩ : ∃ q, cfAt t L a d = q := ⟨_, rfl⟩
          rw [eq] at P hy hno
          have HP := Lib.hid P
          have HB := Lib.hid hb
          have i0 : (0 : Int) ≤ (a : Int) := by omega
          have i2 : (0 : Int) ≤ (d : Int) := by omega
          have i3 : (d : Int) < (n : Int) := by omega
          clear hr hb hbk hokm hsa ex1 ex2 ex3 ex4 ey1 ey2 ey3 ey4 etc P eq
          go_upto_region 9 with (fail)
          go_cut [34] (fun s wx => s = .bool q ∧ Below wr.heap.size wr wx)
          case first =>
            go_region_held3 (fun W => W.cell? ⟨wo.heap.size, 0, none⟩ = some (.int .i64 x1) ∧ W.cell? ⟨wo.heap.size, 1, none⟩ = some (.int .i64 x2) ∧ W.cell? ⟨wo.heap.size, 2, none⟩ = some (.int .i64 x3) ∧ W.cell? ⟨wo.heap.size, 3, none⟩ = some (.int .i64 x4) ∧ W.cell? ⟨wo.heap.size, 4, none⟩ = some (.int .i64 tc) ∧ W.cell? ⟨b, off + d * 5, none⟩ = some (.int .i64 y1) ∧ W.cell? ⟨b, off + d * 5 + 1, none⟩ = some (.int .i64 y2) ∧ W.cell? ⟨b, off + d * 5 + 2, none⟩ = some (.int .i64 y3) ∧ W.cell? ⟨b, off + d * 5 + 3, none⟩ = some (.int .i64 y4) ∧ W.cell? ⟨b, off + d * 5 + 4, none⟩ = some (.int .i64 tc) ∧ Below wr.heap.size wr W)
              (first | exact ⟨c0, c1', c2, c3, c4, e0, e1, e2, e3, e4, (Below.refl _ _).drew⟩ | (go_split_ands; exact ⟨cell_on hb2 (by assumption), cell_on hb2 (by assumption), cell_on hb2 (by assumption), cell_on hb2 (by assumption), cell_on hb2 (by assumption), cell_on hb2 (by assumption), cell_on hb2 (by assumption), cell_on hb2 (by assumption), cell_on hb2 (by assumption), cell_on hb2 (by assumption), below_on (by assumption) hb2⟩) | go_keep)
              (first | (go_at_call 55; refine (HP.out _).mono ?_; rintro e w2 ⟨rfl, hb2⟩))
            all_goals
              go_split_ands
              go_wp2_with fail
              go_meet
              exact ⟨by simp, by assumption⟩
          case rest =>
            obtain ⟨rfl, hb5⟩ := hcut
            have HR5 := Lib.hid (HR.out.below hb5 (Nat.le_refl _))
            have HB5 := Lib.hid (below_on HB.out hb5)
            have HK5 := Lib.hid (HK.out.on hb5)
            clear hb5 c0 c1' c2 c3 c4 e0 e1 e2 e3 e4 HP HR HB HK
            cases q with
            | false =>
              have HN := Lib.hid (hno rfl)
              go_wp2_with fail
              go_roundw
              case rel => exact ⟨d + 1, gs, by omega, by omega, by go_num, by rw [HN.out]; exact HR5.out, HK5.out, HB5.out⟩
              case measure => simp [intOf]; omega
            | true =>
              have HY := Lib.hid (hy rfl)
              have HR := HR5
              have HB := HB5
              have g0 : Blk ((wc.alloc (.cells #[.int .i64 (a : Int), .int .i64 (d : Int)] 3)).alloc (.cells #[.slice (some ⟨wc.heap.size, 0, none⟩) 2 2] 25)) wc.heap.size 3 (ints [(a : Int), (d : Int)]).toArray := (Blk.new _ _ _).alloc _
              have g1 := (Blk.new2 wc (.cells #[.int .i64 (a : Int), .int .i64 (d : Int)] 3) 25 #[.slice (some ⟨wc.heap.size, 0, none⟩) 2 2]).c1
              have hr2 := Lib.hid ((HR.out.alloc (.cells #[.int .i64 (a : Int), .int .i64 (d : Int)] 3)).alloc (.cells #[.slice (some ⟨wc.heap.size, 0, none⟩) 2 2] 25))
              have hb2 := Lib.hid (below_new (below_new HB.out (.cells #[.int .i64 (a : Int), .int .i64 (d : Int)] 3)) (.cells #[.slice (some ⟨wc.heap.size, 0, none⟩) 2 2] 25))
              have G0 := Lib.hid g0
              have hnew : wc.heap.size ∉ gs := fun hm => by have := (HR.out.mem hm).2; omega
              have hwz : w1.heap.size ≤ wc.heap.size := HB.out.size
              have hln := pr_len (p := (cfAt t L)) (n := n) (a := a) (d := d) hn1 (by omega) (by omega)
              have HLN := Lib.hid hln
              have HNW := Lib.hid hnew
              have HWZ := Lib.hid hwz
              clear g0 hln hnew hwz
              go_wp2_with (at_builtin; refine app_row rfl _ _ rfl w1.heap.size _ _ gs _ rfl hr2.out (wc.heap.size + 1) wc.heap.size [(a : Int), (d : Int)] rfl g1 G0.out HWZ.out HNW.out (by have := HLN.out; omega) (by simp; have := HWZ.out; omega) ?_; intro v9 w9 hr9 hg9)
              have HK9 := Lib.hid (((HK5.out.alloc (.cells #[.int .i64 (a : Int), .int .i64 (d : Int)] 3)).alloc (.cells #[.slice (some ⟨wc.heap.size, 0, none⟩) 2 2] 25)).grown hg9 (fun e => own_blk_ne hr2.out.own ((HK5.out.alloc _).alloc _) (by decide) e.symm))
              have hb3 : Below w1.heap.size w1 w9 := hb2.out.grown hg9 (by simp; have := HWZ.out; omega) (fun g hg => (hr2.out.own.lt g hg).1)
              have HR9 := Lib.hid (show Rows w9 w1.heap.size v9 (prTo (cfAt t L) n a ++ prIn (cfAt t L) a (d + 1)).length (gs ++ [wc.heap.size]) (prTo (cfAt t L) n a ++ prIn (cfAt t L) a (d + 1)) by
                rw [HY.out, ← List.append_assoc]
                have := hr9
                rwa [show (prTo (cfAt t L) n a ++ prIn (cfAt t L) a d ++ [[(a : Int), (d : Int)]]).length = (prTo (cfAt t L) n a ++ prIn (cfAt t L) a d).length + 1 by rw [List.length_append]; rfl])
              have HB9 := Lib.hid hb3
              go_wp2_with fail
              go_roundw
              case rel => exact ⟨d + 1, gs ++ [wc.heap.size], by omega, by omega, by go_num, HR9.out, HK9.out, HB9.out⟩
              case measure => simp [intOf]; omega
        · obtain rfl : d = n := by omega
          have HB := Lib.hid hb
          clear hr hb hbk
          go_wp2_with fail
          go_roundw
          case rel => exact ⟨a + 1, gs, by omega, by go_num, HR.out, HB.out⟩
          case measure => simp [intOf]; omega
    · obtain rfl : a = n := by omega
      go_wp2_with fail
      go_ret
      exact ⟨_, gs, rfl, HR.out.base HB1.out.size, HB1.out.trans (HB.out.mono HB1.out.size)⟩
end Go.Proofs.YtjcepipgjpaclaaGreat

namespace Go.Proofs.YtjcepipgjpaclaaGreat
open Go.RowKit

theorem isLeast_any (L : Int) (w : World) : Calls Tryz.prog 26 #[.int .i64 L] w fun e w' => e = .returned (.bool (inB L 0 80)) ∧ w = w' := by
  go_enter Tryz.func26, Tryz.ntmps26
  go_wp2_with fail
  refine (within_any _ _ _ _).mono ?_
  rintro e w' ⟨rfl, rfl⟩
  go_wp2_with fail
  go_ret
  exact ⟨rfl, rfl⟩
theorem apDistance_any (L : Int) (w : World) : Calls Tryz.prog 51 #[.int .i64 L] w fun e w' => e = .returned (.bool (inB L 0 80)) ∧ w = w' := by
  go_enter Tryz.func51, Tryz.ntmps51
  go_wp2_with fail
  refine (l1In_any _ _ _ _).mono ?_
  rintro e w' ⟨rfl, rfl⟩
  go_wp2_with fail
  go_ret
  exact ⟨rfl, rfl⟩
theorem cp_in {t : TrN} {L : Int} (h : cpB t L = true) : trB t = true ∧ 0 ≤ L ∧ L ≤ 80 := by
  simp only [cpB, Bool.and_eq_true] at h
  have := inB_yes h.2
  exact ⟨h.1, this.1, this.2⟩
set_option maxHeartbeats 1000000 in
theorem cfAsked_any (v : Value) (B : Nat) (t : TrN) (L : Int) (w : World) (hcp : CapT v) (hv : RdT w B v t) (hB : B ≤ w.heap.size) (hs : t.small) :
    Calls Tryz.prog 28 #[v, .int .i64 L] w fun e w' => e = .returned (.bool (cpB t L)) ∧ Below w.heap.size w w' := by
  obtain ⟨A, ca, C, cb, D, cc, rfl, _, _, _⟩ := hv.form
  have hb0 : Below w.heap.size w (w.alloc (.cells #[.slice A t.n ca, .slice C t.m cb, .int .i64 t.c, .slice D t.p cc] 27)) := below_new (Below.refl _ _) _
  have k0 := Blk.new w 27 #[.slice A t.n ca, .slice C t.m cb, .int .i64 t.c, .slice D t.p cc]
  have Hv := Lib.hid (fun W (hb : Below w.heap.size w W) => hv.below' hb hB)
  have Hc := Lib.hid hcp
  have HB0 := Lib.hid hb0
  have K0 := Lib.hid k0
  obtain ⟨a0, a1, a2, a3⟩ := k0.c4
  clear hv hcp hb0 k0
  have P := asGood_any _ B t _ Hc.out (Hv.out _ HB0.out) (Nat.le_trans hB HB0.out.size) hs
  have Q := fun W => apDistance_any L W
  have hT : cpB t L = (trB t && inB L 0 80) := rfl
  obtain ⟨b1, e1⟩ : ∃ b, trB t = b := ⟨_, rfl⟩
  obtain ⟨b2, e2⟩ : ∃ b, inB L 0 80 = b := ⟨_, rfl⟩
  rw [e1] at P hT
  rw [e2] at Q hT
  have HP := Lib.hid P
  have HQ := Lib.hid Q
  have HT := Lib.hid hT
  clear P Q hT e1 e2
  cases b1 with
  | false =>
    go_enter Tryz.func28, Tryz.ntmps28
    go_wp2_with fail
    refine HP.out.mono ?_
    rintro e w2 ⟨rfl, h2⟩
    have HB1 := Lib.hid (below_on HB0.out h2)
    have K1 := Lib.hid (K0.out.on h2)
    clear h2 a0 a1 a2 a3 HB0 K0
    have HB0 := HB1
    have K0 := K1
    clear HB1 K1
    obtain ⟨a0, a1, a2, a3⟩ := K0.out.c4
    go_wp2_with fail
    go_ret
    exact ⟨by rw [HT.out]; rfl, HB0.out⟩
  | true =>
    go_enter Tryz.func28, Tryz.ntmps28
    go_wp2_with fail
    refine HP.out.mono ?_
    rintro e w2 ⟨rfl, h2⟩
    have HB1 := Lib.hid (below_on HB0.out h2)
    have K1 := Lib.hid (K0.out.on h2)
    clear h2 a0 a1 a2 a3 HB0 K0
    have HB0 := HB1
    have K0 := K1
    clear HB1 K1
    obtain ⟨a0, a1, a2, a3⟩ := K0.out.c4
    go_wp2_with fail
    refine (HQ.out _).mono ?_
    rintro e w3 ⟨rfl, rfl⟩
    go_wp2_with fail
    go_ret
    exact ⟨by rw [HT.out]; rfl, HB0.out⟩
set_option maxHeartbeats 1000000 in
theorem ConflictPairs_any (v : Value) (B : Nat) (t : TrN) (L : Int) (w : World) (hcp : CapT v) (hv : RdT w B v t) (hB : B ≤ w.heap.size) (hs : t.small) :
    Calls Tryz.prog 12 #[v, .int .i64 L] w fun e w' => ∃ u gs, e = .returned (.tuple #[u, .bool (cpB t L)]) ∧ Rows w' w.heap.size u (cpN t L) gs (cpL t L) ∧ Below w.heap.size w w' := by
  obtain ⟨A, ca, C, cb, D, cc, rfl, _, _, _⟩ := hv.form
  have hb0 : Below w.heap.size w (w.alloc (.cells #[.slice A t.n ca, .slice C t.m cb, .int .i64 t.c, .slice D t.p cc] 27)) := below_new (Below.refl _ _) _
  have k0 := Blk.new w 27 #[.slice A t.n ca, .slice C t.m cb, .int .i64 t.c, .slice D t.p cc]
  have Hv := Lib.hid (fun W (hb : Below w.heap.size w W) => hv.below' hb hB)
  have Hc := Lib.hid hcp
  have HB0 := Lib.hid hb0
  have K0 := Lib.hid k0
  obtain ⟨a0, a1, a2, a3⟩ := k0.c4
  clear hv hcp hb0 k0
  have P := IsTransition_any _ B t _ Hc.out (Hv.out _ HB0.out) (Nat.le_trans hB HB0.out.size) hs
  have Q := fun W => isLeast_any L W
  have R := fun W (hb : Below w.heap.size w W) (h1 : trB t = true) (h2 : inB L 0 80 = true) => conflictPairs_any _ B t L W (Hv.out W hb) (Nat.le_trans hB hb.size) (tr_ok h1) (inB_yes h2).1 (inB_yes h2).2
  have hT : cpB t L = (trB t && inB L 0 80) := rfl
  have hno := cp_no (t := t) (L := L)
  have hyes := cp_yes (t := t) (L := L)
  obtain ⟨b1, e1⟩ : ∃ b, trB t = b := ⟨_, rfl⟩
  obtain ⟨b2, e2⟩ : ∃ b, inB L 0 80 = b := ⟨_, rfl⟩
  rw [e1] at P hT R
  rw [e2] at Q hT R
  have HP := Lib.hid P
  have HQ := Lib.hid Q
  have HR := Lib.hid R
  clear P Q R e1 e2
  cases b1 with
  | false =>
    have HT := Lib.hid (hno hT)
    clear hno hyes hT
    go_enter Tryz.func12, Tryz.ntmps12
    go_wp2_with fail
    refine HP.out.mono ?_
    rintro e w2 ⟨rfl, h2⟩
    have HB1 := Lib.hid (below_on HB0.out h2)
    have K1 := Lib.hid (K0.out.on h2)
    clear h2 a0 a1 a2 a3 HB0 K0
    have HB0 := HB1
    have K0 := K1
    clear HB1 K1
    obtain ⟨a0, a1, a2, a3⟩ := K0.out.c4
    go_wp2_with fail
    go_ret2
    rw [HT.out.1, HT.out.2.1, HT.out.2.2]
    exact ⟨_, [], rfl, Rows.nil _ _, HB0.out⟩
  | true =>
    cases b2 with
    | false =>
      have HT := Lib.hid (hno hT)
      clear hno hyes hT
      go_enter Tryz.func12, Tryz.ntmps12
      go_wp2_with fail
      refine HP.out.mono ?_
      rintro e w2 ⟨rfl, h2⟩
      have HB1 := Lib.hid (below_on HB0.out h2)
      have K1 := Lib.hid (K0.out.on h2)
      clear h2 a0 a1 a2 a3 HB0 K0
      have HB0 := HB1
      have K0 := K1
      clear HB1 K1
      obtain ⟨a0, a1, a2, a3⟩ := K0.out.c4
      go_wp2_with fail
      refine (HQ.out _).mono ?_
      rintro e w3 ⟨rfl, rfl⟩
      go_wp2_with fail
      go_ret2
      rw [HT.out.1, HT.out.2.1, HT.out.2.2]
      exact ⟨_, [], rfl, Rows.nil _ _, HB0.out⟩
    | true =>
      have HT := Lib.hid (hyes hT)
      clear hno hyes hT
      go_enter Tryz.func12, Tryz.ntmps12
      go_wp2_with fail
      refine HP.out.mono ?_
      rintro e w2 ⟨rfl, h2⟩
      have HB1 := Lib.hid (below_on HB0.out h2)
      have K1 := Lib.hid (K0.out.on h2)
      clear h2 a0 a1 a2 a3 HB0 K0
      have HB0 := HB1
      have K0 := K1
      clear HB1 K1
      obtain ⟨a0, a1, a2, a3⟩ := K0.out.c4
      go_wp2_with fail
      refine (HQ.out _).mono ?_
      rintro e w3 ⟨rfl, rfl⟩
      go_wp2_with fail
      refine (HR.out _ HB0.out (by first | rfl | trivial) (by first | rfl | trivial)).mono ?_
      rintro e w4 ⟨u, gs, rfl, hr, h4⟩
      have HRR := Lib.hid (hr.base HB0.out.size)
      have HB4 := Lib.hid (HB0.out.trans (h4.mono HB0.out.size))
      clear hr h4
      go_wp2_with fail
      go_ret2
      rw [HT.out.1, HT.out.2.1, HT.out.2.2]
      exact ⟨_, gs, rfl, HRR.out, HB4.out⟩
set_option maxHeartbeats 1000000 in
theorem specConflictPairs_any (v : Value) (B : Nat) (t : TrN) (L : Int) (w : World) (hcp : CapT v) (hv : RdT w B v t) (hB : B ≤ w.heap.size) (hs : t.small) :
    Calls Tryz.prog 13 #[v, .int .i64 L] w fun e w' => ∃ u gs, e = .returned (.tuple #[u, .bool (cpB t L)]) ∧ Rows w' w.heap.size u (cpN t L) gs (cpL t L) ∧ Below w.heap.size w w' := by
  obtain ⟨A, ca, C, cb, D, cc, rfl, _, _, _⟩ := hv.form
  have hb0 : Below w.heap.size w (w.alloc (.cells #[.slice A t.n ca, .slice C t.m cb, .int .i64 t.c, .slice D t.p cc] 27)) := below_new (Below.refl _ _) _
  have k0 := Blk.new w 27 #[.slice A t.n ca, .slice C t.m cb, .int .i64 t.c, .slice D t.p cc]
  have Hv := Lib.hid (fun W (hb : Below w.heap.size w W) => hv.below' hb hB)
  have Hc := Lib.hid hcp
  have HB0 := Lib.hid hb0
  have K0 := Lib.hid k0
  obtain ⟨a0, a1, a2, a3⟩ := k0.c4
  clear hv hcp hb0 k0
  have P := cfAsked_any _ B t L _ Hc.out (Hv.out _ HB0.out) (Nat.le_trans hB HB0.out.size) hs
  have R := fun W (hb : Below w.heap.size w W) (h : cpB t L = true) => cfPairs_any _ B t L W (Hv.out W hb) (Nat.le_trans hB hb.size) (tr_ok (cp_in h).1) (cp_in h).2.1 (cp_in h).2.2
  have hno := cp_no (t := t) (L := L)
  have hyes := cp_yes (t := t) (L := L)
  obtain ⟨b, e1⟩ : ∃ b, cpB t L = b := ⟨_, rfl⟩
  rw [e1] at P R hno hyes ⊢
  have HP := Lib.hid P
  have HR := Lib.hid R
  clear P R e1
  cases b with
  | false =>
    have HT := Lib.hid (hno rfl)
    clear hno hyes
    go_enter Tryz.func13, Tryz.ntmps13
    go_wp2_with fail
    refine HP.out.mono ?_
    rintro e w2 ⟨rfl, h2⟩
    have HB1 := Lib.hid (below_on HB0.out h2)
    have K1 := Lib.hid (K0.out.on h2)
    clear h2 a0 a1 a2 a3 HB0 K0
    have HB0 := HB1
    have K0 := K1
    clear HB1 K1
    obtain ⟨a0, a1, a2, a3⟩ := K0.out.c4
    go_wp2_with fail
    go_ret2
    rw [HT.out.2.1, HT.out.2.2]
    exact ⟨_, [], rfl, Rows.nil _ _, HB0.out⟩
  | true =>
    have HT := Lib.hid (hyes rfl)
    clear hno hyes
    go_enter Tryz.func13, Tryz.ntmps13
    go_wp2_with fail
    refine HP.out.mono ?_
    rintro e w2 ⟨rfl, h2⟩
    have HB1 := Lib.hid (below_on HB0.out h2)
    have K1 := Lib.hid (K0.out.on h2)
    clear h2 a0 a1 a2 a3 HB0 K0
    have HB0 := HB1
    have K0 := K1
    clear HB1 K1
    obtain ⟨a0, a1, a2, a3⟩ := K0.out.c4
    go_wp2_with fail
    refine (HR.out _ HB0.out (by first | rfl | trivial)).mono ?_
    rintro e w4 ⟨u, gs, rfl, hr, h4⟩
    have HRR := Lib.hid (hr.base HB0.out.size)
    have HB4 := Lib.hid (HB0.out.trans (h4.mono HB0.out.size))
    clear hr h4
    go_wp2_with fail
    go_ret2
    rw [HT.out.2.1, HT.out.2.2]
    exact ⟨_, gs, rfl, HRR.out, HB4.out⟩
end Go.Proofs.YtjcepipgjpaclaaGreat

namespace Go.Proofs.YtjcepipgjpaclaaGreat
open Go.RowKit

theorem gl_at {t : TrN} {l : Nat} (h : (prTo (cfAt t (l : Int)) t.n t.n).length = 0) : glAt t l = true := by simp only [glAt, h]; rfl
theorem gl_not {t : TrN} {l : Nat} (h : (prTo (cfAt t (l : Int)) t.n t.n).length ≠ 0) : glAt t l = false := by simpa [glAt] using h
theorem down_yes {t : TrN} {l : Nat} (h0 : 0 < l) (h : glAt t l = true) : glDown t l = l := by
  obtain ⟨k, rfl⟩ : ∃ k, l = k + 1 := ⟨l - 1, by omega⟩
  rw [glDown, if_pos h]
theorem down_no {t : TrN} {l : Nat} (h0 : 0 < l) (h : glAt t l = false) : glDown t l = glDown t (l - 1) := by
  obtain ⟨k, rfl⟩ : ∃ k, l = k + 1 := ⟨l - 1, by omega⟩
  rw [glDown, if_neg (by simp [h])]; rfl
theorem up_yes {t : TrN} {l : Nat} (h : glAt t l = true) : glUp t (l + 1) = l := by rw [glUp, if_pos h]
theorem up_no {t : TrN} {l : Nat} (h : glAt t l = false) : glUp t (l + 1) = glUp t l := by rw [glUp, if_neg (by simp [h])]
set_option maxHeartbeats 2000000 in
theorem GreatestLeast_any (v : Value) (B : Nat) (t : TrN) (w : World) (hcp : CapT v) (hv : RdT w B v t) (hB : B ≤ w.heap.size) (hs : t.small) :
    Calls Tryz.prog 22 #[v] w fun e w' => e = .returned (.tuple #[.int .i64 (glV t), .bool (glB t)]) ∧ Below w.heap.size w w' := by
  obtain ⟨A, ca, C, cb, D, cc, rfl, _, _, _⟩ := hv.form
  have hb0 : Below w.heap.size w (w.alloc (.cells #[.slice A t.n ca, .slice C t.m cb, .int .i64 t.c, .slice D t.p cc] 27)) := below_new (Below.refl _ _) _
  have k0 := Blk.new w 27 #[.slice A t.n ca, .slice C t.m cb, .int .i64 t.c, .slice D t.p cc]
  have Hv := Lib.hid (fun W (hb : Below w.heap.size w W) => hv.below' hb hB)
  have Hc := Lib.hid hcp
  have HB0 := Lib.hid hb0
  have K0 := Lib.hid k0
  obtain ⟨a0, a1, a2, a3⟩ := k0.c4
  clear hv hcp hb0 k0
  have P := IsTransition_any _ B t _ Hc.out (Hv.out _ HB0.out) (Nat.le_trans hB HB0.out.size) hs
  obtain ⟨b1, e1⟩ : ∃ b, trB t = b := ⟨_, rfl⟩
  rw [e1] at P
  have HP := Lib.hid P
  clear P
  cases b1 with
  | false =>
    have HT := Lib.hid (gl_no e1)
    clear e1
    go_enter Tryz.func22, Tryz.ntmps22
    go_wp2_with fail
    refine HP.out.mono ?_
    rintro e w2 ⟨rfl, h2⟩
    have HB1 := Lib.hid (below_on HB0.out h2)
    have K1 := Lib.hid (K0.out.on h2)
    clear h2 a0 a1 a2 a3 HB0 K0
    have HB0 := HB1
    have K0 := K1
    clear HB1 K1
    obtain ⟨a0, a1, a2, a3⟩ := K0.out.c4
    go_wp2_with fail
    go_ret2
    exact ⟨by rw [HT.out.1, HT.out.2]; rfl, HB0.out⟩
  | true =>
    have HT := Lib.hid (gl_yes e1)
    have HR := Lib.hid (fun W (hb : Below w.heap.size w W) (l : Nat) (hl : l ≤ 80) => conflictPairs_any _ B t (l : Int) W (Hv.out W hb) (Nat.le_trans hB hb.size) (tr_ok e1) (by omega) (by omega))
    clear e1
    go_enter Tryz.func22, Tryz.ntmps22
    go_wp2_with fail
    refine HP.out.mono ?_
    rintro e w2 ⟨rfl, h2⟩
    have HB1 := Lib.hid (below_on HB0.out h2)
    have K1 := Lib.hid (K0.out.on h2)
    clear h2 a0 a1 a2 a3 HB0 K0
    have HB0 := HB1
    have K0 := K1
    clear HB1 K1
    obtain ⟨a0, a1, a2, a3⟩ := K0.out.c4
    go_wp2_with fail
    go_loopw [4] (fun s wr => ∃ l : Nat, l ≤ 80 ∧ s = .int .i64 l ∧ glDown t 80 = glDown t l ∧ Blk wr w.heap.size 27 #[.slice A t.n ca, .slice C t.m cb, .int .i64 t.c, .slice D t.p cc] ∧ Below w.heap.size w wr) (fun s _ => (intOf s).toNat)
    case atStart => exact ⟨80, Nat.le_refl _, rfl, rfl, K0.out, HB0.out⟩
    case round =>
      clear HB0 K0 a0 a1 a2 a3
      obtain ⟨l, hl, rfl, hd, hk, hb⟩ := hrel
      have HD := Lib.hid hd
      have HK := Lib.hid hk
      have HB := Lib.hid hb
      obtain ⟨a0, a1, a2, a3⟩ := hk.c4
      clear hd hk hb
      by_cases h0 : 0 < l
      · have hd0 : decide ((0 : Int) < (l : Int)) = true := by simp; omega
        have hl0 : (0 : Int) < (l : Int) := by omega
        go_wp2_with fail
        refine (HR.out _ HB.out l hl).mono ?_
        rintro e w3 ⟨u, gs, rfl, hr, h3⟩
        obtain ⟨U, cu, rfl⟩ := hr.form
        have HB3 := Lib.hid (below_on HB.out h3)
        have HK3 := Lib.hid (HK.out.on h3)
        have hat := gl_at (t := t) (l := l)
        have hnot := gl_not (t := t) (l := l)
        obtain ⟨m, em⟩ : ∃ m, (prTo (cfAt t (l : Int)) t.n t.n).length = m := ⟨_, rfl⟩
        rw [em] at hat hnot ⊢
        clear hr h3 em a0 a1 a2 a3
        by_cases hm : m = 0
        · have HY := Lib.hid (HD.out.trans (down_yes h0 (hat hm)))
          subst hm
          clear hat hnot
          go_wp2_with fail
          go_ret2
          exact ⟨by rw [HT.out.1, HT.out.2, HY.out]; rfl, HB3.out⟩
        · have HN := Lib.hid (HD.out.trans (down_no h0 (hnot hm)))
          have hm0 : (0 : Int) < (m : Int) := by omega
          clear hat hnot
          go_wp2_with fail
          go_roundw
          case rel => exact ⟨l - 1, by omega, by go_num, HN.out, HK3.out, HB3.out⟩
          case measure => simp [intOf]; omega
      · obtain rfl : l = 0 := by omega
        have HY := Lib.hid (HD.out.trans (show glDown t 0 = 0 from rfl))
        go_wp2_with fail
        go_ret2
        exact ⟨by rw [HT.out.1, HT.out.2, HY.out]; rfl, HB.out⟩
set_option maxHeartbeats 2000000 in
theorem specGreatestLeast_any (v : Value) (B : Nat) (t : TrN) (w : World) (hcp : CapT v) (hv : RdT w B v t) (hB : B ≤ w.heap.size) (hs : t.small) :
    Calls Tryz.prog 23 #[v] w fun e w' => e = .returned (.tuple #[.int .i64 (glV t), .bool (glB t)]) ∧ Below w.heap.size w w' := by
  obtain ⟨A, ca, C, cb, D, cc, rfl, _, _, _⟩ := hv.form
  have hb0 : Below w.heap.size w (w.alloc (.cells #[.slice A t.n ca, .slice C t.m cb, .int .i64 t.c, .slice D t.p cc] 27)) := below_new (Below.refl _ _) _
  have k0 := Blk.new w 27 #[.slice A t.n ca, .slice C t.m cb, .int .i64 t.c, .slice D t.p cc]
  have Hv := Lib.hid (fun W (hb : Below w.heap.size w W) => hv.below' hb hB)
  have Hc := Lib.hid hcp
  have HB0 := Lib.hid hb0
  have K0 := Lib.hid k0
  obtain ⟨a0, a1, a2, a3⟩ := k0.c4
  clear hv hcp hb0 k0
  have P := asGood_any _ B t _ Hc.out (Hv.out _ HB0.out) (Nat.le_trans hB HB0.out.size) hs
  obtain ⟨b1, e1⟩ : ∃ b, trB t = b := ⟨_, rfl⟩
  rw [e1] at P
  have HP := Lib.hid P
  clear P
  cases b1 with
  | false =>
    have HT := Lib.hid (gl_no e1)
    clear e1
    go_enter Tryz.func23, Tryz.ntmps23
    go_wp2_with fail
    refine HP.out.mono ?_
    rintro e w2 ⟨rfl, h2⟩
    have HB1 := Lib.hid (below_on HB0.out h2)
    have K1 := Lib.hid (K0.out.on h2)
    clear h2 a0 a1 a2 a3 HB0 K0
    have HB0 := HB1
    have K0 := K1
    clear HB1 K1
    obtain ⟨a0, a1, a2, a3⟩ := K0.out.c4
    go_wp2_with fail
    go_ret2
    exact ⟨by rw [HT.out.1, HT.out.2]; rfl, HB0.out⟩
  | true =>
    have HT := Lib.hid (gl_yes e1)
    have HR := Lib.hid (fun W (hb : Below w.heap.size w W) (l : Nat) (hl : l ≤ 80) => cfPairs_any _ B t (l : Int) W (Hv.out W hb) (Nat.le_trans hB hb.size) (tr_ok e1) (by omega) (by omega))
    clear e1
    go_enter Tryz.func23, Tryz.ntmps23
    go_wp2_with fail
    refine HP.out.mono ?_
    rintro e w2 ⟨rfl, h2⟩
    have HB1 := Lib.hid (below_on HB0.out h2)
    have K1 := Lib.hid (K0.out.on h2)
    clear h2 a0 a1 a2 a3 HB0 K0
    have HB0 := HB1
    have K0 := K1
    clear HB1 K1
    obtain ⟨a0, a1, a2, a3⟩ := K0.out.c4
    go_wp2_with fail
    go_loopw [4, 5] (fun q s wr => ∃ l : Nat, l ≤ 81 ∧ s = .int .i64 l ∧ q = .int .i64 (glUp t l : Nat) ∧ Blk wr w.heap.size 27 #[.slice A t.n ca, .slice C t.m cb, .int .i64 t.c, .slice D t.p cc] ∧ Below w.heap.size w wr) (fun _ s _ => 81 - (intOf s).toNat)
    case atStart => exact ⟨0, Nat.zero_le _, rfl, rfl, K0.out, HB0.out⟩
    case round =>
      clear HB0 K0 a0 a1 a2 a3
      obtain ⟨l, hl, rfl, rfl, hk, hb⟩ := hrel
      have HK := Lib.hid hk
      have HB := Lib.hid hb
      obtain ⟨a0, a1, a2, a3⟩ := hk.c4
      clear hk hb
      by_cases h0 : l ≤ 80
      · have hl0 : (l : Int) ≤ 80 := by omega
        have hyes := up_yes (t := t) (l := l)
        have hno := up_no (t := t) (l := l)
        have hat := gl_at (t := t) (l := l)
        have hnot := gl_not (t := t) (l := l)
        obtain ⟨q, eq⟩ : ∃ q, glUp t l = q := ⟨_, rfl⟩
        rw [eq] at hno ⊢
        obtain ⟨m, em⟩ : ∃ m, (prTo (cfAt t (l : Int)) t.n t.n).length = m := ⟨_, rfl⟩
        have hR := HR.out
        have hR2 := fun (W : World) (hb : Below w.heap.size w W) => hR W hb l h0
        rw [em] at hat hnot hR2
        have HR2 := Lib.hid hR2
        clear hR hR2 em eq
        go_wp2_with fail
        refine (HR2.out _ HB.out).mono ?_
        rintro e w3 ⟨u, gs, rfl, hr, h3⟩
        obtain ⟨U, cu, rfl⟩ := hr.form
        have HB3 := Lib.hid (below_on HB.out h3)
        have HK3 := Lib.hid (HK.out.on h3)
        clear hr h3 a0 a1 a2 a3
        by_cases hm : m = 0
        · have HY := Lib.hid (hyes (hat hm))
          subst hm
          clear hat hnot hyes hno
          go_wp2_with fail
          go_roundw
          case rel => exact ⟨l + 1, by omega, by go_num, by rw [HY.out], HK3.out, HB3.out⟩
          case measure => simp [intOf]; omega
        · have HN := Lib.hid (hno (hnot hm))
          have hm0 : ((m : Int) == 0) = false := by simp; omega
          have hm1 : ¬ (m : Int) = 0 := by omega
          clear hat hnot hyes hno
          go_wp2_with fail
          go_roundw
          case rel => exact ⟨l + 1, by omega, by go_num, by rw [HN.out], HK3.out, HB3.out⟩
          case measure => simp [intOf]; omega
      · obtain rfl : l = 81 := by omega
        have HY := Lib.hid (show glUp t 81 = glDown t 80 from gl_same t 80)
        go_wp2_with fail
        go_ret2
        exact ⟨by rw [HT.out.1, HT.out.2, ← HY.out]; rfl, HB.out⟩
end Go.Proofs.YtjcepipgjpaclaaGreat

namespace Go.Proofs.YtjcepipgjpaclaaGreat
open Go.RowKit

theorem only_cell (w : World) (c i : Nat) (u : Value) : Only c (c + 1) w (w.setCell ⟨c, i, none⟩ u) :=
  ⟨rfl, rfl, rfl, by simp, fun k _ ho => Below.heap_setCell w _ u k (by show k ≠ c; omega)⟩
theorem pairs_at {p : Nat → Nat → Bool} {n j : Nat} (h : j < (prTo p n n).length) : ∃ i k : Nat, i < k ∧ k < n ∧ (prTo p n n).getD j [] = [(i : Int), (k : Int)] := by
  obtain ⟨i, k, _, h2, h3, _, h5⟩ := prTo_mem (List.getElem_mem h)
  refine ⟨i, k, h2, h3, ?_⟩
  rw [List.getD_eq_getElem?_getD, List.getElem?_eq_getElem h]
  exact h5
end Go.Proofs.YtjcepipgjpaclaaGreat

namespace Go.Proofs.YtjcepipgjpaclaaGreat
open Go.RowKit

theorem prIn_pre (p : Nat → Nat → Bool) (i : Nat) {a b : Nat} (h : a ≤ b) : prIn p i a <+: prIn p i b := by
  induction b with
  | zero =>
    obtain rfl : a = 0 := by omega
    exact List.prefix_rfl
  | succ b ih =>
    rcases Nat.lt_or_ge b a with h1 | h1
    · obtain rfl : a = b + 1 := by omega
      exact List.prefix_rfl
    · exact (ih h1).trans (by rw [prIn]; exact List.prefix_append _ _)
theorem prTo_pre (p : Nat → Nat → Bool) (n : Nat) {a b : Nat} (h : a ≤ b) : prTo p n a <+: prTo p n b := by
  induction b with
  | zero =>
    obtain rfl : a = 0 := by omega
    exact List.prefix_rfl
  | succ b ih =>
    rcases Nat.lt_or_ge b a with h1 | h1
    · obtain rfl : a = b + 1 := by omega
      exact List.prefix_rfl
    · exact (ih h1).trans (by rw [prTo]; exact List.prefix_append _ _)
/-- Where the pair (i, k) lies, if it is there. -/
def prC (p : Nat → Nat → Bool) (n i k : Nat) : Nat := (prTo p n i).length + (prIn p i k).length
theorem prC_first (p : Nat → Nat → Bool) (n i : Nat) : prC p n i (i + 1) = (prTo p n i).length := by unfold prC; rw [prIn_first p i _ (Nat.le_refl _)]; rfl
theorem prC_last (p : Nat → Nat → Bool) (n i : Nat) : prC p n i n = (prTo p n (i + 1)).length := by unfold prC; rw [prTo, List.length_append]
theorem prC_le (p : Nat → Nat → Bool) {n i k : Nat} (hi : i < n) (hk : k ≤ n) : prC p n i k ≤ (prTo p n n).length := by
  have h1 := (prIn_pre p i hk).length_le
  have h2 := (prTo_pre p n (a := i + 1) (b := n) hi).length_le
  have h3 := prC_last p n i
  unfold prC at h3 ⊢
  omega
theorem prC_yes {p : Nat → Nat → Bool} {n i k : Nat} (hik : i < k) (hp : p i k = true) : prC p n i (k + 1) = prC p n i k + 1 := by
  unfold prC; rw [prIn_yes hik hp, List.length_append]; rfl
theorem prC_no {p : Nat → Nat → Bool} {n i k : Nat} (hp : p i k = false) : prC p n i (k + 1) = prC p n i k := by
  unfold prC; rw [prIn_no hp]
theorem pr_next {p : Nat → Nat → Bool} {n i k : Nat} (hik : i < k) (hk : k < n) (hp : p i k = true) : prC p n i k < (prTo p n n).length ∧ (prTo p n n).getD (prC p n i k) [] = [(i : Int), (k : Int)] := by
  obtain ⟨t1, e1⟩ := prTo_pre p n (show i + 1 ≤ n by omega)
  obtain ⟨t2, e2⟩ := prIn_pre p i (show k + 1 ≤ n by omega)
  have e3 : prTo p n n = (prTo p n i ++ prIn p i k) ++ ([(i : Int), (k : Int)] :: (t2 ++ t1)) := by
    rw [← e1, prTo, ← e2, prIn_yes hik hp]
    simp
  have hl : (prTo p n i ++ prIn p i k).length = prC p n i k := by rw [List.length_append]; rfl
  constructor
  · rw [e3, List.length_append, hl]; simp
  · rw [e3, List.getD_eq_getElem?_getD, List.getElem?_append_right (by rw [hl]; exact Nat.le_refl _), hl, Nat.sub_self]
    rfl
/-- If the pair has not the property, then another one lies there, or none. -/
theorem pr_other {p : Nat → Nat → Bool} {n i k j : Nat} (hp : p i k = false) (hj : j < (prTo p n n).length) : ∃ a b : Nat, (prTo p n n).getD j [] = [(a : Int), (b : Int)] ∧ (a = i → b ≠ k) ∧ a < 1000000 + n ∧ b < n := by
  obtain ⟨a, b, h1, h2, h3, h4, h5⟩ := prTo_mem (List.getElem_mem hj)
  refine ⟨a, b, ?_, ?_, by omega, h3⟩
  · rw [List.getD_eq_getElem?_getD, List.getElem?_eq_getElem hj]; exact h5
  · rintro rfl rfl
    rw [hp] at h4; cases h4
/-- The sum of the first k numbers. -/
def sumTo (xs : List Int) : Nat → Int
  | 0 => 0
  | k + 1 => sumTo xs k + xs.getD k 0
theorem sumTo_set (l : List Int) (a : Nat) (v : Int) : ∀ m, sumTo (l.set a v) m = sumTo l m + (if a < m ∧ a < l.length then v - l.getD a 0 else 0)
  | 0 => by simp [sumTo]
  | m + 1 => by
    rw [sumTo, sumTo, sumTo_set l a v m]
    simp only [List.getD_eq_getElem?_getD, List.getElem?_set]
    by_cases e : a = m
    · subst e
      by_cases h2 : a < l.length
      · simp [h2]; omega
      · simp [h2, List.getElem?_eq_none (Nat.le_of_not_lt h2)]
    · rw [if_neg e]
      by_cases h2 : a < l.length
      · by_cases h3 : a < m
        · rw [if_pos ⟨h3, h2⟩, if_pos ⟨by omega, h2⟩]; omega
        · rw [if_neg (by omega), if_neg (by omega)]; omega
      · rw [if_neg (by omega), if_neg (by omega)]; omega
theorem sumTo_zero (n : Nat) : ∀ m, sumTo (List.replicate n 0) m = 0
  | 0 => rfl
  | m + 1 => by
    rw [sumTo, sumTo_zero n m]
    simp only [List.getD_eq_getElem?_getD, List.getElem?_replicate]
    split <;> rfl
theorem cc_sum {p : Nat → Nat → Bool} {n : Nat} : ∀ k, k ≤ (prTo p n n).length → sumTo (ccTo (prTo p n n) n k) n = 2 * (k : Int)
  | 0, _ => by rw [ccTo, sumTo_zero]; rfl
  | k + 1, hk => by
    obtain ⟨a, b, h1, h2, h3⟩ := pairs_at (p := p) (n := n) (j := k) (by omega)
    have hl := ccTo_length (prTo p n n) n k
    rw [ccTo, h3]
    show sumTo (bmp (bmp (ccTo (prTo p n n) n k) (a : Int)) (b : Int)) n = _
    unfold bmp
    rw [sumTo_set, sumTo_set, cc_sum k (by omega)]
    simp only [Int.toNat_natCast, List.length_set, hl]
    rw [if_pos (by omega), if_pos (by omega)]
    have e : ((k + 1 : Nat) : Int) = (k : Int) + 1 := by omega
    rw [e]
    omega
theorem hasI_mem {xs : List Int} {x : Int} : hasI xs xs.length x = true ↔ x ∈ xs := by
  simp only [hasI, List.any_eq_true, List.mem_range, beq_iff_eq]
  constructor
  · rintro ⟨j, hj, e⟩
    rw [List.getD_eq_getElem?_getD, List.getElem?_eq_getElem hj] at e
    subst e
    exact List.getElem_mem hj
  · intro h
    obtain ⟨j, hj, e⟩ := List.getElem_of_mem h
    exact ⟨j, hj, by rw [List.getD_eq_getElem?_getD, List.getElem?_eq_getElem hj]; exact e⟩
theorem fpTo_mem {cs : List Int} {x : Int} : ∀ {n}, x ∈ fpTo cs n ↔ ∃ i : Nat, i < n ∧ x = (i : Int) ∧ cs.getD i 0 = 0
  | 0 => by simp [fpTo]
  | n + 1 => by
    rw [fpTo, List.mem_append, fpTo_mem]
    constructor
    · rintro (⟨i, h1, h2, h3⟩ | h)
      · exact ⟨i, by omega, h2, h3⟩
      · split at h
        · rename_i h0
          simp at h
          exact ⟨n, by omega, h, h0⟩
        · simp at h
    · rintro ⟨i, h1, h2, h3⟩
      by_cases e : i = n
      · subst e
        right
        rw [if_pos h3]
        simp [h2]
      · exact .inl ⟨i, by omega, h2, h3⟩
theorem fp_has {cs : List Int} {n i : Nat} (hi : i < n) : hasI (fpTo cs n) (fpTo cs n).length (i : Int) = decide (cs.getD i 0 = 0) := by
  rw [Bool.eq_iff_iff, hasI_mem, fpTo_mem, decide_eq_true_eq]
  constructor
  · rintro ⟨j, h1, h2, h3⟩
    obtain rfl : i = j := by omega
    exact h3
  · intro h
    exact ⟨i, hi, rfl, h⟩
/-! ### The greatest least distance -/
theorem ap_bnds {t : TrN} (h : TrOk t) {i k : Nat} (hi : i < t.n) (hk : k < t.n) : 0 ≤ apT t i k ∧ 1 ≤ apB t i k := by
  obtain ⟨a, b⟩ := okMs h hi hk
  have := lp_bounds a b
  exact ⟨this.1, this.2.2.1⟩
theorem cf_mono {t : TrN} (h : TrOk t) {i k : Nat} (hi : i < t.n) (hk : k < t.n) {L M : Nat} (hLM : L ≤ M) (hc : cfAt t (L : Int) i k = true) : cfAt t (M : Int) i k = true := by
  have hb := ap_bnds h hi hk
  simp only [cfAt, decide_eq_true_eq] at hc ⊢
  have h1 : (L : Int) * L ≤ (M : Int) * M := Int.mul_le_mul (by omega) (by omega) (by omega) (by omega)
  have h2 : (L : Int) * L * apB t i k ≤ (M : Int) * M * apB t i k := Int.mul_le_mul_of_nonneg_right h1 (by omega)
  omega
theorem gl_all {t : TrN} {L : Nat} : glAt t L = true ↔ ∀ i k, i < k → k < t.n → cfAt t (L : Int) i k = false := by
  simp only [glAt, beq_iff_eq, List.length_eq_zero_iff]
  constructor
  · intro h i k hik hk
    cases hc : cfAt t (L : Int) i k with
    | false => rfl
    | true =>
      have := (pr_next (p := cfAt t (L : Int)) hik hk hc).1
      rw [h] at this
      simp at this
  · intro h
    cases he : prTo (cfAt t (L : Int)) t.n t.n with
    | nil => rfl
    | cons r l =>
      obtain ⟨i, k, _, h2, h3, h4, _⟩ := prTo_mem (show r ∈ prTo (cfAt t (L : Int)) t.n t.n by rw [he]; simp)
      rw [h i k h2 h3] at h4
      cases h4
theorem gl_mono {t : TrN} (h : TrOk t) {L M : Nat} (hLM : L ≤ M) (hM : glAt t M = true) : glAt t L = true := by
  rw [gl_all] at hM ⊢
  intro i k hik hk
  cases hc : cfAt t (L : Int) i k with
  | false => rfl
  | true =>
    have := cf_mono h (by omega) hk hLM hc
    rw [hM i k hik hk] at this
    cases this
theorem gl_zero {t : TrN} (h : TrOk t) : glAt t 0 = true := by
  rw [gl_all]
  intro i k hik hk
  have hb := ap_bnds h (show i < t.n by omega) hk
  simp only [cfAt, decide_eq_false_iff_not]
  simp
  exact hb.1
theorem down_is {t : TrN} (h : TrOk t) : ∀ k, glAt t (glDown t k) = true ∧ glDown t k ≤ k ∧ ∀ L, L ≤ k → glAt t L = true → L ≤ glDown t k
  | 0 => ⟨gl_zero h, Nat.le_refl _, fun L hL _ => hL⟩
  | k + 1 => by
    obtain ⟨h1, h2, h3⟩ := down_is h k
    rw [glDown]
    split
    · rename_i hg
      exact ⟨hg, Nat.le_refl _, fun L hL _ => hL⟩
    · rename_i hg
      refine ⟨h1, by omega, fun L hL hgL => ?_⟩
      rcases Nat.lt_or_ge k L with h4 | h4
      · obtain rfl : L = k + 1 := by omega
        exact absurd hgL hg
      · exact h3 L h4 hgL
/-- No pairs if and only if the distance is at most the greatest least one. -/
theorem gl_law {t : TrN} (h : TrOk t) {L : Int} (h0 : 0 ≤ L) (h1 : L ≤ 80) : (prTo (cfAt t L) t.n t.n).length = 0 ↔ L ≤ (glDown t 80 : Int) := by
  obtain ⟨l, rfl⟩ := Int.eq_ofNat_of_zero_le h0
  obtain ⟨a, b, c⟩ := down_is h 80
  have e : (prTo (cfAt t (l : Int)) t.n t.n).length = 0 ↔ glAt t l = true := by simp [glAt]
  rw [e]
  constructor
  · intro hg
    have := c l (by omega) hg
    omega
  · intro hl
    exact gl_mono h (by omega) a
/-- The row of the times. -/
theorem ct_get (t : TrN) (rs : List (List Int)) : ∀ {k j}, j < k → (ctTo t rs k).getD j [] = [(rs.getD j []).getD 0 0, (rs.getD j []).getD 1 0, apS t (r0 (rs.getD j [])) (r1 (rs.getD j [])), apU t (r0 (rs.getD j [])) (r1 (rs.getD j []))]
  | k + 1, j, h => by
    have hl := (ctTo_len t rs k).1
    rw [ctTo, List.getD_eq_getElem?_getD]
    by_cases e : j = k
    · subst e
      rw [List.getElem?_append_right (by omega), hl, Nat.sub_self]
      rfl
    · rw [List.getElem?_append_left (by omega), ← List.getD_eq_getElem?_getD]
      exact ct_get t rs (by omega)
end Go.Proofs.YtjcepipgjpaclaaGreat

namespace Go.Proofs.YtjcepipgjpaclaaGreat

theorem ratio_trans {x xb c cb y yb : Int} (h1 : x * cb ≤ c * xb) (h2 : c * yb ≤ y * cb) (hx : 1 ≤ xb) (hc : 1 ≤ cb) (hy : 1 ≤ yb) : x * yb ≤ y * xb := by
  have a : x * cb * yb ≤ c * xb * yb := Int.mul_le_mul_of_nonneg_right h1 (by omega)
  have b : c * yb * xb ≤ y * cb * xb := Int.mul_le_mul_of_nonneg_right h2 (by omega)
  have e1 : x * cb * yb = x * yb * cb := by rw [Int.mul_assoc, Int.mul_comm cb yb, ← Int.mul_assoc]
  have e2 : c * xb * yb = c * yb * xb := by rw [Int.mul_assoc, Int.mul_comm xb yb, ← Int.mul_assoc]
  have e3 : y * cb * xb = y * xb * cb := by rw [Int.mul_assoc, Int.mul_comm cb xb, ← Int.mul_assoc]
  rw [e1, e2] at a
  rw [e3] at b
  exact Int.le_of_mul_le_mul_right (Int.le_trans a b) (by omega)
/-- The pair s comes at least as close as i and k. -/
def lsLe (t : TrN) (s : Nat × Nat) (i k : Nat) : Prop := apT t s.1 s.2 * apB t i k ≤ apT t i k * apB t s.1 s.2
theorem lsAt_no {t : TrN} {a b : Nat} {s : Nat × Nat} (h : lsAt t a b s = false) : lsLe t s a b := by
  simp only [lsAt, decide_eq_false_iff_not] at h
  unfold lsLe
  omega
theorem lsAt_yes {t : TrN} {a b : Nat} {s : Nat × Nat} (h : lsAt t a b s = true) : lsLe t (a, b) s.1 s.2 := by
  simp only [lsAt, decide_eq_true_eq] at h
  unfold lsLe
  show apT t a b * apB t s.1 s.2 ≤ apT t s.1 s.2 * apB t a b
  omega
section
variable {t : TrN}
theorem rmIn_least (h : TrOk t) {a : Nat} {s : Nat × Nat} (ha : a < t.n) (hs : s.1 < s.2 ∧ s.2 < t.n) : ∀ d, d ≤ t.n → (∀ i k, i < t.n → k < t.n → lsLe t s i k → lsLe t (rmIn t a s d) i k) ∧ ∀ k, a < k → k < d → lsLe t (rmIn t a s d) a k
  | 0, _ => ⟨fun i k _ _ h => h, fun k _ hk => absurd hk (by omega)⟩
  | d + 1, hd => by
    obtain ⟨h1, h2⟩ := rmIn_least h ha hs d (by omega)
    have hlt := rmIn_lt (t := t) (a := a) hs d (by omega)
    by_cases had : a < d
    · cases hl : lsAt t a d (rmIn t a s d) with
      | false =>
        rw [rmIn_no hl]
        refine ⟨h1, fun k hk hkd => ?_⟩
        rcases Nat.lt_succ_iff_lt_or_eq.1 hkd with h3 | rfl
        · exact h2 k hk h3
        · exact lsAt_no hl
      | true =>
        rw [rmIn_yes had hl]
        have hb1 := (ap_bnds h ha (show d < t.n by omega)).2
        have hb2 := (ap_bnds h (show (rmIn t a s d).1 < t.n by omega) hlt.2).2
        have hle := lsAt_yes hl
        have tr : ∀ i k, i < t.n → k < t.n → lsLe t (rmIn t a s d) i k → lsLe t (a, d) i k := fun i k hi hk h3 =>
          ratio_trans (x := apT t a d) (xb := apB t a d) (c := apT t (rmIn t a s d).1 (rmIn t a s d).2) (cb := apB t (rmIn t a s d).1 (rmIn t a s d).2) hle h3 hb1 hb2 (ap_bnds h hi hk).2
        refine ⟨fun i k hi hk h3 => tr i k hi hk (h1 i k hi hk h3), fun k hk hkd => ?_⟩
        rcases Nat.lt_succ_iff_lt_or_eq.1 hkd with h3 | rfl
        · exact tr a k ha (by omega) (h2 k hk h3)
        · exact Int.le_refl _
    · have e : rmIn t a s (d + 1) = rmIn t a s d := by rw [rmIn, if_neg (by omega)]
      rw [e]
      exact ⟨h1, fun k hk hkd => h2 k hk (by omega)⟩
theorem rmOut_least (h : TrOk t) (hn : 2 ≤ t.n) : ∀ a, a ≤ t.n → ∀ i k, i < a → i < k → k < t.n → lsLe t (rmOut t t.n a) i k
  | 0, _, i, k, hi, _, _ => absurd hi (by omega)
  | a + 1, ha, i, k, hi, hik, hk => by
    have hl := rmIn_least h (show a < t.n by omega) (rmOut_lt (t := t) hn a) t.n (Nat.le_refl _)
    rw [rmOut]
    rcases Nat.lt_succ_iff_lt_or_eq.1 hi with h1 | rfl
    · exact hl.1 i k (by omega) hk (rmOut_least h hn a (by omega) i k h1 hik hk)
    · exact hl.2 k hik hk
theorem ro_in (h : roB t = true) : trB t = true ∧ 2 ≤ t.n := by simpa [roB] using h
/-- The whole is at least 1, and no pair comes closer than the room. -/
theorem ro_least (h : roB t = true) : 0 ≤ roA t ∧ 1 ≤ roC t ∧ (∃ i k, i < k ∧ k < t.n ∧ roA t = apT t i k ∧ roC t = apB t i k) ∧ ∀ i k, i < k → k < t.n → roA t * apB t i k ≤ apT t i k * roC t := by
  obtain ⟨h1, h2⟩ := ro_in h
  have hok := tr_ok h1
  obtain ⟨-, e1, e2⟩ := ro_yes h
  have hlt := rmOut_lt (t := t) h2 t.n
  have hb := ap_bnds hok (show (rmOut t t.n t.n).1 < t.n by omega) hlt.2
  rw [e1, e2]
  exact ⟨hb.1, hb.2, ⟨_, _, hlt.1, hlt.2, rfl, rfl⟩, fun i k hik hk => rmOut_least hok h2 t.n (Nat.le_refl _) i k (by omega) hik hk⟩
/-- The room is 0 if and only if somebody collides. -/
theorem ro_hits (h : roB t = true) : roA t = 0 ↔ 0 < (clL t).length := by
  obtain ⟨h1, h2⟩ := ro_in h
  have hok := tr_ok h1
  obtain ⟨a, b, ⟨i, k, hik, hk, ea, eb⟩, hall⟩ := ro_least h
  rw [(cl_yes h1).2.1]
  constructor
  · intro h0
    have hp : clAt t i k = true := by simp [clAt, ← ea, h0]
    have := (pr_next (p := clAt t) hik hk hp).1
    omega
  · intro hl
    obtain ⟨x, y, _, hxy, hy, hp, _⟩ := prTo_mem (List.getElem_mem hl)
    have hz : apT t x y = 0 := by simpa [clAt] using hp
    have := hall x y hxy hy
    rw [hz, Int.zero_mul] at this
    have hb := (ap_bnds hok (show x < t.n by omega) hy).2
    rcases Int.lt_or_le 0 (roA t) with h3 | h3
    · have := Int.mul_pos h3 (show 0 < apB t x y by omega)
      omega
    · omega
/-- The greatest least distance fits into the room, and a greater one does not. -/
theorem ro_great (h : roB t = true) : glV t * glV t * roC t ≤ roA t ∧ (glV t < 80 → roA t < (glV t + 1) * (glV t + 1) * roC t) := by
  obtain ⟨h1, h2⟩ := ro_in h
  have hok := tr_ok h1
  obtain ⟨a, b, ⟨i, k, hik, hk, ea, eb⟩, hall⟩ := ro_least h
  rw [(gl_yes h1).2]
  obtain ⟨g1, g2, g3⟩ := down_is hok 80
  constructor
  · have hc := gl_all.1 g1 i k hik hk
    simp only [cfAt, decide_eq_false_iff_not] at hc
    rw [ea, eb]
    omega
  · intro hlt
    have hno : glAt t (glDown t 80 + 1) ≠ true := fun hg => by
      have := g3 (glDown t 80 + 1) (by omega) hg
      omega
    have hex : ∃ x y, x < y ∧ y < t.n ∧ cfAt t ((glDown t 80 + 1 : Nat) : Int) x y = true := by
      apply Classical.byContradiction
      intro hn
      refine hno (gl_all.2 fun x y hxy hy => ?_)
      cases hc : cfAt t ((glDown t 80 + 1 : Nat) : Int) x y with
      | false => rfl
      | true => exact absurd ⟨x, y, hxy, hy, hc⟩ hn
    obtain ⟨x, y, hxy, hy, hc⟩ := hex
    simp only [cfAt, decide_eq_true_eq] at hc
    have hb := (ap_bnds hok (show x < t.n by omega) hy).2
    have h3 := hall x y hxy hy
    have e : ((glDown t 80 + 1 : Nat) : Int) = (glDown t 80 : Int) + 1 := by omega
    rw [e] at hc
    obtain ⟨D, eD⟩ : ∃ D, ((glDown t 80 : Int) + 1) * ((glDown t 80 : Int) + 1) = D := ⟨_, rfl⟩
    rw [eD] at hc ⊢
    have h4 : apT t x y * roC t < D * apB t x y * roC t := Int.mul_lt_mul_of_pos_right hc (by omega)
    have e2 : D * apB t x y * roC t = D * roC t * apB t x y := by rw [Int.mul_assoc, Int.mul_comm (apB t x y), ← Int.mul_assoc]
    rw [e2] at h4
    exact Int.lt_of_mul_lt_mul_right (Int.lt_of_le_of_lt h3 h4) (by omega)
theorem ro_bound (h : roB t = true) : roA t ≤ 42949672960000 ∧ roC t ≤ 13107200 := by
  obtain ⟨h1, h2⟩ := ro_in h
  have hok := tr_ok h1
  obtain ⟨-, e1, e2⟩ := ro_yes h
  have hlt := rmOut_lt (t := t) h2 t.n
  obtain ⟨a, b⟩ := okMs hok (show (rmOut t t.n t.n).1 < t.n by omega) hlt.2
  have := lp_bounds a b
  rw [e1, e2]
  exact ⟨this.2.1, this.2.2.2⟩
theorem gl_range (h : trB t = true) : 0 ≤ glV t ∧ glV t ≤ 80 := by
  rw [(gl_yes h).2]
  have := (down_is (tr_ok h) 80).2.1
  omega
end
end Go.Proofs.YtjcepipgjpaclaaGreat

namespace Go.Proofs.YtjcepipgjpaclaaGreat
open Go.RowKit

set_option maxRecDepth 100000 in
set_option maxHeartbeats 4000000 in
theorem CollidingPairs_any (v : Value) (B : Nat) (t : TrN) (w : World) (hcp : CapT v) (hv : RdT w B v t) (hB : B ≤ w.heap.size) (hs : t.small) :
    Calls Tryz.prog 20 #[v] w fun e w' => ∃ u gs, e = .returned (.tuple #[u, .bool (clB t)]) ∧ Rows w' w.heap.size u (clN t) gs (clL t) ∧ Below w.heap.size w w' := by
  obtain ⟨A, ca, C, cb, D, cc, rfl, _, _, _⟩ := hv.form
  have hb0 : Below w.heap.size w (w.alloc (.cells #[.slice A t.n ca, .slice C t.m cb, .int .i64 t.c, .slice D t.p cc] 27)) := below_new (Below.refl _ _) _
  have k0 := Blk.new w 27 #[.slice A t.n ca, .slice C t.m cb, .int .i64 t.c, .slice D t.p cc]
  have Hv := Lib.hid (fun W (hb : Below w.heap.size w W) => hv.below' hb hB)
  have Hc := Lib.hid hcp
  have HB0 := Lib.hid hb0
  have K0 := Lib.hid k0
  obtain ⟨a0, a1, a2, a3⟩ := k0.c4
  clear hv hcp hb0 k0
  have P := IsTransition_any _ B t _ Hc.out (Hv.out _ HB0.out) (Nat.le_trans hB HB0.out.size) hs
  cases b1 : trB t with
  | false =>
    have HT := Lib.hid (cl_no (show clB t = false from b1))
    rw [b1] at P
    have HP := Lib.hid P
    clear P b1
    go_enter Tryz.func20, Tryz.ntmps20
    go_wp2_with fail
    refine HP.out.mono ?_
    rintro e w2 ⟨rfl, h2⟩
    have HB1 := Lib.hid (below_on HB0.out h2)
    have K1 := Lib.hid (K0.out.on h2)
    clear h2 a0 a1 a2 a3 HB0 K0
    have HB0 := HB1
    have K0 := K1
    clear HB1 K1
    obtain ⟨a0, a1, a2, a3⟩ := K0.out.c4
    go_wp2_with fail
    go_ret2
    rw [HT.out.1, HT.out.2.1, HT.out.2.2]
    exact ⟨_, [], rfl, Rows.nil _ _, HB0.out⟩
  | true =>
    have hcl := cl_yes (show clB t = true from b1)
    have hok := tr_ok b1
    have hn1 := hok.n1
    have hn0 := hok.n0
    rw [b1] at P
    have HP := Lib.hid P
    have Q1 := fun W (hb : Below w.heap.size w W) => movesOf_any _ B t W (Hv.out W hb) (Nat.le_trans hB hb.size) hok
    have HFF := fun i k => okMs hok (i := i) (k := k)
    obtain ⟨n, en⟩ : ∃ n, t.n = n := ⟨_, rfl⟩
    rw [en] at HFF hn1 hn0 hcl
    have HF := Lib.hid HFF
    have HT := Lib.hid hcl
    have HQ1 := Lib.hid Q1
    have EN := Lib.hid en
    clear P b1 hok Q1 HFF hcl en
    go_enter Tryz.func20, Tryz.ntmps20
    go_wp2_with fail
    refine HP.out.mono ?_
    rintro e w2 ⟨rfl, h2⟩
    have HB1 := Lib.hid (below_on HB0.out h2)
    have K1 := Lib.hid (K0.out.on h2)
    clear h2 a0 a1 a2 a3 HB0 K0
    have HB0 := HB1
    have K0 := K1
    clear HB1 K1
    obtain ⟨a0, a1, a2, a3⟩ := K0.out.c4
    have P1 := Lib.hid (HQ1.out _ HB0.out)
    have HBW := HB0
    go_wp2_with fail
    refine P1.out.mono ?_
    rintro e w1 ⟨mv, rfl, o1, b1⟩
    rw [EN.out] at o1
    obtain ⟨A1, c1, rfl⟩ := (Rd.of_own o1).form
    have HM := Lib.hid (Rd.of_own o1)
    have HB1 := Lib.hid (HBW.out.trans (b1.mono HBW.out.size))
    clear o1 b1 P1
    go_wp2_with fail
    go_loopw [5, 18] (fun o s wr => ∃ (a : Nat) (gs : List Nat), a ≤ n ∧ s = .int .i64 a ∧ Rows wr w1.heap.size o (prTo (clAt t) n a).length gs (prTo (clAt t) n a) ∧ Below w1.heap.size w1 wr) (fun _ s _ => n - (intOf s).toNat)
    case atStart => exact ⟨0, [], Nat.zero_le _, rfl, Rows.empty w1, below_new (Below.refl _ _) _⟩
    case round =>
      obtain ⟨a, gs, ha, rfl, hr, hb⟩ := hrel
      obtain ⟨wo, rfl⟩ : ∃ wo : World, wo = wr := ⟨_, rfl⟩
      have HR := Lib.hid hr
      have HB := Lib.hid hb
      clear hr hb
      by_cases hlt : a < n
      · obtain ⟨b, off, rfl, hbB, hcells⟩ := HM.out.moves (by omega)
        have HC := Lib.hid hcells
        clear hcells
        have ha1 : (a : Int) < (n : Int) := by omega
        go_wp2_with fail
        go_loopw [5, 7] (fun o s wq => ∃ (d : Nat) (gs : List Nat), a + 1 ≤ d ∧ d ≤ n ∧ s = .int .i64 d ∧ Rows wq w1.heap.size o (prTo (clAt t) n a ++ prIn (clAt t) a d).length gs (prTo (clAt t) n a ++ prIn (clAt t) a d) ∧ Below w1.heap.size w1 wq) (fun _ s _ => n - (intOf s).toNat)
        case atStart => exact ⟨a + 1, gs, by omega, by omega, by go_num, by rw [prIn_first _ _ _ (Nat.le_refl _), List.append_nil]; exact HR.out, HB.out⟩
        case round =>
          clear HR HB
          obtain ⟨d, gs, hd1, hd2, rfl, hr, hb⟩ := hrel
          have HR := Lib.hid hr
          by_cases hlk : d < n
          · obtain ⟨c0, c1', c2, c3, c4⟩ := HC.out wr a hb hlt
            obtain ⟨e0, e1, e2, e3, e4⟩ := HC.out wr d hb hlk
            have hokm := HF.out a d hlt hlk
            have hy := prIn_yes (p := clAt t) (i := a) (d := d) (by omega)
            have hno := prIn_no (p := clAt t) (i := a) (d := d)
            have hat : clAt t a d = (lpT (X t.xs a - X t.xs d) (Y t.xs a - Y t.xs d) (X t.ys (plc t a) - X t.ys (plc t d)) (Y t.ys (plc t a) - Y t.ys (plc t d)) == 0) := rfl
            obtain ⟨x1, ex1⟩ : ∃ x, X t.xs a = x := ⟨_, rfl⟩
            obtain ⟨x2, ex2⟩ : ∃ x, Y t.xs a = x := ⟨_, rfl⟩
            obtain ⟨x3, ex3⟩ : ∃ x, X t.ys (plc t a) = x := ⟨_, rfl⟩
            obtain ⟨x4, ex4⟩ : ∃ x, Y t.ys (plc t a) = x := ⟨_, rfl⟩
            obtain ⟨y1, ey1⟩ : ∃ x, X t.xs d = x := ⟨_, rfl⟩
            obtain ⟨y2, ey2⟩ : ∃ x, Y t.xs d = x := ⟨_, rfl⟩
            obtain ⟨y3, ey3⟩ : ∃ x, X t.ys (plc t d) = x := ⟨_, rfl⟩
            obtain ⟨y4, ey4⟩ : ∃ x, Y t.ys (plc t d) = x := ⟨_, rfl⟩
            obtain ⟨tc, etc⟩ : ∃ x, t.c = x := ⟨_, rfl⟩
            rw [ex1] at c0
            rw [ex2] at c1'
            rw [ex3] at c2
            rw [ex4] at c3
            rw [etc] at c4 e4
            rw [ey1] at e0
            rw [ey2] at e1
            rw [ey3] at e2
            rw [ey4] at e3
            rw [ex1, ex2, ex3, ex4, ey1, ey2, ey3, ey4] at hokm hat
            have P := fun W => leastApart_any x1 x2 x3 x4 tc y1 y2 y3 y4 tc W hokm.1 hokm.2
            obtain ⟨q, eq⟩ : ∃ q, lpT (x1 - y1) (x2 - y2) (x3 - y3) (x4 - y4) = q := ⟨_, rfl⟩
            obtain ⟨q2, eq2⟩ : ∃ q, lpB (x1 - y1) (x2 - y2) (x3 - y3) (x4 - y4) = q := ⟨_, rfl⟩
            rw [eq] at hat P
            rw [eq2] at P
            rw [hat] at hy hno
            have HP := Lib.hid P
            have HB := Lib.hid hb
            have i0 : (0 : Int) ≤ (a : Int) := by omega
            have i2 : (0 : Int) ≤ (d : Int) := by omega
            have i3 : (d : Int) < (n : Int) := by omega
            clear hr hb hokm hat ex1 ex2 ex3 ex4 ey1 ey2 ey3 ey4 etc P eq eq2
            go_upto_region 10 with (fail)
            go_cut [8] (fun s wx => s = .int .i64 q ∧ Below wr.heap.size wr wx)
            case first =>
              go_region_held3 (fun W => W.cell? ⟨b, off + a * 5, none⟩ = some (.int .i64 x1) ∧ W.cell? ⟨b, off + a * 5 + 1, none⟩ = some (.int .i64 x2) ∧ W.cell? ⟨b, off + a * 5 + 2, none⟩ = some (.int .i64 x3) ∧ W.cell? ⟨b, off + a * 5 + 3, none⟩ = some (.int .i64 x4) ∧ W.cell? ⟨b, off + a * 5 + 4, none⟩ = some (.int .i64 tc) ∧ W.cell? ⟨b, off + d * 5, none⟩ = some (.int .i64 y1) ∧ W.cell? ⟨b, off + d * 5 + 1, none⟩ = some (.int .i64 y2) ∧ W.cell? ⟨b, off + d * 5 + 2, none⟩ = some (.int .i64 y3) ∧ W.cell? ⟨b, off + d * 5 + 3, none⟩ = some (.int .i64 y4) ∧ W.cell? ⟨b, off + d * 5 + 4, none⟩ = some (.int .i64 tc) ∧ Below wr.heap.size wr W)
                (first | exact ⟨c0, c1', c2, c3, c4, e0, e1, e2, e3, e4, (Below.refl _ _).drew⟩ | (go_split_ands; exact ⟨cell_on hb2 (by assumption), cell_on hb2 (by assumption), cell_on hb2 (by assumption), cell_on hb2 (by assumption), cell_on hb2 (by assumption), cell_on hb2 (by assumption), cell_on hb2 (by assumption), cell_on hb2 (by assumption), cell_on hb2 (by assumption), cell_on hb2 (by assumption), below_on (by assumption) hb2⟩) | go_keep)
                (first | (go_at_call 41; refine (HP.out _).mono ?_; rintro e w2 ⟨rfl, hb2⟩))
              all_goals
                go_split_ands
                go_wp2_with fail
                go_meet
                exact ⟨rfl, by assumption⟩
            case rest =>
              obtain ⟨rfl, hb5⟩ := hcut
              have HR5 := Lib.hid (HR.out.below hb5 (Nat.le_refl _))
              have HB5 := Lib.hid (below_on HB.out hb5)
              clear hb5 c0 c1' c2 c3 c4 e0 e1 e2 e3 e4 HP HR HB
              by_cases hq : q = 0
              case neg =>
                have HN := Lib.hid (hno (by simp [hq]))
                have hqe : (q == 0) = false := by simp [hq]
                go_wp2_with fail
                go_roundw
                case rel => exact ⟨d + 1, gs, by omega, by omega, by go_num, by rw [HN.out]; exact HR5.out, HB5.out⟩
                case measure => simp [intOf]; omega
              case pos =>
                have HY := Lib.hid (hy (by simp [hq]))
                subst hq
                have HR := HR5
                have HB := HB5
                have g0 : Blk ((wc.alloc (.cells #[.int .i64 (a : Int), .int .i64 (d : Int)] 3)).alloc (.cells #[.slice (some ⟨wc.heap.size, 0, none⟩) 2 2] 25)) wc.heap.size 3 (ints [(a : Int), (d : Int)]).toArray := (Blk.new _ _ _).alloc _
                have g1 := (Blk.new2 wc (.cells #[.int .i64 (a : Int), .int .i64 (d : Int)] 3) 25 #[.slice (some ⟨wc.heap.size, 0, none⟩) 2 2]).c1
                have hr2 := Lib.hid ((HR.out.alloc (.cells #[.int .i64 (a : Int), .int .i64 (d : Int)] 3)).alloc (.cells #[.slice (some ⟨wc.heap.size, 0, none⟩) 2 2] 25))
                have hb2 := Lib.hid (below_new (below_new HB.out (.cells #[.int .i64 (a : Int), .int .i64 (d : Int)] 3)) (.cells #[.slice (some ⟨wc.heap.size, 0, none⟩) 2 2] 25))
                have G0 := Lib.hid g0
                have hnew : wc.heap.size ∉ gs := fun hm => by have := (HR.out.mem hm).2; omega
                have hwz : w1.heap.size ≤ wc.heap.size := HB.out.size
                have hln := pr_len (p := (clAt t)) (n := n) (a := a) (d := d) hn1 (by omega) (by omega)
                have HLN := Lib.hid hln
                have HNW := Lib.hid hnew
                have HWZ := Lib.hid hwz
                clear g0 hln hnew hwz
                go_wp2_with (at_builtin; refine app_row rfl _ _ rfl w1.heap.size _ _ gs _ rfl hr2.out (wc.heap.size + 1) wc.heap.size [(a : Int), (d : Int)] rfl g1 G0.out HWZ.out HNW.out (by have := HLN.out; omega) (by simp; have := HWZ.out; omega) ?_; intro v9 w9 hr9 hg9)
                have hb3 : Below w1.heap.size w1 w9 := hb2.out.grown hg9 (by simp; have := HWZ.out; omega) (fun g hg => (hr2.out.own.lt g hg).1)
                have HR9 := Lib.hid (show Rows w9 w1.heap.size v9 (prTo (clAt t) n a ++ prIn (clAt t) a (d + 1)).length (gs ++ [wc.heap.size]) (prTo (clAt t) n a ++ prIn (clAt t) a (d + 1)) by
                  rw [HY.out, ← List.append_assoc]
                  have := hr9
                  rwa [show (prTo (clAt t) n a ++ prIn (clAt t) a d ++ [[(a : Int), (d : Int)]]).length = (prTo (clAt t) n a ++ prIn (clAt t) a d).length + 1 by rw [List.length_append]; rfl])
                have HB9 := Lib.hid hb3
                go_wp2_with fail
                go_roundw
                case rel => exact ⟨d + 1, gs ++ [wc.heap.size], by omega, by omega, by go_num, HR9.out, HB9.out⟩
                case measure => simp [intOf]; omega
          · obtain rfl : d = n := by omega
            have HB := Lib.hid hb
            clear hr hb
            go_wp2_with fail
            go_roundw
            case rel => exact ⟨a + 1, gs, by omega, by go_num, HR.out, HB.out⟩
            case measure => simp [intOf]; omega
      · obtain rfl : a = n := by omega
        go_wp2_with fail
        go_ret2
        rw [HT.out.1, HT.out.2.1, HT.out.2.2]
        exact ⟨_, gs, rfl, HR.out.base HB1.out.size, HB1.out.trans (HB.out.mono HB1.out.size)⟩
set_option maxRecDepth 100000 in
set_option maxHeartbeats 4000000 in
theorem specCollidingPairs_any (v : Value) (B : Nat) (t : TrN) (w : World) (hcp : CapT v) (hv : RdT w B v t) (hB : B ≤ w.heap.size) (hs : t.small) :
    Calls Tryz.prog 21 #[v] w fun e w' => ∃ u gs, e = .returned (.tuple #[u, .bool (clB t)]) ∧ Rows w' w.heap.size u (clN t) gs (clL t) ∧ Below w.heap.size w w' := by
  obtain ⟨A, ca, C, cb, D, cc, rfl, _, _, _⟩ := hv.form
  have hb0 : Below w.heap.size w (w.alloc (.cells #[.slice A t.n ca, .slice C t.m cb, .int .i64 t.c, .slice D t.p cc] 27)) := below_new (Below.refl _ _) _
  have k0 := Blk.new w 27 #[.slice A t.n ca, .slice C t.m cb, .int .i64 t.c, .slice D t.p cc]
  have Hv := Lib.hid (fun W (hb : Below w.heap.size w W) => hv.below' hb hB)
  have Hc := Lib.hid hcp
  have HB0 := Lib.hid hb0
  have K0 := Lib.hid k0
  obtain ⟨a0, a1, a2, a3⟩ := k0.c4
  clear hv hcp hb0 k0
  have P := asGood_any _ B t _ Hc.out (Hv.out _ HB0.out) (Nat.le_trans hB HB0.out.size) hs
  cases b1 : trB t with
  | false =>
    have HT := Lib.hid (cl_no (show clB t = false from b1))
    rw [b1] at P
    have HP := Lib.hid P
    clear P b1
    go_enter Tryz.func21, Tryz.ntmps21
    go_wp2_with fail
    refine HP.out.mono ?_
    rintro e w2 ⟨rfl, h2⟩
    have HB1 := Lib.hid (below_on HB0.out h2)
    have K1 := Lib.hid (K0.out.on h2)
    clear h2 a0 a1 a2 a3 HB0 K0
    have HB0 := HB1
    have K0 := K1
    clear HB1 K1
    obtain ⟨a0, a1, a2, a3⟩ := K0.out.c4
    go_wp2_with fail
    go_ret2
    rw [HT.out.1, HT.out.2.1, HT.out.2.2]
    exact ⟨_, [], rfl, Rows.nil _ _, HB0.out⟩
  | true =>
    have hcl := cl_yes (show clB t = true from b1)
    have hok := tr_ok b1
    have hn1 := hok.n1
    have hn0 := hok.n0
    rw [b1] at P
    have HP := Lib.hid P
    have Q1 := fun W (hb : Below w.heap.size w W) => asMoves_any _ B t W (Hv.out W hb) (Nat.le_trans hB hb.size) hok
    have HFF := fun i k => okMs hok (i := i) (k := k)
    obtain ⟨n, en⟩ : ∃ n, t.n = n := ⟨_, rfl⟩
    rw [en] at HFF hn1 hn0 hcl
    have HF := Lib.hid HFF
    have HT := Lib.hid hcl
    have HQ1 := Lib.hid Q1
    have EN := Lib.hid en
    clear P b1 hok Q1 HFF hcl en
    go_enter Tryz.func21, Tryz.ntmps21
    go_wp2_with fail
    refine HP.out.mono ?_
    rintro e w2 ⟨rfl, h2⟩
    have HB1 := Lib.hid (below_on HB0.out h2)
    have K1 := Lib.hid (K0.out.on h2)
    clear h2 a0 a1 a2 a3 HB0 K0
    have HB0 := HB1
    have K0 := K1
    clear HB1 K1
    obtain ⟨a0, a1, a2, a3⟩ := K0.out.c4
    have P1 := Lib.hid (HQ1.out _ HB0.out)
    have HBW := HB0
    go_wp2_with fail
    refine P1.out.mono ?_
    rintro e w1 ⟨mv, rfl, o1, b1⟩
    rw [EN.out] at o1
    obtain ⟨A1, c1, rfl⟩ := (Rd.of_own o1).form
    have HM := Lib.hid (Rd.of_own o1)
    have HB1 := Lib.hid (HBW.out.trans (b1.mono HBW.out.size))
    clear o1 b1 P1
    go_wp2_with fail
    go_loopw [5, 18] (fun o s wr => ∃ (a : Nat) (gs : List Nat), a ≤ n ∧ s = .int .i64 a ∧ Rows wr w1.heap.size o (prTo (clAt t) n a).length gs (prTo (clAt t) n a) ∧ Below w1.heap.size w1 wr) (fun _ s _ => n - (intOf s).toNat)
    case atStart => exact ⟨0, [], Nat.zero_le _, rfl, Rows.nil w1 _, Below.refl _ _⟩
    case round =>
      obtain ⟨a, gs, ha, rfl, hr, hb⟩ := hrel
      obtain ⟨wo, rfl⟩ : ∃ wo : World, wo = wr := ⟨_, rfl⟩
      have HR := Lib.hid hr
      have HB := Lib.hid hb
      clear hr hb
      by_cases hlt : a < n
      · obtain ⟨b, off, rfl, hbB, hcells⟩ := HM.out.moves (by omega)
        have HC := Lib.hid hcells
        clear hcells
        have ha1 : (a : Int) < (n : Int) := by omega
        have ha2 : (0 : Int) ≤ (a : Int) := by omega
        obtain ⟨c0, c1', c2, c3, c4⟩ := HC.out wo a HB.out hlt
        obtain ⟨x1, ex1⟩ : ∃ x, X t.xs a = x := ⟨_, rfl⟩
        obtain ⟨x2, ex2⟩ : ∃ x, Y t.xs a = x := ⟨_, rfl⟩
        obtain ⟨x3, ex3⟩ : ∃ x, X t.ys (plc t a) = x := ⟨_, rfl⟩
        obtain ⟨x4, ex4⟩ : ∃ x, Y t.ys (plc t a) = x := ⟨_, rfl⟩
        obtain ⟨tc, etc⟩ : ∃ x, t.c = x := ⟨_, rfl⟩
        rw [ex1] at c0
        rw [ex2] at c1'
        rw [ex3] at c2
        rw [ex4] at c3
        rw [etc] at c4
        have K := Lib.hid (Blk.new wo 70 #[.int .i64 x1, .int .i64 x2, .int .i64 x3, .int .i64 x4, .int .i64 tc])
        have HR0 := Lib.hid (HR.out.alloc (.cells #[.int .i64 x1, .int .i64 x2, .int .i64 x3, .int .i64 x4, .int .i64 tc] 70))
        have HBB := Lib.hid (below_new HB.out (.cells #[.int .i64 x1, .int .i64 x2, .int .i64 x3, .int .i64 x4, .int .i64 tc] 70))
        have EX := Lib.hid (And.intro ex1 (And.intro ex2 (And.intro ex3 (And.intro ex4 etc))))
        clear HR HB ex1 ex2 ex3 ex4 etc
        go_wp2_with fail
        go_loopw [5, 8] (fun o s wq => ∃ (d : Nat) (gs : List Nat), a + 1 ≤ d ∧ d ≤ n ∧ s = .int .i64 d ∧ Rows wq w1.heap.size o (prTo (clAt t) n a ++ prIn (clAt t) a d).length gs (prTo (clAt t) n a ++ prIn (clAt t) a d) ∧ Blk wq wo.heap.size 70 #[.int .i64 x1, .int .i64 x2, .int .i64 x3, .int .i64 x4, .int .i64 tc] ∧ Below w1.heap.size w1 wq) (fun _ s _ => n - (intOf s).toNat)
        case atStart => exact ⟨a + 1, gs, by omega, by omega, by go_num, by rw [prIn_first _ _ _ (Nat.le_refl _), List.append_nil]; exact HR0.out, K.out, HBB.out⟩
        case round =>
          clear HR0 HBB K c0 c1' c2 c3 c4
          obtain ⟨d, gs, hd1, hd2, rfl, hr, hbk, hb⟩ := hrel
          have HR := Lib.hid hr
          by_cases hlk : d < n
          · obtain ⟨ex1, ex2, ex3, ex4, etc⟩ := EX.out
            obtain ⟨c0, c1', c2, c3, c4⟩ := hbk.c5
            have HK := Lib.hid hbk
            obtain ⟨e0, e1, e2, e3, e4⟩ := HC.out wr d hb hlk
            have hokm := HF.out a d hlt hlk
            have hy := prIn_yes (p := clAt t) (i := a) (d := d) (by omega)
            have hno := prIn_no (p := clAt t) (i := a) (d := d)
            have hat : clAt t a d = (lpT (X t.xs a - X t.xs d) (Y t.xs a - Y t.xs d) (X t.ys (plc t a) - X t.ys (plc t d)) (Y t.ys (plc t a) - Y t.ys (plc t d)) == 0) := rfl
            obtain ⟨y1, ey1⟩ : ∃ x, X t.xs d = x := ⟨_, rfl⟩
            obtain ⟨y2, ey2⟩ : ∃ x, Y t.xs d = x := ⟨_, rfl⟩
            obtain ⟨y3, ey3⟩ : ∃ x, X t.ys (plc t d) = x := ⟨_, rfl⟩
            obtain ⟨y4, ey4⟩ : ∃ x, Y t.ys (plc t d) = x := ⟨_, rfl⟩
            rw [etc] at e4
            rw [ey1] at e0
            rw [ey2] at e1
            rw [ey3] at e2
            rw [ey4] at e3
            rw [ex1, ex2, ex3, ex4, ey1, ey2, ey3, ey4] at hokm hat
            have P := fun W => apLeast_any x1 x2 x3 x4 tc y1 y2 y3 y4 tc W hokm.1 hokm.2
            obtain ⟨q, eq⟩ : ∃ q, lpT (x1 - y1) (x2 - y2) (x3 - y3) (x4 - y4) = q := ⟨_, rfl⟩
            obtain ⟨q2, eq2⟩ : ∃ q, lpB (x1 - y1) (x2 - y2) (x3 - y3) (x4 - y4) = q := ⟨_, rfl⟩
            rw [eq] at hat P
            rw [eq2] at P
            rw [hat] at hy hno
            have HP := Lib.hid P
            have HB := Lib.hid hb
            have i0 : (0 : Int) ≤ (a : Int) := by omega
            have i2 : (0 : Int) ≤ (d : Int) := by omega
            have i3 : (d : Int) < (n : Int) := by omega
            clear hr hb hbk hokm hat ex1 ex2 ex3 ex4 ey1 ey2 ey3 ey4 etc P eq eq2
            go_upto_region 11 with (fail)
            go_cut [9] (fun s wx => s = .int .i64 q ∧ Below wr.heap.size wr wx)
            case first =>
              go_region_held3 (fun W => W.cell? ⟨wo.heap.size, 0, none⟩ = some (.int .i64 x1) ∧ W.cell? ⟨wo.heap.size, 1, none⟩ = some (.int .i64 x2) ∧ W.cell? ⟨wo.heap.size, 2, none⟩ = some (.int .i64 x3) ∧ W.cell? ⟨wo.heap.size, 3, none⟩ = some (.int .i64 x4) ∧ W.cell? ⟨wo.heap.size, 4, none⟩ = some (.int .i64 tc) ∧ W.cell? ⟨b, off + d * 5, none⟩ = some (.int .i64 y1) ∧ W.cell? ⟨b, off + d * 5 + 1, none⟩ = some (.int .i64 y2) ∧ W.cell? ⟨b, off + d * 5 + 2, none⟩ = some (.int .i64 y3) ∧ W.cell? ⟨b, off + d * 5 + 3, none⟩ = some (.int .i64 y4) ∧ W.cell? ⟨b, off + d * 5 + 4, none⟩ = some (.int .i64 tc) ∧ Below wr.heap.size wr W)
                (first | exact ⟨c0, c1', c2, c3, c4, e0, e1, e2, e3, e4, (Below.refl _ _).drew⟩ | (go_split_ands; exact ⟨cell_on hb2 (by assumption), cell_on hb2 (by assumption), cell_on hb2 (by assumption), cell_on hb2 (by assumption), cell_on hb2 (by assumption), cell_on hb2 (by assumption), cell_on hb2 (by assumption), cell_on hb2 (by assumption), cell_on hb2 (by assumption), cell_on hb2 (by assumption), below_on (by assumption) hb2⟩) | go_keep)
                (first | (go_at_call 45; refine (HP.out _).mono ?_; rintro e w2 ⟨rfl, hb2⟩))
              all_goals
                go_split_ands
                go_wp2_with fail
                go_meet
                exact ⟨rfl, by assumption⟩
            case rest =>
              obtain ⟨rfl, hb5⟩ := hcut
              have HR5 := Lib.hid (HR.out.below hb5 (Nat.le_refl _))
              have HB5 := Lib.hid (below_on HB.out hb5)
              have HK5 := Lib.hid (HK.out.on hb5)
              clear hb5 c0 c1' c2 c3 c4 e0 e1 e2 e3 e4 HP HR HB HK
              by_cases hq : q = 0
              case neg =>
                have HN := Lib.hid (hno (by simp [hq]))
                have hqe : (q == 0) = false := by simp [hq]
                go_wp2_with fail
                go_roundw
                case rel => exact ⟨d + 1, gs, by omega, by omega, by go_num, by rw [HN.out]; exact HR5.out, HK5.out, HB5.out⟩
                case measure => simp [intOf]; omega
              case pos =>
                have HY := Lib.hid (hy (by simp [hq]))
                subst hq
                have HR := HR5
                have HB := HB5
                have g0 : Blk ((wc.alloc (.cells #[.int .i64 (a : Int), .int .i64 (d : Int)] 3)).alloc (.cells #[.slice (some ⟨wc.heap.size, 0, none⟩) 2 2] 25)) wc.heap.size 3 (ints [(a : Int), (d : Int)]).toArray := (Blk.new _ _ _).alloc _
                have g1 := (Blk.new2 wc (.cells #[.int .i64 (a : Int), .int .i64 (d : Int)] 3) 25 #[.slice (some ⟨wc.heap.size, 0, none⟩) 2 2]).c1
                have hr2 := Lib.hid ((HR.out.alloc (.cells #[.int .i64 (a : Int), .int .i64 (d : Int)] 3)).alloc (.cells #[.slice (some ⟨wc.heap.size, 0, none⟩) 2 2] 25))
                have hb2 := Lib.hid (below_new (below_new HB.out (.cells #[.int .i64 (a : Int), .int .i64 (d : Int)] 3)) (.cells #[.slice (some ⟨wc.heap.size, 0, none⟩) 2 2] 25))
                have G0 := Lib.hid g0
                have hnew : wc.heap.size ∉ gs := fun hm => by have := (HR.out.mem hm).2; omega
                have hwz : w1.heap.size ≤ wc.heap.size := HB.out.size
                have hln := pr_len (p := (clAt t)) (n := n) (a := a) (d := d) hn1 (by omega) (by omega)
                have HLN := Lib.hid hln
                have HNW := Lib.hid hnew
                have HWZ := Lib.hid hwz
                clear g0 hln hnew hwz
                go_wp2_with (at_builtin; refine app_row rfl _ _ rfl w1.heap.size _ _ gs _ rfl hr2.out (wc.heap.size + 1) wc.heap.size [(a : Int), (d : Int)] rfl g1 G0.out HWZ.out HNW.out (by have := HLN.out; omega) (by simp; have := HWZ.out; omega) ?_; intro v9 w9 hr9 hg9)
                have HK9 := Lib.hid (((HK5.out.alloc (.cells #[.int .i64 (a : Int), .int .i64 (d : Int)] 3)).alloc (.cells #[.slice (some ⟨wc.heap.size, 0, none⟩) 2 2] 25)).grown hg9 (fun e => own_blk_ne hr2.out.own ((HK5.out.alloc _).alloc _) (by decide) e.symm))
                have hb3 : Below w1.heap.size w1 w9 := hb2.out.grown hg9 (by simp; have := HWZ.out; omega) (fun g hg => (hr2.out.own.lt g hg).1)
                have HR9 := Lib.hid (show Rows w9 w1.heap.size v9 (prTo (clAt t) n a ++ prIn (clAt t) a (d + 1)).length (gs ++ [wc.heap.size]) (prTo (clAt t) n a ++ prIn (clAt t) a (d + 1)) by
                  rw [HY.out, ← List.append_assoc]
                  have := hr9
                  rwa [show (prTo (clAt t) n a ++ prIn (clAt t) a d ++ [[(a : Int), (d : Int)]]).length = (prTo (clAt t) n a ++ prIn (clAt t) a d).length + 1 by rw [List.length_append]; rfl])
                have HB9 := Lib.hid hb3
                go_wp2_with fail
                go_roundw
                case rel => exact ⟨d + 1, gs ++ [wc.heap.size], by omega, by omega, by go_num, HR9.out, HK9.out, HB9.out⟩
                case measure => simp [intOf]; omega
          · obtain rfl : d = n := by omega
            have HB := Lib.hid hb
            clear hr hb hbk
            go_wp2_with fail
            go_roundw
            case rel => exact ⟨a + 1, gs, by omega, by go_num, HR.out, HB.out⟩
            case measure => simp [intOf]; omega
      · obtain rfl : a = n := by omega
        go_wp2_with fail
        go_ret2
        rw [HT.out.1, HT.out.2.1, HT.out.2.2]
        exact ⟨_, gs, rfl, HR.out.base HB1.out.size, HB1.out.trans (HB.out.mono HB1.out.size)⟩
end Go.Proofs.YtjcepipgjpaclaaGreat

namespace Go.Proofs.YtjcepipgjpaclaaGreat
open Go.RowKit

theorem find_hit {F : Nat → Option (List Nat)} {w : Nat} {r : List Nat} (h : ∀ j, j < w → F j = none) (hr : F w = some r) : ∀ {m}, w < m → (List.range m).findSome? F = some r
  | 0, hw => by omega
  | m + 1, hw => by
    rw [List.range_succ, List.findSome?_append]
    by_cases e : w = m
    · subst e
      rw [show (List.range w).findSome? F = none from by
        rw [List.findSome?_eq_none_iff]
        intro x hx
        exact h x (by simpa using hx)]
      simp [hr]
    · rw [find_hit h hr (by omega)]; rfl
theorem find_miss {F : Nat → Option (List Nat)} {m : Nat} (h : ∀ j, j < m → F j = none) : (List.range m).findSome? F = none := by
  rw [List.findSome?_eq_none_iff]
  intro x hx
  exact h x (by simpa using hx)
/-- The first j performers leave wave w free. -/
def wfTo (q : Nat → Nat → Bool) (h : List Nat) (w : Nat) : Nat → Bool
  | 0 => true
  | j + 1 => wfTo q h w j && !(h.getD j 0 == w && q h.length j)
theorem wfTo_all (q : Nat → Nat → Bool) (h : List Nat) (w : Nat) : wfTo q h w h.length = wFree q h w := by
  have : ∀ j, wfTo q h w j = (List.range j).all fun j => !(h.getD j 0 == w && q h.length j) := by
    intro j
    induction j with
    | zero => rfl
    | succ j ih => rw [wfTo, ih, List.range_succ, List.all_append]; simp
  exact this _
theorem eq_nats {xs : List Int} {h : List Nat} (hl : xs.length = h.length) (he : ∀ j, j < h.length → xs.getD j 0 = ((h.getD j 0 : Nat) : Int)) : xs = nats h := by
  apply List.ext_getElem?
  intro j
  by_cases hj : j < h.length
  · have := he j hj
    rw [← nats_get, List.getD_eq_getElem?_getD, List.getD_eq_getElem?_getD] at this
    rw [List.getElem?_eq_getElem (by omega), List.getElem?_eq_getElem (by rw [nats_length]; exact hj)] at this ⊢
    simpa using this
  · rw [List.getElem?_eq_none (by omega), List.getElem?_eq_none (by rw [nats_length]; omega)]
theorem getD_put {xs : List Int} {i : Nat} {x : Int} (hi : i < xs.length) (j : Nat) : (xs.set i x).getD j 0 = if j = i then x else xs.getD j 0 := by
  simp only [List.getD_eq_getElem?_getD, List.getElem?_set]
  by_cases h : i = j
  · subst h; simp [hi]
  · simp [h, Ne.symm h]
theorem getD_snoc (h : List Nat) (w j : Nat) : (h ++ [w]).getD j 0 = if j < h.length then h.getD j 0 else if j = h.length then w else 0 := getD_app h w j
/-- What the search leaves. -/
def wfDone (o : Option (List Nat)) (h : List Nat) (ys : List Int) : Prop := match o with
  | some r => ys = nats r
  | none => ∀ j, j < h.length → ys.getD j 0 = ((h.getD j 0 : Nat) : Int)
set_option maxRecDepth 100000 in
set_option maxHeartbeats 4000000 in
theorem fillWaves_any (l : List Int) (n m : Nat) (hl : maskIn l) (hlen : l.length = n) (hn : n ≤ 12) (hm : m ≤ 12) : ∀ k i, i + k = n → ∀ (h : List Nat) (xs : List Int) (bs os cv g c lo : Nat) (w : World), h.length = i → (∀ j, j < n → w.cell? ⟨bs, os + j, none⟩ = some (.int .i64 (l.getD j 0))) → bs < w.heap.size → bs ≠ g →
    w.ownsRow lo 3 1 (.slice (some ⟨g, 0, none⟩) n c) n (ints xs) → (∀ j, j < i → xs.getD j 0 = ((h.getD j 0 : Nat) : Int)) →
    Calls Tryz.prog 50 #[.slice (some ⟨bs, os, none⟩) n cv, .slice (some ⟨g, 0, none⟩) n c, .int .i64 (i : Int), .int .i64 (m : Int)] w fun e w' => ∃ ys, e = .returned (.bool (fwF (qS l) m k h).isSome) ∧ w'.ownsRow lo 3 1 (.slice (some ⟨g, 0, none⟩) n c) n (ints ys) ∧ wfDone (fwF (qS l) m k h) h ys ∧ Only g (g + 1) w w' := by
  intro k
  induction k with
  | zero =>
    intro i hi h xs bs os cv g c lo w hh hcs hbs hne0 hown hp
    obtain rfl : i = n := by omega
    have hxl : xs.length = i := by have := hown.1; rw [ints_length] at this; omega
    have HD := Lib.hid (show wfDone (fwF (qS l) m 0 h) h xs from eq_nats (by omega) (fun j hj => hp j (by omega)))
    have HO := Lib.hid hown
    have HE := Lib.hid (show (fwF (qS l) m 0 h).isSome = true from rfl)
    clear hcs hp hown hl
    go_enter Tryz.func50, Tryz.ntmps50
    go_wp2_with fail
    go_ret
    exact ⟨xs, by rw [HE.out]; rfl, HO.out, HD.out, Only.refl _ _ _⟩
  | succ k ihk =>
    intro i hi h xs bs os cv g c lo w hh hcs hbs hne0 hown hp
    have hin : i < n := by omega
    have HIH := Lib.hid ihk
    have HCS := Lib.hid (fun W (ho : Only g (g + 1) w W) (j : Nat) (hj : j < n) => (World.cell?_of_block (a := ⟨bs, os + j, none⟩) (ho.block bs hbs (by omega))).trans (hcs j hj))
    have hS := hl i
    obtain ⟨S, eS⟩ : ∃ S : Nat, l.getD i 0 = (S : Int) := Int.eq_ofNat_of_zero_le hS.1
    have hSl : S < 4096 := by rw [eS] at hS; omega
    have HSQ := Lib.hid (fun j => (show qS l i j = S.testBit j by unfold qS; rw [eS]; rfl))
    have HBT := Lib.hid (fun j => bit_at2 S j (by omega))
    have hci := hcs i hin
    rw [eS] at hci
    have HCI := Lib.hid (fun W (ho : Only g (g + 1) w W) => (World.cell?_of_block (a := ⟨bs, os + i, none⟩) (ho.block bs hbs (by omega))).trans hci)
    have HF := Lib.hid (show fwF (qS l) m (k + 1) h = (List.range m).findSome? fun w => if wFree (qS l) h w = true then fwF (qS l) m k (h ++ [w]) else none from rfl)
    have HWA := Lib.hid (fun a => wfTo_all (qS l) h a)
    have HOW := Lib.hid hown
    have HPX := Lib.hid hp
    have i0 : (0 : Int) ≤ (i : Int) := by omega
    have i1 : (i : Int) < (n : Int) := by omega
    have i2 : ((i : Int) == (n : Int)) = false := by simp; omega
    have i3 : ¬ (i : Int) = (n : Int) := by omega
    clear ihk hcs hci hS eS hl hown hp
    go_enter Tryz.func50, Tryz.ntmps50
    go_wp2_with fail
    go_loopw [9] (fun s wr => ∃ (a : Nat) (ys : List Int), a ≤ m ∧ s = .int .i64 a ∧ (∀ j, j < a → (if wFree (qS l) h j = true then fwF (qS l) m k (h ++ [j]) else none) = none) ∧ wr.ownsRow lo 3 1 (.slice (some ⟨g, 0, none⟩) n c) n (ints ys) ∧ (∀ j, j < i → ys.getD j 0 = ((h.getD j 0 : Nat) : Int)) ∧ Only g (g + 1) w wr) (fun s _ => m - (intOf s).toNat)
    case atStart => exact ⟨0, xs, Nat.zero_le _, rfl, fun j hj => absurd hj (by omega), HOW.out, HPX.out, Only.refl _ _ _⟩
    case round =>
      clear HOW HPX
      obtain ⟨a, ys, ha, rfl, hno, hown, hp, honly⟩ := hrel
      obtain ⟨wo, rfl⟩ : ∃ wo : World, wo = wr := ⟨_, rfl⟩
      have HNO := Lib.hid hno
      have HP := Lib.hid hp
      have HO := Lib.hid hown
      have HON := Lib.hid honly
      clear hno hp hown honly
      by_cases hlt : a < m
      · have a0 : (a : Int) < (m : Int) := by omega
        have hyl : ys.length = n := by have := HO.out.1; rw [ints_length] at this; omega
        go_wp2_with fail
        go_loopw [10, 11] (fun fr s wq => ∃ j : Nat, j ≤ i ∧ s = .int .i64 j ∧ fr = .bool (wfTo (qS l) h a j) ∧ wq = wo) (fun _ s _ => i - (intOf s).toNat)
        case atStart => exact ⟨0, Nat.zero_le _, rfl, rfl, rfl⟩
        case round =>
          obtain ⟨j, hj, rfl, rfl, rfl⟩ := hrel
          by_cases hji : j < i
          · have j0 : (0 : Int) ≤ (j : Int) := by omega
            have j1 : (j : Int) < (i : Int) := by omega
            have j2 : (j : Int) < (n : Int) := by omega
            have x0 : wr.cell? ⟨g, j, none⟩ = some (.int .i64 ((h.getD j 0 : Nat) : Int)) := by rw [← HP.out j hji]; exact (HO.out.cellAt j (by omega)).trans (ints_get _ _ (by omega))
            have s0 := HCI.out wr HON.out
            have hst : wfTo (qS l) h a (j + 1) = (wfTo (qS l) h a j && !(h.getD j 0 == a && S.testBit j)) := by rw [wfTo, hh, HSQ.out]
            obtain ⟨x, ex⟩ : ∃ x, h.getD j 0 = x := ⟨_, rfl⟩
            rw [ex] at x0 hst
            have bt := HBT.out j
            obtain ⟨fr, efr⟩ : ∃ f, wfTo (qS l) h a j = f := ⟨_, rfl⟩
            rw [efr] at hst ⊢
            clear ex efr
            cases fr with
            | false =>
              have HST := Lib.hid (show wfTo (qS l) h a (j + 1) = false by rw [hst]; rfl)
              clear hst bt
              go_wp2_with fail
              go_roundw
              case rel => exact ⟨j + 1, by omega, by go_num, by rw [HST.out], trivial⟩
              case measure => simp [intOf]; omega
            | true =>
              by_cases hxa : x = a
              · subst hxa
                have hne : ((x : Int) != (x : Int)) = false := by simp
                cases hb : S.testBit j with
                | false =>
                  rw [show bitI S j = 0 by unfold bitI; rw [hb]; rfl] at bt
                  have HST := Lib.hid (show wfTo (qS l) h x (j + 1) = true by rw [hst, hb]; simp)
                  clear hst hb
                  go_wp2_with fail
                  go_roundw
                  case rel => exact ⟨j + 1, by omega, by go_num, by rw [HST.out], trivial⟩
                  case measure => simp [intOf]; omega
                | true =>
                  rw [show bitI S j = 1 by unfold bitI; rw [hb]; rfl] at bt
                  have HST := Lib.hid (show wfTo (qS l) h x (j + 1) = false by rw [hst, hb]; simp)
                  clear hst hb
                  go_wp2_with fail
                  go_roundw
                  case rel => exact ⟨j + 1, by omega, by go_num, by rw [HST.out], trivial⟩
                  case measure => simp [intOf]; omega
              · have hne : ((x : Int) != (a : Int)) = true := by simp; omega
                have hne2 : ¬ (x : Int) = (a : Int) := by omega
                have HST := Lib.hid (show wfTo (qS l) h a (j + 1) = true by rw [hst]; simp [hxa])
                clear hst bt
                go_wp2_with fail
                go_roundw
                case rel => exact ⟨j + 1, by omega, by go_num, by rw [HST.out], trivial⟩
                case measure => simp [intOf]; omega
          · obtain rfl : j = i := by omega
            have hfr : wfTo (qS l) h a j = wFree (qS l) h a := by rw [← HWA.out a, hh]
            rw [hfr]
            have f0 : wr.frozen? ⟨g, j, none⟩ = false := HO.out.frozenAt j
            have x0 : wr.cell? ⟨g, j, none⟩ = some (.int .i64 (ys.getD j 0)) := (HO.out.cellAt j (by omega)).trans (ints_get _ _ (by omega))
            have hown2 := (HO.out.stored j (.int .i64 (a : Int))).1
            rw [ints_set] at hown2
            have HO2 := Lib.hid hown2
            have HON2 := Lib.hid (HON.out.trans (only_cell wr g j (.int .i64 (a : Int))))
            have hpre : ∀ t, t < j + 1 → (ys.set j (a : Int)).getD t 0 = (((h ++ [a]).getD t 0 : Nat) : Int) := by
              intro t ht
              rw [getD_put (by omega), getD_snoc, hh]
              by_cases e : t = j
              · subst e; simp
              · rw [if_neg e, if_pos (by omega)]; exact HP.out t (by omega)
            have HPRE := Lib.hid hpre
            obtain ⟨y, ey⟩ : ∃ y, ys.getD j 0 = y := ⟨_, rfl⟩
            rw [ey] at x0
            clear hown2 hpre hfr ey
            cases hfree : wFree (qS l) h a with
            | false =>
              have HNO2 := Lib.hid (show ∀ t, t < a + 1 → (if wFree (qS l) h t = true then fwF (qS l) m k (h ++ [t]) else none) = none from fun t ht => by
                rcases Nat.lt_succ_iff_lt_or_eq.1 ht with h1 | rfl
                · exact HNO.out t h1
                · rw [hfree]; rfl)
              have HP2 := Lib.hid (show ∀ t, t < j → (ys.set j (a : Int)).getD t 0 = ((h.getD t 0 : Nat) : Int) from fun t ht => by
                rw [HPRE.out t (by omega), getD_snoc, if_pos (by omega)])
              clear hfree
              go_wp2_with fail
              go_roundw
              case rel => exact ⟨a + 1, ys.set j (a : Int), by omega, by go_num, HNO2.out, HO2.out, HP2.out, HON2.out⟩
              case measure => simp [intOf]; omega
            | true =>
              have hc := HIH.out (j + 1) (by omega) (h ++ [a]) (ys.set j (a : Int)) bs os cv g c lo _ (by simp [hh]) (HCS.out _ HON2.out) (Nat.lt_of_lt_of_le hbs HON2.out.size) hne0 HO2.out HPRE.out
              rw [show ((j + 1 : Nat) : Int) = (j : Int) + 1 by omega] at hc
              have hwj := IntWalk.i64_in ((j : Int) + 1) (by omega)
              cases ho : fwF (qS l) m k (h ++ [a]) with
              | some r =>
                rw [ho] at hc
                have HC := Lib.hid hc
                have HX := Lib.hid (show fwF (qS l) m (k + 1) h = some r by
                  rw [HF.out]
                  exact find_hit HNO.out (by rw [hfree, if_pos rfl, ho]) hlt)
                clear hc ho hfree
                go_wp2_with fail
                refine HC.out.mono ?_
                rintro e w5 ⟨zs, rfl, o5, d5, n5⟩
                have HO5 := Lib.hid o5
                have HN5 := Lib.hid (HON2.out.trans n5)
                have HD5 := Lib.hid d5
                clear o5 n5 d5
                go_wp2_with fail
                go_ret
                exact ⟨zs, by rw [HX.out]; rfl, HO5.out, by rw [HX.out]; exact HD5.out, HN5.out⟩
              | none =>
                rw [ho] at hc
                have HC := Lib.hid hc
                have HNO2 := Lib.hid (show ∀ t, t < a + 1 → (if wFree (qS l) h t = true then fwF (qS l) m k (h ++ [t]) else none) = none from fun t ht => by
                  rcases Nat.lt_succ_iff_lt_or_eq.1 ht with h1 | rfl
                  · exact HNO.out t h1
                  · rw [hfree, if_pos rfl, ho])
                clear hc ho hfree
                go_wp2_with fail
                refine HC.out.mono ?_
                rintro e w5 ⟨zs, rfl, o5, d5, n5⟩
                have HO5 := Lib.hid o5
                have HN5 := Lib.hid (HON2.out.trans n5)
                have HP5 := Lib.hid (show ∀ t, t < j → zs.getD t 0 = ((h.getD t 0 : Nat) : Int) from fun t ht => by
                  have := d5 t (by simp [hh]; omega)
                  rw [this, getD_snoc, if_pos (by omega)])
                clear o5 n5 d5
                go_wp2_with fail
                go_roundw
                case rel => exact ⟨a + 1, zs, by omega, by go_num, HNO2.out, HO5.out, HP5.out, HN5.out⟩
                case measure => simp [intOf]; omega
      · obtain rfl : a = m := by omega
        have HX := Lib.hid (show fwF (qS l) a (k + 1) h = none by rw [HF.out]; exact find_miss HNO.out)
        go_wp2_with fail
        go_ret
        exact ⟨ys, by rw [HX.out]; rfl, HO.out, by rw [HX.out]; exact fun j hj => HP.out j (by omega), HON.out⟩
end Go.Proofs.YtjcepipgjpaclaaGreat
