/- Contracts of the lists of pairs in conflict, in the program and in the reference. Conditions: the transition is good, its slices can be read, and the least distance lies within its bounds. The contract of the reference's list of pairs in conflict. Conditions: the transition is good, its slices can be read, and the least distance lies within its bounds. Contracts of the two ConflictPairs. Conditions: the transition's slices can be read, and are short. Contracts of the two GreatestLeast. Conditions: the transition's slices can be read, and are short. Contracts of the two ConflictCounts. Conditions: the transition's slices can be read, and are short. What the law on conflicts asks of the lists of pairs, counts and free performers: plain laws. Condition: a good transition, a least distance within its bounds. Contracts of the laws' own comparisons and questions on lists of numbers, rows and moves, of TransitionMoves on both sides, and of the program's StayApart. Conditions: the lists can be read. Contracts of the sum of the squares of a transition's moves, and of the farthest move, on both sides. Conditions: the transition is good, and its slices can be read. -/
import Derived.Test.YtjcepipgjpaclaaPFnSwaps17
import Derived.Test.YtjcepipgjpaclaaPFnSwaps19
import Derived.Test.YtjcepipgjpaclaaPFnSwaps21
import Derived.Test.YtjcepipgjpaclaaPFnSwaps02
import Derived.Deep.DeepCutAuto
import Derived.Test.YtjcepipgjpaclaaPFnSwaps10
import Derived.Test.YtjcepipgjpaclaaPFnSwaps03
import Derived.Test.YtjcepipgjpaclaaPFnSwaps13
import Derived.Deep.RegionHeld3
import Derived.Test.YtjcepipgjpaclaaPFnSwaps20
import Derived.Test.YtjcepipgjpaclaaPFnSwaps16
import Derived.Test.YtjcepipgjpaclaaPFnSwaps12
namespace Go.Proofs.Ytjcepipgjpaclaa
open Go.RowKit

theorem Rd.moves {w : World} {B n : Nat} {A : Option Addr} {c : Nat} {t : TrN} (h : Rd w B 5 (.slice A n c) n (mvTo t n)) (hn : 0 < n) : ∃ b off, A = some ⟨b, off, none⟩ ∧ b < B ∧
    ∀ (W : World) (j : Nat), Below B w W → j < n → W.cell? ⟨b, off + j * 5, none⟩ = some (.int .i64 (X t.xs j)) ∧ W.cell? ⟨b, off + j * 5 + 1, none⟩ = some (.int .i64 (Y t.xs j)) ∧
      W.cell? ⟨b, off + j * 5 + 2, none⟩ = some (.int .i64 (X t.ys (plc t j))) ∧ W.cell? ⟨b, off + j * 5 + 3, none⟩ = some (.int .i64 (Y t.ys (plc t j))) ∧ W.cell? ⟨b, off + j * 5 + 4, none⟩ = some (.int .i64 t.c) := by
  obtain ⟨_, A', c', e, h⟩ := h
  simp only [Value.slice.injEq, true_and] at e
  obtain ⟨rfl, rfl⟩ := e
  obtain ⟨b, off, rfl, hb, hc⟩ := h hn
  refine ⟨b, off, rfl, hb, fun W j hW hj => ?_⟩
  obtain ⟨g0, g1, g2, g3, g4⟩ := mvTo_get t n j hj
  have k0 := hc (j * 5) (by omega)
  have k1 := hc (j * 5 + 1) (by omega)
  have k2 := hc (j * 5 + 2) (by omega)
  have k3 := hc (j * 5 + 3) (by omega)
  have k4 := hc (j * 5 + 4) (by omega)
  rw [g0] at k0
  rw [g1, ← Nat.add_assoc] at k1
  rw [g2, ← Nat.add_assoc] at k2
  rw [g3, ← Nat.add_assoc] at k3
  rw [g4, ← Nat.add_assoc] at k4
  exact ⟨(hW.cell (p := ⟨b, off + j * 5, none⟩) hb).trans k0, (hW.cell (p := ⟨b, off + j * 5 + 1, none⟩) hb).trans k1, (hW.cell (p := ⟨b, off + j * 5 + 2, none⟩) hb).trans k2, (hW.cell (p := ⟨b, off + j * 5 + 3, none⟩) hb).trans k3, (hW.cell (p := ⟨b, off + j * 5 + 4, none⟩) hb).trans k4⟩
theorem okMs {t : TrN} (h : TrOk t) {i k : Nat} (hi : i < t.n) (hk : k < t.n) : okM (X t.xs i) (Y t.xs i) (X t.ys (plc t i)) (Y t.ys (plc t i)) ∧ okM (X t.xs k) (Y t.xs k) (X t.ys (plc t k)) (Y t.ys (plc t k)) := by
  have one : ∀ {i : Nat}, i < t.n → okM (X t.xs i) (Y t.xs i) (X t.ys (plc t i)) (Y t.ys (plc t i)) := by
    intro i hi
    have h1 := spotB_yes (h.from_ i hi)
    have h2 := spotB_yes (h.to_ _ (h.place i hi).2)
    exact ⟨⟨by omega, by omega⟩, ⟨by omega, by omega⟩, ⟨by omega, by omega⟩, by omega, by omega⟩
  exact ⟨one hi, one hk⟩
theorem sa_cf (t : TrN) (L : Int) (i k : Nat) : saB (X t.xs i) (Y t.xs i) (X t.ys (plc t i)) (Y t.ys (plc t i)) (X t.xs k) (Y t.xs k) (X t.ys (plc t k)) (Y t.ys (plc t k)) L = !cfAt t L i k := by
  show decide (L * L * apB t i k ≤ apT t i k) = !decide (apT t i k < L * L * apB t i k)
  rw [← decide_not]
  apply decide_eq_decide.2
  omega
theorem pr_len {p : Nat → Nat → Bool} {n a d : Nat} (hn : n ≤ 12) (ha : a ≤ n) (hd : d ≤ n) : (prTo p n a ++ prIn p a d).length ≤ 1000 := by
  have h1 := prTo_len p n a
  have h2 := prIn_len p a d
  have h3 : a * n ≤ 12 * 12 := Nat.mul_le_mul (by omega) hn
  rw [List.length_append]
  omega
set_option maxRecDepth 100000 in
set_option maxHeartbeats 4000000 in
theorem conflictPairs_any (v : Value) (B : Nat) (t : TrN) (L : Int) (w : World) (hv : RdT w B v t) (hB : B ≤ w.heap.size) (hok : TrOk t) (hL0 : 0 ≤ L) (hL : L ≤ 80) :
    Calls Try.prog 70 #[v, .int .i64 L] w fun e w' => ∃ u gs, e = .returned u ∧ Rows w' w.heap.size u (prTo (cfAt t L) t.n t.n).length gs (prTo (cfAt t L) t.n t.n) ∧ Below w.heap.size w w' := by
  obtain ⟨A, ca, C, cb, D, cc, rfl, _, _, _⟩ := hv.form
  have hb0 : Below w.heap.size w (w.alloc (.cells #[.slice A t.n ca, .slice C t.m cb, .int .i64 t.c, .slice D t.p cc] 27)) := below_new (Below.refl _ _) _
  have P1 := Lib.hid (movesOf_any _ B t _ (hv.below' hb0 hB) (Nat.le_trans hB hb0.size) hok)
  have HB0 := Lib.hid hb0
  have hn1 := hok.n1
  have hn0 := hok.n0
  have HOK := Lib.hid hok
  obtain ⟨n, en⟩ : ∃ n, t.n = n := ⟨_, rfl⟩
  rw [en] at P1 HB0 hn1 hn0
  rw [en]
  have EN := Lib.hid en
  have HF := Lib.hid (fun i k => okMs hok (i := i) (k := k))
  rw [en] at HF
  clear hb0 hv hok en
  go_enter Try.func70, Try.ntmps70
  go_wp2_with fail
  refine P1.out.mono ?_
  rintro e w1 ⟨mv, rfl, o1, b1⟩
  obtain ⟨A1, c1, rfl⟩ := (Rd.of_own o1).form
  have HM := Lib.hid (Rd.of_own o1)
  have HB1 := Lib.hid (HB0.out.trans (b1.mono HB0.out.size))
  clear o1 b1 P1
  go_wp2_with fail
  go_loopw [6, 14] (fun o s wr => ∃ (a : Nat) (gs : List Nat), a ≤ n ∧ s = .int .i64 a ∧ Rows wr w1.heap.size o (prTo (cfAt t L) n a).length gs (prTo (cfAt t L) n a) ∧ Below w1.heap.size w1 wr) (fun _ s _ => n - (intOf s).toNat)
  case atStart => exact ⟨0, [], Nat.zero_le _, rfl, Rows.empty w1, below_new (Below.refl _ _) _⟩
  case round =>
    obtain ⟨a, gs, ha, rfl, hr, hb⟩ := hrel
    obtain ⟨wo, rfl⟩ : ∃ wo : World, wo = wr := ⟨_, rfl⟩
    have HR := Lib.hid hr
    have HB := Lib.hid hb
    clear hr hb
    by_cases hlt : a < n
    · obtain ⟨b, off, rfl, hbB, hcells⟩ := HM.out.moves (by omega)
      have HC := Lib.hid hcells
      clear hcells
      have ha1 : (a : Int) < (n : Int) := by omega
      go_wp2_with fail
      go_loopw [6, 8] (fun o s wq => ∃ (d : Nat) (gs : List Nat), a + 1 ≤ d ∧ d ≤ n ∧ s = .int .i64 d ∧ Rows wq w1.heap.size o (prTo (cfAt t L) n a ++ prIn (cfAt t L) a d).length gs (prTo (cfAt t L) n a ++ prIn (cfAt t L) a d) ∧ Below w1.heap.size w1 wq) (fun _ s _ => n - (intOf s).toNat)
      case atStart => exact ⟨a + 1, gs, by omega, by omega, by go_num, by rw [prIn_first _ _ _ (Nat.le_refl _), List.append_nil]; exact HR.out, HB.out⟩
      case round =>
        clear HR HB
        obtain ⟨d, gs, hd1, hd2, rfl, hr, hb⟩ := hrel
        have HR := Lib.hid hr
        by_cases hlk : d < n
        · obtain ⟨c0, c1', c2, c3, c4⟩ := HC.out wr a hb hlt
          obtain ⟨e0, e1, e2, e3, e4⟩ := HC.out wr d hb hlk
          have hokm := HF.out a d hlt hlk
          have hsa := sa_cf t L a d
          have hy := prIn_yes (p := cfAt t L) (i := a) (d := d) (by omega)
          have hno := prIn_no (p := cfAt t L) (i := a) (d := d)
          obtain ⟨x1, ex1⟩ : ∃ x, X t.xs a = x := ⟨_, rfl⟩
          obtain ⟨x2, ex2⟩ : ∃ x, Y t.xs a = x := ⟨_, rfl⟩
          obtain ⟨x3, ex3⟩ : ∃ x, X t.ys (plc t a) = x := ⟨_, rfl⟩
          obtain ⟨x4, ex4⟩ : ∃ x, Y t.ys (plc t a) = x := ⟨_, rfl⟩
          obtain ⟨y1, ey1⟩ : ∃ x, X t.xs d = x := ⟨_, rfl⟩
          obtain ⟨y2, ey2⟩ : ∃ x, Y t.xs d = x := ⟨_, rfl⟩
          obtain ⟨y3, ey3⟩ : ∃ x, X t.ys (plc t d) = x := ⟨_, rfl⟩
          obtain ⟨y4, ey4⟩ : ∃ x, Y t.ys (plc t d) = x := ⟨_, rfl⟩
          obtain ⟨tc, etc⟩ : ∃ x, t.c = x := ⟨_, rfl⟩
          rw [ex1] at c0
          rw [ex2] at c1'
          rw [ex3] at c2
          rw [ex4] at c3
          rw [etc] at c4 e4
          rw [ey1] at e0
          rw [ey2] at e1
          rw [ey3] at e2
          rw [ey4] at e3
          rw [ex1, ex2, ex3, ex4, ey1, ey2, ey3, ey4] at hokm hsa
          have P := fun W => stayApart_any x1 x2 x3 x4 tc y1 y2 y3 y4 tc L W hokm.1 hokm.2 hL0 hL
          rw [hsa] at P
          obtain ⟨q, eq⟩ : ∃ q, cfAt t L a d = q := ⟨_, rfl⟩
          rw [eq] at P hy hno
          have HP := Lib.hid P
          have HB := Lib.hid hb
          have i0 : (0 : Int) ≤ (a : Int) := by omega
          have i2 : (0 : Int) ≤ (d : Int) := by omega
          have i3 : (d : Int) < (n : Int) := by omega
          clear hr hb hokm hsa ex1 ex2 ex3 ex4 ey1 ey2 ey3 ey4 etc P eq
          go_upto_region 8 with (fail)
          go_cut [35] (fun s wx => s = .bool q ∧ Below wr.heap.size wr wx)
          case first =>
            go_region_held3 (fun W => W.cell? ⟨b, off + a * 5, none⟩ = some (.int .i64 x1) ∧ W.cell? ⟨b, off + a * 5 + 1, none⟩ = some (.int .i64 x2) ∧ W.cell? ⟨b, off + a * 5 + 2, none⟩ = some (.int .i64 x3) ∧ W.cell? ⟨b, off + a * 5 + 3, none⟩ = some (.int .i64 x4) ∧ W.cell? ⟨b, off + a * 5 + 4, none⟩ = some (.int .i64 tc) ∧ W.cell? ⟨b, off + d * 5, none⟩ = some (.int .i64 y1) ∧ W.cell? ⟨b, off + d * 5 + 1, none⟩ = some (.int .i64 y2) ∧ W.cell? ⟨b, off + d * 5 + 2, none⟩ = some (.int .i64 y3) ∧ W.cell? ⟨b, off + d * 5 + 3, none⟩ = some (.int .i64 y4) ∧ W.cell? ⟨b, off + d * 5 + 4, none⟩ = some (.int .i64 tc) ∧ Below wr.heap.size wr W)
              (first | exact ⟨c0, c1', c2, c3, c4, e0, e1, e2, e3, e4, (Below.refl _ _).drew⟩ | (go_split_ands; exact ⟨cell_on hb2 (by assumption), cell_on hb2 (by assumption), cell_on hb2 (by assumption), cell_on hb2 (by assumption), cell_on hb2 (by assumption), cell_on hb2 (by assumption), cell_on hb2 (by assumption), cell_on hb2 (by assumption), cell_on hb2 (by assumption), cell_on hb2 (by assumption), below_on (by assumption) hb2⟩) | go_keep)
              (first | (go_at_call 82; refine (HP.out _).mono ?_; rintro e w2 ⟨rfl, hb2⟩))
            all_goals
              go_split_ands
              go_wp2_with fail
              go_meet
              exact ⟨by simp, by assumption⟩
          case rest =>
            obtain ⟨rfl, hb5⟩ := hcut
            have HR5 := Lib.hid (HR.out.below hb5 (Nat.le_refl _))
            have HB5 := Lib.hid (below_on HB.out hb5)
            clear hb5 c0 c1' c2 c3 c4 e0 e1 e2 e3 e4 HP HR HB
            cases q with
            | false =>
              have HN := Lib.hid (hno rfl)
              go_wp2_with fail
              go_roundw
              case rel => exact ⟨d + 1, gs, by omega, by omega, by go_num, by rw [HN.out]; exact HR5.out, HB5.out⟩
              case measure => simp [intOf]; omega
            | true =>
              have HY := Lib.hid (hy rfl)
              have HR := HR5
              have HB := HB5
              have g0 : Blk ((wc.alloc (.cells #[.int .i64 (a : Int), .int .i64 (d : Int)] 3)).alloc (.cells #[.slice (some ⟨wc.heap.size, 0, none⟩) 2 2] 25)) wc.heap.size 3 (ints [(a : Int), (d : Int)]).toArray := (Blk.new _ _ _).alloc _
              have g1 := (Blk.new2 wc (.cells #[.int .i64 (a : Int), .int .i64 (d : Int)] 3) 25 #[.slice (some ⟨wc.heap.size, 0, none⟩) 2 2]).c1
              have hr2 := Lib.hid ((HR.out.alloc (.cells #[.int .i64 (a : Int), .int .i64 (d : Int)] 3)).alloc (.cells #[.slice (some ⟨wc.heap.size, 0, none⟩) 2 2] 25))
              have hb2 := Lib.hid (below_new (below_new HB.out (.cells #[.int .i64 (a : Int), .int .i64 (d : Int)] 3)) (.cells #[.slice (some ⟨wc.heap.size, 0, none⟩) 2 2] 25))
              have G0 := Lib.hid g0
              have hnew : wc.heap.size ∉ gs := fun hm => by have := (HR.out.mem hm).2; omega
              have hwz : w1.heap.size ≤ wc.heap.size := HB.out.size
              have hln := pr_len (p := (cfAt t L)) (n := n) (a := a) (d := d) hn1 (by omega) (by omega)
              have HLN := Lib.hid hln
              have HNW := Lib.hid hnew
              have HWZ := Lib.hid hwz
              clear g0 hln hnew hwz
              go_wp2_with (at_builtin; refine app_row rfl _ _ rfl w1.heap.size _ _ gs _ rfl hr2.out (wc.heap.size + 1) wc.heap.size [(a : Int), (d : Int)] rfl g1 G0.out HWZ.out HNW.out (by have := HLN.out; omega) (by simp; have := HWZ.out; omega) ?_; intro v9 w9 hr9 hg9)
              have hb3 : Below w1.heap.size w1 w9 := hb2.out.grown hg9 (by simp; have := HWZ.out; omega) (fun g hg => (hr2.out.own.lt g hg).1)
              have HR9 := Lib.hid (show Rows w9 w1.heap.size v9 (prTo (cfAt t L) n a ++ prIn (cfAt t L) a (d + 1)).length (gs ++ [wc.heap.size]) (prTo (cfAt t L) n a ++ prIn (cfAt t L) a (d + 1)) by
                rw [HY.out, ← List.append_assoc]
                have := hr9
                rwa [show (prTo (cfAt t L) n a ++ prIn (cfAt t L) a d ++ [[(a : Int), (d : Int)]]).length = (prTo (cfAt t L) n a ++ prIn (cfAt t L) a d).length + 1 by rw [List.length_append]; rfl])
              have HB9 := Lib.hid hb3
              go_wp2_with fail
              go_roundw
              case rel => exact ⟨d + 1, gs ++ [wc.heap.size], by omega, by omega, by go_num, HR9.out, HB9.out⟩
              case measure => simp [intOf]; omega
        · obtain rfl : d = n := by omega
          have HB := Lib.hid hb
          clear hr hb
          go_wp2_with fail
          go_roundw
          case rel => exact ⟨a + 1, gs, by omega, by go_num, HR.out, HB.out⟩
          case measure => simp [intOf]; omega
    · obtain rfl : a = n := by omega
      go_wp2_with fail
      go_ret
      exact ⟨_, gs, rfl, HR.out.base HB1.out.size, HB1.out.trans (HB.out.mono HB1.out.size)⟩
end Go.Proofs.Ytjcepipgjpaclaa

namespace Go.Proofs.Ytjcepipgjpaclaa
open Go.RowKit

set_option maxRecDepth 100000 in
set_option maxHeartbeats 4000000 in
theorem cfPairs_any (v : Value) (B : Nat) (t : TrN) (L : Int) (w : World) (hv : RdT w B v t) (hB : B ≤ w.heap.size) (hok : TrOk t) (hL0 : 0 ≤ L) (hL : L ≤ 80) :
    Calls Try.prog 72 #[v, .int .i64 L] w fun e w' => ∃ u gs, e = .returned u ∧ Rows w' w.heap.size u (prTo (cfAt t L) t.n t.n).length gs (prTo (cfAt t L) t.n t.n) ∧ Below w.heap.size w w' := by
  obtain ⟨A, ca, C, cb, D, cc, rfl, _, _, _⟩ := hv.form
  have hb0 : Below w.heap.size w (w.alloc (.cells #[.slice A t.n ca, .slice C t.m cb, .int .i64 t.c, .slice D t.p cc] 27)) := below_new (Below.refl _ _) _
  have P1 := Lib.hid (asMoves_any _ B t _ (hv.below' hb0 hB) (Nat.le_trans hB hb0.size) hok)
  have HB0 := Lib.hid hb0
  have hn1 := hok.n1
  have hn0 := hok.n0
  have HOK := Lib.hid hok
  obtain ⟨n, en⟩ : ∃ n, t.n = n := ⟨_, rfl⟩
  rw [en] at P1 HB0 hn1 hn0
  rw [en]
  have EN := Lib.hid en
  have HF := Lib.hid (fun i k => okMs hok (i := i) (k := k))
  rw [en] at HF
  clear hb0 hv hok en
  go_enter Try.func72, Try.ntmps72
  go_wp2_with fail
  refine P1.out.mono ?_
  rintro e w1 ⟨mv, rfl, o1, b1⟩
  obtain ⟨A1, c1, rfl⟩ := (Rd.of_own o1).form
  have HM := Lib.hid (Rd.of_own o1)
  have HB1 := Lib.hid (HB0.out.trans (b1.mono HB0.out.size))
  clear o1 b1 P1
  go_wp2_with fail
  go_loopw [6, 14] (fun o s wr => ∃ (a : Nat) (gs : List Nat), a ≤ n ∧ s = .int .i64 a ∧ Rows wr w1.heap.size o (prTo (cfAt t L) n a).length gs (prTo (cfAt t L) n a) ∧ Below w1.heap.size w1 wr) (fun _ s _ => n - (intOf s).toNat)
  case atStart => exact ⟨0, [], Nat.zero_le _, rfl, Rows.nil w1 _, Below.refl _ _⟩
  case round =>
    obtain ⟨a, gs, ha, rfl, hr, hb⟩ := hrel
    obtain ⟨wo, rfl⟩ : ∃ wo : World, wo = wr := ⟨_, rfl⟩
    have HR := Lib.hid hr
    have HB := Lib.hid hb
    clear hr hb
    by_cases hlt : a < n
    · obtain ⟨b, off, rfl, hbB, hcells⟩ := HM.out.moves (by omega)
      have HC := Lib.hid hcells
      clear hcells
      have ha1 : (a : Int) < (n : Int) := by omega
      have ha2 : (0 : Int) ≤ (a : Int) := by omega
      obtain ⟨c0, c1', c2, c3, c4⟩ := HC.out wo a HB.out hlt
      obtain ⟨x1, ex1⟩ : ∃ x, X t.xs a = x := ⟨_, rfl⟩
      obtain ⟨x2, ex2⟩ : ∃ x, Y t.xs a = x := ⟨_, rfl⟩
      obtain ⟨x3, ex3⟩ : ∃ x, X t.ys (plc t a) = x := ⟨_, rfl⟩
      obtain ⟨x4, ex4⟩ : ∃ x, Y t.ys (plc t a) = x := ⟨_, rfl⟩
      obtain ⟨tc, etc⟩ : ∃ x, t.c = x := ⟨_, rfl⟩
      rw [ex1] at c0
      rw [ex2] at c1'
      rw [ex3] at c2
      rw [ex4] at c3
      rw [etc] at c4
      have K := Lib.hid (Blk.new wo 47 #[.int .i64 x1, .int .i64 x2, .int .i64 x3, .int .i64 x4, .int .i64 tc])
      have HR0 := Lib.hid (HR.out.alloc (.cells #[.int .i64 x1, .int .i64 x2, .int .i64 x3, .int .i64 x4, .int .i64 tc] 47))
      have HBB := Lib.hid (below_new HB.out (.cells #[.int .i64 x1, .int .i64 x2, .int .i64 x3, .int .i64 x4, .int .i64 tc] 47))
      have EX := Lib.hid (And.intro ex1 (And.intro ex2 (And.intro ex3 (And.intro ex4 etc))))
      clear HR HB ex1 ex2 ex3 ex4 etc
      go_wp2_with fail
      go_loopw [6, 9] (fun o s wq => ∃ (d : Nat) (gs : List Nat), a + 1 ≤ d ∧ d ≤ n ∧ s = .int .i64 d ∧ Rows wq w1.heap.size o (prTo (cfAt t L) n a ++ prIn (cfAt t L) a d).length gs (prTo (cfAt t L) n a ++ prIn (cfAt t L) a d) ∧ Blk wq wo.heap.size 47 #[.int .i64 x1, .int .i64 x2, .int .i64 x3, .int .i64 x4, .int .i64 tc] ∧ Below w1.heap.size w1 wq) (fun _ s _ => n - (intOf s).toNat)
      case atStart => exact ⟨a + 1, gs, by omega, by omega, by go_num, by rw [prIn_first _ _ _ (Nat.le_refl _), List.append_nil]; exact HR0.out, K.out, HBB.out⟩
      case round =>
        clear HR0 HBB K c0 c1' c2 c3 c4
        obtain ⟨d, gs, hd1, hd2, rfl, hr, hbk, hb⟩ := hrel
        have HR := Lib.hid hr
        by_cases hlk : d < n
        · obtain ⟨ex1, ex2, ex3, ex4, etc⟩ := EX.out
          obtain ⟨c0, c1', c2, c3, c4⟩ := hbk.c5
          have HK := Lib.hid hbk
          obtain ⟨e0, e1, e2, e3, e4⟩ := HC.out wr d hb hlk
          have hokm := HF.out a d hlt hlk
          have hsa := sa_cf t L a d
          have hy := prIn_yes (p := cfAt t L) (i := a) (d := d) (by omega)
          have hno := prIn_no (p := cfAt t L) (i := a) (d := d)
          obtain ⟨y1, ey1⟩ : ∃ x, X t.xs d = x := ⟨_, rfl⟩
          obtain ⟨y2, ey2⟩ : ∃ x, Y t.xs d = x := ⟨_, rfl⟩
          obtain ⟨y3, ey3⟩ : ∃ x, X t.ys (plc t d) = x := ⟨_, rfl⟩
          obtain ⟨y4, ey4⟩ : ∃ x, Y t.ys (plc t d) = x := ⟨_, rfl⟩
          rw [etc] at e4
          rw [ey1] at e0
          rw [ey2] at e1
          rw [ey3] at e2
          rw [ey4] at e3
          rw [ex1, ex2, ex3, ex4, ey1, ey2, ey3, ey4] at hokm hsa
          have P := fun W => apStay_any x1 x2 x3 x4 tc y1 y2 y3 y4 tc L W hokm.1 hokm.2 hL0 hL
          rw [hsa] at P
          obtain ⟨q, eq⟩ : ∃ q, cfAt t L a d = q := ⟨_, rfl⟩
          rw [eq] at P hy hno
          have HP := Lib.hid P
          have HB := Lib.hid hb
          have i0 : (0 : Int) ≤ (a : Int) := by omega
          have i2 : (0 : Int) ≤ (d : Int) := by omega
          have i3 : (d : Int) < (n : Int) := by omega
          clear hr hb hbk hokm hsa ex1 ex2 ex3 ex4 ey1 ey2 ey3 ey4 etc P eq
          go_upto_region 9 with (fail)
          go_cut [34] (fun s wx => s = .bool q ∧ Below wr.heap.size wr wx)
          case first =>
            go_region_held3 (fun W => W.cell? ⟨wo.heap.size, 0, none⟩ = some (.int .i64 x1) ∧ W.cell? ⟨wo.heap.size, 1, none⟩ = some (.int .i64 x2) ∧ W.cell? ⟨wo.heap.size, 2, none⟩ = some (.int .i64 x3) ∧ W.cell? ⟨wo.heap.size, 3, none⟩ = some (.int .i64 x4) ∧ W.cell? ⟨wo.heap.size, 4, none⟩ = some (.int .i64 tc) ∧ W.cell? ⟨b, off + d * 5, none⟩ = some (.int .i64 y1) ∧ W.cell? ⟨b, off + d * 5 + 1, none⟩ = some (.int .i64 y2) ∧ W.cell? ⟨b, off + d * 5 + 2, none⟩ = some (.int .i64 y3) ∧ W.cell? ⟨b, off + d * 5 + 3, none⟩ = some (.int .i64 y4) ∧ W.cell? ⟨b, off + d * 5 + 4, none⟩ = some (.int .i64 tc) ∧ Below wr.heap.size wr W)
              (first | exact ⟨c0, c1', c2, c3, c4, e0, e1, e2, e3, e4, (Below.refl _ _).drew⟩ | (go_split_ands; exact ⟨cell_on hb2 (by assumption), cell_on hb2 (by assumption), cell_on hb2 (by assumption), cell_on hb2 (by assumption), cell_on hb2 (by assumption), cell_on hb2 (by assumption), cell_on hb2 (by assumption), cell_on hb2 (by assumption), cell_on hb2 (by assumption), cell_on hb2 (by assumption), below_on (by assumption) hb2⟩) | go_keep)
              (first | (go_at_call 126; refine (HP.out _).mono ?_; rintro e w2 ⟨rfl, hb2⟩))
            all_goals
              go_split_ands
              go_wp2_with fail
              go_meet
              exact ⟨by simp, by assumption⟩
          case rest =>
            obtain ⟨rfl, hb5⟩ := hcut
            have HR5 := Lib.hid (HR.out.below hb5 (Nat.le_refl _))
            have HB5 := Lib.hid (below_on HB.out hb5)
            have HK5 := Lib.hid (HK.out.on hb5)
            clear hb5 c0 c1' c2 c3 c4 e0 e1 e2 e3 e4 HP HR HB HK
            cases q with
            | false =>
              have HN := Lib.hid (hno rfl)
              go_wp2_with fail
              go_roundw
              case rel => exact ⟨d + 1, gs, by omega, by omega, by go_num, by rw [HN.out]; exact HR5.out, HK5.out, HB5.out⟩
              case measure => simp [intOf]; omega
            | true =>
              have HY := Lib.hid (hy rfl)
              have HR := HR5
              have HB := HB5
              have g0 : Blk ((wc.alloc (.cells #[.int .i64 (a : Int), .int .i64 (d : Int)] 3)).alloc (.cells #[.slice (some ⟨wc.heap.size, 0, none⟩) 2 2] 25)) wc.heap.size 3 (ints [(a : Int), (d : Int)]).toArray := (Blk.new _ _ _).alloc _
              have g1 := (Blk.new2 wc (.cells #[.int .i64 (a : Int), .int .i64 (d : Int)] 3) 25 #[.slice (some ⟨wc.heap.size, 0, none⟩) 2 2]).c1
              have hr2 := Lib.hid ((HR.out.alloc (.cells #[.int .i64 (a : Int), .int .i64 (d : Int)] 3)).alloc (.cells #[.slice (some ⟨wc.heap.size, 0, none⟩) 2 2] 25))
              have hb2 := Lib.hid (below_new (below_new HB.out (.cells #[.int .i64 (a : Int), .int .i64 (d : Int)] 3)) (.cells #[.slice (some ⟨wc.heap.size, 0, none⟩) 2 2] 25))
              have G0 := Lib.hid g0
              have hnew : wc.heap.size ∉ gs := fun hm => by have := (HR.out.mem hm).2; omega
              have hwz : w1.heap.size ≤ wc.heap.size := HB.out.size
              have hln := pr_len (p := (cfAt t L)) (n := n) (a := a) (d := d) hn1 (by omega) (by omega)
              have HLN := Lib.hid hln
              have HNW := Lib.hid hnew
              have HWZ := Lib.hid hwz
              clear g0 hln hnew hwz
              go_wp2_with (at_builtin; refine app_row rfl _ _ rfl w1.heap.size _ _ gs _ rfl hr2.out (wc.heap.size + 1) wc.heap.size [(a : Int), (d : Int)] rfl g1 G0.out HWZ.out HNW.out (by have := HLN.out; omega) (by simp; have := HWZ.out; omega) ?_; intro v9 w9 hr9 hg9)
              have HK9 := Lib.hid (((HK5.out.alloc (.cells #[.int .i64 (a : Int), .int .i64 (d : Int)] 3)).alloc (.cells #[.slice (some ⟨wc.heap.size, 0, none⟩) 2 2] 25)).grown hg9 (fun e => own_blk_ne hr2.out.own ((HK5.out.alloc _).alloc _) (by decide) e.symm))
              have hb3 : Below w1.heap.size w1 w9 := hb2.out.grown hg9 (by simp; have := HWZ.out; omega) (fun g hg => (hr2.out.own.lt g hg).1)
              have HR9 := Lib.hid (show Rows w9 w1.heap.size v9 (prTo (cfAt t L) n a ++ prIn (cfAt t L) a (d + 1)).length (gs ++ [wc.heap.size]) (prTo (cfAt t L) n a ++ prIn (cfAt t L) a (d + 1)) by
                rw [HY.out, ← List.append_assoc]
                have := hr9
                rwa [show (prTo (cfAt t L) n a ++ prIn (cfAt t L) a d ++ [[(a : Int), (d : Int)]]).length = (prTo (cfAt t L) n a ++ prIn (cfAt t L) a d).length + 1 by rw [List.length_append]; rfl])
              have HB9 := Lib.hid hb3
              go_wp2_with fail
              go_roundw
              case rel => exact ⟨d + 1, gs ++ [wc.heap.size], by omega, by omega, by go_num, HR9.out, HK9.out, HB9.out⟩
              case measure => simp [intOf]; omega
        · obtain rfl : d = n := by omega
          have HB := Lib.hid hb
          clear hr hb hbk
          go_wp2_with fail
          go_roundw
          case rel => exact ⟨a + 1, gs, by omega, by go_num, HR.out, HB.out⟩
          case measure => simp [intOf]; omega
    · obtain rfl : a = n := by omega
      go_wp2_with fail
      go_ret
      exact ⟨_, gs, rfl, HR.out.base HB1.out.size, HB1.out.trans (HB.out.mono HB1.out.size)⟩
end Go.Proofs.Ytjcepipgjpaclaa

namespace Go.Proofs.Ytjcepipgjpaclaa
open Go.RowKit

theorem isLeast_any (L : Int) (w : World) : Calls Try.prog 69 #[.int .i64 L] w fun e w' => e = .returned (.bool (inB L 0 80)) ∧ w = w' := by
  go_enter Try.func69, Try.ntmps69
  go_wp2_with fail
  refine (within_any _ _ _ _).mono ?_
  rintro e w' ⟨rfl, rfl⟩
  go_wp2_with fail
  go_ret
  exact ⟨rfl, rfl⟩
theorem apDistance_any (L : Int) (w : World) : Calls Try.prog 125 #[.int .i64 L] w fun e w' => e = .returned (.bool (inB L 0 80)) ∧ w = w' := by
  go_enter Try.func125, Try.ntmps125
  go_wp2_with fail
  refine (l1In_any _ _ _ _).mono ?_
  rintro e w' ⟨rfl, rfl⟩
  go_wp2_with fail
  go_ret
  exact ⟨rfl, rfl⟩
theorem cp_in {t : TrN} {L : Int} (h : cpB t L = true) : trB t = true ∧ 0 ≤ L ∧ L ≤ 80 := by
  simp only [cpB, Bool.and_eq_true] at h
  have := inB_yes h.2
  exact ⟨h.1, this.1, this.2⟩
set_option maxHeartbeats 1000000 in
theorem cfAsked_any (v : Value) (B : Nat) (t : TrN) (L : Int) (w : World) (hcp : CapT v) (hv : RdT w B v t) (hB : B ≤ w.heap.size) (hs : t.small) :
    Calls Try.prog 71 #[v, .int .i64 L] w fun e w' => e = .returned (.bool (cpB t L)) ∧ Below w.heap.size w w' := by
  obtain ⟨A, ca, C, cb, D, cc, rfl, _, _, _⟩ := hv.form
  have hb0 : Below w.heap.size w (w.alloc (.cells #[.slice A t.n ca, .slice C t.m cb, .int .i64 t.c, .slice D t.p cc] 27)) := below_new (Below.refl _ _) _
  have k0 := Blk.new w 27 #[.slice A t.n ca, .slice C t.m cb, .int .i64 t.c, .slice D t.p cc]
  have Hv := Lib.hid (fun W (hb : Below w.heap.size w W) => hv.below' hb hB)
  have Hc := Lib.hid hcp
  have HB0 := Lib.hid hb0
  have K0 := Lib.hid k0
  obtain ⟨a0, a1, a2, a3⟩ := k0.c4
  clear hv hcp hb0 k0
  have P := asGood_any _ B t _ Hc.out (Hv.out _ HB0.out) (Nat.le_trans hB HB0.out.size) hs
  have Q := fun W => apDistance_any L W
  have hT : cpB t L = (trB t && inB L 0 80) := rfl
  obtain ⟨b1, e1⟩ : ∃ b, trB t = b := ⟨_, rfl⟩
  obtain ⟨b2, e2⟩ : ∃ b, inB L 0 80 = b := ⟨_, rfl⟩
  rw [e1] at P hT
  rw [e2] at Q hT
  have HP := Lib.hid P
  have HQ := Lib.hid Q
  have HT := Lib.hid hT
  clear P Q hT e1 e2
  cases b1 with
  | false =>
    go_enter Try.func71, Try.ntmps71
    go_wp2_with fail
    refine HP.out.mono ?_
    rintro e w2 ⟨rfl, h2⟩
    have HB1 := Lib.hid (below_on HB0.out h2)
    have K1 := Lib.hid (K0.out.on h2)
    clear h2 a0 a1 a2 a3 HB0 K0
    have HB0 := HB1
    have K0 := K1
    clear HB1 K1
    obtain ⟨a0, a1, a2, a3⟩ := K0.out.c4
    go_wp2_with fail
    go_ret
    exact ⟨by rw [HT.out]; rfl, HB0.out⟩
  | true =>
    go_enter Try.func71, Try.ntmps71
    go_wp2_with fail
    refine HP.out.mono ?_
    rintro e w2 ⟨rfl, h2⟩
    have HB1 := Lib.hid (below_on HB0.out h2)
    have K1 := Lib.hid (K0.out.on h2)
    clear h2 a0 a1 a2 a3 HB0 K0
    have HB0 := HB1
    have K0 := K1
    clear HB1 K1
    obtain ⟨a0, a1, a2, a3⟩ := K0.out.c4
    go_wp2_with fail
    refine (HQ.out _).mono ?_
    rintro e w3 ⟨rfl, rfl⟩
    go_wp2_with fail
    go_ret
    exact ⟨by rw [HT.out]; rfl, HB0.out⟩
set_option maxHeartbeats 1000000 in
theorem ConflictPairs_any (v : Value) (B : Nat) (t : TrN) (L : Int) (w : World) (hcp : CapT v) (hv : RdT w B v t) (hB : B ≤ w.heap.size) (hs : t.small) :
    Calls Try.prog 9 #[v, .int .i64 L] w fun e w' => ∃ u gs, e = .returned (.tuple #[u, .bool (cpB t L)]) ∧ Rows w' w.heap.size u (cpN t L) gs (cpL t L) ∧ Below w.heap.size w w' := by
  obtain ⟨A, ca, C, cb, D, cc, rfl, _, _, _⟩ := hv.form
  have hb0 : Below w.heap.size w (w.alloc (.cells #[.slice A t.n ca, .slice C t.m cb, .int .i64 t.c, .slice D t.p cc] 27)) := below_new (Below.refl _ _) _
  have k0 := Blk.new w 27 #[.slice A t.n ca, .slice C t.m cb, .int .i64 t.c, .slice D t.p cc]
  have Hv := Lib.hid (fun W (hb : Below w.heap.size w W) => hv.below' hb hB)
  have Hc := Lib.hid hcp
  have HB0 := Lib.hid hb0
  have K0 := Lib.hid k0
  obtain ⟨a0, a1, a2, a3⟩ := k0.c4
  clear hv hcp hb0 k0
  have P := IsTransition_any _ B t _ Hc.out (Hv.out _ HB0.out) (Nat.le_trans hB HB0.out.size) hs
  have Q := fun W => isLeast_any L W
  have R := fun W (hb : Below w.heap.size w W) (h1 : trB t = true) (h2 : inB L 0 80 = true) => conflictPairs_any _ B t L W (Hv.out W hb) (Nat.le_trans hB hb.size) (tr_ok h1) (inB_yes h2).1 (inB_yes h2).2
  have hT : cpB t L = (trB t && inB L 0 80) := rfl
  have hno := cp_no (t := t) (L := L)
  have hyes := cp_yes (t := t) (L := L)
  obtain ⟨b1, e1⟩ : ∃ b, trB t = b := ⟨_, rfl⟩
  obtain ⟨b2, e2⟩ : ∃ b, inB L 0 80 = b := ⟨_, rfl⟩
  rw [e1] at P hT R
  rw [e2] at Q hT R
  have HP := Lib.hid P
  have HQ := Lib.hid Q
  have HR := Lib.hid R
  clear P Q R e1 e2
  cases b1 with
  | false =>
    have HT := Lib.hid (hno hT)
    clear hno hyes hT
    go_enter Try.func9, Try.ntmps9
    go_wp2_with fail
    refine HP.out.mono ?_
    rintro e w2 ⟨rfl, h2⟩
    have HB1 := Lib.hid (below_on HB0.out h2)
    have K1 := Lib.hid (K0.out.on h2)
    clear h2 a0 a1 a2 a3 HB0 K0
    have HB0 := HB1
    have K0 := K1
    clear HB1 K1
    obtain ⟨a0, a1, a2, a3⟩ := K0.out.c4
    go_wp2_with fail
    go_ret2
    rw [HT.out.1, HT.out.2.1, HT.out.2.2]
    exact ⟨_, [], rfl, Rows.nil _ _, HB0.out⟩
  | true =>
    cases b2 with
    | false =>
      have HT := Lib.hid (hno hT)
      clear hno hyes hT
      go_enter Try.func9, Try.ntmps9
      go_wp2_with fail
      refine HP.out.mono ?_
      rintro e w2 ⟨rfl, h2⟩
      have HB1 := Lib.hid (below_on HB0.out h2)
      have K1 := Lib.hid (K0.out.on h2)
      clear h2 a0 a1 a2 a3 HB0 K0
      have HB0 := HB1
      have K0 := K1
      clear HB1 K1
      obtain ⟨a0, a1, a2, a3⟩ := K0.out.c4
      go_wp2_with fail
      refine (HQ.out _).mono ?_
      rintro e w3 ⟨rfl, rfl⟩
      go_wp2_with fail
      go_ret2
      rw [HT.out.1, HT.out.2.1, HT.out.2.2]
      exact ⟨_, [], rfl, Rows.nil _ _, HB0.out⟩
    | true =>
      have HT := Lib.hid (hyes hT)
      clear hno hyes hT
      go_enter Try.func9, Try.ntmps9
      go_wp2_with fail
      refine HP.out.mono ?_
      rintro e w2 ⟨rfl, h2⟩
      have HB1 := Lib.hid (below_on HB0.out h2)
      have K1 := Lib.hid (K0.out.on h2)
      clear h2 a0 a1 a2 a3 HB0 K0
      have HB0 := HB1
      have K0 := K1
      clear HB1 K1
      obtain ⟨a0, a1, a2, a3⟩ := K0.out.c4
      go_wp2_with fail
      refine (HQ.out _).mono ?_
      rintro e w3 ⟨rfl, rfl⟩
      go_wp2_with fail
      refine (HR.out _ HB0.out (by first | rfl | trivial) (by first | rfl | trivial)).mono ?_
      rintro e w4 ⟨u, gs, rfl, hr, h4⟩
      have HRR := Lib.hid (hr.base HB0.out.size)
      have HB4 := Lib.hid (HB0.out.trans (h4.mono HB0.out.size))
      clear hr h4
      go_wp2_with fail
      go_ret2
      rw [HT.out.1, HT.out.2.1, HT.out.2.2]
      exact ⟨_, gs, rfl, HRR.out, HB4.out⟩
set_option maxHeartbeats 1000000 in
theorem specConflictPairs_any (v : Value) (B : Nat) (t : TrN) (L : Int) (w : World) (hcp : CapT v) (hv : RdT w B v t) (hB : B ≤ w.heap.size) (hs : t.small) :
    Calls Try.prog 10 #[v, .int .i64 L] w fun e w' => ∃ u gs, e = .returned (.tuple #[u, .bool (cpB t L)]) ∧ Rows w' w.heap.size u (cpN t L) gs (cpL t L) ∧ Below w.heap.size w w' := by
  obtain ⟨A, ca, C, cb, D, cc, rfl, _, _, _⟩ := hv.form
  have hb0 : Below w.heap.size w (w.alloc (.cells #[.slice A t.n ca, .slice C t.m cb, .int .i64 t.c, .slice D t.p cc] 27)) := below_new (Below.refl _ _) _
  have k0 := Blk.new w 27 #[.slice A t.n ca, .slice C t.m cb, .int .i64 t.c, .slice D t.p cc]
  have Hv := Lib.hid (fun W (hb : Below w.heap.size w W) => hv.below' hb hB)
  have Hc := Lib.hid hcp
  have HB0 := Lib.hid hb0
  have K0 := Lib.hid k0
  obtain ⟨a0, a1, a2, a3⟩ := k0.c4
  clear hv hcp hb0 k0
  have P := cfAsked_any _ B t L _ Hc.out (Hv.out _ HB0.out) (Nat.le_trans hB HB0.out.size) hs
  have R := fun W (hb : Below w.heap.size w W) (h : cpB t L = true) => cfPairs_any _ B t L W (Hv.out W hb) (Nat.le_trans hB hb.size) (tr_ok (cp_in h).1) (cp_in h).2.1 (cp_in h).2.2
  have hno := cp_no (t := t) (L := L)
  have hyes := cp_yes (t := t) (L := L)
  obtain ⟨b, e1⟩ : ∃ b, cpB t L = b := ⟨_, rfl⟩
  rw [e1] at P R hno hyes ⊢
  have HP := Lib.hid P
  have HR := Lib.hid R
  clear P R e1
  cases b with
  | false =>
    have HT := Lib.hid (hno rfl)
    clear hno hyes
    go_enter Try.func10, Try.ntmps10
    go_wp2_with fail
    refine HP.out.mono ?_
    rintro e w2 ⟨rfl, h2⟩
    have HB1 := Lib.hid (below_on HB0.out h2)
    have K1 := Lib.hid (K0.out.on h2)
    clear h2 a0 a1 a2 a3 HB0 K0
    have HB0 := HB1
    have K0 := K1
    clear HB1 K1
    obtain ⟨a0, a1, a2, a3⟩ := K0.out.c4
    go_wp2_with fail
    go_ret2
    rw [HT.out.2.1, HT.out.2.2]
    exact ⟨_, [], rfl, Rows.nil _ _, HB0.out⟩
  | true =>
    have HT := Lib.hid (hyes rfl)
    clear hno hyes
    go_enter Try.func10, Try.ntmps10
    go_wp2_with fail
    refine HP.out.mono ?_
    rintro e w2 ⟨rfl, h2⟩
    have HB1 := Lib.hid (below_on HB0.out h2)
    have K1 := Lib.hid (K0.out.on h2)
    clear h2 a0 a1 a2 a3 HB0 K0
    have HB0 := HB1
    have K0 := K1
    clear HB1 K1
    obtain ⟨a0, a1, a2, a3⟩ := K0.out.c4
    go_wp2_with fail
    refine (HR.out _ HB0.out (by first | rfl | trivial)).mono ?_
    rintro e w4 ⟨u, gs, rfl, hr, h4⟩
    have HRR := Lib.hid (hr.base HB0.out.size)
    have HB4 := Lib.hid (HB0.out.trans (h4.mono HB0.out.size))
    clear hr h4
    go_wp2_with fail
    go_ret2
    rw [HT.out.2.1, HT.out.2.2]
    exact ⟨_, gs, rfl, HRR.out, HB4.out⟩
end Go.Proofs.Ytjcepipgjpaclaa

namespace Go.Proofs.Ytjcepipgjpaclaa
open Go.RowKit

theorem gl_at {t : TrN} {l : Nat} (h : (prTo (cfAt t (l : Int)) t.n t.n).length = 0) : glAt t l = true := by simp only [glAt, h]; rfl
theorem gl_not {t : TrN} {l : Nat} (h : (prTo (cfAt t (l : Int)) t.n t.n).length ≠ 0) : glAt t l = false := by simpa [glAt] using h
theorem down_yes {t : TrN} {l : Nat} (h0 : 0 < l) (h : glAt t l = true) : glDown t l = l := by
  obtain ⟨k, rfl⟩ : ∃ k, l = k + 1 := ⟨l - 1, by omega⟩
  rw [glDown, if_pos h]
theorem down_no {t : TrN} {l : Nat} (h0 : 0 < l) (h : glAt t l = false) : glDown t l = glDown t (l - 1) := by
  obtain ⟨k, rfl⟩ : ∃ k, l = k + 1 := ⟨l - 1, by omega⟩
  rw [glDown, if_neg (by simp [h])]; rfl
theorem up_yes {t : TrN} {l : Nat} (h : glAt t l = true) : glUp t (l + 1) = l := by rw [glUp, if_pos h]
theorem up_no {t : TrN} {l : Nat} (h : glAt t l = false) : glUp t (l + 1) = glUp t l := by rw [glUp, if_neg (by simp [h])]
set_option maxHeartbeats 2000000 in
theorem GreatestLeast_any (v : Value) (B : Nat) (t : TrN) (w : World) (hcp : CapT v) (hv : RdT w B v t) (hB : B ≤ w.heap.size) (hs : t.small) :
    Calls Try.prog 19 #[v] w fun e w' => e = .returned (.tuple #[.int .i64 (glV t), .bool (glB t)]) ∧ Below w.heap.size w w' := by
  obtain ⟨A, ca, C, cb, D, cc, rfl, _, _, _⟩ := hv.form
  have hb0 : Below w.heap.size w (w.alloc (.cells #[.slice A t.n ca, .slice C t.m cb, .int .i64 t.c, .slice D t.p cc] 27)) := below_new (Below.refl _ _) _
  have k0 := Blk.new w 27 #[.slice A t.n ca, .slice C t.m cb, .int .i64 t.c, .slice D t.p cc]
  have Hv := Lib.hid (fun W (hb : Below w.heap.size w W) => hv.below' hb hB)
  have Hc := Lib.hid hcp
  have HB0 := Lib.hid hb0
  have K0 := Lib.hid k0
  obtain ⟨a0, a1, a2, a3⟩ := k0.c4
  clear hv hcp hb0 k0
  have P := IsTransition_any _ B t _ Hc.out (Hv.out _ HB0.out) (Nat.le_trans hB HB0.out.size) hs
  obtain ⟨b1, e1⟩ : ∃ b, trB t = b := ⟨_, rfl⟩
  rw [e1] at P
  have HP := Lib.hid P
  clear P
  cases b1 with
  | false =>
    have HT := Lib.hid (gl_no e1)
    clear e1
    go_enter Try.func19, Try.ntmps19
    go_wp2_with fail
    refine HP.out.mono ?_
    rintro e w2 ⟨rfl, h2⟩
    have HB1 := Lib.hid (below_on HB0.out h2)
    have K1 := Lib.hid (K0.out.on h2)
    clear h2 a0 a1 a2 a3 HB0 K0
    have HB0 := HB1
    have K0 := K1
    clear HB1 K1
    obtain ⟨a0, a1, a2, a3⟩ := K0.out.c4
    go_wp2_with fail
    go_ret2
    exact ⟨by rw [HT.out.1, HT.out.2]; rfl, HB0.out⟩
  | true =>
    have HT := Lib.hid (gl_yes e1)
    have HR := Lib.hid (fun W (hb : Below w.heap.size w W) (l : Nat) (hl : l ≤ 80) => conflictPairs_any _ B t (l : Int) W (Hv.out W hb) (Nat.le_trans hB hb.size) (tr_ok e1) (by omega) (by omega))
    clear e1
    go_enter Try.func19, Try.ntmps19
    go_wp2_with fail
    refine HP.out.mono ?_
    rintro e w2 ⟨rfl, h2⟩
    have HB1 := Lib.hid (below_on HB0.out h2)
    have K1 := Lib.hid (K0.out.on h2)
    clear h2 a0 a1 a2 a3 HB0 K0
    have HB0 := HB1
    have K0 := K1
    clear HB1 K1
    obtain ⟨a0, a1, a2, a3⟩ := K0.out.c4
    go_wp2_with fail
    go_loopw [4] (fun s wr => ∃ l : Nat, l ≤ 80 ∧ s = .int .i64 l ∧ glDown t 80 = glDown t l ∧ Blk wr w.heap.size 27 #[.slice A t.n ca, .slice C t.m cb, .int .i64 t.c, .slice D t.p cc] ∧ Below w.heap.size w wr) (fun s _ => (intOf s).toNat)
    case atStart => exact ⟨80, Nat.le_refl _, rfl, rfl, K0.out, HB0.out⟩
    case round =>
      clear HB0 K0 a0 a1 a2 a3
      obtain ⟨l, hl, rfl, hd, hk, hb⟩ := hrel
      have HD := Lib.hid hd
      have HK := Lib.hid hk
      have HB := Lib.hid hb
      obtain ⟨a0, a1, a2, a3⟩ := hk.c4
      clear hd hk hb
      by_cases h0 : 0 < l
      · have hd0 : decide ((0 : Int) < (l : Int)) = true := by simp; omega
        have hl0 : (0 : Int) < (l : Int) := by omega
        go_wp2_with fail
        refine (HR.out _ HB.out l hl).mono ?_
        rintro e w3 ⟨u, gs, rfl, hr, h3⟩
        obtain ⟨U, cu, rfl⟩ := hr.form
        have HB3 := Lib.hid (below_on HB.out h3)
        have HK3 := Lib.hid (HK.out.on h3)
        have hat := gl_at (t := t) (l := l)
        have hnot := gl_not (t := t) (l := l)
        obtain ⟨m, em⟩ : ∃ m, (prTo (cfAt t (l : Int)) t.n t.n).length = m := ⟨_, rfl⟩
        rw [em] at hat hnot ⊢
        clear hr h3 em a0 a1 a2 a3
        by_cases hm : m = 0
        · have HY := Lib.hid (HD.out.trans (down_yes h0 (hat hm)))
          subst hm
          clear hat hnot
          go_wp2_with fail
          go_ret2
          exact ⟨by rw [HT.out.1, HT.out.2, HY.out]; rfl, HB3.out⟩
        · have HN := Lib.hid (HD.out.trans (down_no h0 (hnot hm)))
          have hm0 : (0 : Int) < (m : Int) := by omega
          clear hat hnot
          go_wp2_with fail
          go_roundw
          case rel => exact ⟨l - 1, by omega, by go_num, HN.out, HK3.out, HB3.out⟩
          case measure => simp [intOf]; omega
      · obtain rfl : l = 0 := by omega
        have HY := Lib.hid (HD.out.trans (show glDown t 0 = 0 from rfl))
        go_wp2_with fail
        go_ret2
        exact ⟨by rw [HT.out.1, HT.out.2, HY.out]; rfl, HB.out⟩
set_option maxHeartbeats 2000000 in
theorem specGreatestLeast_any (v : Value) (B : Nat) (t : TrN) (w : World) (hcp : CapT v) (hv : RdT w B v t) (hB : B ≤ w.heap.size) (hs : t.small) :
    Calls Try.prog 20 #[v] w fun e w' => e = .returned (.tuple #[.int .i64 (glV t), .bool (glB t)]) ∧ Below w.heap.size w w' := by
  obtain ⟨A, ca, C, cb, D, cc, rfl, _, _, _⟩ := hv.form
  have hb0 : Below w.heap.size w (w.alloc (.cells #[.slice A t.n ca, .slice C t.m cb, .int .i64 t.c, .slice D t.p cc] 27)) := below_new (Below.refl _ _) _
  have k0 := Blk.new w 27 #[.slice A t.n ca, .slice C t.m cb, .int .i64 t.c, .slice D t.p cc]
  have Hv := Lib.hid (fun W (hb : Below w.heap.size w W) => hv.below' hb hB)
  have Hc := Lib.hid hcp
  have HB0 := Lib.hid hb0
  have K0 := Lib.hid k0
  obtain ⟨a0, a1, a2, a3⟩ := k0.c4
  clear hv hcp hb0 k0
  have P := asGood_any _ B t _ Hc.out (Hv.out _ HB0.out) (Nat.le_trans hB HB0.out.size) hs
  obtain ⟨b1, e1⟩ : ∃ b, trB t = b := ⟨_, rfl⟩
  rw [e1] at P
  have HP := Lib.hid P
  clear P
  cases b1 with
  | false =>
    have HT := Lib.hid (gl_no e1)
    clear e1
    go_enter Try.func20, Try.ntmps20
    go_wp2_with fail
    refine HP.out.mono ?_
    rintro e w2 ⟨rfl, h2⟩
    have HB1 := Lib.hid (below_on HB0.out h2)
    have K1 := Lib.hid (K0.out.on h2)
    clear h2 a0 a1 a2 a3 HB0 K0
    have HB0 := HB1
    have K0 := K1
    clear HB1 K1
    obtain ⟨a0, a1, a2, a3⟩ := K0.out.c4
    go_wp2_with fail
    go_ret2
    exact ⟨by rw [HT.out.1, HT.out.2]; rfl, HB0.out⟩
  | true =>
    have HT := Lib.hid (gl_yes e1)
    have HR := Lib.hid (fun W (hb : Below w.heap.size w W) (l : Nat) (hl : l ≤ 80) => cfPairs_any _ B t (l : Int) W (Hv.out W hb) (Nat.le_trans hB hb.size) (tr_ok e1) (by omega) (by omega))
    clear e1
    go_enter Try.func20, Try.ntmps20
    go_wp2_with fail
    refine HP.out.mono ?_
    rintro e w2 ⟨rfl, h2⟩
    have HB1 := Lib.hid (below_on HB0.out h2)
    have K1 := Lib.hid (K0.out.on h2)
    clear h2 a0 a1 a2 a3 HB0 K0
    have HB0 := HB1
    have K0 := K1
    clear HB1 K1
    obtain ⟨a0, a1, a2, a3⟩ := K0.out.c4
    go_wp2_with fail
    go_loopw [4, 5] (fun q s wr => ∃ l : Nat, l ≤ 81 ∧ s = .int .i64 l ∧ q = .int .i64 (glUp t l : Nat) ∧ Blk wr w.heap.size 27 #[.slice A t.n ca, .slice C t.m cb, .int .i64 t.c, .slice D t.p cc] ∧ Below w.heap.size w wr) (fun _ s _ => 81 - (intOf s).toNat)
    case atStart => exact ⟨0, Nat.zero_le _, rfl, rfl, K0.out, HB0.out⟩
    case round =>
      clear HB0 K0 a0 a1 a2 a3
      obtain ⟨l, hl, rfl, rfl, hk, hb⟩ := hrel
      have HK := Lib.hid hk
      have HB := Lib.hid hb
      obtain ⟨a0, a1, a2, a3⟩ := hk.c4
      clear hk hb
      by_cases h0 : l ≤ 80
      · have hl0 : (l : Int) ≤ 80 := by omega
        have hyes := up_yes (t := t) (l := l)
        have hno := up_no (t := t) (l := l)
        have hat := gl_at (t := t) (l := l)
        have hnot := gl_not (t := t) (l := l)
        obtain ⟨q, eq⟩ : ∃ q, glUp t l = q := ⟨_, rfl⟩
        rw [eq] at hno ⊢
        obtain ⟨m, em⟩ : ∃ m, (prTo (cfAt t (l : Int)) t.n t.n).length = m := ⟨_, rfl⟩
        have hR := HR.out
        have hR2 := fun (W : World) (hb : Below w.heap.size w W) => hR W hb l h0
        rw [em] at hat hnot hR2
        have HR2 := Lib.hid hR2
        clear hR hR2 em eq
        go_wp2_with fail
        refine (HR2.out _ HB.out).mono ?_
        rintro e w3 ⟨u, gs, rfl, hr, h3⟩
        obtain ⟨U, cu, rfl⟩ := hr.form
        have HB3 := Lib.hid (below_on HB.out h3)
        have HK3 := Lib.hid (HK.out.on h3)
        clear hr h3 a0 a1 a2 a3
        by_cases hm : m = 0
        · have HY := Lib.hid (hyes (hat hm))
          subst hm
          clear hat hnot hyes hno
          go_wp2_with fail
          go_roundw
          case rel => exact ⟨l + 1, by omega, by go_num, by rw [HY.out], HK3.out, HB3.out⟩
          case measure => simp [intOf]; omega
        · have HN := Lib.hid (hno (hnot hm))
          have hm0 : ((m : Int) == 0) = false := by simp; omega
          have hm1 : ¬ (m : Int) = 0 := by omega
          clear hat hnot hyes hno
          go_wp2_with fail
          go_roundw
          case rel => exact ⟨l + 1, by omega, by go_num, by rw [HN.out], HK3.out, HB3.out⟩
          case measure => simp [intOf]; omega
      · obtain rfl : l = 81 := by omega
        have HY := Lib.hid (show glUp t 81 = glDown t 80 from gl_same t 80)
        go_wp2_with fail
        go_ret2
        exact ⟨by rw [HT.out.1, HT.out.2, ← HY.out]; rfl, HB.out⟩
end Go.Proofs.Ytjcepipgjpaclaa

namespace Go.Proofs.Ytjcepipgjpaclaa
open Go.RowKit

theorem only_cell (w : World) (c i : Nat) (u : Value) : Only c (c + 1) w (w.setCell ⟨c, i, none⟩ u) :=
  ⟨rfl, rfl, rfl, by simp, fun k _ ho => Below.heap_setCell w _ u k (by show k ≠ c; omega)⟩
theorem pairs_at {p : Nat → Nat → Bool} {n j : Nat} (h : j < (prTo p n n).length) : ∃ i k : Nat, i < k ∧ k < n ∧ (prTo p n n).getD j [] = [(i : Int), (k : Int)] := by
  obtain ⟨i, k, _, h2, h3, _, h5⟩ := prTo_mem (List.getElem_mem h)
  refine ⟨i, k, h2, h3, ?_⟩
  rw [List.getD_eq_getElem?_getD, List.getElem?_eq_getElem h]
  exact h5
set_option maxRecDepth 100000 in
set_option maxHeartbeats 4000000 in
theorem cfCounts_any (v : Value) (B : Nat) (t : TrN) (L : Int) (w : World) (hv : RdT w B v t) (hB : B ≤ w.heap.size) (hok : TrOk t) (hL0 : 0 ≤ L) (hL : L ≤ 80) :
    Calls Try.prog 73 #[v, .int .i64 L] w fun e w' => ∃ u, e = .returned u ∧ w'.ownsRow w.heap.size 3 1 u t.n (ints (ccTo (prTo (cfAt t L) t.n t.n) t.n (prTo (cfAt t L) t.n t.n).length)) ∧ Below w.heap.size w w' := by
  have hcp : True := trivial
  obtain ⟨A, ca, C, cb, D, cc, rfl, _, _, _⟩ := hv.form
  have hb0 : Below w.heap.size w (w.alloc (.cells #[.slice A t.n ca, .slice C t.m cb, .int .i64 t.c, .slice D t.p cc] 27)) := below_new (Below.refl _ _) _
  have k0 := Blk.new w 27 #[.slice A t.n ca, .slice C t.m cb, .int .i64 t.c, .slice D t.p cc]
  have Hv := Lib.hid (fun W (hb : Below w.heap.size w W) => hv.below' hb hB)
  have Hc := Lib.hid hcp
  have HB0 := Lib.hid hb0
  have K0 := Lib.hid k0
  obtain ⟨a0, a1, a2, a3⟩ := k0.c4
  clear hv hcp hb0 k0
  have hn1 := hok.n1
  have R := fun W (hb : Below w.heap.size w W) => cfPairs_any _ B t L W (Hv.out W hb) (Nat.le_trans hB hb.size) hok hL0 hL
  have PA := fun j => pairs_at (p := cfAt t L) (n := t.n) (j := j)
  have hml := (pr_small (p := cfAt t L) hn1).1
  have HT := Lib.hid (show True from trivial)
  obtain ⟨rs, ers⟩ : ∃ r, prTo (cfAt t L) t.n t.n = r := ⟨_, rfl⟩
  rw [ers] at R PA hml ⊢
  replace PA := Lib.hid PA
  have HR := Lib.hid R
  clear R ers
  have hsz0 : (w.alloc (.cells #[.slice A t.n ca, .slice C t.m cb, .int .i64 t.c, .slice D t.p cc] 27)).heap.size = w.heap.size + 1 := by simp
  go_enter Try.func73, Try.ntmps73
  obtain ⟨i0, hi, hz0, hz1, hz2⟩ := info_parts intInfo
  have hz2' : i0.bytes * t.n ≤ 281474976710656 := by rw [hz2]; omega
  go_wp2_with (at_make; refine wpList_make_full _ rfl (.tmp 10) (.tmp 10) 25 rfl (w.heap.size + 1) 3 i0 (.int .i64 0) 1 Try.underlying25 hi hz0 hz1 .i64 .i64 t.n t.n t.n rfl rfl rfl rfl hz2' (by unfold maxLen; omega) (by first | exact Nat.le_refl _ | simp) ?_; intro w3 hown1 hg1; obtain ⟨d0, d1, d2, d3⟩ := (K0.out.grown hg1 (by simp)).c4)
  rw [Nat.mul_one, madeInts] at hown1
  try rw [hsz0] at hown1
  have hk3 := K0.out.grown hg1 (by simp)
  have hb3 := HB0.out.grown hg1 HB0.out.size (by simp)
  have h3lt : (w.heap.size + 1) < w3.heap.size := (hown1.lt _ rfl).2
  obtain ⟨c0, ec0⟩ : ∃ c, (w.heap.size + 1) = c := ⟨_, rfl⟩
  have hc0 : w.heap.size ≤ c0 := by rw [← ec0]; first | exact HB0.out.size | omega
  rw [ec0] at hown1 h3lt ⊢
  have HO1 := Lib.hid hown1
  have HK3 := Lib.hid hk3
  have HB3 := Lib.hid hb3
  clear hi hz0 hz1 hz2 hz2' hg1 hown1 hk3 hb3 a0 a1 a2 a3 HB0 K0
  refine (HR.out _ HB3.out).mono ?_
  rintro e w4 ⟨u, gs, rfl, hrr, h4⟩
  obtain ⟨U, cu, rfl⟩ := hrr.form
  have HO4 := Lib.hid (own_below HO1.out h4 (Nat.le_refl _))
  have HR4 := Lib.hid hrr
  have HB4 := Lib.hid (below_on HB3.out h4)
  clear hrr h4 HO1 HK3 HB3 d0 d1 d2 d3 HR
  obtain ⟨m, em⟩ : ∃ m, rs.length = m := ⟨_, rfl⟩
  rw [em] at HR4 PA hml
  try rw [em] at HT
  try rw [em]
  have EM := Lib.hid em
  clear em
  go_wp2_with fail
  go_loopw [16] (fun s wr => ∃ j : Nat, j ≤ m ∧ s = .int .i64 j ∧ wr.ownsRow c0 3 1 (.slice (some ⟨c0, 0, none⟩) t.n t.n) t.n (ints (ccTo rs t.n j)) ∧ Rows wr w3.heap.size (.slice U m cu) m gs rs ∧ Below w.heap.size w wr) (fun s _ => m - (intOf s).toNat)
  case atStart => exact ⟨0, Nat.zero_le _, rfl, HO4.out, HR4.out, HB4.out⟩
  case round =>
    clear HO4 HR4 HB4
    obtain ⟨j, hj, rfl, hown, hrr, hb⟩ := hrel
    by_cases hlt : j < m
    · obtain ⟨b, cp, g, r, e1, k0, hg, -, hrd, hkb, hlo⟩ := hrr.at hlt
      obtain ⟨p, q, hpq, hqn, hpr⟩ := PA.out j hlt
      simp only [Value.slice.injEq, true_and] at e1
      obtain ⟨rfl, rfl⟩ := e1
      rw [hpr] at hrd
      subst hrd
      have hs : ccTo rs t.n (j + 1) = bmp (bmp (ccTo rs t.n j) (p : Int)) (q : Int) := by rw [ccTo, hpr]; rfl
      have hin := ccTo_in rs t.n j
      have hl := ccTo_length rs t.n j
      obtain ⟨l, el⟩ : ∃ l, ccTo rs t.n j = l := ⟨_, rfl⟩
      rw [el] at hs hown hin hl
      have g0 := hkb.cell 0
      have g1 := hkb.cell 1
      have gne : g ≠ c0 := by omega
      have x0 : wr.cell? ⟨c0, p, none⟩ = some (.int .i64 (l.getD p 0)) := (hown.cellAt p (by omega)).trans (ints_get _ _ (by omega))
      have f0 : wr.frozen? ⟨c0, p, none⟩ = false := hown.frozenAt p
      have hx := hin p
      obtain ⟨x, ex⟩ : ∃ x, l.getD p 0 = x := ⟨_, rfl⟩
      rw [ex] at x0 hx
      have hown2 := (hown.stored p (.int .i64 (x + 1))).1
      rw [ints_set, show l.set p (x + 1) = bmp l (p : Int) by rw [← ex]; rfl] at hown2
      have hin2 := bmp_in (a := (p : Int)) hin
      have hl2 : (bmp l (p : Int)).length = t.n := by rw [bmp_length]; exact hl
      have hrr2 := hrr.kept (only_cell wr c0 p (.int .i64 (x + 1))) (fun k hk => by
        rcases hk with hk | hk
        · have := (hrr.own.lt k hk).1; omega
        · have := (hrr.mem hk).1; omega)
      have hb2 := hb.setCell (p := ⟨c0, p, none⟩) hc0 (.int .i64 (x + 1))
      have hkb2 := hkb.far (p := ⟨c0, p, none⟩) gne (.int .i64 (x + 1))
      obtain ⟨W, eW⟩ : ∃ W, wr.setCell ⟨c0, p, none⟩ (.int .i64 (x + 1)) = W := ⟨_, rfl⟩
      rw [eW] at hown2 hrr2 hb2 hkb2
      have g2 := hkb2.cell 0
      have g3 := hkb2.cell 1
      have y0 : W.cell? ⟨c0, q, none⟩ = some (.int .i64 ((bmp l (p : Int)).getD q 0)) := (hown2.cellAt q (by omega)).trans (ints_get _ _ (by omega))
      have f1 : W.frozen? ⟨c0, q, none⟩ = false := hown2.frozenAt q
      have hy := hin2 q
      obtain ⟨y, ey⟩ : ∃ y, (bmp l (p : Int)).getD q 0 = y := ⟨_, rfl⟩
      rw [ey] at y0 hy
      have hown3 := (hown2.stored q (.int .i64 (y + 1))).1
      rw [ints_set, show (bmp l (p : Int)).set q (y + 1) = bmp (bmp l (p : Int)) (q : Int) by rw [← ey]; rfl, ← hs] at hown3
      have HO := Lib.hid hown3
      have HR := Lib.hid (hrr2.kept (only_cell W c0 q (.int .i64 (y + 1))) (fun k hk => by
        rcases hk with hk | hk
        · have := (hrr2.own.lt k hk).1; omega
        · have := (hrr2.mem hk).1; omega))
      have HB := Lib.hid (hb2.setCell (p := ⟨c0, q, none⟩) hc0 (.int .i64 (y + 1)))
      simp [ints] at g0 g1 g2 g3
      unfold rowV at k0
      have i0 : (0 : Int) ≤ (j : Int) := by omega
      have i1 : (j : Int) < (m : Int) := by omega
      have i2 : (0 : Int) ≤ (p : Int) := by omega
      have i3 : (p : Int) < (t.n : Int) := by omega
      have i4 : (0 : Int) ≤ (q : Int) := by omega
      have i5 : (q : Int) < (t.n : Int) := by omega
      have v1 := IntWalk.i64_in (x + 1) (by omega)
      have v2 := IntWalk.i64_in (y + 1) (by omega)
      clear hg hrr hkb hlo hpr hs hin hl el hown hx ex hown2 hin2 hl2 hrr2 hb2 hkb2 hy ey hown3 hb gne
      go_wp2_with fail
      go_roundw
      case rel => exact ⟨j + 1, by omega, by go_num, HO.out, HR.out, HB.out⟩
      case measure => simp [intOf]; omega
    · obtain rfl : j = m := by omega
      have HO := Lib.hid hown
      have HB := Lib.hid hb
      clear hown hrr hb
      have HOE := Lib.hid (show wr.ownsRow c0 3 1 (.slice (some ⟨c0, 0, none⟩) t.n t.n) t.n (ints (ccTo rs t.n rs.length)) by rw [EM.out]; exact HO.out)
      go_wp2_with fail
      go_ret
      exact ⟨_, rfl, own_base HOE.out hc0, HB.out⟩
set_option maxRecDepth 100000 in
set_option maxHeartbeats 4000000 in
theorem ConflictCounts_any (v : Value) (B : Nat) (t : TrN) (L : Int) (w : World) (hcp : CapT v) (hv : RdT w B v t) (hB : B ≤ w.heap.size) (hs : t.small) :
    Calls Try.prog 11 #[v, .int .i64 L] w fun e w' => ∃ u, e = .returned (.tuple #[u, .bool (ccB t L)]) ∧ w'.ownsRow w.heap.size 3 1 u (ccN t L) (ints (ccL t L)) ∧ Below w.heap.size w w' := by
  obtain ⟨A, ca, C, cb, D, cc, rfl, _, _, _⟩ := hv.form
  have hb0 : Below w.heap.size w (w.alloc (.cells #[.slice A t.n ca, .slice C t.m cb, .int .i64 t.c, .slice D t.p cc] 27)) := below_new (Below.refl _ _) _
  have k0 := Blk.new w 27 #[.slice A t.n ca, .slice C t.m cb, .int .i64 t.c, .slice D t.p cc]
  have Hv := Lib.hid (fun W (hb : Below w.heap.size w W) => hv.below' hb hB)
  have Hc := Lib.hid hcp
  have HB0 := Lib.hid hb0
  have K0 := Lib.hid k0
  obtain ⟨a0, a1, a2, a3⟩ := k0.c4
  clear hv hcp hb0 k0
  have P := IsTransition_any _ B t _ Hc.out (Hv.out _ HB0.out) (Nat.le_trans hB HB0.out.size) hs
  have Q := fun W => isLeast_any L W
  have hT : cpB t L = (trB t && inB L 0 80) := rfl
  cases b1 : trB t with
  | false =>
    have HT := Lib.hid (cc_no (show cpB t L = false by rw [hT, b1]; rfl))
    rw [b1] at P
    have HP := Lib.hid P
    clear P Q hT b1
    go_enter Try.func11, Try.ntmps11
    go_wp2_with fail
    refine HP.out.mono ?_
    rintro e w2 ⟨rfl, h2⟩
    have HB1 := Lib.hid (below_on HB0.out h2)
    have K1 := Lib.hid (K0.out.on h2)
    clear h2 a0 a1 a2 a3 HB0 K0
    have HB0 := HB1
    have K0 := K1
    clear HB1 K1
    obtain ⟨a0, a1, a2, a3⟩ := K0.out.c4
    go_wp2_with fail
    go_ret2
    rw [HT.out.1, HT.out.2.1, HT.out.2.2]
    exact ⟨_, rfl, World.ownsRow_nil _ _ _ _, HB0.out⟩
  | true =>
    cases b2 : inB L 0 80 with
    | false =>
      have HT := Lib.hid (cc_no (show cpB t L = false by rw [hT, b1, b2]; rfl))
      rw [b1] at P
      rw [b2] at Q
      have HP := Lib.hid P
      have HQ := Lib.hid Q
      clear P Q hT b1 b2
      go_enter Try.func11, Try.ntmps11
      go_wp2_with fail
      refine HP.out.mono ?_
      rintro e w2 ⟨rfl, h2⟩
      have HB1 := Lib.hid (below_on HB0.out h2)
      have K1 := Lib.hid (K0.out.on h2)
      clear h2 a0 a1 a2 a3 HB0 K0
      have HB0 := HB1
      have K0 := K1
      clear HB1 K1
      obtain ⟨a0, a1, a2, a3⟩ := K0.out.c4
      go_wp2_with fail
      refine (HQ.out _).mono ?_
      rintro e w3 ⟨rfl, rfl⟩
      go_wp2_with fail
      go_ret2
      rw [HT.out.1, HT.out.2.1, HT.out.2.2]
      exact ⟨_, rfl, World.ownsRow_nil _ _ _ _, HB0.out⟩
    | true =>
      have hcb : cpB t L = true := by rw [hT, b1, b2]; rfl
      have hcc := cc_yes hcb
      have hcy := cp_yes hcb
      rw [hcy.2.1, hcy.2.2] at hcc
      have hok := tr_ok b1
      have hn1 := hok.n1
      have R := fun W (hb : Below w.heap.size w W) => conflictPairs_any _ B t L W (Hv.out W hb) (Nat.le_trans hB hb.size) hok (inB_yes b2).1 (inB_yes b2).2
      have PA := fun j => pairs_at (p := cfAt t L) (n := t.n) (j := j)
      have hml := (pr_small (p := cfAt t L) hn1).1
      rw [b1] at P
      rw [b2] at Q
      obtain ⟨rs, ers⟩ : ∃ r, prTo (cfAt t L) t.n t.n = r := ⟨_, rfl⟩
      rw [ers] at R PA hml hcc
      replace PA := Lib.hid PA
      have HT := Lib.hid hcc
      have HR := Lib.hid R
      have HP := Lib.hid P
      have HQ := Lib.hid Q
      clear P Q hT b1 b2 hcb hcc hcy R ers hok
      go_enter Try.func11, Try.ntmps11
      go_wp2_with fail
      refine HP.out.mono ?_
      rintro e w2 ⟨rfl, h2⟩
      have HB1 := Lib.hid (below_on HB0.out h2)
      have K1 := Lib.hid (K0.out.on h2)
      clear h2 a0 a1 a2 a3 HB0 K0
      have HB0 := HB1
      have K0 := K1
      clear HB1 K1
      obtain ⟨a0, a1, a2, a3⟩ := K0.out.c4
      go_wp2_with fail
      refine (HQ.out _).mono ?_
      rintro e w3 ⟨rfl, rfl⟩
      obtain ⟨i0, hi, hz0, hz1, hz2⟩ := info_parts intInfo
      have hz2' : i0.bytes * t.n ≤ 281474976710656 := by rw [hz2]; omega
      go_wp2_with (at_make; refine wpList_make_full _ rfl (.tmp 19) (.tmp 19) 25 rfl w2.heap.size 3 i0 (.int .i64 0) 1 Try.underlying25 hi hz0 hz1 .i64 .i64 t.n t.n t.n rfl rfl rfl rfl hz2' (by unfold maxLen; omega) (by first | exact Nat.le_refl _ | simp) ?_; intro w3 hown1 hg1; obtain ⟨d0, d1, d2, d3⟩ := (K0.out.grown hg1 (by simp)).c4)
      rw [Nat.mul_one, madeInts] at hown1
      try rw [hsz0] at hown1
      have hk3 := K0.out.grown hg1 (by simp)
      have hb3 := HB0.out.grown hg1 HB0.out.size (by simp)
      have h3lt : w2.heap.size < w3.heap.size := (hown1.lt _ rfl).2
      obtain ⟨c0, ec0⟩ : ∃ c, w2.heap.size = c := ⟨_, rfl⟩
      have hc0 : w.heap.size ≤ c0 := by rw [← ec0]; first | exact HB0.out.size | omega
      rw [ec0] at hown1 h3lt ⊢
      have HO1 := Lib.hid hown1
      have HK3 := Lib.hid hk3
      have HB3 := Lib.hid hb3
      clear hi hz0 hz1 hz2 hz2' hg1 hown1 hk3 hb3 a0 a1 a2 a3 HB0 K0
      refine (HR.out _ HB3.out).mono ?_
      rintro e w4 ⟨u, gs, rfl, hrr, h4⟩
      obtain ⟨U, cu, rfl⟩ := hrr.form
      have HO4 := Lib.hid (own_below HO1.out h4 (Nat.le_refl _))
      have HR4 := Lib.hid hrr
      have HB4 := Lib.hid (below_on HB3.out h4)
      clear hrr h4 HO1 HK3 HB3 d0 d1 d2 d3 HR
      obtain ⟨m, em⟩ : ∃ m, rs.length = m := ⟨_, rfl⟩
      rw [em] at HR4 PA hml
      try rw [em] at HT
      try rw [em]
      have EM := Lib.hid em
      clear em
      go_wp2_with fail
      go_loopw [25] (fun s wr => ∃ j : Nat, j ≤ m ∧ s = .int .i64 j ∧ wr.ownsRow c0 3 1 (.slice (some ⟨c0, 0, none⟩) t.n t.n) t.n (ints (ccTo rs t.n j)) ∧ Rows wr w3.heap.size (.slice U m cu) m gs rs ∧ Below w.heap.size w wr) (fun s _ => m - (intOf s).toNat)
      case atStart => exact ⟨0, Nat.zero_le _, rfl, HO4.out, HR4.out, HB4.out⟩
      case round =>
        clear HO4 HR4 HB4
        obtain ⟨j, hj, rfl, hown, hrr, hb⟩ := hrel
        by_cases hlt : j < m
        · obtain ⟨b, cp, g, r, e1, k0, hg, -, hrd, hkb, hlo⟩ := hrr.at hlt
          obtain ⟨p, q, hpq, hqn, hpr⟩ := PA.out j hlt
          simp only [Value.slice.injEq, true_and] at e1
          obtain ⟨rfl, rfl⟩ := e1
          rw [hpr] at hrd
          subst hrd
          have hs : ccTo rs t.n (j + 1) = bmp (bmp (ccTo rs t.n j) (p : Int)) (q : Int) := by rw [ccTo, hpr]; rfl
          have hin := ccTo_in rs t.n j
          have hl := ccTo_length rs t.n j
          obtain ⟨l, el⟩ : ∃ l, ccTo rs t.n j = l := ⟨_, rfl⟩
          rw [el] at hs hown hin hl
          have g0 := hkb.cell 0
          have g1 := hkb.cell 1
          have gne : g ≠ c0 := by omega
          have x0 : wr.cell? ⟨c0, p, none⟩ = some (.int .i64 (l.getD p 0)) := (hown.cellAt p (by omega)).trans (ints_get _ _ (by omega))
          have f0 : wr.frozen? ⟨c0, p, none⟩ = false := hown.frozenAt p
          have hx := hin p
          obtain ⟨x, ex⟩ : ∃ x, l.getD p 0 = x := ⟨_, rfl⟩
          rw [ex] at x0 hx
          have hown2 := (hown.stored p (.int .i64 (x + 1))).1
          rw [ints_set, show l.set p (x + 1) = bmp l (p : Int) by rw [← ex]; rfl] at hown2
          have hin2 := bmp_in (a := (p : Int)) hin
          have hl2 : (bmp l (p : Int)).length = t.n := by rw [bmp_length]; exact hl
          have hrr2 := hrr.kept (only_cell wr c0 p (.int .i64 (x + 1))) (fun k hk => by
            rcases hk with hk | hk
            · have := (hrr.own.lt k hk).1; omega
            · have := (hrr.mem hk).1; omega)
          have hb2 := hb.setCell (p := ⟨c0, p, none⟩) hc0 (.int .i64 (x + 1))
          have hkb2 := hkb.far (p := ⟨c0, p, none⟩) gne (.int .i64 (x + 1))
          obtain ⟨W, eW⟩ : ∃ W, wr.setCell ⟨c0, p, none⟩ (.int .i64 (x + 1)) = W := ⟨_, rfl⟩
          rw [eW] at hown2 hrr2 hb2 hkb2
          have g2 := hkb2.cell 0
          have g3 := hkb2.cell 1
          have y0 : W.cell? ⟨c0, q, none⟩ = some (.int .i64 ((bmp l (p : Int)).getD q 0)) := (hown2.cellAt q (by omega)).trans (ints_get _ _ (by omega))
          have f1 : W.frozen? ⟨c0, q, none⟩ = false := hown2.frozenAt q
          have hy := hin2 q
          obtain ⟨y, ey⟩ : ∃ y, (bmp l (p : Int)).getD q 0 = y := ⟨_, rfl⟩
          rw [ey] at y0 hy
          have hown3 := (hown2.stored q (.int .i64 (y + 1))).1
          rw [ints_set, show (bmp l (p : Int)).set q (y + 1) = bmp (bmp l (p : Int)) (q : Int) by rw [← ey]; rfl, ← hs] at hown3
          have HO := Lib.hid hown3
          have HR := Lib.hid (hrr2.kept (only_cell W c0 q (.int .i64 (y + 1))) (fun k hk => by
            rcases hk with hk | hk
            · have := (hrr2.own.lt k hk).1; omega
            · have := (hrr2.mem hk).1; omega))
          have HB := Lib.hid (hb2.setCell (p := ⟨c0, q, none⟩) hc0 (.int .i64 (y + 1)))
          simp [ints] at g0 g1 g2 g3
          unfold rowV at k0
          have i0 : (0 : Int) ≤ (j : Int) := by omega
          have i1 : (j : Int) < (m : Int) := by omega
          have i2 : (0 : Int) ≤ (p : Int) := by omega
          have i3 : (p : Int) < (t.n : Int) := by omega
          have i4 : (0 : Int) ≤ (q : Int) := by omega
          have i5 : (q : Int) < (t.n : Int) := by omega
          have v1 := IntWalk.i64_in (x + 1) (by omega)
          have v2 := IntWalk.i64_in (y + 1) (by omega)
          clear hg hrr hkb hlo hpr hs hin hl el hown hx ex hown2 hin2 hl2 hrr2 hb2 hkb2 hy ey hown3 hb gne
          go_wp2_with fail
          go_roundw
          case rel => exact ⟨j + 1, by omega, by go_num, HO.out, HR.out, HB.out⟩
          case measure => simp [intOf]; omega
        · obtain rfl : j = m := by omega
          have HO := Lib.hid hown
          have HB := Lib.hid hb
          clear hown hrr hb
          go_wp2_with fail
          go_ret2
          rw [HT.out.1, HT.out.2.1, HT.out.2.2]
          exact ⟨_, rfl, own_base HO.out hc0, HB.out⟩
set_option maxHeartbeats 1000000 in
theorem specConflictCounts_any (v : Value) (B : Nat) (t : TrN) (L : Int) (w : World) (hcp : CapT v) (hv : RdT w B v t) (hB : B ≤ w.heap.size) (hs : t.small) :
    Calls Try.prog 12 #[v, .int .i64 L] w fun e w' => ∃ u, e = .returned (.tuple #[u, .bool (ccB t L)]) ∧ w'.ownsRow w.heap.size 3 1 u (ccN t L) (ints (ccL t L)) ∧ Below w.heap.size w w' := by
  obtain ⟨A, ca, C, cb, D, cc, rfl, _, _, _⟩ := hv.form
  have hb0 : Below w.heap.size w (w.alloc (.cells #[.slice A t.n ca, .slice C t.m cb, .int .i64 t.c, .slice D t.p cc] 27)) := below_new (Below.refl _ _) _
  have k0 := Blk.new w 27 #[.slice A t.n ca, .slice C t.m cb, .int .i64 t.c, .slice D t.p cc]
  have Hv := Lib.hid (fun W (hb : Below w.heap.size w W) => hv.below' hb hB)
  have Hc := Lib.hid hcp
  have HB0 := Lib.hid hb0
  have K0 := Lib.hid k0
  obtain ⟨a0, a1, a2, a3⟩ := k0.c4
  clear hv hcp hb0 k0
  have P := cfAsked_any _ B t L _ Hc.out (Hv.out _ HB0.out) (Nat.le_trans hB HB0.out.size) hs
  cases b1 : cpB t L with
  | false =>
    have HT := Lib.hid (cc_no b1)
    rw [b1] at P
    have HP := Lib.hid P
    clear P b1
    go_enter Try.func12, Try.ntmps12
    go_wp2_with fail
    refine HP.out.mono ?_
    rintro e w2 ⟨rfl, h2⟩
    have HB1 := Lib.hid (below_on HB0.out h2)
    have K1 := Lib.hid (K0.out.on h2)
    clear h2 a0 a1 a2 a3 HB0 K0
    have HB0 := HB1
    have K0 := K1
    clear HB1 K1
    obtain ⟨a0, a1, a2, a3⟩ := K0.out.c4
    go_wp2_with fail
    go_ret2
    rw [HT.out.1, HT.out.2.1, HT.out.2.2]
    exact ⟨_, rfl, World.ownsRow_nil _ _ _ _, HB0.out⟩
  | true =>
    have hcc := cc_yes b1
    have hcy := cp_yes b1
    rw [hcy.2.1, hcy.2.2] at hcc
    have hci := cp_in b1
    have HR := Lib.hid (fun W (hb : Below w.heap.size w W) => cfCounts_any _ B t L W (Hv.out W hb) (Nat.le_trans hB hb.size) (tr_ok hci.1) hci.2.1 hci.2.2)
    rw [b1] at P
    have HT := Lib.hid hcc
    have HP := Lib.hid P
    clear P b1 hcc hcy hci
    go_enter Try.func12, Try.ntmps12
    go_wp2_with fail
    refine HP.out.mono ?_
    rintro e w2 ⟨rfl, h2⟩
    have HB1 := Lib.hid (below_on HB0.out h2)
    have K1 := Lib.hid (K0.out.on h2)
    clear h2 a0 a1 a2 a3 HB0 K0
    have HB0 := HB1
    have K0 := K1
    clear HB1 K1
    obtain ⟨a0, a1, a2, a3⟩ := K0.out.c4
    go_wp2_with fail
    refine (HR.out _ HB0.out).mono ?_
    rintro e w3 ⟨u, rfl, ho, h3⟩
    have HO := Lib.hid (own_base ho HB0.out.size)
    have HB := Lib.hid (HB0.out.trans (h3.mono HB0.out.size))
    clear ho h3
    go_wp2_with fail
    go_ret2
    rw [HT.out.1, HT.out.2.1, HT.out.2.2]
    exact ⟨_, rfl, HO.out, HB.out⟩
end Go.Proofs.Ytjcepipgjpaclaa

namespace Go.Proofs.Ytjcepipgjpaclaa
open Go.RowKit

theorem prIn_pre (p : Nat → Nat → Bool) (i : Nat) {a b : Nat} (h : a ≤ b) : prIn p i a <+: prIn p i b := by
  induction b with
  | zero =>
    obtain rfl : a = 0 := by omega
    exact List.prefix_rfl
  | succ b ih =>
    rcases Nat.lt_or_ge b a with h1 | h1
    · obtain rfl : a = b + 1 := by omega
      exact List.prefix_rfl
    · exact (ih h1).trans (by rw [prIn]; exact List.prefix_append _ _)
theorem prTo_pre (p : Nat → Nat → Bool) (n : Nat) {a b : Nat} (h : a ≤ b) : prTo p n a <+: prTo p n b := by
  induction b with
  | zero =>
    obtain rfl : a = 0 := by omega
    exact List.prefix_rfl
  | succ b ih =>
    rcases Nat.lt_or_ge b a with h1 | h1
    · obtain rfl : a = b + 1 := by omega
      exact List.prefix_rfl
    · exact (ih h1).trans (by rw [prTo]; exact List.prefix_append _ _)
/-- Where the pair (i, k) lies, if it is there. -/
def prC (p : Nat → Nat → Bool) (n i k : Nat) : Nat := (prTo p n i).length + (prIn p i k).length
theorem prC_first (p : Nat → Nat → Bool) (n i : Nat) : prC p n i (i + 1) = (prTo p n i).length := by unfold prC; rw [prIn_first p i _ (Nat.le_refl _)]; rfl
theorem prC_last (p : Nat → Nat → Bool) (n i : Nat) : prC p n i n = (prTo p n (i + 1)).length := by unfold prC; rw [prTo, List.length_append]
theorem prC_le (p : Nat → Nat → Bool) {n i k : Nat} (hi : i < n) (hk : k ≤ n) : prC p n i k ≤ (prTo p n n).length := by
  have h1 := (prIn_pre p i hk).length_le
  have h2 := (prTo_pre p n (a := i + 1) (b := n) hi).length_le
  have h3 := prC_last p n i
  unfold prC at h3 ⊢
  omega
theorem prC_yes {p : Nat → Nat → Bool} {n i k : Nat} (hik : i < k) (hp : p i k = true) : prC p n i (k + 1) = prC p n i k + 1 := by
  unfold prC; rw [prIn_yes hik hp, List.length_append]; rfl
theorem prC_no {p : Nat → Nat → Bool} {n i k : Nat} (hp : p i k = false) : prC p n i (k + 1) = prC p n i k := by
  unfold prC; rw [prIn_no hp]
theorem pr_next {p : Nat → Nat → Bool} {n i k : Nat} (hik : i < k) (hk : k < n) (hp : p i k = true) : prC p n i k < (prTo p n n).length ∧ (prTo p n n).getD (prC p n i k) [] = [(i : Int), (k : Int)] := by
  obtain ⟨t1, e1⟩ := prTo_pre p n (show i + 1 ≤ n by omega)
  obtain ⟨t2, e2⟩ := prIn_pre p i (show k + 1 ≤ n by omega)
  have e3 : prTo p n n = (prTo p n i ++ prIn p i k) ++ ([(i : Int), (k : Int)] :: (t2 ++ t1)) := by
    rw [← e1, prTo, ← e2, prIn_yes hik hp]
    simp
  have hl : (prTo p n i ++ prIn p i k).length = prC p n i k := by rw [List.length_append]; rfl
  constructor
  · rw [e3, List.length_append, hl]; simp
  · rw [e3, List.getD_eq_getElem?_getD, List.getElem?_append_right (by rw [hl]; exact Nat.le_refl _), hl, Nat.sub_self]
    rfl
/-- If the pair has not the property, then another one lies there, or none. -/
theorem pr_other {p : Nat → Nat → Bool} {n i k j : Nat} (hp : p i k = false) (hj : j < (prTo p n n).length) : ∃ a b : Nat, (prTo p n n).getD j [] = [(a : Int), (b : Int)] ∧ (a = i → b ≠ k) ∧ a < 1000000 + n ∧ b < n := by
  obtain ⟨a, b, h1, h2, h3, h4, h5⟩ := prTo_mem (List.getElem_mem hj)
  refine ⟨a, b, ?_, ?_, by omega, h3⟩
  · rw [List.getD_eq_getElem?_getD, List.getElem?_eq_getElem hj]; exact h5
  · rintro rfl rfl
    rw [hp] at h4; cases h4
/-- The sum of the first k numbers. -/
def sumTo (xs : List Int) : Nat → Int
  | 0 => 0
  | k + 1 => sumTo xs k + xs.getD k 0
theorem sumTo_set (l : List Int) (a : Nat) (v : Int) : ∀ m, sumTo (l.set a v) m = sumTo l m + (if a < m ∧ a < l.length then v - l.getD a 0 else 0)
  | 0 => by simp [sumTo]
  | m + 1 => by
    rw [sumTo, sumTo, sumTo_set l a v m]
    simp only [List.getD_eq_getElem?_getD, List.getElem?_set]
    by_cases e : a = m
    · subst e
      by_cases h2 : a < l.length
      · simp [h2]; omega
      · simp [h2, List.getElem?_eq_none (Nat.le_of_not_lt h2)]
    · rw [if_neg e]
      by_cases h2 : a < l.length
      · by_cases h3 : a < m
        · rw [if_pos ⟨h3, h2⟩, if_pos ⟨by omega, h2⟩]; omega
        · rw [if_neg (by omega), if_neg (by omega)]; omega
      · rw [if_neg (by omega), if_neg (by omega)]; omega
theorem sumTo_zero (n : Nat) : ∀ m, sumTo (List.replicate n 0) m = 0
  | 0 => rfl
  | m + 1 => by
    rw [sumTo, sumTo_zero n m]
    simp only [List.getD_eq_getElem?_getD, List.getElem?_replicate]
    split <;> rfl
theorem cc_sum {p : Nat → Nat → Bool} {n : Nat} : ∀ k, k ≤ (prTo p n n).length → sumTo (ccTo (prTo p n n) n k) n = 2 * (k : Int)
  | 0, _ => by rw [ccTo, sumTo_zero]; rfl
  | k + 1, hk => by
    obtain ⟨a, b, h1, h2, h3⟩ := pairs_at (p := p) (n := n) (j := k) (by omega)
    have hl := ccTo_length (prTo p n n) n k
    rw [ccTo, h3]
    show sumTo (bmp (bmp (ccTo (prTo p n n) n k) (a : Int)) (b : Int)) n = _
    unfold bmp
    rw [sumTo_set, sumTo_set, cc_sum k (by omega)]
    simp only [Int.toNat_natCast, List.length_set, hl]
    rw [if_pos (by omega), if_pos (by omega)]
    have e : ((k + 1 : Nat) : Int) = (k : Int) + 1 := by omega
    rw [e]
    omega
theorem hasI_mem {xs : List Int} {x : Int} : hasI xs xs.length x = true ↔ x ∈ xs := by
  simp only [hasI, List.any_eq_true, List.mem_range, beq_iff_eq]
  constructor
  · rintro ⟨j, hj, e⟩
    rw [List.getD_eq_getElem?_getD, List.getElem?_eq_getElem hj] at e
    subst e
    exact List.getElem_mem hj
  · intro h
    obtain ⟨j, hj, e⟩ := List.getElem_of_mem h
    exact ⟨j, hj, by rw [List.getD_eq_getElem?_getD, List.getElem?_eq_getElem hj]; exact e⟩
theorem fpTo_mem {cs : List Int} {x : Int} : ∀ {n}, x ∈ fpTo cs n ↔ ∃ i : Nat, i < n ∧ x = (i : Int) ∧ cs.getD i 0 = 0
  | 0 => by simp [fpTo]
  | n + 1 => by
    rw [fpTo, List.mem_append, fpTo_mem]
    constructor
    · rintro (⟨i, h1, h2, h3⟩ | h)
      · exact ⟨i, by omega, h2, h3⟩
      · split at h
        · rename_i h0
          simp at h
          exact ⟨n, by omega, h, h0⟩
        · simp at h
    · rintro ⟨i, h1, h2, h3⟩
      by_cases e : i = n
      · subst e
        right
        rw [if_pos h3]
        simp [h2]
      · exact .inl ⟨i, by omega, h2, h3⟩
theorem fp_has {cs : List Int} {n i : Nat} (hi : i < n) : hasI (fpTo cs n) (fpTo cs n).length (i : Int) = decide (cs.getD i 0 = 0) := by
  rw [Bool.eq_iff_iff, hasI_mem, fpTo_mem, decide_eq_true_eq]
  constructor
  · rintro ⟨j, h1, h2, h3⟩
    obtain rfl : i = j := by omega
    exact h3
  · intro h
    exact ⟨i, hi, rfl, h⟩
/-! ### The greatest least distance -/
theorem ap_bnds {t : TrN} (h : TrOk t) {i k : Nat} (hi : i < t.n) (hk : k < t.n) : 0 ≤ apT t i k ∧ 1 ≤ apB t i k := by
  obtain ⟨a, b⟩ := okMs h hi hk
  have := lp_bounds a b
  exact ⟨this.1, this.2.2.1⟩
theorem cf_mono {t : TrN} (h : TrOk t) {i k : Nat} (hi : i < t.n) (hk : k < t.n) {L M : Nat} (hLM : L ≤ M) (hc : cfAt t (L : Int) i k = true) : cfAt t (M : Int) i k = true := by
  have hb := ap_bnds h hi hk
  simp only [cfAt, decide_eq_true_eq] at hc ⊢
  have h1 : (L : Int) * L ≤ (M : Int) * M := Int.mul_le_mul (by omega) (by omega) (by omega) (by omega)
  have h2 : (L : Int) * L * apB t i k ≤ (M : Int) * M * apB t i k := Int.mul_le_mul_of_nonneg_right h1 (by omega)
  omega
theorem gl_all {t : TrN} {L : Nat} : glAt t L = true ↔ ∀ i k, i < k → k < t.n → cfAt t (L : Int) i k = false := by
  simp only [glAt, beq_iff_eq, List.length_eq_zero_iff]
  constructor
  · intro h i k hik hk
    cases hc : cfAt t (L : Int) i k with
    | false => rfl
    | true =>
      have := (pr_next (p := cfAt t (L : Int)) hik hk hc).1
      rw [h] at this
      simp at this
  · intro h
    cases he : prTo (cfAt t (L : Int)) t.n t.n with
    | nil => rfl
    | cons r l =>
      obtain ⟨i, k, _, h2, h3, h4, _⟩ := prTo_mem (show r ∈ prTo (cfAt t (L : Int)) t.n t.n by rw [he]; simp)
      rw [h i k h2 h3] at h4
      cases h4
theorem gl_mono {t : TrN} (h : TrOk t) {L M : Nat} (hLM : L ≤ M) (hM : glAt t M = true) : glAt t L = true := by
  rw [gl_all] at hM ⊢
  intro i k hik hk
  cases hc : cfAt t (L : Int) i k with
  | false => rfl
  | true =>
    have := cf_mono h (by omega) hk hLM hc
    rw [hM i k hik hk] at this
    cases this
theorem gl_zero {t : TrN} (h : TrOk t) : glAt t 0 = true := by
  rw [gl_all]
  intro i k hik hk
  have hb := ap_bnds h (show i < t.n by omega) hk
  simp only [cfAt, decide_eq_false_iff_not]
  simp
  exact hb.1
theorem down_is {t : TrN} (h : TrOk t) : ∀ k, glAt t (glDown t k) = true ∧ glDown t k ≤ k ∧ ∀ L, L ≤ k → glAt t L = true → L ≤ glDown t k
  | 0 => ⟨gl_zero h, Nat.le_refl _, fun L hL _ => hL⟩
  | k + 1 => by
    obtain ⟨h1, h2, h3⟩ := down_is h k
    rw [glDown]
    split
    · rename_i hg
      exact ⟨hg, Nat.le_refl _, fun L hL _ => hL⟩
    · rename_i hg
      refine ⟨h1, by omega, fun L hL hgL => ?_⟩
      rcases Nat.lt_or_ge k L with h4 | h4
      · obtain rfl : L = k + 1 := by omega
        exact absurd hgL hg
      · exact h3 L h4 hgL
/-- No pairs if and only if the distance is at most the greatest least one. -/
theorem gl_law {t : TrN} (h : TrOk t) {L : Int} (h0 : 0 ≤ L) (h1 : L ≤ 80) : (prTo (cfAt t L) t.n t.n).length = 0 ↔ L ≤ (glDown t 80 : Int) := by
  obtain ⟨l, rfl⟩ := Int.eq_ofNat_of_zero_le h0
  obtain ⟨a, b, c⟩ := down_is h 80
  have e : (prTo (cfAt t (l : Int)) t.n t.n).length = 0 ↔ glAt t l = true := by simp [glAt]
  rw [e]
  constructor
  · intro hg
    have := c l (by omega) hg
    omega
  · intro hl
    exact gl_mono h (by omega) a
/-- The row of the times. -/
theorem ct_get (t : TrN) (rs : List (List Int)) : ∀ {k j}, j < k → (ctTo t rs k).getD j [] = [(rs.getD j []).getD 0 0, (rs.getD j []).getD 1 0, apS t (r0 (rs.getD j [])) (r1 (rs.getD j [])), apU t (r0 (rs.getD j [])) (r1 (rs.getD j []))]
  | k + 1, j, h => by
    have hl := (ctTo_len t rs k).1
    rw [ctTo, List.getD_eq_getElem?_getD]
    by_cases e : j = k
    · subst e
      rw [List.getElem?_append_right (by omega), hl, Nat.sub_self]
      rfl
    · rw [List.getElem?_append_left (by omega), ← List.getD_eq_getElem?_getD]
      exact ct_get t rs (by omega)
end Go.Proofs.Ytjcepipgjpaclaa

namespace Go.Proofs.Ytjcepipgjpaclaa
open Go.RowKit

theorem small_at2 {rs : List (List Int)} (h : smallRows rs) {j : Nat} {r : List Int} (hr : rs[j]? = some r) : r.length ≤ 1000 := h.2 _ (List.mem_of_getElem? hr)
set_option maxRecDepth 100000 in
set_option maxHeartbeats 1000000 in
theorem sameLists_same (v u : Value) (n lo lo2 : Nat) (gs hs : List Nat) (rs : List (List Int)) (w : World) (hv : Rows w lo v n gs rs) (hu : Rows w lo2 u n hs rs) (hr : smallRows rs) :
    Calls Try.prog 21 #[v, u] w fun e w' => e = .returned (.bool true) ∧ Below w.heap.size w w' := by
  obtain ⟨A, c, rfl⟩ := hv.form
  obtain ⟨C, d, rfl⟩ := hu.form
  have hlen : n ≤ 1000 := by rw [← hv.lr]; exact hr.1
  have Hv := Lib.hid hv
  have Hu := Lib.hid hu
  have Hr := Lib.hid hr
  have hnn : ((n : Int) != (n : Int)) = false := by simp
  clear hv hu hr
  go_enter Try.func21, Try.ntmps21
  go_wp2_with fail
  go_loopw [13] (fun i wr => ∃ j : Nat, j ≤ n ∧ i = .int .i64 j ∧ Below w.heap.size w wr) (fun i _ => n - (intOf i).toNat)
  case atStart => exact ⟨0, Nat.zero_le _, rfl, Below.refl _ _⟩
  case round =>
    obtain ⟨j, hj, rfl, hb⟩ := hrel
    by_cases hlt : j < n
    · obtain ⟨b, cp, g, r, e1, c0, hg, hrr, -, hk, -⟩ := Hv.out.at hlt
      obtain ⟨b', cp', g', r', e2, c1, hg', hrr', -, hk', -⟩ := Hu.out.at hlt
      simp only [Value.slice.injEq, true_and] at e1 e2
      obtain ⟨rfl, rfl⟩ := e1
      obtain ⟨rfl, rfl⟩ := e2
      obtain rfl : r = r' := Option.some.inj (hrr.symm.trans hrr')
      have hl := small_at2 Hr.out hrr
      have P := Lib.hid (fun W (hb : Below w.heap.size w W) => sameInts_same (rowV g r) (rowV g' r) r.length w.heap.size r W ((rd_of_blk hk).below hb) ((rd_of_blk hk').below hb) hb.size (by omega))
      replace c0 := cell_on hb c0
      replace c1 := cell_on hb c1
      have j0 : (0 : Int) ≤ (j : Int) := by omega
      have j1 : (j : Int) < (n : Int) := by omega
      unfold rowV at c0 c1 P
      clear hg hrr hk hg' hrr' hk' hl
      go_wp2_with fail
      go_region_held3 (fun W => W.cell? ⟨b, j, none⟩ = some (.slice (some ⟨g, 0, none⟩) r.length r.length) ∧ W.cell? ⟨b', j, none⟩ = some (.slice (some ⟨g', 0, none⟩) r.length r.length) ∧ Below w.heap.size w W)
        (first | exact ⟨c0, c1, hb.drew⟩ | (go_split_ands; exact ⟨cell_on hb2 (by assumption), cell_on hb2 (by assumption), below_on (by assumption) hb2⟩) | go_keep)
        (first | (go_at_call 22; refine (P.out _ (by go_split_ands; assumption)).mono ?_; rintro e w2 ⟨rfl, hb2⟩))
      go_split_ands
      rename_i hb9
      have HB := Lib.hid hb9
      clear c0 c1 hb hb9
      go_wp2_with fail
      go_roundw
      case rel => exact ⟨j + 1, by omega, by go_num, HB.out⟩
      case measure => simp [intOf]; omega
    · go_wp2_with fail
      go_ret
      exact ⟨rfl, hb⟩
set_option maxRecDepth 100000 in
set_option maxHeartbeats 4000000 in
theorem pSameMoves_same (v u : Value) (n B : Nat) (xs : List Int) (w : World) (hv : Rd w B 5 v n xs) (hu : Rd w B 5 u n xs) (hB : B ≤ w.heap.size) (hn : n ≤ 1099511627776) :
    Calls Try.prog 25 #[v, u] w fun e w' => e = .returned (.bool true) ∧ Below w.heap.size w w' := by
  obtain ⟨_, A, c, rfl, hA⟩ := hv
  obtain ⟨_, C, d, rfl, hC⟩ := hu
  have hnn : ((n : Int) != (n : Int)) = false := by simp
  go_enter Try.func25, Try.ntmps25
  go_wp2_with fail
  go_loopw [13] (fun i wr => ∃ k : Nat, k ≤ n ∧ i = .int .i64 k ∧ Below w.heap.size w wr) (fun i _ => n - (intOf i).toNat)
  case atStart => exact ⟨0, Nat.zero_le _, rfl, Below.refl _ _⟩
  case round =>
    obtain ⟨k, hk, rfl, hb⟩ := hrel
    by_cases hlt : k < n
    · obtain ⟨b, off, rfl, hbB, hc⟩ := hA (by omega)
      obtain ⟨b', off', rfl, hbB', hc'⟩ := hC (by omega)
      have c0 := (hb.cell (p := ⟨b, off + k * 5, none⟩) (Nat.lt_of_lt_of_le hbB hB)).trans (hc (k * 5) (by omega))
      have d0 := (hb.cell (p := ⟨b', off' + k * 5, none⟩) (Nat.lt_of_lt_of_le hbB' hB)).trans (hc' (k * 5) (by omega))
      have c1 := (hb.cell (p := ⟨b, off + (k * 5 + 1), none⟩) (Nat.lt_of_lt_of_le hbB hB)).trans (hc (k * 5 + 1) (by omega))
      have d1 := (hb.cell (p := ⟨b', off' + (k * 5 + 1), none⟩) (Nat.lt_of_lt_of_le hbB' hB)).trans (hc' (k * 5 + 1) (by omega))
      have c2 := (hb.cell (p := ⟨b, off + (k * 5 + 2), none⟩) (Nat.lt_of_lt_of_le hbB hB)).trans (hc (k * 5 + 2) (by omega))
      have d2 := (hb.cell (p := ⟨b', off' + (k * 5 + 2), none⟩) (Nat.lt_of_lt_of_le hbB' hB)).trans (hc' (k * 5 + 2) (by omega))
      have c3 := (hb.cell (p := ⟨b, off + (k * 5 + 3), none⟩) (Nat.lt_of_lt_of_le hbB hB)).trans (hc (k * 5 + 3) (by omega))
      have d3 := (hb.cell (p := ⟨b', off' + (k * 5 + 3), none⟩) (Nat.lt_of_lt_of_le hbB' hB)).trans (hc' (k * 5 + 3) (by omega))
      have c4 := (hb.cell (p := ⟨b, off + (k * 5 + 4), none⟩) (Nat.lt_of_lt_of_le hbB hB)).trans (hc (k * 5 + 4) (by omega))
      have d4 := (hb.cell (p := ⟨b', off' + (k * 5 + 4), none⟩) (Nat.lt_of_lt_of_le hbB' hB)).trans (hc' (k * 5 + 4) (by omega))
      rw [← Nat.add_assoc] at c1 d1 c2 d2 c3 d3 c4 d4
      obtain ⟨x, ex⟩ : ∃ a, xs.getD (k * 5) 0 = a := ⟨_, rfl⟩
      rw [ex] at c0 d0
      obtain ⟨y, ey⟩ : ∃ a, xs.getD (k * 5 + 1) 0 = a := ⟨_, rfl⟩
      rw [ey] at c1 d1
      obtain ⟨z, ez⟩ : ∃ a, xs.getD (k * 5 + 2) 0 = a := ⟨_, rfl⟩
      rw [ez] at c2 d2
      obtain ⟨u, eu⟩ : ∃ a, xs.getD (k * 5 + 3) 0 = a := ⟨_, rfl⟩
      rw [eu] at c3 d3
      obtain ⟨v, ev⟩ : ∃ a, xs.getD (k * 5 + 4) 0 = a := ⟨_, rfl⟩
      rw [ev] at c4 d4
      have hk0 : (0 : Int) ≤ (k : Int) := by omega
      have hk1 : (k : Int) < (n : Int) := by omega
      have q0 : (x != x) = false := by simp
      have q1 : (y != y) = false := by simp
      have q2 : (z != z) = false := by simp
      have q3 : (u != u) = false := by simp
      have q4 : (v != v) = false := by simp
      have HB := Lib.hid hb
      clear hc hc' hA hC ex ey ez eu ev hb
      go_wp2_with fail
      go_quiet (fail)
      go_wp2_with fail
      go_roundw
      case rel => exact ⟨k + 1, by omega, by go_num, below_drewN HB.out _⟩
      case measure => simp [intOf]; omega
    · have HB := Lib.hid hb
      clear hb hA hC
      go_wp2_with fail
      go_ret
      exact ⟨rfl, HB.out⟩
set_option maxHeartbeats 1000000 in
theorem pIn_any (v : Value) (n B : Nat) (xs : List Int) (x : Int) (w : World) (hv : RdP w B 1 v n xs) (hB : B ≤ w.heap.size) (hn : n ≤ 1099511627776) :
    Calls Try.prog 27 #[v, .int .i64 x] w fun e w' => e = .returned (.bool (hasI xs n x)) ∧ w = w' := by
  obtain ⟨A, c, rfl, hA⟩ := hv
  go_enter Try.func27, Try.ntmps27
  go_wp2_with fail
  go_loop [9] (fun i => ∃ k : Nat, k ≤ n ∧ i = .int .i64 k ∧ (∀ j, j < k → ¬ xs.getD j 0 = x)) (fun i => n - (intOf i).toNat)
  case atStart => exact ⟨0, Nat.zero_le _, rfl, fun j h => absurd h (by omega)⟩
  case round =>
    obtain ⟨k, hk, rfl, hno⟩ := hrel
    have HN := Lib.hid hno
    clear hno
    by_cases hlt : k < n
    · obtain ⟨b, off, rfl, hbB, hc⟩ := hA (by omega)
      have hc0 := hc k (by omega)
      obtain ⟨p, ep⟩ : ∃ p, xs.getD k 0 = p := ⟨_, rfl⟩
      rw [ep] at hc0
      have EP := Lib.hid ep
      clear hc hA ep
      by_cases heq : p = x
      · have HY := Lib.hid (hasI_yes (xs := xs) (n := n) (x := x) hlt (EP.out.trans heq))
        subst heq
        go_wp2_with fail
        go_ret
        exact ⟨by rw [HY.out]; rfl, rfl⟩
      · go_wp2_with fail
        go_round
        case rel =>
          refine ⟨k + 1, by omega, by go_num, fun j hj => ?_⟩
          rcases Nat.lt_succ_iff_lt_or_eq.1 hj with h | rfl
          · exact HN.out j h
          · rw [EP.out]; assumption
        case measure => simp [intOf]; omega
    · obtain rfl : k = n := by omega
      have HY := Lib.hid (hasI_no HN.out)
      clear hA
      go_wp2_with fail
      go_ret
      exact ⟨by rw [HY.out]; rfl, rfl⟩
set_option maxHeartbeats 1000000 in
theorem pSum_any (v : Value) (n B : Nat) (xs : List Int) (w : World) (hv : Rd w B 1 v n xs) (hB : B ≤ w.heap.size) (hn : n ≤ 1000) (hs : ∀ k, k ≤ n → -1000000000 ≤ sumTo xs k ∧ sumTo xs k ≤ 1000000000) :
    Calls Try.prog 26 #[v] w fun e w' => e = .returned (.int .i64 (sumTo xs n)) ∧ w = w' := by
  obtain ⟨_, A, c, rfl, hA⟩ := hv
  have HS := Lib.hid hs
  clear hs
  go_enter Try.func26, Try.ntmps26
  go_wp2_with fail
  go_loop [3, 8] (fun s i => ∃ k : Nat, k ≤ n ∧ i = .int .i64 k ∧ s = .int .i64 (sumTo xs k)) (fun _ i => n - (intOf i).toNat)
  case atStart => exact ⟨0, Nat.zero_le _, rfl, rfl⟩
  case round =>
    obtain ⟨k, hk, rfl, rfl⟩ := hrel
    by_cases hlt : k < n
    · obtain ⟨b, off, rfl, hbB, hc⟩ := hA (by omega)
      have c0 := hc k (by omega)
      have h0 := HS.out k (by omega)
      have h1 := HS.out (k + 1) (by omega)
      have h2 : sumTo xs (k + 1) = sumTo xs k + xs.getD k 0 := rfl
      obtain ⟨x, ex⟩ : ∃ x, xs.getD k 0 = x := ⟨_, rfl⟩
      obtain ⟨s, es⟩ : ∃ x, sumTo xs k = x := ⟨_, rfl⟩
      rw [ex] at c0 h2
      rw [es] at h2 h0 ⊢
      have i1 := IntWalk.i64_in (s + x) (by omega)
      have k0 : (0 : Int) ≤ (k : Int) := by omega
      have k1 : (k : Int) < (n : Int) := by omega
      have H2 := Lib.hid h2
      clear ex es h2 hc hA
      go_wp2_with fail
      go_round
      case rel => exact ⟨k + 1, by omega, by go_num, by rw [H2.out]⟩
      case measure => simp [intOf]; omega
    · obtain rfl : k = n := by omega
      go_wp2_with fail
      go_ret
      exact ⟨rfl, rfl⟩
set_option maxHeartbeats 2000000 in
theorem TransitionMoves_any (v : Value) (B : Nat) (t : TrN) (w : World) (hcp : CapT v) (hv : RdT w B v t) (hB : B ≤ w.heap.size) (hs : t.small) (hg : trB t = true) :
    Calls Try.prog 23 #[v] w fun e w' => ∃ u, e = .returned (.tuple #[u, .bool true]) ∧ w'.ownsRow w.heap.size 47 5 u t.n (ints (mvTo t t.n)) ∧ Below w.heap.size w w' := by
  have P := Lib.hid (fun W (hb : Below w.heap.size w W) => IsTransition_any v B t W hcp (hv.below' hb hB) (Nat.le_trans hB hb.size) hs)
  have Q := Lib.hid (fun W (hb : Below w.heap.size w W) => movesOf_any v B t W (hv.below' hb hB) (Nat.le_trans hB hb.size) (tr_ok hg))
  obtain ⟨A, ca, C, cb, D, cc, rfl, -, -, -⟩ := hv.form
  have HG := Lib.hid hg
  have K0 := Lib.hid (Blk.new w 27 #[.slice A t.n ca, .slice C t.m cb, .int .i64 t.c, .slice D t.p cc])
  have HB0 := Lib.hid (below_new (Below.refl w.heap.size w) (.cells #[.slice A t.n ca, .slice C t.m cb, .int .i64 t.c, .slice D t.p cc] 27))
  obtain ⟨a0, a1, a2, a3⟩ := K0.out.c4
  clear hv hg hcp hs
  go_enter Try.func23, Try.ntmps23
  go_wp2_with fail
  refine (P.out _ HB0.out).mono ?_
  rintro e w2 ⟨rfl, hb⟩
  rw [HG.out]
  have K1 := Lib.hid (K0.out.on hb)
  have HB1 := Lib.hid (below_on HB0.out hb)
  obtain ⟨b0, b1, b2, b3⟩ := K1.out.c4
  clear hb a0 a1 a2 a3 K0 HB0
  go_wp2_with fail
  refine (Q.out _ HB1.out).mono ?_
  rintro e w3 ⟨u, rfl, ho, hb⟩
  have HO := Lib.hid (own_base (base' := w.heap.size) ho HB1.out.size)
  have HB2 := Lib.hid (below_on HB1.out hb)
  clear hb ho b0 b1 b2 b3
  go_wp2_with fail
  go_ret2
  exact ⟨_, rfl, HO.out, HB2.out⟩
set_option maxHeartbeats 2000000 in
theorem specTransitionMoves_any (v : Value) (B : Nat) (t : TrN) (w : World) (hcp : CapT v) (hv : RdT w B v t) (hB : B ≤ w.heap.size) (hs : t.small) (hg : trB t = true) :
    Calls Try.prog 24 #[v] w fun e w' => ∃ u, e = .returned (.tuple #[u, .bool true]) ∧ w'.ownsRow w.heap.size 47 5 u t.n (ints (mvTo t t.n)) ∧ Below w.heap.size w w' := by
  have P := Lib.hid (fun W (hb : Below w.heap.size w W) => asGood_any v B t W hcp (hv.below' hb hB) (Nat.le_trans hB hb.size) hs)
  have Q := Lib.hid (fun W (hb : Below w.heap.size w W) => asMoves_any v B t W (hv.below' hb hB) (Nat.le_trans hB hb.size) (tr_ok hg))
  obtain ⟨A, ca, C, cb, D, cc, rfl, -, -, -⟩ := hv.form
  have HG := Lib.hid hg
  have K0 := Lib.hid (Blk.new w 27 #[.slice A t.n ca, .slice C t.m cb, .int .i64 t.c, .slice D t.p cc])
  have HB0 := Lib.hid (below_new (Below.refl w.heap.size w) (.cells #[.slice A t.n ca, .slice C t.m cb, .int .i64 t.c, .slice D t.p cc] 27))
  obtain ⟨a0, a1, a2, a3⟩ := K0.out.c4
  clear hv hg hcp hs
  go_enter Try.func24, Try.ntmps24
  go_wp2_with fail
  refine (P.out _ HB0.out).mono ?_
  rintro e w2 ⟨rfl, hb⟩
  rw [HG.out]
  have K1 := Lib.hid (K0.out.on hb)
  have HB1 := Lib.hid (below_on HB0.out hb)
  obtain ⟨b0, b1, b2, b3⟩ := K1.out.c4
  clear hb a0 a1 a2 a3 K0 HB0
  go_wp2_with fail
  refine (Q.out _ HB1.out).mono ?_
  rintro e w3 ⟨u, rfl, ho, hb⟩
  have HO := Lib.hid (own_base (base' := w.heap.size) ho HB1.out.size)
  have HB2 := Lib.hid (below_on HB1.out hb)
  clear hb ho b0 b1 b2 b3
  go_wp2_with fail
  go_ret2
  exact ⟨_, rfl, HO.out, HB2.out⟩
set_option maxHeartbeats 2000000 in
theorem StayApart_any (a1 a2 a3 a4 b1 b2 b3 b4 c L : Int) (w : World) (ha : mvB a1 a2 a3 a4 c = true) (hb : mvB b1 b2 b3 b4 c = true) (hL0 : 0 ≤ L) (hL : L ≤ 80) :
    Calls Try.prog 28 #[(Value.agg #[Value.int .i64 a1, Value.int .i64 a2, Value.int .i64 a3, Value.int .i64 a4, Value.int .i64 c]), (Value.agg #[Value.int .i64 b1, Value.int .i64 b2, Value.int .i64 b3, Value.int .i64 b4, Value.int .i64 c]), .int .i64 L] w fun e w' => e = .returned (.tuple #[.bool (saB a1 a2 a3 a4 b1 b2 b3 b4 L), .bool true]) ∧ Below w.heap.size w w' := by
  have P := Lib.hid (fun W => goTogether_any a1 a2 a3 a4 b1 b2 b3 b4 c W ha hb)
  have Q := Lib.hid (fun W => stayApart_any a1 a2 a3 a4 c b1 b2 b3 b4 c L W (ok_of ha).1 (ok_of hb).1 hL0 hL)
  have K0 := Lib.hid ((Blk.new w 47 #[.int .i64 a1, .int .i64 a2, .int .i64 a3, .int .i64 a4, .int .i64 c]).alloc (.cells #[.int .i64 b1, .int .i64 b2, .int .i64 b3, .int .i64 b4, .int .i64 c] 47))
  have K1 := Lib.hid (show Blk ((w.alloc (.cells #[.int .i64 a1, .int .i64 a2, .int .i64 a3, .int .i64 a4, .int .i64 c] 47)).alloc (.cells #[.int .i64 b1, .int .i64 b2, .int .i64 b3, .int .i64 b4, .int .i64 c] 47)) (w.heap.size + 1) 47 #[.int .i64 b1, .int .i64 b2, .int .i64 b3, .int .i64 b4, .int .i64 c] by
    simpa using Blk.new (w.alloc (.cells #[.int .i64 a1, .int .i64 a2, .int .i64 a3, .int .i64 a4, .int .i64 c] 47)) 47 #[.int .i64 b1, .int .i64 b2, .int .i64 b3, .int .i64 b4, .int .i64 c])
  have HB0 := Lib.hid (below_new (below_new (Below.refl w.heap.size w) (.cells #[.int .i64 a1, .int .i64 a2, .int .i64 a3, .int .i64 a4, .int .i64 c] 47)) (.cells #[.int .i64 b1, .int .i64 b2, .int .i64 b3, .int .i64 b4, .int .i64 c] 47))
  have HI := Lib.hid (inB_mk hL0 hL)
  obtain ⟨s, es⟩ : ∃ s, saB a1 a2 a3 a4 b1 b2 b3 b4 L = s := ⟨_, rfl⟩
  rw [es] at Q
  rw [es]
  clear es
  have p0 := K0.out.cell 0
  have p1 := K0.out.cell 1
  have p2 := K0.out.cell 2
  have p3 := K0.out.cell 3
  have p4 := K0.out.cell 4
  have q0 := K1.out.cell 0
  have q1 := K1.out.cell 1
  have q2 := K1.out.cell 2
  have q3 := K1.out.cell 3
  have q4 := K1.out.cell 4
  simp at p0 p1 p2 p3 p4 q0 q1 q2 q3 q4
  go_enter Try.func28, Try.ntmps28
  go_wp2_with fail
  refine (P.out _).mono ?_
  rintro e w2 ⟨rfl, hb2⟩
  have K2 := Lib.hid (K0.out.on hb2)
  have K3 := Lib.hid (K1.out.on hb2)
  have HB1 := Lib.hid (below_on HB0.out hb2)
  clear hb2 p0 p1 p2 p3 p4 q0 q1 q2 q3 q4 K0 K1 HB0
  have p0 := K2.out.cell 0
  have p1 := K2.out.cell 1
  have p2 := K2.out.cell 2
  have p3 := K2.out.cell 3
  have p4 := K2.out.cell 4
  have q0 := K3.out.cell 0
  have q1 := K3.out.cell 1
  have q2 := K3.out.cell 2
  have q3 := K3.out.cell 3
  have q4 := K3.out.cell 4
  simp at p0 p1 p2 p3 p4 q0 q1 q2 q3 q4
  go_wp2_with fail
  refine (within_any L 0 80 _).mono ?_
  rintro e w' ⟨rfl, rfl⟩
  rw [HI.out]
  go_wp2_with fail
  refine (Q.out _).mono ?_
  rintro e w3 ⟨rfl, hb3⟩
  have HB2 := Lib.hid (below_on HB1.out hb3)
  clear hb3
  go_wp2_with fail
  go_ret2
  exact ⟨rfl, HB2.out⟩
end Go.Proofs.Ytjcepipgjpaclaa

namespace Go.Proofs.Ytjcepipgjpaclaa
open Go.RowKit

set_option maxRecDepth 100000 in
set_option maxHeartbeats 4000000 in
theorem asSum_any (v : Value) (B : Nat) (t : TrN) (w : World) (hv : RdT w B v t) (hB : B ≤ w.heap.size) (hok : TrOk t) :
    Calls Try.prog 99 #[v] w fun e w' => e = .returned (.int .i64 (suT t t.n)) ∧ Below w.heap.size w w' := by
  have P := Lib.hid (fun W (hb : Below w.heap.size w W) => asMoves_any v B t W (hv.below' hb hB) (Nat.le_trans hB hb.size) hok)
  have n0 := hok.n0
  have n1 := hok.n1
  have HIN := Lib.hid (fun k (hk : k ≤ t.n) => suT_in hok k hk)
  have HSQ := Lib.hid (fun k (hk : k < t.n) => (by
    have h1 := spotB_yes (hok.from_ k hk)
    have h2 := spotB_yes (hok.to_ _ (hok.place k hk).2)
    omega : (0 ≤ X t.xs k ∧ X t.xs k ≤ 1280) ∧ (0 ≤ Y t.xs k ∧ Y t.xs k ≤ 1280) ∧ (0 ≤ X t.ys (plc t k) ∧ X t.ys (plc t k) ≤ 1280) ∧ (0 ≤ Y t.ys (plc t k) ∧ Y t.ys (plc t k) ≤ 1280)))
  have HMS := Lib.hid (fun k (hk : k < t.n) => mSq_in hok hk)
  obtain ⟨A, ca, C, cb, D, cc, rfl, -, -, -⟩ := hv.form
  have K0 := Lib.hid (Blk.new w 27 #[.slice A t.n ca, .slice C t.m cb, .int .i64 t.c, .slice D t.p cc])
  have HB0 := Lib.hid (below_new (Below.refl w.heap.size w) (.cells #[.slice A t.n ca, .slice C t.m cb, .int .i64 t.c, .slice D t.p cc] 27))
  obtain ⟨a0, a1, a2, a3⟩ := K0.out.c4
  clear hv hok
  go_enter Try.func99, Try.ntmps99
  go_wp2_with fail
  refine (P.out _ HB0.out).mono ?_
  rintro e w1 ⟨mv, rfl, o1, hb⟩
  have HB1 := Lib.hid (below_on HB0.out hb)
  obtain ⟨bm, cm, rfl, -, hbm⟩ : ∃ b c, mv = .slice (some ⟨b, 0, none⟩) t.n c ∧ w.heap.size ≤ b ∧ b < w1.heap.size := by
    have hl := o1.lt
    rcases o1.2 with ⟨rfl, h0⟩ | ⟨g, cap, cur, rfl, _⟩
    · exact absurd h0 (by omega)
    · exact ⟨g, cap, rfl, Nat.le_trans HB0.out.size (hl g rfl).1, (hl g rfl).2⟩
  have HM := Lib.hid (fun (V : World) (hb : Below w1.heap.size w1 V) (j : Nat) (hj : j < t.n) => (by
    have h := mvTo_get t t.n j hj
    have hl := mvTo_length t t.n
    have g := fun i (hi : i < t.n * 5) => (hb.cell (p := ⟨bm, i, none⟩) hbm).trans ((o1.cellAt i hi).trans (ints_get _ i (by rw [hl]; exact hi)))
    have k0 := g (j * 5) (by omega)
    have k1 := g (j * 5 + 1) (by omega)
    have k2 := g (j * 5 + 2) (by omega)
    have k3 := g (j * 5 + 3) (by omega)
    have k4 := g (j * 5 + 4) (by omega)
    rw [h.1] at k0
    rw [h.2.1] at k1
    rw [h.2.2.1] at k2
    rw [h.2.2.2.1] at k3
    rw [h.2.2.2.2] at k4
    exact ⟨k0, k1, k2, k3, k4⟩ : V.cell? ⟨bm, j * 5, none⟩ = some (.int .i64 (X t.xs j)) ∧ V.cell? ⟨bm, j * 5 + 1, none⟩ = some (.int .i64 (Y t.xs j)) ∧ V.cell? ⟨bm, j * 5 + 2, none⟩ = some (.int .i64 (X t.ys (plc t j))) ∧ V.cell? ⟨bm, j * 5 + 3, none⟩ = some (.int .i64 (Y t.ys (plc t j))) ∧ V.cell? ⟨bm, j * 5 + 4, none⟩ = some (.int .i64 t.c)))
  clear o1 hb a0 a1 a2 a3 K0 HB0
  go_wp2_with fail
  go_loopw [3, 9] (fun s i wr => ∃ k : Nat, k ≤ t.n ∧ i = .int .i64 k ∧ s = .int .i64 (suT t k) ∧ Below w.heap.size w wr ∧ Below w1.heap.size w1 wr) (fun _ i _ => t.n - (intOf i).toNat)
  case atStart => exact ⟨0, by omega, rfl, rfl, HB1.out, Below.refl _ _⟩
  case round =>
    clear HB1
    obtain ⟨k, hk, rfl, rfl, hb, hbm1⟩ := hrel
    have HB := Lib.hid hb
    have BM := Lib.hid hbm1
    clear hb hbm1
    by_cases hlt : k < t.n
    · obtain ⟨m0, m1, m2, m3, m4⟩ := HM.out _ BM.out k hlt
      obtain ⟨⟨x0, x1⟩, ⟨y0, y1⟩, ⟨z0, z1⟩, u0, u1⟩ := HSQ.out k hlt
      have hsq : mSq t k = sqL (X t.xs k) (Y t.xs k) (X t.ys (plc t k)) (Y t.ys (plc t k)) := rfl
      have hms := HMS.out k hlt
      obtain ⟨x, ex⟩ : ∃ q, X t.xs k = q := ⟨_, rfl⟩
      obtain ⟨y, ey⟩ : ∃ q, Y t.xs k = q := ⟨_, rfl⟩
      obtain ⟨z, ez⟩ : ∃ q, X t.ys (plc t k) = q := ⟨_, rfl⟩
      obtain ⟨u, eu⟩ : ∃ q, Y t.ys (plc t k) = q := ⟨_, rfl⟩
      rw [ex] at m0 x0 x1 hsq
      rw [ey] at m1 y0 y1 hsq
      rw [ez] at m2 z0 z1 hsq
      rw [eu] at m3 u0 u1 hsq
      have HP := Lib.hid (fun W => stSquare_any x y z u W ⟨x0, x1⟩ ⟨y0, y1⟩ ⟨z0, z1⟩ ⟨u0, u1⟩)
      rw [← hsq] at HP
      have i0 : (0 : Int) ≤ (k : Int) := by omega
      have i1 : (k : Int) < (t.n : Int) := by omega
      have h0 := HIN.out k (by omega)
      have h1 := HIN.out (k + 1) (by omega)
      have h2 : suT t (k + 1) = suT t k + mSq t k := rfl
      obtain ⟨s, es⟩ : ∃ q, suT t k = q := ⟨_, rfl⟩
      obtain ⟨q, eq⟩ : ∃ q, mSq t k = q := ⟨_, rfl⟩
      rw [es] at h0 h2 ⊢
      rw [eq] at h2 HP
      have H2 := Lib.hid h2
      have i2 := IntWalk.i64_in (s + q) (by omega)
      clear h2 h0 h1 es eq hsq hms
      have KX := Lib.hid (Blk.new wr 47 #[.int .i64 x, .int .i64 y, .int .i64 z, .int .i64 u, .int .i64 t.c])
      have b0 := KX.out.cell 0
      have b1 := KX.out.cell 1
      have b2 := KX.out.cell 2
      have b3 := KX.out.cell 3
      have b4 := KX.out.cell 4
      simp at b0 b1 b2 b3 b4
      replace HB := Lib.hid (below_new HB.out (.cells #[.int .i64 x, .int .i64 y, .int .i64 z, .int .i64 u, .int .i64 t.c] 47))
      replace BM := Lib.hid (below_new BM.out (.cells #[.int .i64 x, .int .i64 y, .int .i64 z, .int .i64 u, .int .i64 t.c] 47))
      clear ex ey ez eu x0 x1 y0 y1 z0 z1 u0 u1
      go_wp2_with fail
      refine (HP.out _).mono ?_
      rintro e w2 ⟨rfl, hb2⟩
      replace HB := Lib.hid (below_on HB.out hb2)
      replace BM := Lib.hid (below_on BM.out hb2)
      clear hb2 b0 b1 b2 b3 b4 m0 m1 m2 m3 m4
      go_wp2_with fail
      go_roundw
      case rel => exact ⟨k + 1, by omega, by go_num, by rw [H2.out], HB.out, BM.out⟩
      case measure => simp [intOf]; omega
    · obtain rfl : k = t.n := by omega
      go_wp2_with fail
      go_ret
      exact ⟨rfl, HB.out⟩
set_option maxRecDepth 100000 in
set_option maxHeartbeats 4000000 in
theorem asFarthest_any (v : Value) (B : Nat) (t : TrN) (w : World) (hv : RdT w B v t) (hB : B ≤ w.heap.size) (hok : TrOk t) :
    Calls Try.prog 111 #[v] w fun e w' => e = .returned (.int .i64 (faT t t.n : Int)) ∧ Below w.heap.size w w' := by
  have P := Lib.hid (fun W (hb : Below w.heap.size w W) => asMoves_any v B t W (hv.below' hb hB) (Nat.le_trans hB hb.size) hok)
  have n0 := hok.n0
  have n1 := hok.n1
  have HIN := Lib.hid (fun k (hk : k ≤ t.n) => suT_in hok k hk)
  have HSQ := Lib.hid (fun k (hk : k < t.n) => (by
    have h1 := spotB_yes (hok.from_ k hk)
    have h2 := spotB_yes (hok.to_ _ (hok.place k hk).2)
    omega : (0 ≤ X t.xs k ∧ X t.xs k ≤ 1280) ∧ (0 ≤ Y t.xs k ∧ Y t.xs k ≤ 1280) ∧ (0 ≤ X t.ys (plc t k) ∧ X t.ys (plc t k) ≤ 1280) ∧ (0 ≤ Y t.ys (plc t k) ∧ Y t.ys (plc t k) ≤ 1280)))
  have HMS := Lib.hid (fun k (hk : k < t.n) => mSq_in hok hk)
  obtain ⟨A, ca, C, cb, D, cc, rfl, -, -, -⟩ := hv.form
  have K0 := Lib.hid (Blk.new w 27 #[.slice A t.n ca, .slice C t.m cb, .int .i64 t.c, .slice D t.p cc])
  have HB0 := Lib.hid (below_new (Below.refl w.heap.size w) (.cells #[.slice A t.n ca, .slice C t.m cb, .int .i64 t.c, .slice D t.p cc] 27))
  obtain ⟨a0, a1, a2, a3⟩ := K0.out.c4
  clear hv hok
  go_enter Try.func111, Try.ntmps111
  go_wp2_with fail
  refine (P.out _ HB0.out).mono ?_
  rintro e w1 ⟨mv, rfl, o1, hb⟩
  have HB1 := Lib.hid (below_on HB0.out hb)
  obtain ⟨bm, cm, rfl, -, hbm⟩ : ∃ b c, mv = .slice (some ⟨b, 0, none⟩) t.n c ∧ w.heap.size ≤ b ∧ b < w1.heap.size := by
    have hl := o1.lt
    rcases o1.2 with ⟨rfl, h0⟩ | ⟨g, cap, cur, rfl, _⟩
    · exact absurd h0 (by omega)
    · exact ⟨g, cap, rfl, Nat.le_trans HB0.out.size (hl g rfl).1, (hl g rfl).2⟩
  have HM := Lib.hid (fun (V : World) (hb : Below w1.heap.size w1 V) (j : Nat) (hj : j < t.n) => (by
    have h := mvTo_get t t.n j hj
    have hl := mvTo_length t t.n
    have g := fun i (hi : i < t.n * 5) => (hb.cell (p := ⟨bm, i, none⟩) hbm).trans ((o1.cellAt i hi).trans (ints_get _ i (by rw [hl]; exact hi)))
    have k0 := g (j * 5) (by omega)
    have k1 := g (j * 5 + 1) (by omega)
    have k2 := g (j * 5 + 2) (by omega)
    have k3 := g (j * 5 + 3) (by omega)
    have k4 := g (j * 5 + 4) (by omega)
    rw [h.1] at k0
    rw [h.2.1] at k1
    rw [h.2.2.1] at k2
    rw [h.2.2.2.1] at k3
    rw [h.2.2.2.2] at k4
    exact ⟨k0, k1, k2, k3, k4⟩ : V.cell? ⟨bm, j * 5, none⟩ = some (.int .i64 (X t.xs j)) ∧ V.cell? ⟨bm, j * 5 + 1, none⟩ = some (.int .i64 (Y t.xs j)) ∧ V.cell? ⟨bm, j * 5 + 2, none⟩ = some (.int .i64 (X t.ys (plc t j))) ∧ V.cell? ⟨bm, j * 5 + 3, none⟩ = some (.int .i64 (Y t.ys (plc t j))) ∧ V.cell? ⟨bm, j * 5 + 4, none⟩ = some (.int .i64 t.c)))
  clear o1 hb a0 a1 a2 a3 K0 HB0
  go_wp2_with fail
  go_loopw [3, 4, 11] (fun b m i wr => ∃ k : Nat, k ≤ t.n ∧ i = .int .i64 k ∧ b = .int .i64 (faT t k : Int) ∧ (∃ q, m = .int .i64 q ∧ (k = 0 ∧ q = -1 ∨ 0 < k ∧ q = mSq t (faT t k))) ∧ Below w.heap.size w wr ∧ Below w1.heap.size w1 wr) (fun _ _ i _ => t.n - (intOf i).toNat)
  case atStart => exact ⟨0, by omega, rfl, rfl, ⟨-1, rfl, .inl ⟨rfl, rfl⟩⟩, HB1.out, Below.refl _ _⟩
  case round =>
    clear HB1
    obtain ⟨k, hk, rfl, rfl, ⟨best, rfl, hbest⟩, hb, hbm1⟩ := hrel
    have HB := Lib.hid hb
    have BM := Lib.hid hbm1
    have HBE := Lib.hid hbest
    clear hb hbm1 hbest
    by_cases hlt : k < t.n
    · obtain ⟨m0, m1, m2, m3, m4⟩ := HM.out _ BM.out k hlt
      obtain ⟨⟨x0, x1⟩, ⟨y0, y1⟩, ⟨z0, z1⟩, u0, u1⟩ := HSQ.out k hlt
      have hsq : mSq t k = sqL (X t.xs k) (Y t.xs k) (X t.ys (plc t k)) (Y t.ys (plc t k)) := rfl
      have hms := HMS.out k hlt
      obtain ⟨x, ex⟩ : ∃ q, X t.xs k = q := ⟨_, rfl⟩
      obtain ⟨y, ey⟩ : ∃ q, Y t.xs k = q := ⟨_, rfl⟩
      obtain ⟨z, ez⟩ : ∃ q, X t.ys (plc t k) = q := ⟨_, rfl⟩
      obtain ⟨u, eu⟩ : ∃ q, Y t.ys (plc t k) = q := ⟨_, rfl⟩
      rw [ex] at m0 x0 x1 hsq
      rw [ey] at m1 y0 y1 hsq
      rw [ez] at m2 z0 z1 hsq
      rw [eu] at m3 u0 u1 hsq
      have HP := Lib.hid (fun W => stSquare_any x y z u W ⟨x0, x1⟩ ⟨y0, y1⟩ ⟨z0, z1⟩ ⟨u0, u1⟩)
      rw [← hsq] at HP
      have i0 : (0 : Int) ≤ (k : Int) := by omega
      have i1 : (k : Int) < (t.n : Int) := by omega
      have h2 : faT t (k + 1) = if mSq t (faT t k) < mSq t k then k else faT t k := rfl
      have hyes : best < mSq t k → faT t (k + 1) = k := by
        intro h
        rcases HBE.out with ⟨h0, _⟩ | ⟨_, h0⟩
        · subst h0
          rw [h2]; split <;> rfl
        · rw [h2, if_pos (by omega)]
      have hno : ¬ best < mSq t k → faT t (k + 1) = faT t k ∧ 0 < k := by
        intro h
        rcases HBE.out with ⟨_, h0⟩ | ⟨h1, h0⟩
        · omega
        · rw [h2, if_neg (by omega)]; exact ⟨rfl, h1⟩
      have HQ := Lib.hid (rfl : mSq t k = mSq t k)
      obtain ⟨f, ef⟩ : ∃ f, faT t k = f := ⟨_, rfl⟩
      have EF := Lib.hid ef
      obtain ⟨q, eq⟩ : ∃ q, mSq t k = q := ⟨_, rfl⟩
      have EQ := Lib.hid eq
      rw [ef] at hno ⊢
      rw [eq] at hyes hno HP
      clear h2 ef eq hsq hms HQ
      by_cases hc : best < q
      · have HY := Lib.hid (hyes hc)
        clear hyes hno
        have KX := Lib.hid (Blk.new wr 47 #[.int .i64 x, .int .i64 y, .int .i64 z, .int .i64 u, .int .i64 t.c])
        have b0 := KX.out.cell 0
        have b1 := KX.out.cell 1
        have b2 := KX.out.cell 2
        have b3 := KX.out.cell 3
        have b4 := KX.out.cell 4
        simp at b0 b1 b2 b3 b4
        replace HB := Lib.hid (below_new HB.out (.cells #[.int .i64 x, .int .i64 y, .int .i64 z, .int .i64 u, .int .i64 t.c] 47))
        replace BM := Lib.hid (below_new BM.out (.cells #[.int .i64 x, .int .i64 y, .int .i64 z, .int .i64 u, .int .i64 t.c] 47))
        clear ex ey ez eu x0 x1 y0 y1 z0 z1 u0 u1
        go_wp2_with fail
        refine (HP.out _).mono ?_
        rintro e w2 ⟨rfl, hb2⟩
        replace HB := Lib.hid (below_on HB.out hb2)
        replace BM := Lib.hid (below_on BM.out hb2)
        clear hb2 b0 b1 b2 b3 b4 m0 m1 m2 m3 m4
        go_wp2_with fail
        go_roundw
        case rel => exact ⟨k + 1, by omega, by go_num, by rw [HY.out], ⟨q, rfl, .inr ⟨by omega, by rw [HY.out, EQ.out]⟩⟩, HB.out, BM.out⟩
        case measure => simp [intOf]; omega
      · have HN := Lib.hid (hno hc)
        clear hyes hno
        have KX := Lib.hid (Blk.new wr 47 #[.int .i64 x, .int .i64 y, .int .i64 z, .int .i64 u, .int .i64 t.c])
        have b0 := KX.out.cell 0
        have b1 := KX.out.cell 1
        have b2 := KX.out.cell 2
        have b3 := KX.out.cell 3
        have b4 := KX.out.cell 4
        simp at b0 b1 b2 b3 b4
        replace HB := Lib.hid (below_new HB.out (.cells #[.int .i64 x, .int .i64 y, .int .i64 z, .int .i64 u, .int .i64 t.c] 47))
        replace BM := Lib.hid (below_new BM.out (.cells #[.int .i64 x, .int .i64 y, .int .i64 z, .int .i64 u, .int .i64 t.c] 47))
        clear ex ey ez eu x0 x1 y0 y1 z0 z1 u0 u1
        go_wp2_with fail
        refine (HP.out _).mono ?_
        rintro e w2 ⟨rfl, hb2⟩
        replace HB := Lib.hid (below_on HB.out hb2)
        replace BM := Lib.hid (below_on BM.out hb2)
        clear hb2 b0 b1 b2 b3 b4 m0 m1 m2 m3 m4
        go_wp2_with fail
        go_roundw
        case rel =>
          refine ⟨k + 1, by omega, by go_num, by rw [HN.out.1], ⟨best, rfl, .inr ⟨by omega, ?_⟩⟩, HB.out, BM.out⟩
          rw [HN.out.1]
          rcases HBE.out with ⟨h0, _⟩ | ⟨_, h0⟩
          · have := HN.out.2; omega
          · rw [h0, EF.out]
        case measure => simp [intOf]; omega
    · obtain rfl : k = t.n := by omega
      clear HBE
      go_wp2_with fail
      go_ret
      exact ⟨rfl, HB.out⟩
end Go.Proofs.Ytjcepipgjpaclaa
