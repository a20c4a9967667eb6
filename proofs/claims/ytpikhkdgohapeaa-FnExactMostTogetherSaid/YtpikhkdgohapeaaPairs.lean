/- Contracts of the lists of pairs in conflict, in the program and in the reference. Conditions: the transition is good, its slices can be read, and the least distance lies within its bounds. -/
import Derived.Test.YtpikhkdgohapeaaMoves
import Derived.Test.YtpikhkdgohapeaaNearSpec
import Derived.Test.YtpikhkdgohapeaaRowsS
import Derived.Test.YtpikhkdgohapeaaConfFn
import Derived.Deep.DeepCutAuto
namespace Go.Proofs.Ytpikhkdgohapeaa
open Go.RowKit

theorem Rd.moves {w : World} {B n : Nat} {A : Option Addr} {c : Nat} {t : TrN} (h : Rd w B 5 (.slice A n c) n (mvTo t n)) (hn : 0 < n) : ∃ b off, A = some ⟨b, off, none⟩ ∧ b < B ∧
    ∀ (W : World) (j : Nat), Below B w W → j < n → W.cell? ⟨b, off + j * 5, none⟩ = some (.int .i64 (X t.xs j)) ∧ W.cell? ⟨b, off + j * 5 + 1, none⟩ = some (.int .i64 (Y t.xs j)) ∧
      W.cell? ⟨b, off + j * 5 + 2, none⟩ = some (.int .i64 (X t.ys (plc t j))) ∧ W.cell? ⟨b, off + j * 5 + 3, none⟩ = some (.int .i64 (Y t.ys (plc t j))) ∧ W.cell? ⟨b, off + j * 5 + 4, none⟩ = some (.int .i64 t.c) := by
  obtain ⟨_, A', c', e, h⟩ := h
  simp only [Value.slice.injEq, true_and] at e
  obtain ⟨rfl, rfl⟩ := e
  obtain ⟨b, off, rfl, hb, hc⟩ := h hn
  refine ⟨b, off, rfl, hb, fun W j hW hj => ?_⟩
  obtain ⟨g0, g1, g2, g3, g4⟩ := mvTo_get t n j hj
  have k0 := hc (j * 5) (by omega)
  have k1 := hc (j * 5 + 1) (by omega)
  have k2 := hc (j * 5 + 2) (by omega)
  have k3 := hc (j * 5 + 3) (by omega)
  have k4 := hc (j * 5 + 4) (by omega)
  rw [g0] at k0
  rw [g1, ← Nat.add_assoc] at k1
  rw [g2, ← Nat.add_assoc] at k2
  rw [g3, ← Nat.add_assoc] at k3
  rw [g4, ← Nat.add_assoc] at k4
  exact ⟨(hW.cell (p := ⟨b, off + j * 5, none⟩) hb).trans k0, (hW.cell (p := ⟨b, off + j * 5 + 1, none⟩) hb).trans k1, (hW.cell (p := ⟨b, off + j * 5 + 2, none⟩) hb).trans k2, (hW.cell (p := ⟨b, off + j * 5 + 3, none⟩) hb).trans k3, (hW.cell (p := ⟨b, off + j * 5 + 4, none⟩) hb).trans k4⟩
theorem okMs {t : TrN} (h : TrOk t) {i k : Nat} (hi : i < t.n) (hk : k < t.n) : okM (X t.xs i) (Y t.xs i) (X t.ys (plc t i)) (Y t.ys (plc t i)) ∧ okM (X t.xs k) (Y t.xs k) (X t.ys (plc t k)) (Y t.ys (plc t k)) := by
  have one : ∀ {i : Nat}, i < t.n → okM (X t.xs i) (Y t.xs i) (X t.ys (plc t i)) (Y t.ys (plc t i)) := by
    intro i hi
    have h1 := spotB_yes (h.from_ i hi)
    have h2 := spotB_yes (h.to_ _ (h.place i hi).2)
    exact ⟨⟨by omega, by omega⟩, ⟨by omega, by omega⟩, ⟨by omega, by omega⟩, by omega, by omega⟩
  exact ⟨one hi, one hk⟩
theorem sa_cf (t : TrN) (L : Int) (i k : Nat) : saB (X t.xs i) (Y t.xs i) (X t.ys (plc t i)) (Y t.ys (plc t i)) (X t.xs k) (Y t.xs k) (X t.ys (plc t k)) (Y t.ys (plc t k)) L = !cfAt t L i k := by
  show decide (L * L * apB t i k ≤ apT t i k) = !decide (apT t i k < L * L * apB t i k)
  rw [← decide_not]
  apply decide_eq_decide.2
  omega
theorem pr_len {p : Nat → Nat → Bool} {n a d : Nat} (hn : n ≤ 12) (ha : a ≤ n) (hd : d ≤ n) : (prTo p n a ++ prIn p a d).length ≤ 1000 := by
  have h1 := prTo_len p n a
  have h2 := prIn_len p a d
  have h3 : a * n ≤ 12 * 12 := Nat.mul_le_mul (by omega) hn
  rw [List.length_append]
  omega
set_option maxRecDepth 100000 in
set_option maxHeartbeats 4000000 in
theorem conflictPairs_any (v : Value) (B : Nat) (t : TrN) (L : Int) (w : World) (hv : RdT w B v t) (hB : B ≤ w.heap.size) (hok : TrOk t) (hL0 : 0 ≤ L) (hL : L ≤ 80) :
    Calls Try.prog 89 #[v, .int .i64 L] w fun e w' => ∃ u gs, e = .returned u ∧ Rows w' w.heap.size u (prTo (cfAt t L) t.n t.n).length gs (prTo (cfAt t L) t.n t.n) ∧ Below w.heap.size w w' := by
  obtain ⟨A, ca, C, cb, D, cc, rfl, _, _, _⟩ := hv.form
  have hb0 : Below w.heap.size w (w.alloc (.cells #[.slice A t.n ca, .slice C t.m cb, .int .i64 t.c, .slice D t.p cc] 43)) := below_new (Below.refl _ _) _
  have P1 := Lib.hid (movesOf_any _ B t _ (hv.below' hb0 hB) (Nat.le_trans hB hb0.size) hok)
  have HB0 := Lib.hid hb0
  have hn1 := hok.n1
  have hn0 := hok.n0
  have HOK := Lib.hid hok
  obtain ⟨n, en⟩ : ∃ n, t.n = n := ⟨_, rfl⟩
  rw [en] at P1 HB0 hn1 hn0
  rw [en]
  have EN := Lib.hid en
  have HF := Lib.hid (fun i k => okMs hok (i := i) (k := k))
  rw [en] at HF
  clear hb0 hv hok en
  go_enter Try.func89, Try.ntmps89
  go_wp2_with fail
  refine P1.out.mono ?_
  rintro e w1 ⟨mv, rfl, o1, b1⟩
  obtain ⟨A1, c1, rfl⟩ := (Rd.of_own o1).form
  have HM := Lib.hid (Rd.of_own o1)
  have HB1 := Lib.hid (HB0.out.trans (b1.mono HB0.out.size))
  clear o1 b1 P1
  go_wp2_with fail
  go_loopw [6, 14] (fun o s wr => ∃ (a : Nat) (gs : List Nat), a ≤ n ∧ s = .int .i64 a ∧ Rows wr w1.heap.size o (prTo (cfAt t L) n a).length gs (prTo (cfAt t L) n a) ∧ Below w1.heap.size w1 wr) (fun _ s _ => n - (intOf s).toNat)
  case atStart => exact ⟨0, [], Nat.zero_le _, rfl, Rows.empty w1, below_new (Below.refl _ _) _⟩
  case round =>
    obtain ⟨a, gs, ha, rfl, hr, hb⟩ := hrel
    obtain ⟨wo, rfl⟩ : ∃ wo : World, wo = wr := ⟨_, rfl⟩
    have HR := Lib.hid hr
    have HB := Lib.hid hb
    clear hr hb
    by_cases hlt : a < n
    · obtain ⟨b, off, rfl, hbB, hcells⟩ := HM.out.moves (by omega)
      have HC := Lib.hid hcells
      clear hcells
      have ha1 : (a : Int) < (n : Int) := by omega
      go_wp2_with fail
      go_loopw [6, 8] (fun o s wq => ∃ (d : Nat) (gs : List Nat), a + 1 ≤ d ∧ d ≤ n ∧ s = .int .i64 d ∧ Rows wq w1.heap.size o (prTo (cfAt t L) n a ++ prIn (cfAt t L) a d).length gs (prTo (cfAt t L) n a ++ prIn (cfAt t L) a d) ∧ Below w1.heap.size w1 wq) (fun _ s _ => n - (intOf s).toNat)
      case atStart => exact ⟨a + 1, gs, by omega, by omega, by go_num, by rw [prIn_first _ _ _ (Nat.le_refl _), List.append_nil]; exact HR.out, HB.out⟩
      case round =>
        clear HR HB
        obtain ⟨d, gs, hd1, hd2, rfl, hr, hb⟩ := hrel
        have HR := Lib.hid hr
        by_cases hlk : d < n
        · obtain ⟨c0, c1', c2, c3, c4⟩ := HC.out wr a hb hlt
          obtain ⟨e0, e1, e2, e3, e4⟩ := HC.out wr d hb hlk
          have hokm := HF.out a d hlt hlk
          have hsa := sa_cf t L a d
          have hy := prIn_yes (p := cfAt t L) (i := a) (d := d) (by omega)
          have hno := prIn_no (p := cfAt t L) (i := a) (d := d)
          obtain ⟨x1, ex1⟩ : ∃ x, X t.xs a = x := ⟨_, rfl⟩
          obtain ⟨x2, ex2⟩ : ∃ x, Y t.xs a = x := ⟨_, rfl⟩
          obtain ⟨x3, ex3⟩ : ∃ x, X t.ys (plc t a) = x := ⟨_, rfl⟩
          obtain ⟨x4, ex4⟩ : ∃ x, Y t.ys (plc t a) = x := ⟨_, rfl⟩
          obtain ⟨y1, ey1⟩ : ∃ x, X t.xs d = x := ⟨_, rfl⟩
          obtain ⟨y2, ey2⟩ : ∃ x, Y t.xs d = x := ⟨_, rfl⟩
          obtain ⟨y3, ey3⟩ : ∃ x, X t.ys (plc t d) = x := ⟨_, rfl⟩
          obtain ⟨y4, ey4⟩ : ∃ x, Y t.ys (plc t d) = x := ⟨_, rfl⟩
          obtain ⟨tc, etc⟩ : ∃ x, t.c = x := ⟨_, rfl⟩
          rw [ex1] at c0
          rw [ex2] at c1'
          rw [ex3] at c2
          rw [ex4] at c3
          rw [etc] at c4 e4
          rw [ey1] at e0
          rw [ey2] at e1
          rw [ey3] at e2
          rw [ey4] at e3
          rw [ex1, ex2, ex3, ex4, ey1, ey2, ey3, ey4] at hokm hsa
          have P := fun W => stayApart_any x1 x2 x3 x4 tc y1 y2 y3 y4 tc L W hokm.1 hokm.2 hL0 hL
          rw [hsa] at P
          obtain ⟨q, eq⟩ : ∃ q, cfAt t L a d = q := ⟨_, rfl⟩
          rw [eq] at P hy hno
          have HP := Lib.hid P
          have HB := Lib.hid hb
          have i0 : (0 : Int) ≤ (a : Int) := by omega
          have i2 : (0 : Int) ≤ (d : Int) := by omega
          have i3 : (d : Int) < (n : Int) := by omega
          clear hr hb hokm hsa ex1 ex2 ex3 ex4 ey1 ey2 ey3 ey4 etc P eq
          go_upto_region 8 with (fail)
          go_cut [35] (fun s wx => s = .bool q ∧ Below wr.heap.size wr wx)
          case first =>
            go_region_held3 (fun W => W.cell? ⟨b, off + a * 5, none⟩ = some (.int .i64 x1) ∧ W.cell? ⟨b, off + a * 5 + 1, none⟩ = some (.int .i64 x2) ∧ W.cell? ⟨b, off + a * 5 + 2, none⟩ = some (.int .i64 x3) ∧ W.cell? ⟨b, off + a * 5 + 3, none⟩ = some (.int .i64 x4) ∧ W.cell? ⟨b, off + a * 5 + 4, none⟩ = some (.int .i64 tc) ∧ W.cell? ⟨b, off + d * 5, none⟩ = some (.int .i64 y1) ∧ W.cell? ⟨b, off + d * 5 + 1, none⟩ = some (.int .i64 y2) ∧ W.cell? ⟨b, off + d * 5 + 2, none⟩ = some (.int .i64 y3) ∧ W.cell? ⟨b, off + d * 5 + 3, none⟩ = some (.int .i64 y4) ∧ W.cell? ⟨b, off + d * 5 + 4, none⟩ = some (.int .i64 tc) ∧ Below wr.heap.size wr W)
              (first | exact ⟨c0, c1', c2, c3, c4, e0, e1, e2, e3, e4, (Below.refl _ _).drew⟩ | (go_split_ands; exact ⟨cell_on hb2 (by assumption), cell_on hb2 (by assumption), cell_on hb2 (by assumption), cell_on hb2 (by assumption), cell_on hb2 (by assumption), cell_on hb2 (by assumption), cell_on hb2 (by assumption), cell_on hb2 (by assumption), cell_on hb2 (by assumption), cell_on hb2 (by assumption), below_on (by assumption) hb2⟩) | go_keep)
              (first | (go_at_call 102; refine (HP.out _).mono ?_; rintro e w2 ⟨rfl, hb2⟩))
            all_goals
              go_split_ands
              go_wp2_with fail
              go_meet
              exact ⟨by simp, by assumption⟩
          case rest =>
            obtain ⟨rfl, hb5⟩ := hcut
            have HR5 := Lib.hid (HR.out.below hb5 (Nat.le_refl _))
            have HB5 := Lib.hid (below_on HB.out hb5)
            clear hb5 c0 c1' c2 c3 c4 e0 e1 e2 e3 e4 HP HR HB
            cases q with
            | false =>
              have HN := Lib.hid (hno rfl)
              go_wp2_with fail
              go_roundw
              case rel => exact ⟨d + 1, gs, by omega, by omega, by go_num, by rw [HN.out]; exact HR5.out, HB5.out⟩
              case measure => simp [intOf]; omega
            | true =>
              have HY := Lib.hid (hy rfl)
              have HR := HR5
              have HB := HB5
              have g0 : Blk ((wc.alloc (.cells #[.int .i64 (a : Int), .int .i64 (d : Int)] 3)).alloc (.cells #[.slice (some ⟨wc.heap.size, 0, none⟩) 2 2] 36)) wc.heap.size 3 (ints [(a : Int), (d : Int)]).toArray := (Blk.new _ _ _).alloc _
              have g1 := (Blk.new2 wc (.cells #[.int .i64 (a : Int), .int .i64 (d : Int)] 3) 36 #[.slice (some ⟨wc.heap.size, 0, none⟩) 2 2]).c1
              have hr2 := Lib.hid ((HR.out.alloc (.cells #[.int .i64 (a : Int), .int .i64 (d : Int)] 3)).alloc (.cells #[.slice (some ⟨wc.heap.size, 0, none⟩) 2 2] 36))
              have hb2 := Lib.hid (below_new (below_new HB.out (.cells #[.int .i64 (a : Int), .int .i64 (d : Int)] 3)) (.cells #[.slice (some ⟨wc.heap.size, 0, none⟩) 2 2] 36))
              have G0 := Lib.hid g0
              have hnew : wc.heap.size ∉ gs := fun hm => by have := (HR.out.mem hm).2; omega
              have hwz : w1.heap.size ≤ wc.heap.size := HB.out.size
              have hln := pr_len (p := (cfAt t L)) (n := n) (a := a) (d := d) hn1 (by omega) (by omega)
              have HLN := Lib.hid hln
              have HNW := Lib.hid hnew
              have HWZ := Lib.hid hwz
              clear g0 hln hnew hwz
              go_wp2_with (at_builtin; refine app_row rfl _ _ rfl w1.heap.size _ _ gs _ rfl hr2.out (wc.heap.size + 1) wc.heap.size [(a : Int), (d : Int)] rfl g1 G0.out HWZ.out HNW.out (by have := HLN.out; omega) (by simp; have := HWZ.out; omega) ?_; intro v9 w9 hr9 hg9)
              have hb3 : Below w1.heap.size w1 w9 := hb2.out.grown hg9 (by simp; have := HWZ.out; omega) (fun g hg => (hr2.out.own.lt g hg).1)
              have HR9 := Lib.hid (show Rows w9 w1.heap.size v9 (prTo (cfAt t L) n a ++ prIn (cfAt t L) a (d + 1)).length (gs ++ [wc.heap.size]) (prTo (cfAt t L) n a ++ prIn (cfAt t L) a (d + 1)) by
                rw [HY.out, ← List.append_assoc]
                have := hr9
                rwa [show (prTo (cfAt t L) n a ++ prIn (cfAt t L) a d ++ [[(a : Int), (d : Int)]]).length = (prTo (cfAt t L) n a ++ prIn (cfAt t L) a d).length + 1 by rw [List.length_append]; rfl])
              have HB9 := Lib.hid hb3
              go_wp2_with fail
              go_roundw
              case rel => exact ⟨d + 1, gs ++ [wc.heap.size], by omega, by omega, by go_num, HR9.out, HB9.out⟩
              case measure => simp [intOf]; omega
        · obtain rfl : d = n := by omega
          have HB := Lib.hid hb
          clear hr hb
          go_wp2_with fail
          go_roundw
          case rel => exact ⟨a + 1, gs, by omega, by go_num, HR.out, HB.out⟩
          case measure => simp [intOf]; omega
    · obtain rfl : a = n := by omega
      go_wp2_with fail
      go_ret
      exact ⟨_, gs, rfl, HR.out.base HB1.out.size, HB1.out.trans (HB.out.mono HB1.out.size)⟩
end Go.Proofs.Ytpikhkdgohapeaa
