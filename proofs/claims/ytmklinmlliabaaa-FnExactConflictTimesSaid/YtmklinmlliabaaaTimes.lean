/- Contracts of the two ConflictTimes. Conditions: the transition's slices can be read, and are short. -/
import Derived.Test.YtmklinmlliabaaaConf
import Derived.Test.YtmklinmlliabaaaClosest
import Derived.Test.YtmklinmlliabaaaRowStep
namespace Go.Proofs.Ytmklinmlliabaaa
open Go.RowKit

theorem pairs_at' {p : Nat → Nat → Bool} {n j : Nat} (h : j < (prTo p n n).length) : ∃ i k : Nat, i < k ∧ k < n ∧ (prTo p n n).getD j [] = [(i : Int), (k : Int)] := by
  obtain ⟨i, k, _, h2, h3, _, h5⟩ := prTo_mem (List.getElem_mem h)
  refine ⟨i, k, h2, h3, ?_⟩
  rw [List.getD_eq_getElem?_getD, List.getElem?_eq_getElem h]
  exact h5
theorem mvB_of {t : TrN} (h : TrOk t) {i : Nat} (hi : i < t.n) : mvB (X t.xs i) (Y t.xs i) (X t.ys (plc t i)) (Y t.ys (plc t i)) t.c = true := by
  rw [mvB, h.from_ i hi, h.to_ _ (h.place i hi).2, inB_mk h.c0 h.c1]; rfl
theorem grown_of' {a b : World} {r : Option Nat} (h : a.drew.grownBy b r) : a.grownBy b r := ⟨h.os, h.tape, h.output, h.size, h.block⟩
set_option maxRecDepth 100000 in
set_option maxHeartbeats 1000000 in
theorem ConflictTimes_any (v : Value) (B : Nat) (t : TrN) (L : Int) (w : World) (hcp : CapT v) (hv : RdT w B v t) (hB : B ≤ w.heap.size) (hs : t.small) :
    Calls Try.prog 33 #[v, .int .i64 L] w fun e w' => ∃ u gs, e = .returned (.tuple #[u, .bool (ctB t L)]) ∧ Rows w' w.heap.size u (ctN t L) gs (ctL t L) ∧ Below w.heap.size w w' := by
  obtain ⟨A, ca, C, cb, D, cc, rfl, _, _, _⟩ := hv.form
  have hb0 : Below w.heap.size w (w.alloc (.cells #[.slice A t.n ca, .slice C t.m cb, .int .i64 t.c, .slice D t.p cc] 32)) := below_new (Below.refl _ _) _
  have k0 := Blk.new w 32 #[.slice A t.n ca, .slice C t.m cb, .int .i64 t.c, .slice D t.p cc]
  have Hv := Lib.hid (fun W (hb : Below w.heap.size w W) => hv.below' hb hB)
  have Hc := Lib.hid hcp
  have HB0 := Lib.hid hb0
  have K0 := Lib.hid k0
  obtain ⟨a0, a1, a2, a3⟩ := k0.c4
  clear hv hcp hb0 k0
  have P := IsTransition_any _ B t _ Hc.out (Hv.out _ HB0.out) (Nat.le_trans hB HB0.out.size) hs
  have Q := fun W => isLeast_any L W
  have hT : cpB t L = (trB t && inB L 0 80) := rfl
  cases b1 : trB t with
  | false =>
    have HT := Lib.hid (ct_no (show cpB t L = false by rw [hT, b1]; rfl))
    rw [b1] at P
    have HP := Lib.hid P
    clear P Q hT b1
    go_enter Try.func33, Try.ntmps33
    go_wp2_with fail
    refine HP.out.mono ?_
    rintro e w2 ⟨rfl, h2⟩
    have HB1 := Lib.hid (below_on HB0.out h2)
    have K1 := Lib.hid (K0.out.on h2)
    clear h2 a0 a1 a2 a3 HB0 K0
    have HB0 := HB1
    have K0 := K1
    clear HB1 K1
    obtain ⟨a0, a1, a2, a3⟩ := K0.out.c4
    go_wp2_with fail
    go_ret2
    rw [HT.out.1, HT.out.2.1, HT.out.2.2]
    exact ⟨_, [], rfl, Rows.nil _ _, HB0.out⟩
  | true =>
    cases b2 : inB L 0 80 with
    | false =>
      have HT := Lib.hid (ct_no (show cpB t L = false by rw [hT, b1, b2]; rfl))
      rw [b1] at P
      rw [b2] at Q
      have HP := Lib.hid P
      have HQ := Lib.hid Q
      clear P Q hT b1 b2
      go_enter Try.func33, Try.ntmps33
      go_wp2_with fail
      refine HP.out.mono ?_
      rintro e w2 ⟨rfl, h2⟩
      have HB1 := Lib.hid (below_on HB0.out h2)
      have K1 := Lib.hid (K0.out.on h2)
      clear h2 a0 a1 a2 a3 HB0 K0
      have HB0 := HB1
      have K0 := K1
      clear HB1 K1
      obtain ⟨a0, a1, a2, a3⟩ := K0.out.c4
      go_wp2_with fail
      refine (HQ.out _).mono ?_
      rintro e w3 ⟨rfl, rfl⟩
      go_wp2_with fail
      go_ret2
      rw [HT.out.1, HT.out.2.1, HT.out.2.2]
      exact ⟨_, [], rfl, Rows.nil _ _, HB0.out⟩
    | true =>
      have hcb : cpB t L = true := by rw [hT, b1, b2]; rfl
      have hct := ct_yes hcb
      have hcy := cp_yes hcb
      rw [hcy.2.1, hcy.2.2] at hct
      have hok := tr_ok b1
      have hn1 := hok.n1
      have HMV := Lib.hid (fun i (hi : i < t.n) => mvB_of hok hi)
      have M := fun W (hb : Below w.heap.size w W) => movesOf_any _ B t W (Hv.out W hb) (Nat.le_trans hB hb.size) hok
      have R := fun W (hb : Below w.heap.size w W) => conflictPairs_any _ B t L W (Hv.out W hb) (Nat.le_trans hB hb.size) hok (inB_yes b2).1 (inB_yes b2).2
      have PA := fun j => pairs_at' (p := cfAt t L) (n := t.n) (j := j)
      have hml := (pr_small (p := cfAt t L) hn1).1
      rw [b1] at P
      rw [b2] at Q
      obtain ⟨rs, ers⟩ : ∃ r, prTo (cfAt t L) t.n t.n = r := ⟨_, rfl⟩
      rw [ers] at R PA hml hct
      replace PA := Lib.hid PA
      have HT := Lib.hid hct
      have HMM := Lib.hid M
      have HRR := Lib.hid R
      have HP := Lib.hid P
      have HQ := Lib.hid Q
      obtain ⟨n, en⟩ : ∃ n, t.n = n := ⟨_, rfl⟩
      rw [en] at hn1 HMV PA
      have EN := Lib.hid en
      clear P Q M R hT b1 b2 hcb hct hcy ers hok en
      go_enter Try.func33, Try.ntmps33
      go_wp2_with fail
      refine HP.out.mono ?_
      rintro e w2 ⟨rfl, h2⟩
      have HB1 := Lib.hid (below_on HB0.out h2)
      have K1 := Lib.hid (K0.out.on h2)
      clear h2 a0 a1 a2 a3 HB0 K0
      have HB0 := HB1
      have K0 := K1
      clear HB1 K1
      obtain ⟨a0, a1, a2, a3⟩ := K0.out.c4
      go_wp2_with fail
      refine (HQ.out _).mono ?_
      rintro e w2' ⟨rfl, rfl⟩
      go_wp2_with fail
      refine (HMM.out _ HB0.out).mono ?_
      rintro e w3 ⟨mv, rfl, o3, h2⟩
      rw [EN.out] at o3
      obtain ⟨A1, c1, rfl⟩ := (Rd.of_own o3).form
      have HM := Lib.hid (Rd.of_own o3)
      clear o3
      have HB1 := Lib.hid (below_on HB0.out h2)
      have K1 := Lib.hid (K0.out.on h2)
      clear h2 a0 a1 a2 a3 HB0 K0
      have HB0 := HB1
      have K0 := K1
      clear HB1 K1
      obtain ⟨a0, a1, a2, a3⟩ := K0.out.c4
      have HB3 := HB0
      have hbx := below_new HB3.out (.cells #[] 23)
      have kx := K0.out.alloc (.cells #[] 23)
      have hrx := Rows.empty w3
      have hbe := below_new (Below.refl w3.heap.size w3) (.cells #[] 23)
      obtain ⟨wx, ewx⟩ : ∃ wx, w3.alloc (.cells #[] 23) = wx := ⟨_, rfl⟩
      rw [ewx] at hbx kx hrx hbe
      clear a0 a1 a2 a3
      obtain ⟨a0, a1, a2, a3⟩ := kx.c4
      have HBX := Lib.hid hbx
      have HRX := Lib.hid hrx
      have HBE := Lib.hid hbe
      have HXZ := Lib.hid (show wx.heap.size = w3.heap.size + 1 by rw [← ewx]; simp)
      clear hbx kx hrx hbe
      go_wp2_with fail
      refine (HRR.out _ HBX.out).mono ?_
      rintro e w5 ⟨u, gs, rfl, hr5, h5⟩
      obtain ⟨U, cu, rfl⟩ := hr5.form
      have HPI := Lib.hid (fun k (hk : (Value.slice U rs.length cu).ownBlock = some k ∨ k ∈ gs) => (show wx.heap.size ≤ k ∧ k < w5.heap.size by
        refine ⟨?_, (RowsIn.of hr5).2 k hk⟩
        rcases hk with hk | hk
        · exact (hr5.own.lt k hk).1
        · exact (hr5.mem hk).1))
      have HO5 := Lib.hid (HRX.out.below h5 (Nat.le_refl _))
      have HR5 := Lib.hid hr5
      have HB5 := Lib.hid (HBE.out.trans (h5.mono HBE.out.size))
      have HI5 := Lib.hid (Nat.le_refl w5.heap.size)
      clear hr5 h5 a0 a1 a2 a3 HBX HRX HBE HRR HMM HP HQ
      obtain ⟨LO, eLO⟩ : ∃ x, wx.heap.size = x := ⟨_, rfl⟩
      obtain ⟨HI, eHI⟩ : ∃ x, w5.heap.size = x := ⟨_, rfl⟩
      obtain ⟨m, em⟩ : ∃ m, rs.length = m := ⟨_, rfl⟩
      rw [em] at HR5 HPI HT hml PA ⊢
      rw [eLO] at HR5 HPI HXZ
      rw [eHI] at HPI
      replace HI5 := Lib.hid (Nat.le_of_eq eHI.symm)
      clear eLO eHI em
      go_wp2_with fail
      go_loopw [7, 28] (fun o s wr => ∃ (j : Nat) (os : List Nat), j ≤ m ∧ s = .int .i64 j ∧ Rows wr w3.heap.size o (ctTo t rs j).length os (ctTo t rs j) ∧ (∀ k, o.ownBlock = some k → k < LO ∨ HI ≤ k) ∧ Rows wr LO (.slice U m cu) m gs rs ∧ HI ≤ wr.heap.size ∧ Below w3.heap.size w3 wr) (fun _ s _ => m - (intOf s).toNat)
      case atStart => exact ⟨0, [], Nat.zero_le _, rfl, HO5.out, (by intro k hk; simp only [Value.ownBlock, Option.some.injEq] at hk; subst hk; have := HXZ.out; omega), HR5.out, HI5.out, HB5.out⟩
      case round =>
        clear HR5 HB5 HO5 HI5
        obtain ⟨j, os, hj, rfl, hro, hown, hrr, hi5, hb⟩ := hrel
        have HI5 := Lib.hid hi5
        clear hi5
        by_cases hlt : j < m
        · obtain ⟨b, cp, g, r, e1, k0, hg, -, hrd, hkb, hlo⟩ := hrr.at hlt
          obtain ⟨p, q, hpq, hqn, hpr⟩ := PA.out j hlt
          simp only [Value.slice.injEq, true_and] at e1
          obtain ⟨rfl, rfl⟩ := e1
          rw [hpr] at hrd
          subst hrd
          obtain ⟨bm, om, rfl, hbm, hcells⟩ := HM.out.moves (by omega)
          have hs : ctTo t rs (j + 1) = ctTo t rs j ++ [[(p : Int), (q : Int), apS t p q, apU t p q]] := by rw [ctTo, hpr]; rfl
          have hlen := (ctTo_len t rs j).1
          have g0 := hkb.cell 0
          have g1 := hkb.cell 1
          simp [ints] at g0 g1
          obtain ⟨c0, c1', c2, c3, c4⟩ := hcells wr p hb (by omega)
          obtain ⟨e0, e1, e2, e3, e4⟩ := hcells wr q hb hqn
          have hP := ClosestTime_any _ _ _ _ _ _ _ _ _ wr (HMV.out p (by omega)) (HMV.out q hqn)
          have P := fun W => ClosestTime_any _ _ _ _ _ _ _ _ _ W (HMV.out p (by omega)) (HMV.out q hqn)
          clear hP
          have hST : apS t p q = tmT (X t.xs p - X t.xs q) (Y t.xs p - Y t.xs q) (X t.ys (plc t p) - X t.ys (plc t q)) (Y t.ys (plc t p) - Y t.ys (plc t q)) t.c := rfl
          have hUT : apU t p q = tmU (X t.xs p - X t.xs q) (Y t.xs p - Y t.xs q) (X t.ys (plc t p) - X t.ys (plc t q)) (Y t.ys (plc t p) - Y t.ys (plc t q)) t.c := rfl
          rw [← hST, ← hUT] at P
          clear hST hUT
          obtain ⟨x1, ex1⟩ : ∃ x, X t.xs p = x := ⟨_, rfl⟩
          obtain ⟨x2, ex2⟩ : ∃ x, Y t.xs p = x := ⟨_, rfl⟩
          obtain ⟨x3, ex3⟩ : ∃ x, X t.ys (plc t p) = x := ⟨_, rfl⟩
          obtain ⟨x4, ex4⟩ : ∃ x, Y t.ys (plc t p) = x := ⟨_, rfl⟩
          obtain ⟨y1, ey1⟩ : ∃ x, X t.xs q = x := ⟨_, rfl⟩
          obtain ⟨y2, ey2⟩ : ∃ x, Y t.xs q = x := ⟨_, rfl⟩
          obtain ⟨y3, ey3⟩ : ∃ x, X t.ys (plc t q) = x := ⟨_, rfl⟩
          obtain ⟨y4, ey4⟩ : ∃ x, Y t.ys (plc t q) = x := ⟨_, rfl⟩
          obtain ⟨tc, etc⟩ : ∃ x, t.c = x := ⟨_, rfl⟩
          obtain ⟨T, eT⟩ : ∃ x, apS t p q = x := ⟨_, rfl⟩
          obtain ⟨V, eV⟩ : ∃ x, apU t p q = x := ⟨_, rfl⟩
          rw [ex1] at c0
          rw [ex2] at c1'
          rw [ex3] at c2
          rw [ex4] at c3
          rw [etc] at c4 e4
          rw [ey1] at e0
          rw [ey2] at e1
          rw [ey3] at e2
          rw [ey4] at e3
          rw [ex1, ex2, ex3, ex4, ey1, ey2, ey3, ey4, etc, eT, eV] at P
          rw [eT, eV] at hs
          have HP := Lib.hid P
          have HS := Lib.hid hs
          have HRO := Lib.hid hro
          have HW := Lib.hid hown
          have HRR := Lib.hid hrr
          have HKB := Lib.hid hkb
          have HB := Lib.hid hb
          have HLEN := Lib.hid hlen
          have hgm : g ∈ gs := List.mem_of_getElem? hg
          have HGM := Lib.hid hgm
          unfold rowV at k0
          have i0 : (0 : Int) ≤ (j : Int) := by omega
          have i1 : (j : Int) < (m : Int) := by omega
          have i2 : (0 : Int) ≤ (p : Int) := by omega
          have i3 : (p : Int) < (n : Int) := by omega
          have i4 : (0 : Int) ≤ (q : Int) := by omega
          have i5 : (q : Int) < (n : Int) := by omega
          clear hg hrr hkb hlo hpr hs hro hown hb hcells ex1 ex2 ex3 ex4 ey1 ey2 ey3 ey4 etc eT eV P hlen hgm
          go_upto_region 7 with (fail)
          go_cut [10, 11] (fun s1 s2 wx => s1 = .int .i64 T ∧ s2 = .int .i64 V ∧ Below wr.heap.size wr wx)
          case first =>
            go_region_held3 (fun W => W.cell? ⟨g, 0, none⟩ = some (.int .i64 (p : Int)) ∧ W.cell? ⟨g, 1, none⟩ = some (.int .i64 (q : Int)) ∧ W.cell? ⟨bm, om + p * 5, none⟩ = some (.int .i64 x1) ∧ W.cell? ⟨bm, om + p * 5 + 1, none⟩ = some (.int .i64 x2) ∧ W.cell? ⟨bm, om + p * 5 + 2, none⟩ = some (.int .i64 x3) ∧ W.cell? ⟨bm, om + p * 5 + 3, none⟩ = some (.int .i64 x4) ∧ W.cell? ⟨bm, om + p * 5 + 4, none⟩ = some (.int .i64 tc) ∧ W.cell? ⟨bm, om + q * 5, none⟩ = some (.int .i64 y1) ∧ W.cell? ⟨bm, om + q * 5 + 1, none⟩ = some (.int .i64 y2) ∧ W.cell? ⟨bm, om + q * 5 + 2, none⟩ = some (.int .i64 y3) ∧ W.cell? ⟨bm, om + q * 5 + 3, none⟩ = some (.int .i64 y4) ∧ W.cell? ⟨bm, om + q * 5 + 4, none⟩ = some (.int .i64 tc) ∧ Below wr.heap.size wr W)
              (first | exact ⟨g0, g1, c0, c1', c2, c3, c4, e0, e1, e2, e3, e4, (Below.refl _ _).drew⟩ | (go_split_ands; exact ⟨cell_on hb2 (by assumption), cell_on hb2 (by assumption), cell_on hb2 (by assumption), cell_on hb2 (by assumption), cell_on hb2 (by assumption), cell_on hb2 (by assumption), cell_on hb2 (by assumption), cell_on hb2 (by assumption), cell_on hb2 (by assumption), cell_on hb2 (by assumption), cell_on hb2 (by assumption), cell_on hb2 (by assumption), below_on (by assumption) hb2⟩) | go_keep)
              (first | (go_at_call 54; refine (HP.out _).mono ?_; rintro e w2 ⟨rfl, hb2⟩))
            all_goals
              go_split_ands
              go_wp2_with fail
              go_meet
              exact ⟨rfl, rfl, by assumption⟩
          case rest =>
            obtain ⟨rfl, rfl, hb5⟩ := hcut
            have HB6 := Lib.hid (below_on HB.out hb5)
            have HBZ := Lib.hid hb5.size
            have HRO6 := Lib.hid (HRO.out.below hb5 (Nat.le_refl _))
            have HRR6 := Lib.hid (HRR.out.below hb5 (Nat.le_refl _))
            have g2 := cell_on hb5 g0
            have g3 := cell_on hb5 g1
            have hkb6 := HKB.out.on hb5
            clear hb5 c0 c1' c2 c3 c4 e0 e1 e2 e3 e4 HP HRO HRR HB g0 g1 k0 HKB
            have G0 := Lib.hid (show Blk ((wc.alloc (.cells #[.int .i64 (p : Int), .int .i64 (q : Int), .int .i64 T, .int .i64 V] 3)).alloc (.cells #[.slice (some ⟨wc.heap.size, 0, none⟩) 4 4] 23)) wc.heap.size 3 (ints [(p : Int), (q : Int), T, V]).toArray from (Blk.new _ _ _).alloc _)
            have G1 := Lib.hid (show Blk ((wc.alloc (.cells #[.int .i64 (p : Int), .int .i64 (q : Int), .int .i64 T, .int .i64 V] 3)).alloc (.cells #[.slice (some ⟨wc.heap.size, 0, none⟩) 4 4] 23)) (wc.heap.size + 1) 23 #[rowV wc.heap.size [(p : Int), (q : Int), T, V]] from Blk.new2 _ _ _ _)
            have HO2 := Lib.hid ((HRO6.out.alloc (.cells #[.int .i64 (p : Int), .int .i64 (q : Int), .int .i64 T, .int .i64 V] 3)).alloc (.cells #[.slice (some ⟨wc.heap.size, 0, none⟩) 4 4] 23))
            have HR2 := Lib.hid ((HRR6.out.alloc (.cells #[.int .i64 (p : Int), .int .i64 (q : Int), .int .i64 T, .int .i64 V] 3)).alloc (.cells #[.slice (some ⟨wc.heap.size, 0, none⟩) 4 4] 23))
            have HB2 := Lib.hid (below_new (below_new HB6.out (.cells #[.int .i64 (p : Int), .int .i64 (q : Int), .int .i64 T, .int .i64 V] 3)) (.cells #[.slice (some ⟨wc.heap.size, 0, none⟩) 4 4] 23))
            have HK2 := Lib.hid ((hkb6.alloc (.cells #[.int .i64 (p : Int), .int .i64 (q : Int), .int .i64 T, .int .i64 V] 3)).alloc (.cells #[.slice (some ⟨wc.heap.size, 0, none⟩) 4 4] 23))
            have HNW := Lib.hid (show wc.heap.size ∉ os from fun hm => by have := (HRO6.out.mem hm).2; omega)
            have HWZ := Lib.hid (show w3.heap.size ≤ wc.heap.size from HB6.out.size)
            have HSZ := Lib.hid (show w3.heap.size ≤ ((wc.alloc (.cells #[.int .i64 (p : Int), .int .i64 (q : Int), .int .i64 T, .int .i64 V] 3)).alloc (.cells #[.slice (some ⟨wc.heap.size, 0, none⟩) 4 4] 23)).heap.size from HB2.out.size)
            have HHI := Lib.hid (show HI ≤ wc.heap.size from Nat.le_trans HI5.out HBZ.out)
            have hne : ∀ (r9 : Option Nat), (∀ k, r9 = some k → k < LO ∨ HI ≤ k) → ∀ k, (Value.slice (some ⟨b, 0, none⟩) m cu).ownBlock = some k ∨ k ∈ gs → some k ≠ r9 := fun r9 hr k hk e => by
              have a1 := hr k e.symm
              have a2 := HPI.out k hk
              omega
            have HNE := Lib.hid hne
            clear hne hkb6
            go_wp2_with fail
            go_region_held_law (fun W => W.cell? ⟨g, 0, none⟩ = some (.int .i64 (p : Int)) ∧ W.cell? ⟨g, 1, none⟩ = some (.int .i64 (q : Int)))
              (first | exact ⟨g2, g3⟩ | exact ⟨cell_new g2 _, cell_new g3 _⟩ | exact ⟨cell_new (cell_new g2 _) _, cell_new (cell_new g3 _) _⟩ | (have hk9 := HK2.out.grown (grown_of hg9) (HNE.out _ HW.out g (.inr HGM.out)); exact ⟨hk9.cell 0, hk9.cell 1⟩))
              (first | (refine step_row rfl _ _ rfl w3.heap.size _ _ os _ rfl HO2.out.drew (wc.heap.size + 1) wc.heap.size [(p : Int), (q : Int), T, V] rfl G1.out G0.out HWZ.out HNW.out (by have := HLEN.out; omega) HSZ.out ?_; intro b9 cap9 w9 hr9 hg9 hor9))
            have hi9 : HI ≤ w9.heap.size := Nat.le_trans HHI.out (Nat.le_trans (by simp; omega) hg9.size)
            have hb9 : Below w3.heap.size w3 w9 := HB2.out.grown (grown_of hg9) HSZ.out (fun g hg => (HO2.out.own.lt g hg).1)
            have hrr9 := HR2.out.grown (grown_of hg9) (HNE.out _ HW.out)
            have hw9 : ∀ k, (Value.slice (some ⟨b9, 0, none⟩) ((ctTo t rs j).length + 1) cap9).ownBlock = some k → k < LO ∨ HI ≤ k := by
              intro k hk
              simp only [Value.ownBlock, Option.some.injEq] at hk
              subst hk
              rcases hor9 with h | h
              · exact HW.out _ h
              · right
                have := HHI.out
                rw [h]
                show HI ≤ ((wc.alloc _).alloc _).heap.size
                simp
                omega
            have HR9 := Lib.hid (show Rows w9 w3.heap.size (.slice (some ⟨b9, 0, none⟩) ((ctTo t rs j).length + 1) cap9) (ctTo t rs (j + 1)).length (os ++ [wc.heap.size]) (ctTo t rs (j + 1)) by
              rw [HS.out, List.length_append]; exact hr9)
            have HW9 := Lib.hid hw9
            have HB9 := Lib.hid hb9
            have HI9 := Lib.hid hi9
            have HRR9 := Lib.hid hrr9
            clear hb9 hrr9 hw9 hi9
            go_wp2_with fail
            go_roundw
            case rel => exact ⟨j + 1, os ++ [wc.heap.size], by omega, by go_num, HR9.out, HW9.out, HRR9.out, HI9.out, HB9.out⟩
            case measure => simp [intOf]; omega
        · obtain rfl : j = m := by omega
          have HRO := Lib.hid hro
          have HB := Lib.hid hb
          clear hro hown hrr hb HI5
          go_wp2_with fail
          go_ret2
          rw [HT.out.1, HT.out.2.1, HT.out.2.2]
          exact ⟨_, os, rfl, (by have h := HRO.out.base HB3.out.size; rwa [(ctTo_len t rs j).1] at h), HB3.out.trans (HB.out.mono HB3.out.size)⟩
set_option maxRecDepth 100000 in
set_option maxHeartbeats 1000000 in
theorem specConflictTimes_any (v : Value) (B : Nat) (t : TrN) (L : Int) (w : World) (hcp : CapT v) (hv : RdT w B v t) (hB : B ≤ w.heap.size) (hs : t.small) :
    Calls Try.prog 32 #[v, .int .i64 L] w fun e w' => ∃ u gs, e = .returned (.tuple #[u, .bool (ctB t L)]) ∧ Rows w' w.heap.size u (ctN t L) gs (ctL t L) ∧ Below w.heap.size w w' := by
  obtain ⟨A, ca, C, cb, D, cc, rfl, _, _, _⟩ := hv.form
  have hb0 : Below w.heap.size w (w.alloc (.cells #[.slice A t.n ca, .slice C t.m cb, .int .i64 t.c, .slice D t.p cc] 32)) := below_new (Below.refl _ _) _
  have k0 := Blk.new w 32 #[.slice A t.n ca, .slice C t.m cb, .int .i64 t.c, .slice D t.p cc]
  have Hv := Lib.hid (fun W (hb : Below w.heap.size w W) => hv.below' hb hB)
  have Hc := Lib.hid hcp
  have HB0 := Lib.hid hb0
  have K0 := Lib.hid k0
  obtain ⟨a0, a1, a2, a3⟩ := k0.c4
  clear hv hcp hb0 k0
  have P := cfAsked_any _ B t L _ Hc.out (Hv.out _ HB0.out) (Nat.le_trans hB HB0.out.size) hs
  cases b1 : cpB t L with
  | false =>
    have HT := Lib.hid (ct_no b1)
    rw [b1] at P
    have HP := Lib.hid P
    clear P b1
    go_enter Try.func32, Try.ntmps32
    go_wp2_with fail
    refine HP.out.mono ?_
    rintro e w2 ⟨rfl, h2⟩
    have HB1 := Lib.hid (below_on HB0.out h2)
    have K1 := Lib.hid (K0.out.on h2)
    clear h2 a0 a1 a2 a3 HB0 K0
    have HB0 := HB1
    have K0 := K1
    clear HB1 K1
    obtain ⟨a0, a1, a2, a3⟩ := K0.out.c4
    go_wp2_with fail
    go_ret2
    rw [HT.out.1, HT.out.2.1, HT.out.2.2]
    exact ⟨_, [], rfl, Rows.nil _ _, HB0.out⟩
  | true =>
    have hct := ct_yes b1
    have hcy := cp_yes b1
    rw [hcy.2.1, hcy.2.2] at hct
    have hci := cp_in b1
    have hok := tr_ok hci.1
    have hn1 := hok.n1
    have HMV := Lib.hid (fun i (hi : i < t.n) => mvB_of hok hi)
    have M := fun W (hb : Below w.heap.size w W) => asMoves_any _ B t W (Hv.out W hb) (Nat.le_trans hB hb.size) hok
    have R := fun W (hb : Below w.heap.size w W) => cfPairs_any _ B t L W (Hv.out W hb) (Nat.le_trans hB hb.size) hok hci.2.1 hci.2.2
    have PA := fun j => pairs_at' (p := cfAt t L) (n := t.n) (j := j)
    have hml := (pr_small (p := cfAt t L) hn1).1
    rw [b1] at P
    obtain ⟨rs, ers⟩ : ∃ r, prTo (cfAt t L) t.n t.n = r := ⟨_, rfl⟩
    rw [ers] at R PA hml hct
    replace PA := Lib.hid PA
    have HT := Lib.hid hct
    have HMM := Lib.hid M
    have HRR := Lib.hid R
    have HP := Lib.hid P
    obtain ⟨n, en⟩ : ∃ n, t.n = n := ⟨_, rfl⟩
    rw [en] at hn1 HMV PA
    have EN := Lib.hid en
    clear P M R b1 hct hcy hci ers hok en
    go_enter Try.func32, Try.ntmps32
    go_wp2_with fail
    refine HP.out.mono ?_
    rintro e w2 ⟨rfl, h2⟩
    have HB1 := Lib.hid (below_on HB0.out h2)
    have K1 := Lib.hid (K0.out.on h2)
    clear h2 a0 a1 a2 a3 HB0 K0
    have HB0 := HB1
    have K0 := K1
    clear HB1 K1
    obtain ⟨a0, a1, a2, a3⟩ := K0.out.c4
    go_wp2_with fail
    refine (HMM.out _ HB0.out).mono ?_
    rintro e w3 ⟨mv, rfl, o3, h2⟩
    rw [EN.out] at o3
    obtain ⟨A1, c1, rfl⟩ := (Rd.of_own o3).form
    have HM := Lib.hid (Rd.of_own o3)
    clear o3
    have HB1 := Lib.hid (below_on HB0.out h2)
    have K1 := Lib.hid (K0.out.on h2)
    clear h2 a0 a1 a2 a3 HB0 K0
    have HB0 := HB1
    have K0 := K1
    clear HB1 K1
    obtain ⟨a0, a1, a2, a3⟩ := K0.out.c4
    have HB3 := HB0
    go_wp2_with fail
    refine (HRR.out _ HB3.out).mono ?_
    rintro e w5 ⟨u, gs, rfl, hr5, h5⟩
    obtain ⟨U, cu, rfl⟩ := hr5.form
    have HPI := Lib.hid (fun k (hk : (Value.slice U rs.length cu).ownBlock = some k ∨ k ∈ gs) => (show w3.heap.size ≤ k ∧ k < w5.heap.size by
      refine ⟨?_, (RowsIn.of hr5).2 k hk⟩
      rcases hk with hk | hk
      · exact (hr5.own.lt k hk).1
      · exact (hr5.mem hk).1))
    have HO5 := Lib.hid (Rows.nil w5 w3.heap.size)
    have HR5 := Lib.hid hr5
    have HB5 := Lib.hid h5
    have HI5 := Lib.hid (Nat.le_refl w5.heap.size)
    have HXZ := Lib.hid (Nat.le_refl w3.heap.size)
    clear hr5 h5 a0 a1 a2 a3 HRR HMM HP
    obtain ⟨LO, eLO⟩ : ∃ x, w3.heap.size = x := ⟨_, rfl⟩
    obtain ⟨HI, eHI⟩ : ∃ x, w5.heap.size = x := ⟨_, rfl⟩
    obtain ⟨m, em⟩ : ∃ m, rs.length = m := ⟨_, rfl⟩
    rw [em] at HR5 HPI HT hml PA ⊢
    rw [eLO] at HR5 HPI HXZ
    rw [eHI] at HPI
    replace HI5 := Lib.hid (Nat.le_of_eq eHI.symm)
    clear eLO eHI em
    go_wp2_with fail
    go_loopw [7, 23] (fun o s wr => ∃ (j : Nat) (os : List Nat), j ≤ m ∧ s = .int .i64 j ∧ Rows wr w3.heap.size o (ctTo t rs j).length os (ctTo t rs j) ∧ (∀ k, o.ownBlock = some k → k < LO ∨ HI ≤ k) ∧ Rows wr LO (.slice U m cu) m gs rs ∧ HI ≤ wr.heap.size ∧ Below w3.heap.size w3 wr) (fun _ s _ => m - (intOf s).toNat)
    case atStart => exact ⟨0, [], Nat.zero_le _, rfl, HO5.out, (by intro k hk; simp [Value.ownBlock] at hk), HR5.out, HI5.out, HB5.out⟩
    case round =>
      clear HR5 HB5 HO5 HI5
      obtain ⟨j, os, hj, rfl, hro, hown, hrr, hi5, hb⟩ := hrel
      have HI5 := Lib.hid hi5
      clear hi5
      by_cases hlt : j < m
      · obtain ⟨b, cp, g, r, e1, k0, hg, -, hrd, hkb, hlo⟩ := hrr.at hlt
        obtain ⟨p, q, hpq, hqn, hpr⟩ := PA.out j hlt
        simp only [Value.slice.injEq, true_and] at e1
        obtain ⟨rfl, rfl⟩ := e1
        rw [hpr] at hrd
        subst hrd
        obtain ⟨bm, om, rfl, hbm, hcells⟩ := HM.out.moves (by omega)
        have hs : ctTo t rs (j + 1) = ctTo t rs j ++ [[(p : Int), (q : Int), apS t p q, apU t p q]] := by rw [ctTo, hpr]; rfl
        have hlen := (ctTo_len t rs j).1
        have g0 := hkb.cell 0
        have g1 := hkb.cell 1
        simp [ints] at g0 g1
        obtain ⟨c0, c1', c2, c3, c4⟩ := hcells wr p hb (by omega)
        obtain ⟨e0, e1, e2, e3, e4⟩ := hcells wr q hb hqn
        have hP := specClosestTime_any _ _ _ _ _ _ _ _ _ wr (HMV.out p (by omega)) (HMV.out q hqn)
        have P := fun W => specClosestTime_any _ _ _ _ _ _ _ _ _ W (HMV.out p (by omega)) (HMV.out q hqn)
        clear hP
        have hST : apS t p q = tmT (X t.xs p - X t.xs q) (Y t.xs p - Y t.xs q) (X t.ys (plc t p) - X t.ys (plc t q)) (Y t.ys (plc t p) - Y t.ys (plc t q)) t.c := rfl
        have hUT : apU t p q = tmU (X t.xs p - X t.xs q) (Y t.xs p - Y t.xs q) (X t.ys (plc t p) - X t.ys (plc t q)) (Y t.ys (plc t p) - Y t.ys (plc t q)) t.c := rfl
        rw [← hST, ← hUT] at P
        clear hST hUT
        obtain ⟨x1, ex1⟩ : ∃ x, X t.xs p = x := ⟨_, rfl⟩
        obtain ⟨x2, ex2⟩ : ∃ x, Y t.xs p = x := ⟨_, rfl⟩
        obtain ⟨x3, ex3⟩ : ∃ x, X t.ys (plc t p) = x := ⟨_, rfl⟩
        obtain ⟨x4, ex4⟩ : ∃ x, Y t.ys (plc t p) = x := ⟨_, rfl⟩
        obtain ⟨y1, ey1⟩ : ∃ x, X t.xs q = x := ⟨_, rfl⟩
        obtain ⟨y2, ey2⟩ : ∃ x, Y t.xs q = x := ⟨_, rfl⟩
        obtain ⟨y3, ey3⟩ : ∃ x, X t.ys (plc t q) = x := ⟨_, rfl⟩
        obtain ⟨y4, ey4⟩ : ∃ x, Y t.ys (plc t q) = x := ⟨_, rfl⟩
        obtain ⟨tc, etc⟩ : ∃ x, t.c = x := ⟨_, rfl⟩
        obtain ⟨T, eT⟩ : ∃ x, apS t p q = x := ⟨_, rfl⟩
        obtain ⟨V, eV⟩ : ∃ x, apU t p q = x := ⟨_, rfl⟩
        rw [ex1] at c0
        rw [ex2] at c1'
        rw [ex3] at c2
        rw [ex4] at c3
        rw [etc] at c4 e4
        rw [ey1] at e0
        rw [ey2] at e1
        rw [ey3] at e2
        rw [ey4] at e3
        rw [ex1, ex2, ex3, ex4, ey1, ey2, ey3, ey4, etc, eT, eV] at P
        rw [eT, eV] at hs
        have HP := Lib.hid P
        have HS := Lib.hid hs
        have HRO := Lib.hid hro
        have HW := Lib.hid hown
        have HRR := Lib.hid hrr
        have HKB := Lib.hid hkb
        have HB := Lib.hid hb
        have HLEN := Lib.hid hlen
        have hgm : g ∈ gs := List.mem_of_getElem? hg
        have HGM := Lib.hid hgm
        unfold rowV at k0
        have i0 : (0 : Int) ≤ (j : Int) := by omega
        have i1 : (j : Int) < (m : Int) := by omega
        have i2 : (0 : Int) ≤ (p : Int) := by omega
        have i3 : (p : Int) < (n : Int) := by omega
        have i4 : (0 : Int) ≤ (q : Int) := by omega
        have i5 : (q : Int) < (n : Int) := by omega
        clear hg hrr hkb hlo hpr hs hro hown hb hcells ex1 ex2 ex3 ex4 ey1 ey2 ey3 ey4 etc eT eV P hlen hgm
        go_upto_region 8 with (fail)
        go_cut [10, 11] (fun s1 s2 wx => s1 = .int .i64 T ∧ s2 = .int .i64 V ∧ Below wr.heap.size wr wx)
        case first =>
          go_region_held3 (fun W => W.cell? ⟨g, 0, none⟩ = some (.int .i64 (p : Int)) ∧ W.cell? ⟨g, 1, none⟩ = some (.int .i64 (q : Int)) ∧ W.cell? ⟨bm, om + p * 5, none⟩ = some (.int .i64 x1) ∧ W.cell? ⟨bm, om + p * 5 + 1, none⟩ = some (.int .i64 x2) ∧ W.cell? ⟨bm, om + p * 5 + 2, none⟩ = some (.int .i64 x3) ∧ W.cell? ⟨bm, om + p * 5 + 3, none⟩ = some (.int .i64 x4) ∧ W.cell? ⟨bm, om + p * 5 + 4, none⟩ = some (.int .i64 tc) ∧ W.cell? ⟨bm, om + q * 5, none⟩ = some (.int .i64 y1) ∧ W.cell? ⟨bm, om + q * 5 + 1, none⟩ = some (.int .i64 y2) ∧ W.cell? ⟨bm, om + q * 5 + 2, none⟩ = some (.int .i64 y3) ∧ W.cell? ⟨bm, om + q * 5 + 3, none⟩ = some (.int .i64 y4) ∧ W.cell? ⟨bm, om + q * 5 + 4, none⟩ = some (.int .i64 tc) ∧ Below wr.heap.size wr W)
            (first | exact ⟨g0, g1, c0, c1', c2, c3, c4, e0, e1, e2, e3, e4, (Below.refl _ _).drew⟩ | (go_split_ands; exact ⟨cell_on hb2 (by assumption), cell_on hb2 (by assumption), cell_on hb2 (by assumption), cell_on hb2 (by assumption), cell_on hb2 (by assumption), cell_on hb2 (by assumption), cell_on hb2 (by assumption), cell_on hb2 (by assumption), cell_on hb2 (by assumption), cell_on hb2 (by assumption), cell_on hb2 (by assumption), cell_on hb2 (by assumption), below_on (by assumption) hb2⟩) | go_keep)
            (first | (go_at_call 53; refine (HP.out _).mono ?_; rintro e w2 ⟨rfl, hb2⟩))
          all_goals
            go_split_ands
            go_wp2_with fail
            go_meet
            exact ⟨rfl, rfl, by assumption⟩
        case rest =>
          obtain ⟨rfl, rfl, hb5⟩ := hcut
          have HB6 := Lib.hid (below_on HB.out hb5)
          have HBZ := Lib.hid hb5.size
          have HRO6 := Lib.hid (HRO.out.below hb5 (Nat.le_refl _))
          have HRR6 := Lib.hid (HRR.out.below hb5 (Nat.le_refl _))
          have g2 := cell_on hb5 g0
          have g3 := cell_on hb5 g1
          have hkb6 := HKB.out.on hb5
          clear hb5 c0 c1' c2 c3 c4 e0 e1 e2 e3 e4 HP HRO HRR HB g0 g1 k0 HKB
          have G0 := Lib.hid (show Blk ((wc.alloc (.cells #[.int .i64 (p : Int), .int .i64 (q : Int), .int .i64 T, .int .i64 V] 3)).alloc (.cells #[.slice (some ⟨wc.heap.size, 0, none⟩) 4 4] 23)) wc.heap.size 3 (ints [(p : Int), (q : Int), T, V]).toArray from (Blk.new _ _ _).alloc _)
          have G1 := Lib.hid (show Blk ((wc.alloc (.cells #[.int .i64 (p : Int), .int .i64 (q : Int), .int .i64 T, .int .i64 V] 3)).alloc (.cells #[.slice (some ⟨wc.heap.size, 0, none⟩) 4 4] 23)) (wc.heap.size + 1) 23 #[rowV wc.heap.size [(p : Int), (q : Int), T, V]] from Blk.new2 _ _ _ _)
          have HO2 := Lib.hid ((HRO6.out.alloc (.cells #[.int .i64 (p : Int), .int .i64 (q : Int), .int .i64 T, .int .i64 V] 3)).alloc (.cells #[.slice (some ⟨wc.heap.size, 0, none⟩) 4 4] 23))
          have HR2 := Lib.hid ((HRR6.out.alloc (.cells #[.int .i64 (p : Int), .int .i64 (q : Int), .int .i64 T, .int .i64 V] 3)).alloc (.cells #[.slice (some ⟨wc.heap.size, 0, none⟩) 4 4] 23))
          have HB2 := Lib.hid (below_new (below_new HB6.out (.cells #[.int .i64 (p : Int), .int .i64 (q : Int), .int .i64 T, .int .i64 V] 3)) (.cells #[.slice (some ⟨wc.heap.size, 0, none⟩) 4 4] 23))
          have HK2 := Lib.hid ((hkb6.alloc (.cells #[.int .i64 (p : Int), .int .i64 (q : Int), .int .i64 T, .int .i64 V] 3)).alloc (.cells #[.slice (some ⟨wc.heap.size, 0, none⟩) 4 4] 23))
          have HNW := Lib.hid (show wc.heap.size ∉ os from fun hm => by have := (HRO6.out.mem hm).2; omega)
          have HWZ := Lib.hid (show w3.heap.size ≤ wc.heap.size from HB6.out.size)
          have HSZ := Lib.hid (show w3.heap.size ≤ ((wc.alloc (.cells #[.int .i64 (p : Int), .int .i64 (q : Int), .int .i64 T, .int .i64 V] 3)).alloc (.cells #[.slice (some ⟨wc.heap.size, 0, none⟩) 4 4] 23)).heap.size from HB2.out.size)
          have HHI := Lib.hid (show HI ≤ wc.heap.size from Nat.le_trans HI5.out HBZ.out)
          have hne : ∀ (r9 : Option Nat), (∀ k, r9 = some k → k < LO ∨ HI ≤ k) → ∀ k, (Value.slice (some ⟨b, 0, none⟩) m cu).ownBlock = some k ∨ k ∈ gs → some k ≠ r9 := fun r9 hr k hk e => by
            have a1 := hr k e.symm
            have a2 := HPI.out k hk
            omega
          have HNE := Lib.hid hne
          clear hne hkb6
          go_wp2_with fail
          go_region_held_law (fun W => W.cell? ⟨g, 0, none⟩ = some (.int .i64 (p : Int)) ∧ W.cell? ⟨g, 1, none⟩ = some (.int .i64 (q : Int)))
            (first | exact ⟨g2, g3⟩ | exact ⟨cell_new g2 _, cell_new g3 _⟩ | exact ⟨cell_new (cell_new g2 _) _, cell_new (cell_new g3 _) _⟩ | (have hk9 := HK2.out.grown (grown_of hg9) (HNE.out _ HW.out g (.inr HGM.out)); exact ⟨hk9.cell 0, hk9.cell 1⟩))
            (first | (refine step_row rfl _ _ rfl w3.heap.size _ _ os _ rfl HO2.out.drew (wc.heap.size + 1) wc.heap.size [(p : Int), (q : Int), T, V] rfl G1.out G0.out HWZ.out HNW.out (by have := HLEN.out; omega) HSZ.out ?_; intro b9 cap9 w9 hr9 hg9 hor9))
          have hi9 : HI ≤ w9.heap.size := Nat.le_trans HHI.out (Nat.le_trans (by simp; omega) hg9.size)
          have hb9 : Below w3.heap.size w3 w9 := HB2.out.grown (grown_of hg9) HSZ.out (fun g hg => (HO2.out.own.lt g hg).1)
          have hrr9 := HR2.out.grown (grown_of hg9) (HNE.out _ HW.out)
          have hw9 : ∀ k, (Value.slice (some ⟨b9, 0, none⟩) ((ctTo t rs j).length + 1) cap9).ownBlock = some k → k < LO ∨ HI ≤ k := by
            intro k hk
            simp only [Value.ownBlock, Option.some.injEq] at hk
            subst hk
            rcases hor9 with h | h
            · exact HW.out _ h
            · right
              have := HHI.out
              rw [h]
              show HI ≤ ((wc.alloc _).alloc _).heap.size
              simp
              omega
          have HR9 := Lib.hid (show Rows w9 w3.heap.size (.slice (some ⟨b9, 0, none⟩) ((ctTo t rs j).length + 1) cap9) (ctTo t rs (j + 1)).length (os ++ [wc.heap.size]) (ctTo t rs (j + 1)) by
            rw [HS.out, List.length_append]; exact hr9)
          have HW9 := Lib.hid hw9
          have HB9 := Lib.hid hb9
          have HI9 := Lib.hid hi9
          have HRR9 := Lib.hid hrr9
          clear hb9 hrr9 hw9 hi9
          go_wp2_with fail
          go_roundw
          case rel => exact ⟨j + 1, os ++ [wc.heap.size], by omega, by go_num, HR9.out, HW9.out, HRR9.out, HI9.out, HB9.out⟩
          case measure => simp [intOf]; omega
      · obtain rfl : j = m := by omega
        have HRO := Lib.hid hro
        have HB := Lib.hid hb
        clear hro hown hrr hb HI5
        go_wp2_with fail
        go_ret2
        rw [HT.out.1, HT.out.2.1, HT.out.2.2]
        exact ⟨_, os, rfl, (by have h := HRO.out.base HB3.out.size; rwa [(ctTo_len t rs j).1] at h), HB3.out.trans (HB.out.mono HB3.out.size)⟩
end Go.Proofs.Ytmklinmlliabaaa
