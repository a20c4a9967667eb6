/- Contracts of the two EndConflicts. Conditions: the transition's slices can be read, and are short. -/
import Derived.Test.YtmklinmlliabaaaTimes
namespace Go.Proofs.Ytmklinmlliabaaa
open Go.RowKit

theorem ec_yes {t : TrN} {L : Int} (h : cpB t L = true) : ecB t L = true ∧ ecL t L = ecTo t L (cpL t L) (cpN t L) ∧ ecN t L = (ecTo t L (cpL t L) (cpN t L)).length := by simp [ecB, ecL, ecN, h]
theorem new_at {gs : List Nat} {j g : Nat} (h : gs.Nodup) (hg : gs[j]? = some g) : g ∉ gs.take j := by
  intro hm
  obtain ⟨i, hi, e⟩ := List.getElem_of_mem hm
  rw [List.length_take] at hi
  rw [List.getElem_take] at e
  have hj := (List.getElem?_eq_some_iff.1 hg)
  obtain ⟨hj, ej⟩ := hj
  have := (List.getElem?_inj (j := j) (show i < gs.length by omega) h).1 (by rw [hg, List.getElem?_eq_getElem (by omega), e])
  omega
theorem take_next {gs os : List Nat} {j g : Nat} (h : ∀ x ∈ os, x ∈ gs.take j) (hg : gs[j]? = some g) : (∀ x ∈ os, x ∈ gs.take (j + 1)) ∧ ∀ x ∈ os ++ [g], x ∈ gs.take (j + 1) := by
  have e : gs.take (j + 1) = gs.take j ++ [g] := by rw [List.take_add_one, hg]; rfl
  rw [e]
  refine ⟨fun x hx => List.mem_append_left _ (h x hx), fun x hx => ?_⟩
  rcases List.mem_append.1 hx with hx | hx
  · exact List.mem_append_left _ (h x hx)
  · exact List.mem_append_right _ hx
set_option maxRecDepth 100000 in
set_option maxHeartbeats 1000000 in
theorem EndConflicts_any (v : Value) (B : Nat) (t : TrN) (L : Int) (w : World) (hcp : CapT v) (hv : RdT w B v t) (hB : B ≤ w.heap.size) (hs : t.small) :
    Calls Try.prog 27 #[v, .int .i64 L] w fun e w' => ∃ u gs, e = .returned (.tuple #[u, .bool (ecB t L)]) ∧ Rows w' w.heap.size u (ecN t L) gs (ecL t L) ∧ Below w.heap.size w w' := by
  obtain ⟨A, ca, C, cb, D, cc, rfl, _, _, _⟩ := hv.form
  have hb0 : Below w.heap.size w (w.alloc (.cells #[.slice A t.n ca, .slice C t.m cb, .int .i64 t.c, .slice D t.p cc] 32)) := below_new (Below.refl _ _) _
  have k0 := Blk.new w 32 #[.slice A t.n ca, .slice C t.m cb, .int .i64 t.c, .slice D t.p cc]
  have Hv := Lib.hid (fun W (hb : Below w.heap.size w W) => hv.below' hb hB)
  have Hc := Lib.hid hcp
  have HB0 := Lib.hid hb0
  have K0 := Lib.hid k0
  obtain ⟨a0, a1, a2, a3⟩ := k0.c4
  clear hv hcp hb0 k0
  have P := IsTransition_any _ B t _ Hc.out (Hv.out _ HB0.out) (Nat.le_trans hB HB0.out.size) hs
  have Q := fun W => isLeast_any L W
  have hT : cpB t L = (trB t && inB L 0 80) := rfl
  cases b1 : trB t with
  | false =>
    have HT := Lib.hid (ec_no (show cpB t L = false by rw [hT, b1]; rfl))
    rw [b1] at P
    have HP := Lib.hid P
    clear P Q hT b1
    go_enter Try.func27, Try.ntmps27
    go_wp2_with fail
    refine HP.out.mono ?_
    rintro e w2 ⟨rfl, h2⟩
    have HB1 := Lib.hid (below_on HB0.out h2)
    have K1 := Lib.hid (K0.out.on h2)
    clear h2 a0 a1 a2 a3 HB0 K0
    have HB0 := HB1
    have K0 := K1
    clear HB1 K1
    obtain ⟨a0, a1, a2, a3⟩ := K0.out.c4
    go_wp2_with fail
    go_ret2
    rw [HT.out.1, HT.out.2.1, HT.out.2.2]
    exact ⟨_, [], rfl, Rows.nil _ _, HB0.out⟩
  | true =>
    cases b2 : inB L 0 80 with
    | false =>
      have HT := Lib.hid (ec_no (show cpB t L = false by rw [hT, b1, b2]; rfl))
      rw [b1] at P
      rw [b2] at Q
      have HP := Lib.hid P
      have HQ := Lib.hid Q
      clear P Q hT b1 b2
      go_enter Try.func27, Try.ntmps27
      go_wp2_with fail
      refine HP.out.mono ?_
      rintro e w2 ⟨rfl, h2⟩
      have HB1 := Lib.hid (below_on HB0.out h2)
      have K1 := Lib.hid (K0.out.on h2)
      clear h2 a0 a1 a2 a3 HB0 K0
      have HB0 := HB1
      have K0 := K1
      clear HB1 K1
      obtain ⟨a0, a1, a2, a3⟩ := K0.out.c4
      go_wp2_with fail
      refine (HQ.out _).mono ?_
      rintro e w3 ⟨rfl, rfl⟩
      go_wp2_with fail
      go_ret2
      rw [HT.out.1, HT.out.2.1, HT.out.2.2]
      exact ⟨_, [], rfl, Rows.nil _ _, HB0.out⟩
    | true =>
      have hcb : cpB t L = true := by rw [hT, b1, b2]; rfl
      have hec := ec_yes hcb
      have hcy := cp_yes hcb
      rw [hcy.2.1, hcy.2.2] at hec
      have hok := tr_ok b1
      have hn1 := hok.n1
      have HMV := Lib.hid (fun i (hi : i < t.n) => mvB_of hok hi)
      have M := fun W (hb : Below w.heap.size w W) => movesOf_any _ B t W (Hv.out W hb) (Nat.le_trans hB hb.size) hok
      have R := fun W (hb : Below w.heap.size w W) => conflictPairs_any _ B t L W (Hv.out W hb) (Nat.le_trans hB hb.size) hok (inB_yes b2).1 (inB_yes b2).2
      have PA := fun j => pairs_at' (p := cfAt t L) (n := t.n) (j := j)
      have hml := (pr_small (p := cfAt t L) hn1).1
      have HSM := Lib.hid (show ∀ r ∈ prTo (cfAt t L) t.n t.n, r.length ≤ 1000 from fun r hr => by have := (pr_small (p := cfAt t L) hn1).2 r hr; omega)
      have hLb := inB_yes b2
      rw [b1] at P
      rw [b2] at Q
      obtain ⟨rs, ers⟩ : ∃ r, prTo (cfAt t L) t.n t.n = r := ⟨_, rfl⟩
      rw [ers] at R PA hml hec HSM
      replace PA := Lib.hid PA
      have HT := Lib.hid hec
      have HMM := Lib.hid M
      have HRR := Lib.hid R
      have HP := Lib.hid P
      have HQ := Lib.hid Q
      obtain ⟨n, en⟩ : ∃ n, t.n = n := ⟨_, rfl⟩
      rw [en] at hn1 HMV PA
      have EN := Lib.hid en
      clear P Q M R hT b1 b2 hcb hec hcy ers hok en
      go_enter Try.func27, Try.ntmps27
      go_wp2_with fail
      refine HP.out.mono ?_
      rintro e w2 ⟨rfl, h2⟩
      have HB1 := Lib.hid (below_on HB0.out h2)
      have K1 := Lib.hid (K0.out.on h2)
      clear h2 a0 a1 a2 a3 HB0 K0
      have HB0 := HB1
      have K0 := K1
      clear HB1 K1
      obtain ⟨a0, a1, a2, a3⟩ := K0.out.c4
      go_wp2_with fail
      refine (HQ.out _).mono ?_
      rintro e w2' ⟨rfl, rfl⟩
      go_wp2_with fail
      refine (HMM.out _ HB0.out).mono ?_
      rintro e w3 ⟨mv, rfl, o3, h2⟩
      rw [EN.out] at o3
      obtain ⟨A1, c1, rfl⟩ := (Rd.of_own o3).form
      have HM := Lib.hid (Rd.of_own o3)
      clear o3
      have HB1 := Lib.hid (below_on HB0.out h2)
      have K1 := Lib.hid (K0.out.on h2)
      clear h2 a0 a1 a2 a3 HB0 K0
      have HB0 := HB1
      have K0 := K1
      clear HB1 K1
      obtain ⟨a0, a1, a2, a3⟩ := K0.out.c4
      have HB3 := HB0
      have hbx := below_new HB3.out (.cells #[] 23)
      have kx := K0.out.alloc (.cells #[] 23)
      have hrx := Rows.empty w3
      have hbe := below_new (Below.refl w3.heap.size w3) (.cells #[] 23)
      obtain ⟨wx, ewx⟩ : ∃ wx, w3.alloc (.cells #[] 23) = wx := ⟨_, rfl⟩
      rw [ewx] at hbx kx hrx hbe
      clear a0 a1 a2 a3
      obtain ⟨a0, a1, a2, a3⟩ := kx.c4
      have HBX := Lib.hid hbx
      have HRX := Lib.hid hrx
      have HBE := Lib.hid hbe
      have HXZ := Lib.hid (show wx.heap.size = w3.heap.size + 1 by rw [← ewx]; simp)
      clear hbx kx hrx hbe
      go_wp2_with fail
      refine (HRR.out _ HBX.out).mono ?_
      rintro e w5 ⟨u, gs, rfl, hr5, h5⟩
      obtain ⟨U, cu, rfl⟩ := hr5.form
      have HPI := Lib.hid (fun k (hk : (Value.slice U rs.length cu).ownBlock = some k ∨ k ∈ gs) => (show wx.heap.size ≤ k ∧ k < w5.heap.size by
        refine ⟨?_, (RowsIn.of hr5).2 k hk⟩
        rcases hk with hk | hk
        · exact (hr5.own.lt k hk).1
        · exact (hr5.mem hk).1))
      have HO5 := Lib.hid (HRX.out.below h5 (Nat.le_refl _))
      have HR5 := Lib.hid hr5
      have HB5 := Lib.hid (HBE.out.trans (h5.mono HBE.out.size))
      have HI5 := Lib.hid (Nat.le_refl w5.heap.size)
      clear hr5 h5 a0 a1 a2 a3 HBX HRX HBE HRR HMM HP HQ
      obtain ⟨LO, eLO⟩ : ∃ x, wx.heap.size = x := ⟨_, rfl⟩
      obtain ⟨HI, eHI⟩ : ∃ x, w5.heap.size = x := ⟨_, rfl⟩
      obtain ⟨m, em⟩ : ∃ m, rs.length = m := ⟨_, rfl⟩
      rw [em] at HR5 HPI HT hml PA ⊢
      have HLW := Lib.hid (show w3.heap.size ≤ LO by rw [← eLO]; have := HXZ.out; omega)
      rw [eLO] at HR5 HPI HXZ
      rw [eHI] at HPI
      replace HI5 := Lib.hid (Nat.le_of_eq eHI.symm)
      clear eLO eHI em
      go_wp2_with fail
      go_loopw [7, 27] (fun o s wr => ∃ (j : Nat) (os : List Nat), j ≤ m ∧ s = .int .i64 j ∧ Rows wr w3.heap.size o (ecTo t L rs j).length os (ecTo t L rs j) ∧ (∀ k, o.ownBlock = some k → k < LO ∨ HI ≤ k) ∧ (∀ x ∈ os, x ∈ gs.take j) ∧ Rows wr LO (.slice U m cu) m gs rs ∧ HI ≤ wr.heap.size ∧ Below w3.heap.size w3 wr) (fun _ s _ => m - (intOf s).toNat)
      case atStart => exact ⟨0, [], Nat.zero_le _, rfl, HO5.out, (by intro k hk; simp only [Value.ownBlock, Option.some.injEq] at hk; subst hk; have := HXZ.out; omega), (fun x hx => by cases hx), HR5.out, HI5.out, HB5.out⟩
      case round =>
        clear HR5 HB5 HO5 HI5
        obtain ⟨j, os, hj, rfl, hro, hown, hin, hrr, hi5, hb⟩ := hrel
        have HI5 := Lib.hid hi5
        clear hi5
        by_cases hlt : j < m
        · obtain ⟨b, cp, g, r, e1, k0, hg, -, hrd, hkb, hlo⟩ := hrr.at hlt
          obtain ⟨p, q, hpq, hqn, hpr⟩ := PA.out j hlt
          simp only [Value.slice.injEq, true_and] at e1
          obtain ⟨rfl, rfl⟩ := e1
          rw [hpr] at hrd
          subst hrd
          obtain ⟨bm, om, rfl, hbm, hcells⟩ := HM.out.moves (by omega)
          have hs : ecTo t L rs (j + 1) = ecTo t L rs j ++ (if edAt t L [(p : Int), (q : Int)] = true then [[(p : Int), (q : Int)]] else []) := by rw [ecTo, hpr]
          have hlen := (ecTo_len t L rs HSM.out j).1
          have hed : edAt t L [(p : Int), (q : Int)] = decide (min ((X t.xs p - X t.xs q) * (X t.xs p - X t.xs q) + (Y t.xs p - Y t.xs q) * (Y t.xs p - Y t.xs q)) ((X t.ys (plc t p) - X t.ys (plc t q)) * (X t.ys (plc t p) - X t.ys (plc t q)) + (Y t.ys (plc t p) - Y t.ys (plc t q)) * (Y t.ys (plc t p) - Y t.ys (plc t q))) < L * L) := rfl
          have g0 := hkb.cell 0
          have g1 := hkb.cell 1
          simp [ints] at g0 g1
          obtain ⟨c0, c1', c2, c3, c4⟩ := hcells wr p hb (by omega)
          obtain ⟨e0, e1, e2, e3, e4⟩ := hcells wr q hb hqn
          have hok1 := (ok_of (HMV.out p (by omega))).1
          have hok2 := (ok_of (HMV.out q hqn)).1
          obtain ⟨x1, ex1⟩ : ∃ x, X t.xs p = x := ⟨_, rfl⟩
          obtain ⟨x2, ex2⟩ : ∃ x, Y t.xs p = x := ⟨_, rfl⟩
          obtain ⟨x3, ex3⟩ : ∃ x, X t.ys (plc t p) = x := ⟨_, rfl⟩
          obtain ⟨x4, ex4⟩ : ∃ x, Y t.ys (plc t p) = x := ⟨_, rfl⟩
          obtain ⟨y1, ey1⟩ : ∃ x, X t.xs q = x := ⟨_, rfl⟩
          obtain ⟨y2, ey2⟩ : ∃ x, Y t.xs q = x := ⟨_, rfl⟩
          obtain ⟨y3, ey3⟩ : ∃ x, X t.ys (plc t q) = x := ⟨_, rfl⟩
          obtain ⟨y4, ey4⟩ : ∃ x, Y t.ys (plc t q) = x := ⟨_, rfl⟩
          obtain ⟨tc, etc⟩ : ∃ x, t.c = x := ⟨_, rfl⟩
          rw [ex1] at c0
          rw [ex2] at c1'
          rw [ex3] at c2
          rw [ex4] at c3
          rw [etc] at c4 e4
          rw [ey1] at e0
          rw [ey2] at e1
          rw [ey3] at e2
          rw [ey4] at e3
          rw [ex1, ex2, ex3, ex4] at hok1
          rw [ey1, ey2, ey3, ey4] at hok2
          rw [ex1, ex2, ex3, ex4, ey1, ey2, ey3, ey4] at hed
          have P := fun W => squareOf_any x1 x2 y1 y2 W hok1.1 hok1.2.1 hok2.1 hok2.2.1
          have Q := fun W => squareOf_any x3 x4 y3 y4 W hok1.2.2.1 hok1.2.2.2 hok2.2.2.1 hok2.2.2.2
          have hs1 : (x1 - y1) * (x1 - y1) + (x2 - y2) * (x2 - y2) = sqL x1 x2 y1 y2 := rfl
          have hs2 : (x3 - y3) * (x3 - y3) + (x4 - y4) * (x4 - y4) = sqL x3 x4 y3 y4 := rfl
          rw [hs1, hs2] at hed
          clear hs1 hs2
          obtain ⟨s0, es0⟩ : ∃ x, sqL x1 x2 y1 y2 = x := ⟨_, rfl⟩
          obtain ⟨s1, es1⟩ : ∃ x, sqL x3 x4 y3 y4 = x := ⟨_, rfl⟩
          rw [es0] at P hed
          rw [es1] at Q hed
          rw [hed] at hs
          have HP := Lib.hid P
          have HQ := Lib.hid Q
          have HS := Lib.hid hs
          have HRO := Lib.hid hro
          have HW := Lib.hid hown
          have HRR := Lib.hid hrr
          have HKB := Lib.hid hkb
          have HB := Lib.hid hb
          have HLEN := Lib.hid hlen
          have HNX := Lib.hid (take_next hin hg)
          have HNEW := Lib.hid (fun hx => new_at hrr.nod hg (hin g hx))
          have hgm : g ∈ gs := List.mem_of_getElem? hg
          have HGM := Lib.hid hgm
          have HGL := Lib.hid hlo
          unfold rowV at k0
          have i0 : (0 : Int) ≤ (j : Int) := by omega
          have i1 : (j : Int) < (m : Int) := by omega
          have i2 : (0 : Int) ≤ (p : Int) := by omega
          have i3 : (p : Int) < (n : Int) := by omega
          have i4 : (0 : Int) ≤ (q : Int) := by omega
          have i5 : (q : Int) < (n : Int) := by omega
          clear hg hrr hkb hlo hpr hs hro hown hin hb hcells ex1 ex2 ex3 ex4 ey1 ey2 ey3 ey4 etc P Q hlen hgm hed hok1 hok2 es0 es1
          go_upto_region 7 with (fail)
          go_cut [10, 11] (fun a1 a2 wx => ∃ g1 g2 : Nat, a1 = .pointer (some ⟨g1, 0, none⟩) ∧ a2 = .pointer (some ⟨g2, 0, none⟩) ∧ Blk wx g1 62 #[.int .i64 x1, .int .i64 x2, .int .i64 x3, .int .i64 x4, .int .i64 tc] ∧ Blk wx g2 62 #[.int .i64 y1, .int .i64 y2, .int .i64 y3, .int .i64 y4, .int .i64 tc] ∧ Below wr.heap.size wr wx)
          case first =>
            go_region_held3 (fun W => W.cell? ⟨g, 0, none⟩ = some (.int .i64 (p : Int)) ∧ W.cell? ⟨g, 1, none⟩ = some (.int .i64 (q : Int)) ∧ W.cell? ⟨bm, om + p * 5, none⟩ = some (.int .i64 x1) ∧ W.cell? ⟨bm, om + p * 5 + 1, none⟩ = some (.int .i64 x2) ∧ W.cell? ⟨bm, om + p * 5 + 2, none⟩ = some (.int .i64 x3) ∧ W.cell? ⟨bm, om + p * 5 + 3, none⟩ = some (.int .i64 x4) ∧ W.cell? ⟨bm, om + p * 5 + 4, none⟩ = some (.int .i64 tc) ∧ W.cell? ⟨bm, om + q * 5, none⟩ = some (.int .i64 y1) ∧ W.cell? ⟨bm, om + q * 5 + 1, none⟩ = some (.int .i64 y2) ∧ W.cell? ⟨bm, om + q * 5 + 2, none⟩ = some (.int .i64 y3) ∧ W.cell? ⟨bm, om + q * 5 + 3, none⟩ = some (.int .i64 y4) ∧ W.cell? ⟨bm, om + q * 5 + 4, none⟩ = some (.int .i64 tc))
              (first | exact ⟨g0, g1, c0, c1', c2, c3, c4, e0, e1, e2, e3, e4⟩ | go_keep)
              (fail)
            · go_wp2_with fail
              go_meet
              exact ⟨_, _, rfl, rfl, ((Blk.new _ _ _).alloc _).drew, (Blk.new2 _ _ _ _).drew, (below_new (below_new (Below.refl _ _) _) _).drew⟩
            · go_wp2_with fail
              go_meet
              exact ⟨_, _, rfl, rfl, (Blk.new2 _ _ _ _).drew, ((Blk.new _ _ _).alloc _).drew, (below_new (below_new (Below.refl _ _) _) _).drew⟩
          case rest =>
            obtain ⟨wd, rfl⟩ : ∃ wd : World, wd = wc := ⟨_, rfl⟩
            obtain ⟨g1', g2', rfl, rfl, k1, k2, hb5⟩ := hcut
            have HB6 := Lib.hid (below_on HB.out hb5)
            have HBZ := Lib.hid hb5.size
            have HRO6 := Lib.hid (HRO.out.below hb5 (Nat.le_refl _))
            have HRR6 := Lib.hid (HRR.out.below hb5 (Nat.le_refl _))
            have hkb6 := Lib.hid (HKB.out.on hb5)
            clear hb5 c0 c1' c2 c3 c4 e0 e1 e2 e3 e4 HRO HRR HB g0 g1 k0 HKB
            obtain ⟨z0, z1, z2, z3, z4⟩ := k1.c5
            obtain ⟨u0, u1, u2, u3, u4⟩ := k2.c5
            clear k1 k2
            obtain ⟨l1, l2⟩ := mul_wide (x := L) (y := L) (a := 80) (b := 80) (by omega) (by omega) (by omega) (by omega)
            have v0 := IntWalk.i64_in (L * L) (by omega)
            go_upto_region 8 with (fail)
            go_cut [57] (fun s wx => s = .bool (decide (min s0 s1 < L * L)) ∧ Below wd.heap.size wd wx)
            case first =>
              go_region_held3 (fun W => W.cell? ⟨g1', 0, none⟩ = some (.int .i64 x1) ∧ W.cell? ⟨g1', 1, none⟩ = some (.int .i64 x2) ∧ W.cell? ⟨g1', 2, none⟩ = some (.int .i64 x3) ∧ W.cell? ⟨g1', 3, none⟩ = some (.int .i64 x4) ∧ W.cell? ⟨g2', 0, none⟩ = some (.int .i64 y1) ∧ W.cell? ⟨g2', 1, none⟩ = some (.int .i64 y2) ∧ W.cell? ⟨g2', 2, none⟩ = some (.int .i64 y3) ∧ W.cell? ⟨g2', 3, none⟩ = some (.int .i64 y4) ∧ Below wd.heap.size wd W)
                (first | exact ⟨z0, z1, z2, z3, u0, u1, u2, u3, (Below.refl _ _).drew⟩ | (go_split_ands; exact ⟨cell_on hb2 (by assumption), cell_on hb2 (by assumption), cell_on hb2 (by assumption), cell_on hb2 (by assumption), cell_on hb2 (by assumption), cell_on hb2 (by assumption), cell_on hb2 (by assumption), cell_on hb2 (by assumption), below_on (by assumption) hb2⟩) | go_keep)
                (first | (go_at_call_of 49 ((Value.agg #[Value.int .i64 x1, Value.int .i64 x2])); refine (HP.out _).mono ?_; rintro e w2 ⟨rfl, hb2⟩) | (go_at_call_of 49 ((Value.agg #[Value.int .i64 x3, Value.int .i64 x4])); refine (HQ.out _).mono ?_; rintro e w2 ⟨rfl, hb2⟩))
              all_goals
                go_split_ands
                go_wp2_with fail
                go_meet
                exact ⟨rfl, by assumption⟩
            case rest =>
              obtain ⟨rfl, hb5⟩ := hcut
              have HB8 := Lib.hid (below_on HB6.out hb5)
              have HBY := Lib.hid (Nat.le_trans HBZ.out hb5.size)
              have HRO8 := Lib.hid (HRO6.out.below hb5 (Nat.le_refl _))
              have HRR8 := Lib.hid (HRR6.out.below hb5 (Nat.le_refl _))
              have hkb8 := Lib.hid (hkb6.out.on hb5)
              clear hb5 z0 z1 z2 z3 z4 u0 u1 u2 u3 u4 HP HQ HB6 HBZ HRO6 HRR6 hkb6
              by_cases hq : min s0 s1 < L * L
              case neg =>
                rw [decide_eq_false hq] at HS ⊢
                have HN := Lib.hid (show ecTo t L rs (j + 1) = ecTo t L rs j by rw [HS.out]; simp)
                have HRO9 := Lib.hid (show Rows wc w3.heap.size _ (ecTo t L rs (j + 1)).length os (ecTo t L rs (j + 1)) by rw [HN.out]; exact HRO8.out)
                have HZ9 := Lib.hid (Nat.le_trans HI5.out HBY.out)
                clear HRO8
                go_wp2_with fail
                go_roundw
                case rel => exact ⟨j + 1, os, by omega, by go_num, HRO9.out, HW.out, HNX.out.1, HRR8.out, HZ9.out, HB8.out⟩
                case measure => simp [intOf]; omega
              case pos =>
                rw [decide_eq_true hq] at HS ⊢
                have HY := Lib.hid (show ecTo t L rs (j + 1) = ecTo t L rs j ++ [[(p : Int), (q : Int)]] by rw [HS.out]; simp)
                have n0 := (Blk.new wc 23 #[.slice (some ⟨g, 0, none⟩) 2 2]).c1
                have HO2 := Lib.hid (HRO8.out.alloc (.cells #[.slice (some ⟨g, 0, none⟩) 2 2] 23))
                have HR2 := Lib.hid (HRR8.out.alloc (.cells #[.slice (some ⟨g, 0, none⟩) 2 2] 23))
                have HB2 := Lib.hid (below_new HB8.out (.cells #[.slice (some ⟨g, 0, none⟩) 2 2] 23))
                have HK2 := Lib.hid (hkb8.out.alloc (.cells #[.slice (some ⟨g, 0, none⟩) 2 2] 23))
                have HSZ := Lib.hid (show w3.heap.size ≤ (wc.alloc (.cells #[.slice (some ⟨g, 0, none⟩) 2 2] 23)).heap.size from HB2.out.size)
                have HHI := Lib.hid (show HI ≤ wc.heap.size from Nat.le_trans HI5.out HBY.out)
                have hne : ∀ (r9 : Option Nat), (∀ k, r9 = some k → k < LO ∨ HI ≤ k) → ∀ k, (Value.slice (some ⟨b, 0, none⟩) m cu).ownBlock = some k ∨ k ∈ gs → some k ≠ r9 := fun r9 hr k hk e => by
                  have a1 := hr k e.symm
                  have a2 := HPI.out k hk
                  omega
                have HNE := Lib.hid hne
                clear hne HRO8 HRR8 HB8 hkb8
                go_wp2_with (at_builtin; refine app_row_at rfl _ _ rfl w3.heap.size _ _ os _ rfl HO2.out wc.heap.size g [(p : Int), (q : Int)] rfl n0 HK2.out (Nat.le_trans HLW.out HGL.out) HNEW.out (by have := HLEN.out; omega) HSZ.out ?_; intro v9 w9 hr9 hg9 hor9)
                have hi9 : HI ≤ w9.heap.size := Nat.le_trans HHI.out (Nat.le_trans (by simp) hg9.size)
                have hb9 : Below w3.heap.size w3 w9 := HB2.out.grown hg9 HSZ.out (fun g hg => (HO2.out.own.lt g hg).1)
                have hrr9 := HR2.out.grown hg9 (HNE.out _ HW.out)
                have hw9 : ∀ k, v9.ownBlock = some k → k < LO ∨ HI ≤ k := by
                  intro k hk
                  rcases hor9 with h | h
                  · exact HW.out _ (h ▸ hk)
                  · right
                    have := HHI.out
                    obtain rfl : (wc.alloc (.cells #[.slice (some ⟨g, 0, none⟩) 2 2] 23)).heap.size = k := Option.some.inj (h.symm.trans hk)
                    show HI ≤ (wc.alloc _).heap.size
                    simp
                    omega
                have HR9 := Lib.hid (show Rows w9 w3.heap.size v9 (ecTo t L rs (j + 1)).length (os ++ [g]) (ecTo t L rs (j + 1)) by
                  rw [HY.out, List.length_append]; exact hr9)
                have HW9 := Lib.hid hw9
                have HB9 := Lib.hid hb9
                have HI9 := Lib.hid hi9
                have HRR9 := Lib.hid hrr9
                clear hb9 hrr9 hw9 hi9 n0
                go_wp2_with fail
                go_roundw
                case rel => exact ⟨j + 1, os ++ [g], by omega, by go_num, HR9.out, HW9.out, HNX.out.2, HRR9.out, HI9.out, HB9.out⟩
                case measure => simp [intOf]; omega
        · obtain rfl : j = m := by omega
          have HRO := Lib.hid hro
          have HB := Lib.hid hb
          clear hro hown hin hrr hb HI5
          go_wp2_with fail
          go_ret2
          rw [HT.out.1, HT.out.2.1, HT.out.2.2]
          exact ⟨_, os, rfl, HRO.out.base HB3.out.size, HB3.out.trans (HB.out.mono HB3.out.size)⟩
set_option maxRecDepth 100000 in
set_option maxHeartbeats 1000000 in
theorem specEndConflicts_any (v : Value) (B : Nat) (t : TrN) (L : Int) (w : World) (hcp : CapT v) (hv : RdT w B v t) (hB : B ≤ w.heap.size) (hs : t.small) :
    Calls Try.prog 26 #[v, .int .i64 L] w fun e w' => ∃ u gs, e = .returned (.tuple #[u, .bool (ecB t L)]) ∧ Rows w' w.heap.size u (ecN t L) gs (ecL t L) ∧ Below w.heap.size w w' := by
  obtain ⟨A, ca, C, cb, D, cc, rfl, _, _, _⟩ := hv.form
  have hb0 : Below w.heap.size w (w.alloc (.cells #[.slice A t.n ca, .slice C t.m cb, .int .i64 t.c, .slice D t.p cc] 32)) := below_new (Below.refl _ _) _
  have k0 := Blk.new w 32 #[.slice A t.n ca, .slice C t.m cb, .int .i64 t.c, .slice D t.p cc]
  have Hv := Lib.hid (fun W (hb : Below w.heap.size w W) => hv.below' hb hB)
  have Hc := Lib.hid hcp
  have HB0 := Lib.hid hb0
  have K0 := Lib.hid k0
  obtain ⟨a0, a1, a2, a3⟩ := k0.c4
  clear hv hcp hb0 k0
  have P := cfAsked_any _ B t L _ Hc.out (Hv.out _ HB0.out) (Nat.le_trans hB HB0.out.size) hs
  cases b1 : cpB t L with
  | false =>
    have HT := Lib.hid (ec_no b1)
    rw [b1] at P
    have HP := Lib.hid P
    clear P b1
    go_enter Try.func26, Try.ntmps26
    go_wp2_with fail
    refine HP.out.mono ?_
    rintro e w2 ⟨rfl, h2⟩
    have HB1 := Lib.hid (below_on HB0.out h2)
    have K1 := Lib.hid (K0.out.on h2)
    clear h2 a0 a1 a2 a3 HB0 K0
    have HB0 := HB1
    have K0 := K1
    clear HB1 K1
    obtain ⟨a0, a1, a2, a3⟩ := K0.out.c4
    go_wp2_with fail
    go_ret2
    rw [HT.out.1, HT.out.2.1, HT.out.2.2]
    exact ⟨_, [], rfl, Rows.nil _ _, HB0.out⟩
  | true =>
    have hec := ec_yes b1
    have hcy := cp_yes b1
    rw [hcy.2.1, hcy.2.2] at hec
    have hci := cp_in b1
    have hok := tr_ok hci.1
    have hn1 := hok.n1
    have HMV := Lib.hid (fun i (hi : i < t.n) => mvB_of hok hi)
    have M := fun W (hb : Below w.heap.size w W) => asMoves_any _ B t W (Hv.out W hb) (Nat.le_trans hB hb.size) hok
    have R := fun W (hb : Below w.heap.size w W) => cfPairs_any _ B t L W (Hv.out W hb) (Nat.le_trans hB hb.size) hok hci.2.1 hci.2.2
    have PA := fun j => pairs_at' (p := cfAt t L) (n := t.n) (j := j)
    have hml := (pr_small (p := cfAt t L) hn1).1
    have HSM := Lib.hid (show ∀ r ∈ prTo (cfAt t L) t.n t.n, r.length ≤ 1000 from fun r hr => by have := (pr_small (p := cfAt t L) hn1).2 r hr; omega)
    have hLb := hci.2
    rw [b1] at P
    obtain ⟨rs, ers⟩ : ∃ r, prTo (cfAt t L) t.n t.n = r := ⟨_, rfl⟩
    rw [ers] at R PA hml hec HSM
    replace PA := Lib.hid PA
    have HT := Lib.hid hec
    have HMM := Lib.hid M
    have HRR := Lib.hid R
    have HP := Lib.hid P
    obtain ⟨n, en⟩ : ∃ n, t.n = n := ⟨_, rfl⟩
    rw [en] at hn1 HMV PA
    have EN := Lib.hid en
    clear P M R b1 hec hcy hci ers hok en
    go_enter Try.func26, Try.ntmps26
    go_wp2_with fail
    refine HP.out.mono ?_
    rintro e w2 ⟨rfl, h2⟩
    have HB1 := Lib.hid (below_on HB0.out h2)
    have K1 := Lib.hid (K0.out.on h2)
    clear h2 a0 a1 a2 a3 HB0 K0
    have HB0 := HB1
    have K0 := K1
    clear HB1 K1
    obtain ⟨a0, a1, a2, a3⟩ := K0.out.c4
    go_wp2_with fail
    refine (HMM.out _ HB0.out).mono ?_
    rintro e w3 ⟨mv, rfl, o3, h2⟩
    rw [EN.out] at o3
    obtain ⟨A1, c1, rfl⟩ := (Rd.of_own o3).form
    have HM := Lib.hid (Rd.of_own o3)
    clear o3
    have HB1 := Lib.hid (below_on HB0.out h2)
    have K1 := Lib.hid (K0.out.on h2)
    clear h2 a0 a1 a2 a3 HB0 K0
    have HB0 := HB1
    have K0 := K1
    clear HB1 K1
    obtain ⟨a0, a1, a2, a3⟩ := K0.out.c4
    have HB3 := HB0
    go_wp2_with fail
    refine (HRR.out _ HB3.out).mono ?_
    rintro e w5 ⟨u, gs, rfl, hr5, h5⟩
    obtain ⟨U, cu, rfl⟩ := hr5.form
    have HPI := Lib.hid (fun k (hk : (Value.slice U rs.length cu).ownBlock = some k ∨ k ∈ gs) => (show w3.heap.size ≤ k ∧ k < w5.heap.size by
      refine ⟨?_, (RowsIn.of hr5).2 k hk⟩
      rcases hk with hk | hk
      · exact (hr5.own.lt k hk).1
      · exact (hr5.mem hk).1))
    have HO5 := Lib.hid (Rows.nil w5 w3.heap.size)
    have HR5 := Lib.hid hr5
    have HB5 := Lib.hid h5
    have HI5 := Lib.hid (Nat.le_refl w5.heap.size)
    have HXZ := Lib.hid (Nat.le_refl w3.heap.size)
    clear hr5 h5 a0 a1 a2 a3 HRR HMM HP
    obtain ⟨LO, eLO⟩ : ∃ x, w3.heap.size = x := ⟨_, rfl⟩
    obtain ⟨HI, eHI⟩ : ∃ x, w5.heap.size = x := ⟨_, rfl⟩
    obtain ⟨m, em⟩ : ∃ m, rs.length = m := ⟨_, rfl⟩
    rw [em] at HR5 HPI HT hml PA ⊢
    have HLW := Lib.hid (Nat.le_of_eq eLO)
    rw [eLO] at HR5 HPI HXZ
    rw [eHI] at HPI
    replace HI5 := Lib.hid (Nat.le_of_eq eHI.symm)
    clear eLO eHI em
    go_wp2_with fail
    go_loopw [7, 22] (fun o s wr => ∃ (j : Nat) (os : List Nat), j ≤ m ∧ s = .int .i64 j ∧ Rows wr w3.heap.size o (ecTo t L rs j).length os (ecTo t L rs j) ∧ (∀ k, o.ownBlock = some k → k < LO ∨ HI ≤ k) ∧ (∀ x ∈ os, x ∈ gs.take j) ∧ Rows wr LO (.slice U m cu) m gs rs ∧ HI ≤ wr.heap.size ∧ Below w3.heap.size w3 wr) (fun _ s _ => m - (intOf s).toNat)
    case atStart => exact ⟨0, [], Nat.zero_le _, rfl, HO5.out, (by intro k hk; simp [Value.ownBlock] at hk), (fun x hx => by cases hx), HR5.out, HI5.out, HB5.out⟩
    case round =>
      clear HR5 HB5 HO5 HI5
      obtain ⟨j, os, hj, rfl, hro, hown, hin, hrr, hi5, hb⟩ := hrel
      have HI5 := Lib.hid hi5
      clear hi5
      by_cases hlt : j < m
      · obtain ⟨b, cp, g, r, e1, k0, hg, -, hrd, hkb, hlo⟩ := hrr.at hlt
        obtain ⟨p, q, hpq, hqn, hpr⟩ := PA.out j hlt
        simp only [Value.slice.injEq, true_and] at e1
        obtain ⟨rfl, rfl⟩ := e1
        rw [hpr] at hrd
        subst hrd
        obtain ⟨bm, om, rfl, hbm, hcells⟩ := HM.out.moves (by omega)
        have hs : ecTo t L rs (j + 1) = ecTo t L rs j ++ (if edAt t L [(p : Int), (q : Int)] = true then [[(p : Int), (q : Int)]] else []) := by rw [ecTo, hpr]
        have hlen := (ecTo_len t L rs HSM.out j).1
        have hed : edAt t L [(p : Int), (q : Int)] = decide (min ((X t.xs p - X t.xs q) * (X t.xs p - X t.xs q) + (Y t.xs p - Y t.xs q) * (Y t.xs p - Y t.xs q)) ((X t.ys (plc t p) - X t.ys (plc t q)) * (X t.ys (plc t p) - X t.ys (plc t q)) + (Y t.ys (plc t p) - Y t.ys (plc t q)) * (Y t.ys (plc t p) - Y t.ys (plc t q))) < L * L) := rfl
        have g0 := hkb.cell 0
        have g1 := hkb.cell 1
        simp [ints] at g0 g1
        obtain ⟨c0, c1', c2, c3, c4⟩ := hcells wr p hb (by omega)
        obtain ⟨e0, e1, e2, e3, e4⟩ := hcells wr q hb hqn
        have hok1 := (ok_of (HMV.out p (by omega))).1
        have hok2 := (ok_of (HMV.out q hqn)).1
        obtain ⟨x1, ex1⟩ : ∃ x, X t.xs p = x := ⟨_, rfl⟩
        obtain ⟨x2, ex2⟩ : ∃ x, Y t.xs p = x := ⟨_, rfl⟩
        obtain ⟨x3, ex3⟩ : ∃ x, X t.ys (plc t p) = x := ⟨_, rfl⟩
        obtain ⟨x4, ex4⟩ : ∃ x, Y t.ys (plc t p) = x := ⟨_, rfl⟩
        obtain ⟨y1, ey1⟩ : ∃ x, X t.xs q = x := ⟨_, rfl⟩
        obtain ⟨y2, ey2⟩ : ∃ x, Y t.xs q = x := ⟨_, rfl⟩
        obtain ⟨y3, ey3⟩ : ∃ x, X t.ys (plc t q) = x := ⟨_, rfl⟩
        obtain ⟨y4, ey4⟩ : ∃ x, Y t.ys (plc t q) = x := ⟨_, rfl⟩
        obtain ⟨tc, etc⟩ : ∃ x, t.c = x := ⟨_, rfl⟩
        rw [ex1] at c0
        rw [ex2] at c1'
        rw [ex3] at c2
        rw [ex4] at c3
        rw [etc] at c4 e4
        rw [ey1] at e0
        rw [ey2] at e1
        rw [ey3] at e2
        rw [ey4] at e3
        rw [ex1, ex2, ex3, ex4] at hok1
        rw [ey1, ey2, ey3, ey4] at hok2
        rw [ex1, ex2, ex3, ex4, ey1, ey2, ey3, ey4] at hed
        have P := fun W => stSquare_any x1 x2 y1 y2 W hok1.1 hok1.2.1 hok2.1 hok2.2.1
        have Q := fun W => stSquare_any x3 x4 y3 y4 W hok1.2.2.1 hok1.2.2.2 hok2.2.2.1 hok2.2.2.2
        have hs1 : (x1 - y1) * (x1 - y1) + (x2 - y2) * (x2 - y2) = sqL x1 x2 y1 y2 := rfl
        have hs2 : (x3 - y3) * (x3 - y3) + (x4 - y4) * (x4 - y4) = sqL x3 x4 y3 y4 := rfl
        rw [hs1, hs2] at hed
        clear hs1 hs2
        obtain ⟨s0, es0⟩ : ∃ x, sqL x1 x2 y1 y2 = x := ⟨_, rfl⟩
        obtain ⟨s1, es1⟩ : ∃ x, sqL x3 x4 y3 y4 = x := ⟨_, rfl⟩
        rw [es0] at P hed
        rw [es1] at Q hed
        rw [hed] at hs
        have HP := Lib.hid P
        have HQ := Lib.hid Q
        have HS := Lib.hid hs
        have HRO := Lib.hid hro
        have HW := Lib.hid hown
        have HRR := Lib.hid hrr
        have HKB := Lib.hid hkb
        have HB := Lib.hid hb
        have HLEN := Lib.hid hlen
        have HNX := Lib.hid (take_next hin hg)
        have HNEW := Lib.hid (fun hx => new_at hrr.nod hg (hin g hx))
        have hgm : g ∈ gs := List.mem_of_getElem? hg
        have HGM := Lib.hid hgm
        have HGL := Lib.hid hlo
        unfold rowV at k0
        have i0 : (0 : Int) ≤ (j : Int) := by omega
        have i1 : (j : Int) < (m : Int) := by omega
        have i2 : (0 : Int) ≤ (p : Int) := by omega
        have i3 : (p : Int) < (n : Int) := by omega
        have i4 : (0 : Int) ≤ (q : Int) := by omega
        have i5 : (q : Int) < (n : Int) := by omega
        clear hg hrr hkb hlo hpr hs hro hown hin hb hcells ex1 ex2 ex3 ex4 ey1 ey2 ey3 ey4 etc P Q hlen hgm hed hok1 hok2 es0 es1
        go_upto_region 8 with (fail)
        go_cut [10, 11] (fun a1 a2 wx => ∃ g1 g2 : Nat, a1 = .pointer (some ⟨g1, 0, none⟩) ∧ a2 = .pointer (some ⟨g2, 0, none⟩) ∧ Blk wx g1 62 #[.int .i64 x1, .int .i64 x2, .int .i64 x3, .int .i64 x4, .int .i64 tc] ∧ Blk wx g2 62 #[.int .i64 y1, .int .i64 y2, .int .i64 y3, .int .i64 y4, .int .i64 tc] ∧ Below wr.heap.size wr wx)
        case first =>
          go_region_held3 (fun W => W.cell? ⟨g, 0, none⟩ = some (.int .i64 (p : Int)) ∧ W.cell? ⟨g, 1, none⟩ = some (.int .i64 (q : Int)) ∧ W.cell? ⟨bm, om + p * 5, none⟩ = some (.int .i64 x1) ∧ W.cell? ⟨bm, om + p * 5 + 1, none⟩ = some (.int .i64 x2) ∧ W.cell? ⟨bm, om + p * 5 + 2, none⟩ = some (.int .i64 x3) ∧ W.cell? ⟨bm, om + p * 5 + 3, none⟩ = some (.int .i64 x4) ∧ W.cell? ⟨bm, om + p * 5 + 4, none⟩ = some (.int .i64 tc) ∧ W.cell? ⟨bm, om + q * 5, none⟩ = some (.int .i64 y1) ∧ W.cell? ⟨bm, om + q * 5 + 1, none⟩ = some (.int .i64 y2) ∧ W.cell? ⟨bm, om + q * 5 + 2, none⟩ = some (.int .i64 y3) ∧ W.cell? ⟨bm, om + q * 5 + 3, none⟩ = some (.int .i64 y4) ∧ W.cell? ⟨bm, om + q * 5 + 4, none⟩ = some (.int .i64 tc))
            (first | exact ⟨g0, g1, c0, c1', c2, c3, c4, e0, e1, e2, e3, e4⟩ | go_keep)
            (fail)
          · go_wp2_with fail
            go_meet
            exact ⟨_, _, rfl, rfl, ((Blk.new _ _ _).alloc _).drew, (Blk.new2 _ _ _ _).drew, (below_new (below_new (Below.refl _ _) _) _).drew⟩
          · go_wp2_with fail
            go_meet
            exact ⟨_, _, rfl, rfl, (Blk.new2 _ _ _ _).drew, ((Blk.new _ _ _).alloc _).drew, (below_new (below_new (Below.refl _ _) _) _).drew⟩
        case rest =>
          obtain ⟨wd, rfl⟩ : ∃ wd : World, wd = wc := ⟨_, rfl⟩
          obtain ⟨g1', g2', rfl, rfl, k1, k2, hb5⟩ := hcut
          have HB6 := Lib.hid (below_on HB.out hb5)
          have HBZ := Lib.hid hb5.size
          have HRO6 := Lib.hid (HRO.out.below hb5 (Nat.le_refl _))
          have HRR6 := Lib.hid (HRR.out.below hb5 (Nat.le_refl _))
          have hkb6 := Lib.hid (HKB.out.on hb5)
          clear hb5 c0 c1' c2 c3 c4 e0 e1 e2 e3 e4 HRO HRR HB g0 g1 k0 HKB
          obtain ⟨z0, z1, z2, z3, z4⟩ := k1.c5
          obtain ⟨u0, u1, u2, u3, u4⟩ := k2.c5
          clear k1 k2
          obtain ⟨l1, l2⟩ := mul_wide (x := L) (y := L) (a := 80) (b := 80) (by omega) (by omega) (by omega) (by omega)
          have v0 := IntWalk.i64_in (L * L) (by omega)
          have hcut : True := trivial
          clear hcut
          go_upto_region 9 with (fail)
          go_cut [57] (fun s wx => s = .bool (decide (min s0 s1 < L * L)) ∧ Below wd.heap.size wd wx)
          case first =>
            by_cases h0 : s0 < L * L
            · have hm : decide (min s0 s1 < L * L) = true := decide_eq_true (by omega)
              go_wp2_with fail
              refine (HP.out _).mono ?_
              rintro e w2 ⟨rfl, hb2⟩
              go_wp2_with fail
              go_meet
              exact ⟨by rw [hm], hb2⟩
            · have hm : decide (min s0 s1 < L * L) = decide (s1 < L * L) := decide_eq_decide.2 (by omega)
              have hd0 : decide (s0 < L * L) = false := decide_eq_false h0
              go_wp2_with fail
              refine (HP.out _).mono ?_
              rintro e w2 ⟨rfl, hb2⟩
              replace z2 := cell_on hb2 z2
              replace z3 := cell_on hb2 z3
              replace u2 := cell_on hb2 u2
              replace u3 := cell_on hb2 u3
              clear z0 z1 z4 u0 u1 u4
              go_wp2_with fail
              refine (HQ.out _).mono ?_
              rintro e w3 ⟨rfl, hb3⟩
              go_wp2_with fail
              go_meet
              exact ⟨by simp [hm, hd0], below_on hb2 hb3⟩
          case rest =>
            obtain ⟨rfl, hb5⟩ := hcut
            have HB8 := Lib.hid (below_on HB6.out hb5)
            have HBY := Lib.hid (Nat.le_trans HBZ.out hb5.size)
            have HRO8 := Lib.hid (HRO6.out.below hb5 (Nat.le_refl _))
            have HRR8 := Lib.hid (HRR6.out.below hb5 (Nat.le_refl _))
            have hkb8 := Lib.hid (hkb6.out.on hb5)
            clear hb5 z0 z1 z2 z3 z4 u0 u1 u2 u3 u4 HP HQ HB6 HBZ HRO6 HRR6 hkb6
            by_cases hq : min s0 s1 < L * L
            case neg =>
              rw [decide_eq_false hq] at HS ⊢
              have HN := Lib.hid (show ecTo t L rs (j + 1) = ecTo t L rs j by rw [HS.out]; simp)
              have HRO9 := Lib.hid (show Rows wc w3.heap.size _ (ecTo t L rs (j + 1)).length os (ecTo t L rs (j + 1)) by rw [HN.out]; exact HRO8.out)
              have HZ9 := Lib.hid (Nat.le_trans HI5.out HBY.out)
              clear HRO8
              go_wp2_with fail
              go_roundw
              case rel => exact ⟨j + 1, os, by omega, by go_num, HRO9.out, HW.out, HNX.out.1, HRR8.out, HZ9.out, HB8.out⟩
              case measure => simp [intOf]; omega
            case pos =>
              rw [decide_eq_true hq] at HS ⊢
              have HY := Lib.hid (show ecTo t L rs (j + 1) = ecTo t L rs j ++ [[(p : Int), (q : Int)]] by rw [HS.out]; simp)
              have n0 := (Blk.new wc 23 #[.slice (some ⟨g, 0, none⟩) 2 2]).c1
              have HO2 := Lib.hid (HRO8.out.alloc (.cells #[.slice (some ⟨g, 0, none⟩) 2 2] 23))
              have HR2 := Lib.hid (HRR8.out.alloc (.cells #[.slice (some ⟨g, 0, none⟩) 2 2] 23))
              have HB2 := Lib.hid (below_new HB8.out (.cells #[.slice (some ⟨g, 0, none⟩) 2 2] 23))
              have HK2 := Lib.hid (hkb8.out.alloc (.cells #[.slice (some ⟨g, 0, none⟩) 2 2] 23))
              have HSZ := Lib.hid (show w3.heap.size ≤ (wc.alloc (.cells #[.slice (some ⟨g, 0, none⟩) 2 2] 23)).heap.size from HB2.out.size)
              have HHI := Lib.hid (show HI ≤ wc.heap.size from Nat.le_trans HI5.out HBY.out)
              have hne : ∀ (r9 : Option Nat), (∀ k, r9 = some k → k < LO ∨ HI ≤ k) → ∀ k, (Value.slice (some ⟨b, 0, none⟩) m cu).ownBlock = some k ∨ k ∈ gs → some k ≠ r9 := fun r9 hr k hk e => by
                have a1 := hr k e.symm
                have a2 := HPI.out k hk
                omega
              have HNE := Lib.hid hne
              clear hne HRO8 HRR8 HB8 hkb8
              go_wp2_with (at_builtin; refine app_row_at rfl _ _ rfl w3.heap.size _ _ os _ rfl HO2.out wc.heap.size g [(p : Int), (q : Int)] rfl n0 HK2.out (Nat.le_trans HLW.out HGL.out) HNEW.out (by have := HLEN.out; omega) HSZ.out ?_; intro v9 w9 hr9 hg9 hor9)
              have hi9 : HI ≤ w9.heap.size := Nat.le_trans HHI.out (Nat.le_trans (by simp) hg9.size)
              have hb9 : Below w3.heap.size w3 w9 := HB2.out.grown hg9 HSZ.out (fun g hg => (HO2.out.own.lt g hg).1)
              have hrr9 := HR2.out.grown hg9 (HNE.out _ HW.out)
              have hw9 : ∀ k, v9.ownBlock = some k → k < LO ∨ HI ≤ k := by
                intro k hk
                rcases hor9 with h | h
                · exact HW.out _ (h ▸ hk)
                · right
                  have := HHI.out
                  obtain rfl : (wc.alloc (.cells #[.slice (some ⟨g, 0, none⟩) 2 2] 23)).heap.size = k := Option.some.inj (h.symm.trans hk)
                  show HI ≤ (wc.alloc _).heap.size
                  simp
                  omega
              have HR9 := Lib.hid (show Rows w9 w3.heap.size v9 (ecTo t L rs (j + 1)).length (os ++ [g]) (ecTo t L rs (j + 1)) by
                rw [HY.out, List.length_append]; exact hr9)
              have HW9 := Lib.hid hw9
              have HB9 := Lib.hid hb9
              have HI9 := Lib.hid hi9
              have HRR9 := Lib.hid hrr9
              clear hb9 hrr9 hw9 hi9 n0
              go_wp2_with fail
              go_roundw
              case rel => exact ⟨j + 1, os ++ [g], by omega, by go_num, HR9.out, HW9.out, HNX.out.2, HRR9.out, HI9.out, HB9.out⟩
              case measure => simp [intOf]; omega
      · obtain rfl : j = m := by omega
        have HRO := Lib.hid hro
        have HB := Lib.hid hb
        clear hro hown hin hrr hb HI5
        go_wp2_with fail
        go_ret2
        rw [HT.out.1, HT.out.2.1, HT.out.2.2]
        exact ⟨_, os, rfl, HRO.out.base HB3.out.size, HB3.out.trans (HB.out.mono HB3.out.size)⟩
end Go.Proofs.Ytmklinmlliabaaa
