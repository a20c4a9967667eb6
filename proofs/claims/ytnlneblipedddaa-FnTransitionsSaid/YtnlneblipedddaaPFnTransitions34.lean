/- Contracts of BestSwap on both sides. Condition: the transition's slices are owned. -/
import Derived.Test.YtnlneblipedddaaPFnTransitions26
import Derived.Test.YtnlneblipedddaaPFnTransitions33
import Derived.Test.YtnlneblipedddaaPFnTransitions09
namespace Go.Proofs.Ytnlneblipedddaa
open Go.RowKit

theorem bs_no {t : TrN} (h : trB t = false) : bsV t = (0, 0, 0) ∧ bsB t = false := by simp [bsV, bsB, h]
theorem bs_yes {t : TrN} (h : trB t = true) : bsV t = bsOut t t.n t.n ∧ bsB t = !(bsOut t t.n t.n).2.2 == 0 := by simp [bsV, bsB, h]
set_option maxRecDepth 100000 in
set_option maxHeartbeats 4000000 in
theorem BestSwap_any (v : Value) (lo : Nat) (t : TrN) (w : World) (hv : OwnA w lo v t) (hs : t.small) :
    Calls Try.prog 20 #[v] w fun e w' => e = .returned (.tuple #[.int .i64 ((bsV t).1 : Int), .int .i64 ((bsV t).2.1 : Int), .int .i64 (bsV t).2.2, .bool (bsB t)]) ∧ Below w.heap.size w w' := by
  have hvv := hv
  have P := Lib.hid (fun W (hb : Below w.heap.size w W) => IsTransition_any v W.heap.size t W hv.cap ((hv.below hb (Nat.le_refl _)).rd) (Nat.le_refl _) hs)
  have HV := Lib.hid (fun W (hb : Below w.heap.size w W) => hv.below hb (Nat.le_refl _))
  obtain ⟨A, ca, C, cb, D, cc, rfl, ha, hb0, hc⟩ := hv.form
  have hpl : t.ps.length = t.p := by have := hc.1; rw [ints_length] at this; omega
  have K0 := Lib.hid (Blk.new w 29 #[.slice A t.n ca, .slice C t.m cb, .int .i64 t.c, .slice D t.p cc])
  have HB0 := Lib.hid (below_new (Below.refl w.heap.size w) (.cells #[.slice A t.n ca, .slice C t.m cb, .int .i64 t.c, .slice D t.p cc] 29))
  obtain ⟨a0, a1, a2, a3⟩ := K0.out.c4
  clear ha hb0 hc hv
  cases hg : trB t with
  | false =>
    have HD := Lib.hid (bs_no hg)
    have HG := Lib.hid hg
    clear hg hs hpl
    go_enter Try.func20, Try.ntmps20
    go_wp2_with fail
    refine (P.out _ HB0.out).mono ?_
    rintro e w2 ⟨rfl, hb⟩
    rw [HG.out]
    have HB1 := Lib.hid (below_on HB0.out hb)
    clear hb a0 a1 a2 a3 K0 HB0
    go_wp2_with fail
    refine bodyPost_ret (results_tmp4 rfl _ _ _) rfl ?_
    exact ⟨by rw [HD.out.1, HD.out.2]; rfl, HB1.out⟩
  | true =>
    have hok := tr_ok hg
    have n0 := hok.n0
    have n1 := hok.n1
    have HY := Lib.hid (bs_yes hg)
    have HG := Lib.hid hg
    have HGA := Lib.hid (fun i k (hi : i < t.n) (hk : k < t.n) => gaT_in hg hpl hi hk)
    have HGO := Lib.hid (fun i k (hi : i < t.n) (hk : k < t.n) => sw_good hg hpl hi hk)
    have HBO := Lib.hid (fun a (ha : a ≤ t.n) => bsOut_ok hg hpl a ha)
    have HBI := Lib.hid (fun i s d (hi : i < t.n) (hs : bsOk t s) (hd : d ≤ t.n) => bsIn_ok hg hpl hi hs d hd)
    have HSU := Lib.hid (suT_in hok t.n (Nat.le_refl _))
    have HSW := Lib.hid (fun i k (hi : i < t.n) (hk : k < t.n) => suT_in (tr_ok (sw_good hg hpl hi hk)) t.n (Nat.le_refl _))
    clear hg
    have Q := Lib.hid (fun W (hb : Below w.heap.size w W) => squareSum_any _ W.heap.size t W (hvv.below hb (Nat.le_refl _)).rd (Nat.le_refl _) hok)
    have QW := Lib.hid (fun i k (hi : i < t.n) (hk : k < t.n) W (hb : Below w.heap.size w W) => swapPlaces_any _ lo t i k W (hvv.below hb (Nat.le_refl _)) hok hi hk)
    have QS := Lib.hid (fun i k (hi : i < t.n) (hk : k < t.n) W r lo2 (h : OwnA W lo2 r (swT t i k)) => squareSum_any r W.heap.size (swT t i k) W h.rd (Nat.le_refl _) (tr_ok (HGO.out i k hi hk)))
    clear hvv hs hpl hok
    go_enter Try.func20, Try.ntmps20
    go_wp2_with fail
    refine (P.out _ HB0.out).mono ?_
    rintro e w2 ⟨rfl, hb⟩
    rw [HG.out]
    replace K0 := Lib.hid (K0.out.on hb)
    replace HB0 := Lib.hid (below_on HB0.out hb)
    clear hb a0 a1 a2 a3
    obtain ⟨a0, a1, a2, a3⟩ := K0.out.c4
    go_wp2_with fail
    refine (Q.out _ HB0.out).mono ?_
    rintro e w3 ⟨rfl, hb⟩
    replace K0 := Lib.hid (K0.out.on hb)
    replace HB0 := Lib.hid (below_on HB0.out hb)
    clear hb a0 a1 a2 a3
    obtain ⟨a0, a1, a2, a3⟩ := K0.out.c4
    go_wp2_with fail
    go_loopw [6, 7, 8, 21] (fun x y z i wr => ∃ a : Nat, a ≤ t.n ∧ i = .int .i64 a ∧ x = .int .i64 ((bsOut t t.n a).1 : Int) ∧ y = .int .i64 ((bsOut t t.n a).2.1 : Int) ∧ z = .int .i64 (bsOut t t.n a).2.2 ∧ Blk wr w.heap.size 29 #[.slice A t.n ca, .slice C t.m cb, .int .i64 t.c, .slice D t.p cc] ∧ Below w.heap.size w wr) (fun _ _ _ i _ => t.n - (intOf i).toNat)
    case atStart => exact ⟨0, by omega, rfl, rfl, rfl, rfl, K0.out, HB0.out⟩
    case round =>
      clear K0 HB0 a0 a1 a2 a3
      obtain ⟨a, ha, rfl, rfl, rfl, rfl, hk0, hb⟩ := hrel
      have HB := Lib.hid hb
      have K0 := Lib.hid hk0
      clear hb hk0
      obtain ⟨a0, a1, a2, a3⟩ := K0.out.c4
      by_cases hlt : a < t.n
      · have hbo := HBO.out a ha
        have hfirst := fun d => bsIn_first t a (bsOut t t.n a) d
        have HNX := Lib.hid (show bsIn t a (bsOut t t.n a) t.n = bsOut t t.n (a + 1) from rfl)
        have HF0 := Lib.hid (bsIn_first t a (bsOut t t.n a) (a + 1) (Nat.le_refl _))
        have HIO := Lib.hid (fun d (hd : d ≤ t.n) => HBI.out a (bsOut t t.n a) d hlt hbo hd)
        have i0 : (0 : Int) ≤ (a : Int) := by omega
        have i1 := IntWalk.i64_in ((a : Int) + 1) (by omega)
        obtain ⟨O, eO⟩ : ∃ O, bsOut t t.n a = O := ⟨_, rfl⟩
        rw [eO] at HNX HF0 HIO ⊢
        clear hbo hfirst eO
        obtain ⟨wo, ewo⟩ : ∃ q, wr = q := ⟨_, rfl⟩
        rw [ewo] at HB K0 a0 a1 a2 a3 ⊢
        clear ewo
        go_wp2_with fail
        go_loopw [6, 7, 8, 11] (fun x y z i wr => ∃ d : Nat, a + 1 ≤ d ∧ d ≤ t.n ∧ i = .int .i64 d ∧ x = .int .i64 ((bsIn t a O d).1 : Int) ∧ y = .int .i64 ((bsIn t a O d).2.1 : Int) ∧ z = .int .i64 (bsIn t a O d).2.2 ∧ Blk wr w.heap.size 29 #[.slice A t.n ca, .slice C t.m cb, .int .i64 t.c, .slice D t.p cc] ∧ Below w.heap.size w wr) (fun _ _ _ i _ => t.n - (intOf i).toNat)
        case atStart => exact ⟨a + 1, by omega, by omega, by go_num, by rw [HF0.out], by rw [HF0.out], by rw [HF0.out], K0.out, HB.out⟩
        case round =>
          clear K0 HB a0 a1 a2 a3
          obtain ⟨d, hd1, hd2, rfl, rfl, rfl, rfl, hk0, hb⟩ := hrel
          have HB := Lib.hid hb
          have K0 := Lib.hid hk0
          clear hb hk0
          obtain ⟨a0, a1, a2, a3⟩ := K0.out.c4
          by_cases hld : d < t.n
          · have hga := HGA.out a d hlt hld
            have hy := bsIn_yes (t := t) (i := a) (d := d) (s := O) (by omega)
            have hn := bsIn_no (t := t) (i := a) (d := d) (s := O)
            have hdef : gaT t a d = suT t t.n - suT (swT t a d) t.n := rfl
            have hsn : (swT t a d).n = t.n := rfl
            have PW := QW.out a d hlt hld
            have PS := QS.out a d hlt hld
            rw [hsn] at PS
            obtain ⟨s1, es1⟩ : ∃ q, suT t t.n = q := ⟨_, rfl⟩
            obtain ⟨s2, es2⟩ : ∃ q, suT (swT t a d) t.n = q := ⟨_, rfl⟩
            obtain ⟨g, eg⟩ : ∃ q, gaT t a d = q := ⟨_, rfl⟩
            rw [es1, es2, eg] at hdef
            rw [eg] at hga hy hn
            rw [es2] at PS
            rw [es1]
            obtain ⟨I, eI⟩ : ∃ I, bsIn t a O d = I := ⟨_, rfl⟩
            rw [eI] at hy hn ⊢
            obtain ⟨m, em⟩ : ∃ m, I.2.2 = m := ⟨_, rfl⟩
            rw [em] at hy hn
            rw [em]
            have HYY := Lib.hid hy
            have HNN := Lib.hid hn
            have EM := Lib.hid em
            have HPW := Lib.hid PW
            have HPS := Lib.hid PS
            have j0 : (0 : Int) ≤ (d : Int) := by omega
            have j1 := IntWalk.i64_in ((d : Int) + 1) (by omega)
            have j2 := IntWalk.i64_in g (by omega)
            have hdiff : s1 - s2 = g := hdef.symm
            clear hga hy hn hdef hsn PW PS es1 es2 eg eI em
            go_wp2_with fail
            refine (HPW.out _ HB.out).mono ?_
            rintro e w5 ⟨r, rfl, oa, hb⟩
            have HB1 := Lib.hid (below_on HB.out hb)
            have K1 := Lib.hid (K0.out.on hb)
            have OA := Lib.hid oa
            clear oa hb a0 a1 a2 a3
            go_wp2_with fail
            refine (HPS.out _ _ _ OA.out).mono ?_
            rintro e w6 ⟨rfl, hb⟩
            have HB2 := Lib.hid (below_on HB1.out hb)
            have K2 := Lib.hid (K1.out.on hb)
            clear hb OA HB1 K1 HB K0
            by_cases hlg : m < g
            · have HX := Lib.hid (HYY.out hlg)
              have dg : decide (m < g) = true := by simpa using hlg
              go_wp2_with fail
              go_roundw
              case rel => exact ⟨d + 1, by omega, by omega, by go_num, by rw [HX.out], by rw [HX.out], by rw [HX.out], K2.out, HB2.out⟩
              case measure => simp [intOf]; omega
            · have HX := Lib.hid (HNN.out (by omega))
              have dg : decide (m < g) = false := by simpa using hlg
              go_wp2_with fail
              go_roundw
              case rel => exact ⟨d + 1, by omega, by omega, by go_num, by rw [HX.out], by rw [HX.out], by rw [HX.out, EM.out], K2.out, HB2.out⟩
              case measure => simp [intOf]; omega
          · obtain rfl : d = t.n := by omega
            go_wp2_with fail
            go_roundw
            case rel => exact ⟨a + 1, by omega, by go_num, by rw [HNX.out], by rw [HNX.out], by rw [HNX.out], K0.out, HB.out⟩
            case measure => simp [intOf]; omega
      · obtain rfl : a = t.n := by omega
        have hyy := HY.out
        obtain ⟨X, eX⟩ : ∃ X, bsOut t t.n t.n = X := ⟨_, rfl⟩
        have hbk := HBO.out t.n (Nat.le_refl _)
        rw [eX] at hyy hbk ⊢
        obtain ⟨x1, x2, x3⟩ := X
        obtain ⟨q0, q1, q2⟩ := hbk
        simp only at q0 q1 q2 hyy ⊢
        by_cases hz : x3 = 0
        · subst hz
          have HE := Lib.hid (show bsV t = (0, 0, 0) ∧ bsB t = false from ⟨by rw [hyy.1]; rcases q2 with h | h; exact h; omega, by rw [hyy.2]; rfl⟩)
          clear hyy q0 q1 q2 eX
          go_wp2_with fail
          refine bodyPost_ret (results_tmp4 rfl _ _ _) rfl ?_
          exact ⟨by rw [HE.out.1, HE.out.2]; rfl, HB.out⟩
        · have hz2 : (x3 == 0) = false := by simpa using hz
          have HE := Lib.hid (show bsV t = (x1, x2, x3) ∧ bsB t = true from ⟨hyy.1, by rw [hyy.2, hz2]; rfl⟩)
          clear hyy q0 q1 q2 eX
          go_wp2_with fail
          refine bodyPost_ret (results_tmp4 rfl _ _ _) rfl ?_
          exact ⟨by rw [HE.out.1, HE.out.2]; rfl, HB.out⟩
end Go.Proofs.Ytnlneblipedddaa
