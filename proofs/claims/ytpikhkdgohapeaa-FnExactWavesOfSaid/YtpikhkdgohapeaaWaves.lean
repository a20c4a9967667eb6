/- Contracts of the two FewestWaves and the two WavesOf. Conditions: the transition's slices can be read, and are short. -/
import Derived.Test.YtpikhkdgohapeaaWavesImp
import Derived.Test.YtpikhkdgohapeaaClashW
import Derived.Test.YtpikhkdgohapeaaDelayed
namespace Go.Proofs.Ytpikhkdgohapeaa
open Go.RowKit

noncomputable def wvV (t : TrN) (L : Int) : Int := if cpB t L = true then ((wvP (qS (smAll (cfAt t L) t.n)) t.n).1 : Int) else 0
def wvB (t : TrN) (L : Int) : Bool := cpB t L
theorem wv_no {t : TrN} {L : Int} (h : cpB t L = false) : wvV t L = 0 ∧ wvB t L = false := by simp [wvV, wvB, h]
theorem wv_yes {t : TrN} {L : Int} (h : cpB t L = true) : wvV t L = ((wvP (qS (smAll (cfAt t L) t.n)) t.n).1 : Int) ∧ wvB t L = true := by simp [wvV, wvB, h]
noncomputable def waL (t : TrN) (L : Int) : List Int := if cpB t L = true then nats (wvP (qS (smAll (cfAt t L) t.n)) t.n).2 else []
noncomputable def waN (t : TrN) (L : Int) : Nat := (waL t L).length
def waB (t : TrN) (L : Int) : Bool := cpB t L
theorem wvP_len {q : Nat → Nat → Bool} {n : Nat} (h : 1 ≤ n) : (wvP q n).2.length = n := (lw_good (wvP_ok h)).2
theorem wa_no {t : TrN} {L : Int} (h : cpB t L = false) : waL t L = [] ∧ waN t L = 0 ∧ waB t L = false := by simp [waL, waN, waB, h]
theorem wa_yes {t : TrN} {L : Int} (h : cpB t L = true) : waL t L = nats (wvP (qS (smAll (cfAt t L) t.n)) t.n).2 ∧ waN t L = t.n ∧ waB t L = true := by
  have hn := (tr_ok (cp_in h).1).n0
  simp [waL, waN, waB, h, nats_length, wvP_len hn]
theorem wa_small (t : TrN) (L : Int) : waN t L ≤ 1000000 ∧ waN t L = waN t L := by
  refine ⟨?_, rfl⟩
  cases h : cpB t L with
  | false => rw [(wa_no h).2.1]; omega
  | true =>
    have := (tr_ok (cp_in h).1).n1
    rw [(wa_yes h).2.1]; omega
set_option maxRecDepth 100000 in
set_option maxHeartbeats 4000000 in
theorem cfBest_any (v : Value) (B : Nat) (t : TrN) (L : Int) (w : World) (hv : RdT w B v t) (hB : B ≤ w.heap.size) (hok : TrOk t) (hL0 : 0 ≤ L) (hL : L ≤ 80) :
    Calls Try.prog 54 #[v, .int .i64 L] w fun e w' => ∃ u, e = .returned u ∧ w'.ownsRow w.heap.size 3 1 u t.n (ints (nats (wvP (qS (smAll (cfAt t L) t.n)) t.n).2)) ∧ Below w.heap.size w w' := by
  have hcp : True := trivial
  obtain ⟨A, ca, C, cb, D, cc, rfl, _, _, _⟩ := hv.form
  have hb0 : Below w.heap.size w (w.alloc (.cells #[.slice A t.n ca, .slice C t.m cb, .int .i64 t.c, .slice D t.p cc] 43)) := below_new (Below.refl _ _) _
  have k0 := Blk.new w 43 #[.slice A t.n ca, .slice C t.m cb, .int .i64 t.c, .slice D t.p cc]
  have Hv := Lib.hid (fun W (hb : Below w.heap.size w W) => hv.below' hb hB)
  have Hc := Lib.hid hcp
  have HB0 := Lib.hid hb0
  have K0 := Lib.hid k0
  obtain ⟨a0, a1, a2, a3⟩ := k0.c4
  clear hv hcp hb0 k0
  have hn1 := hok.n1
  have hn0 := hok.n0
  have HR := Lib.hid (fun W (hb : Below w.heap.size w W) => cfClashes_any _ B t L W (Hv.out W hb) (Nat.le_trans hB hb.size) hok hL0 hL)
  have hcl := fun i (hi : i < t.n) => clAll_mem (p := cfAt t L) hi
  have hll := fun i => clAll_len (p := cfAt t L) hn1 i
  obtain ⟨cl, ecl⟩ : ∃ c, clAll (cfAt t L) t.n = c := ⟨_, rfl⟩
  obtain ⟨q, eq⟩ : ∃ c, qS (smAll (cfAt t L) t.n) = c := ⟨_, rfl⟩
  rw [ecl] at HR hcl hll
  rw [eq] at hcl ⊢
  have HWV := Lib.hid (fun m (hm : m ≤ 12) => cfWaves_any q cl t.n m hn1 hm hcl hll t.n 0 (by omega) [])
  have HSM := Lib.hid (fun m => fw_same (q := q) (m := m) t.n [] 0 (wGood_nil q m) (fun w => by simp))
  have HPE := Lib.hid (fun m r (h : LeastWaves q t.n m r) => wvP_eq hn0 h)
  have HWN := Lib.hid (waves_n q t.n hn0)
  clear hcl hll ecl eq hok
  go_enter Try.func54, Try.ntmps54
  go_wp2_with fail
  refine (HR.out _ HB0.out).mono ?_
  rintro e w1 ⟨b, rfl, hrag, h1⟩
  have HG := Lib.hid hrag
  have HB1 := Lib.hid (below_on HB0.out h1)
  clear hrag h1 a0 a1 a2 a3 K0 HB0
  go_wp2_with fail
  go_loopw [6] (fun s wr => ∃ m : Nat, 1 ≤ m ∧ m ≤ t.n ∧ s = .int .i64 m ∧ (∀ k, 1 ≤ k → k < m → fwF q k t.n [] = none) ∧ Below w1.heap.size w1 wr) (fun s _ => t.n - (intOf s).toNat)
  case atStart => exact ⟨1, Nat.le_refl _, hn0, rfl, fun k h1 h2 => absurd h1 (by omega), Below.refl _ _⟩
  case round =>
    obtain ⟨m, hm1, hm2, rfl, hno, hb⟩ := hrel
    have hc := HWV.out m (by omega) (.slice none 0 0) w1.heap.size b t.n w.heap.size wr rfl (HG.out.below hb (Nat.le_refl _)) hb.size (Nat.le_trans HB1.out.size hb.size) (World.ownsRow_nil _ _ _ _)
    rw [HSM.out m] at hc
    have HB := Lib.hid hb
    cases ho : fwF q m t.n [] with
    | some r =>
      rw [ho] at hc
      have hlen : r.length = t.n := by have := (fwF_some (wGood_nil q m) ho).2; simpa using this
      have HW := Lib.hid (HPE.out m r ⟨hm1, ho, hno⟩)
      have HC := Lib.hid hc
      have hp : (0 : Int) < (r.length : Int) := by omega
      have HLN := Lib.hid hlen
      clear hc ho hno hb hlen
      go_wp2_with fail
      refine HC.out.mono ?_
      rintro e w5 ⟨u5, rfl, o5, h5⟩
      have o6 : w5.ownsRow w.heap.size 3 1 u5 r.length (ints (nats r)) := o5
      have HO5 := Lib.hid o6
      have HB5 := Lib.hid (HB1.out.trans ((below_on HB.out h5).mono HB1.out.size))
      obtain ⟨A5, c5, rfl⟩ := (Rd.of_own o6).form
      clear o5 o6 h5
      go_wp2_with fail
      go_ret
      exact ⟨_, rfl, by rw [HW.out]; have h9 := HO5.out; rw [HLN.out] at h9; rw [HLN.out]; exact h9, HB5.out⟩
    | none =>
      have hmn : m < t.n := by
        rcases Nat.lt_or_ge m t.n with h | h
        · exact h
        · obtain rfl : m = t.n := by omega
          exact absurd ho HWN.out
      have HNO2 := Lib.hid (show ∀ k, 1 ≤ k → k < m + 1 → fwF q k t.n [] = none from fun k h1 h2 => by
        rcases Nat.lt_succ_iff_lt_or_eq.1 h2 with h | rfl
        · exact hno k h1 h
        · exact ho)
      rw [ho] at hc
      have HC := Lib.hid hc
      clear hc ho hno hb
      go_wp2_with fail
      refine HC.out.mono ?_
      rintro e w5 ⟨u5, rfl, o5, h5⟩
      have o6 : w5.ownsRow w.heap.size 3 1 u5 0 (ints []) := o5
      have HB5 := Lib.hid (below_on HB.out h5)
      obtain ⟨A5, c5, rfl⟩ := (Rd.of_own o6).form
      clear o5 o6 h5
      go_wp2_with fail
      go_roundw
      case rel => exact ⟨m + 1, by omega, by omega, by go_num, HNO2.out, HB5.out⟩
      case measure => simp [intOf]; omega

/-! ### The program's -/
set_option maxRecDepth 100000 in
set_option maxHeartbeats 2000000 in
theorem FewestWaves_any (v : Value) (B : Nat) (t : TrN) (L : Int) (w : World) (hcp : CapT v) (hv : RdT w B v t) (hB : B ≤ w.heap.size) (hs : t.small) :
    Calls Try.prog 20 #[v, .int .i64 L] w fun e w' => e = .returned (.tuple #[.int .i64 (wvV t L), .bool (wvB t L)]) ∧ Below w.heap.size w w' := by
  obtain ⟨A, ca, C, cb, D, cc, rfl, _, _, _⟩ := hv.form
  have hb0 : Below w.heap.size w (w.alloc (.cells #[.slice A t.n ca, .slice C t.m cb, .int .i64 t.c, .slice D t.p cc] 43)) := below_new (Below.refl _ _) _
  have k0 := Blk.new w 43 #[.slice A t.n ca, .slice C t.m cb, .int .i64 t.c, .slice D t.p cc]
  have Hv := Lib.hid (fun W (hb : Below w.heap.size w W) => hv.below' hb hB)
  have Hc := Lib.hid hcp
  have HB0 := Lib.hid hb0
  have K0 := Lib.hid k0
  obtain ⟨a0, a1, a2, a3⟩ := k0.c4
  clear hv hcp hb0 k0
  have P := IsTransition_any _ B t _ Hc.out (Hv.out _ HB0.out) (Nat.le_trans hB HB0.out.size) hs
  have Q := fun W => isLeast_any L W
  have hT : cpB t L = (trB t && inB L 0 80) := rfl
  cases b1 : trB t with
  | false =>
    have HT := Lib.hid (wv_no (show cpB t L = false by rw [hT, b1]; rfl))
    rw [b1] at P
    have HP := Lib.hid P
    clear P Q hT b1
    go_enter Try.func20, Try.ntmps20
    go_wp2_with fail
    refine HP.out.mono ?_
    rintro e w2 ⟨rfl, h2⟩
    have HB1 := Lib.hid (below_on HB0.out h2)
    have K1 := Lib.hid (K0.out.on h2)
    clear h2 a0 a1 a2 a3 HB0 K0
    have HB0 := HB1
    have K0 := K1
    clear HB1 K1
    obtain ⟨a0, a1, a2, a3⟩ := K0.out.c4
    go_wp2_with fail
    go_ret2
    exact ⟨by rw [HT.out.1, HT.out.2]; rfl, HB0.out⟩
  | true =>
    cases b2 : inB L 0 80 with
    | false =>
      have HT := Lib.hid (wv_no (show cpB t L = false by rw [hT, b1, b2]; rfl))
      rw [b1] at P
      rw [b2] at Q
      have HP := Lib.hid P
      have HQ := Lib.hid Q
      clear P Q hT b1 b2
      go_enter Try.func20, Try.ntmps20
      go_wp2_with fail
      refine HP.out.mono ?_
      rintro e w2 ⟨rfl, h2⟩
      have HB1 := Lib.hid (below_on HB0.out h2)
      have K1 := Lib.hid (K0.out.on h2)
      clear h2 a0 a1 a2 a3 HB0 K0
      have HB0 := HB1
      have K0 := K1
      clear HB1 K1
      obtain ⟨a0, a1, a2, a3⟩ := K0.out.c4
      go_wp2_with fail
      refine (HQ.out _).mono ?_
      rintro e w3 ⟨rfl, rfl⟩
      go_wp2_with fail
      go_ret2
      exact ⟨by rw [HT.out.1, HT.out.2]; rfl, HB0.out⟩
    | true =>
      have HT := Lib.hid (wv_yes (show cpB t L = true by rw [hT, b1, b2]; rfl))
      have hok := tr_ok b1
      have HR := Lib.hid (fun W (hb : Below w.heap.size w W) => wavesOf_any _ B t L W (Hv.out W hb) (Nat.le_trans hB hb.size) hok (inB_yes b2).1 (inB_yes b2).2)
      rw [b1] at P
      rw [b2] at Q
      have HP := Lib.hid P
      have HQ := Lib.hid Q
      clear P Q hT b1 b2 hok
      go_enter Try.func20, Try.ntmps20
      go_wp2_with fail
      refine HP.out.mono ?_
      rintro e w2 ⟨rfl, h2⟩
      have HB1 := Lib.hid (below_on HB0.out h2)
      have K1 := Lib.hid (K0.out.on h2)
      clear h2 a0 a1 a2 a3 HB0 K0
      have HB0 := HB1
      have K0 := K1
      clear HB1 K1
      obtain ⟨a0, a1, a2, a3⟩ := K0.out.c4
      go_wp2_with fail
      refine (HQ.out _).mono ?_
      rintro e w3 ⟨rfl, rfl⟩
      go_wp2_with fail
      refine (HR.out _ HB0.out).mono ?_
      rintro e w4 ⟨u, rfl, ho, h4⟩
      have HB4 := Lib.hid (below_on HB0.out h4)
      have HO4 := Lib.hid (own_base ho HB0.out.size)
      clear ho h4 a0 a1 a2 a3
      go_wp2_with fail
      go_ret2
      exact ⟨by rw [HT.out.1, HT.out.2]; rfl, HB4.out⟩
set_option maxRecDepth 100000 in
set_option maxHeartbeats 2000000 in
theorem WavesOf_any (v : Value) (B : Nat) (t : TrN) (L : Int) (w : World) (hcp : CapT v) (hv : RdT w B v t) (hB : B ≤ w.heap.size) (hs : t.small) :
    Calls Try.prog 22 #[v, .int .i64 L] w fun e w' => ∃ u, e = .returned (.tuple #[u, .bool (waB t L)]) ∧ w'.ownsRow w.heap.size 3 1 u (waN t L) (ints (waL t L)) ∧ Below w.heap.size w w' := by
  obtain ⟨A, ca, C, cb, D, cc, rfl, _, _, _⟩ := hv.form
  have hb0 : Below w.heap.size w (w.alloc (.cells #[.slice A t.n ca, .slice C t.m cb, .int .i64 t.c, .slice D t.p cc] 43)) := below_new (Below.refl _ _) _
  have k0 := Blk.new w 43 #[.slice A t.n ca, .slice C t.m cb, .int .i64 t.c, .slice D t.p cc]
  have Hv := Lib.hid (fun W (hb : Below w.heap.size w W) => hv.below' hb hB)
  have Hc := Lib.hid hcp
  have HB0 := Lib.hid hb0
  have K0 := Lib.hid k0
  obtain ⟨a0, a1, a2, a3⟩ := k0.c4
  clear hv hcp hb0 k0
  have P := IsTransition_any _ B t _ Hc.out (Hv.out _ HB0.out) (Nat.le_trans hB HB0.out.size) hs
  have Q := fun W => isLeast_any L W
  have hT : cpB t L = (trB t && inB L 0 80) := rfl
  cases b1 : trB t with
  | false =>
    have HT := Lib.hid (wa_no (show cpB t L = false by rw [hT, b1]; rfl))
    rw [b1] at P
    have HP := Lib.hid P
    clear P Q hT b1
    go_enter Try.func22, Try.ntmps22
    go_wp2_with fail
    refine HP.out.mono ?_
    rintro e w2 ⟨rfl, h2⟩
    have HB1 := Lib.hid (below_on HB0.out h2)
    have K1 := Lib.hid (K0.out.on h2)
    clear h2 a0 a1 a2 a3 HB0 K0
    have HB0 := HB1
    have K0 := K1
    clear HB1 K1
    obtain ⟨a0, a1, a2, a3⟩ := K0.out.c4
    go_wp2_with fail
    go_ret2
    rw [HT.out.1, HT.out.2.1, HT.out.2.2]
    exact ⟨_, rfl, World.ownsRow_nil _ _ _ _, HB0.out⟩
  | true =>
    cases b2 : inB L 0 80 with
    | false =>
      have HT := Lib.hid (wa_no (show cpB t L = false by rw [hT, b1, b2]; rfl))
      rw [b1] at P
      rw [b2] at Q
      have HP := Lib.hid P
      have HQ := Lib.hid Q
      clear P Q hT b1 b2
      go_enter Try.func22, Try.ntmps22
      go_wp2_with fail
      refine HP.out.mono ?_
      rintro e w2 ⟨rfl, h2⟩
      have HB1 := Lib.hid (below_on HB0.out h2)
      have K1 := Lib.hid (K0.out.on h2)
      clear h2 a0 a1 a2 a3 HB0 K0
      have HB0 := HB1
      have K0 := K1
      clear HB1 K1
      obtain ⟨a0, a1, a2, a3⟩ := K0.out.c4
      go_wp2_with fail
      refine (HQ.out _).mono ?_
      rintro e w3 ⟨rfl, rfl⟩
      go_wp2_with fail
      go_ret2
      rw [HT.out.1, HT.out.2.1, HT.out.2.2]
      exact ⟨_, rfl, World.ownsRow_nil _ _ _ _, HB0.out⟩
    | true =>
      have HT := Lib.hid (wa_yes (show cpB t L = true by rw [hT, b1, b2]; rfl))
      have hok := tr_ok b1
      have HR := Lib.hid (fun W (hb : Below w.heap.size w W) => wavesOf_any _ B t L W (Hv.out W hb) (Nat.le_trans hB hb.size) hok (inB_yes b2).1 (inB_yes b2).2)
      rw [b1] at P
      rw [b2] at Q
      have HP := Lib.hid P
      have HQ := Lib.hid Q
      clear P Q hT b1 b2 hok
      go_enter Try.func22, Try.ntmps22
      go_wp2_with fail
      refine HP.out.mono ?_
      rintro e w2 ⟨rfl, h2⟩
      have HB1 := Lib.hid (below_on HB0.out h2)
      have K1 := Lib.hid (K0.out.on h2)
      clear h2 a0 a1 a2 a3 HB0 K0
      have HB0 := HB1
      have K0 := K1
      clear HB1 K1
      obtain ⟨a0, a1, a2, a3⟩ := K0.out.c4
      go_wp2_with fail
      refine (HQ.out _).mono ?_
      rintro e w3 ⟨rfl, rfl⟩
      go_wp2_with fail
      refine (HR.out _ HB0.out).mono ?_
      rintro e w4 ⟨u, rfl, ho, h4⟩
      have HB4 := Lib.hid (below_on HB0.out h4)
      have HO4 := Lib.hid (own_base ho HB0.out.size)
      clear ho h4 a0 a1 a2 a3
      go_wp2_with fail
      go_ret2
      (rw [HT.out.1, HT.out.2.1, HT.out.2.2]; exact ⟨_, rfl, HO4.out, HB4.out⟩)

/-! ### The reference's -/
set_option maxRecDepth 100000 in
set_option maxHeartbeats 2000000 in
theorem specFewestWaves_any (v : Value) (B : Nat) (t : TrN) (L : Int) (w : World) (hcp : CapT v) (hv : RdT w B v t) (hB : B ≤ w.heap.size) (hs : t.small) :
    Calls Try.prog 19 #[v, .int .i64 L] w fun e w' => e = .returned (.tuple #[.int .i64 (wvV t L), .bool (wvB t L)]) ∧ Below w.heap.size w w' := by
  obtain ⟨A, ca, C, cb, D, cc, rfl, _, _, _⟩ := hv.form
  have hb0 : Below w.heap.size w (w.alloc (.cells #[.slice A t.n ca, .slice C t.m cb, .int .i64 t.c, .slice D t.p cc] 43)) := below_new (Below.refl _ _) _
  have k0 := Blk.new w 43 #[.slice A t.n ca, .slice C t.m cb, .int .i64 t.c, .slice D t.p cc]
  have Hv := Lib.hid (fun W (hb : Below w.heap.size w W) => hv.below' hb hB)
  have Hc := Lib.hid hcp
  have HB0 := Lib.hid hb0
  have K0 := Lib.hid k0
  obtain ⟨a0, a1, a2, a3⟩ := k0.c4
  clear hv hcp hb0 k0
  have P := cfAsked_any _ B t L _ Hc.out (Hv.out _ HB0.out) (Nat.le_trans hB HB0.out.size) hs
  cases b1 : cpB t L with
  | false =>
    have HT := Lib.hid (wv_no b1)
    rw [b1] at P
    have HP := Lib.hid P
    clear P b1
    go_enter Try.func19, Try.ntmps19
    go_wp2_with fail
    refine HP.out.mono ?_
    rintro e w2 ⟨rfl, h2⟩
    have HB1 := Lib.hid (below_on HB0.out h2)
    have K1 := Lib.hid (K0.out.on h2)
    clear h2 a0 a1 a2 a3 HB0 K0
    have HB0 := HB1
    have K0 := K1
    clear HB1 K1
    obtain ⟨a0, a1, a2, a3⟩ := K0.out.c4
    go_wp2_with fail
    go_ret2
    exact ⟨by rw [HT.out.1, HT.out.2]; rfl, HB0.out⟩
  | true =>
    have hcc := wv_yes b1
    have hci := cp_in b1
    have hok := tr_ok hci.1
    have hn1 := hok.n1
    have hn0 := hok.n0
    have HR := Lib.hid (fun W (hb : Below w.heap.size w W) => cfBest_any _ B t L W (Hv.out W hb) (Nat.le_trans hB hb.size) hok hci.2.1 hci.2.2)
    have hwl := wvP_ok (q := qS (smAll (cfAt t L) t.n)) hn0
    rw [b1] at P
    have HT := Lib.hid hcc
    have HP := Lib.hid P
    have HWL := Lib.hid hwl
    clear P b1 hcc hci hok hwl
    go_enter Try.func19, Try.ntmps19
    go_wp2_with fail
    refine HP.out.mono ?_
    rintro e w2 ⟨rfl, h2⟩
    have HB1 := Lib.hid (below_on HB0.out h2)
    have K1 := Lib.hid (K0.out.on h2)
    clear h2 a0 a1 a2 a3 HB0 K0
    have HB0 := HB1
    have K0 := K1
    clear HB1 K1
    obtain ⟨a0, a1, a2, a3⟩ := K0.out.c4
    go_wp2_with fail
    refine (HR.out _ HB0.out).mono ?_
    rintro e w3 ⟨u, rfl, ho, h3⟩
    have HO := Lib.hid (own_base ho HB0.out.size)
    have HB := Lib.hid (below_on HB0.out h3)
    clear ho h3 a0 a1 a2 a3
    obtain ⟨q, eq⟩ : ∃ c, qS (smAll (cfAt t L) t.n) = c := ⟨_, rfl⟩
    rw [eq] at HO HWL HT
    have hg := lw_good HWL.out
    have hall := wvMax_all hn0 HWL.out
    have hml := lw_le hn0 HWL.out
    obtain ⟨M, eM⟩ : ∃ M, (wvP q t.n).1 = M := ⟨_, rfl⟩
    obtain ⟨r, er⟩ : ∃ M, (wvP q t.n).2 = M := ⟨_, rfl⟩
    rw [eM] at hg hall hml HT
    rw [er] at hg hall HO
    have HALL := Lib.hid hall
    have HGD := Lib.hid hg.1
    have HRL := Lib.hid hg.2
    have HMX := Lib.hid (fun a b W => l1Most_any a b W)
    have HRD := Lib.hid (Rd.of_own HO.out)
    obtain ⟨A3, c3, rfl⟩ := (Rd.of_own HO.out).form
    clear hg hall HWL eM er eq
    go_wp2_with fail
    go_loopw [6, 17] (fun a s wr => ∃ k : Nat, k ≤ t.n ∧ s = .int .i64 k ∧ a = .int .i64 (wvMax r k : Nat) ∧ wr = w3) (fun _ s _ => t.n - (intOf s).toNat)
    case atStart => exact ⟨0, Nat.zero_le _, rfl, rfl, rfl⟩
    case round =>
      obtain ⟨k, hk, rfl, rfl, rfl⟩ := hrel
      by_cases hlt : k < t.n
      · have k0 : (0 : Int) ≤ (k : Int) := by omega
        have k1 : (k : Int) < (t.n : Int) := by omega
        obtain ⟨b, off, rfl, _, hc⟩ : ∃ b off, A3 = some ⟨b, off, none⟩ ∧ b < wr.heap.size ∧ ∀ j, j < t.n * 1 → wr.cell? ⟨b, off + j, none⟩ = some (.int .i64 ((nats r).getD j 0)) := by
          obtain ⟨_, A', c', e, h⟩ := HRD.out
          simp only [Value.slice.injEq, true_and] at e
          obtain ⟨rfl, rfl⟩ := e
          exact h (by omega)
        have x0 := hc k (by omega)
        rw [nats_get] at x0
        have hx := (HGD.out k (by have := HRL.out; omega)).1
        have hst : wvMax r (k + 1) = max (wvMax r k) (r.getD k 0 + 1) := rfl
        obtain ⟨x, ex⟩ : ∃ x, r.getD k 0 = x := ⟨_, rfl⟩
        rw [ex] at x0 hx hst
        obtain ⟨y, ey⟩ : ∃ x, wvMax r k = x := ⟨_, rfl⟩
        rw [ey] at hst ⊢
        have HST := Lib.hid (show ((wvMax r (k + 1) : Nat) : Int) = max (y : Int) ((x : Int) + 1) by rw [hst]; omega)
        have hwx := IntWalk.i64_in ((x : Int) + 1) (by omega)
        clear hc ex ey hst
        go_wp2_with fail
        refine (HMX.out _ _ _).mono ?_
        rintro e w5 ⟨rfl, rfl⟩
        go_wp2_with fail
        go_roundw
        case rel => exact ⟨k + 1, by omega, by go_num, by rw [HST.out], trivial⟩
        case measure => simp [intOf]; omega
      · obtain rfl : k = t.n := by omega
        go_wp2_with fail
        go_ret2
        exact ⟨by rw [HT.out.1, HT.out.2, HALL.out]; rfl, HB.out⟩
set_option maxRecDepth 100000 in
set_option maxHeartbeats 2000000 in
theorem specWavesOf_any (v : Value) (B : Nat) (t : TrN) (L : Int) (w : World) (hcp : CapT v) (hv : RdT w B v t) (hB : B ≤ w.heap.size) (hs : t.small) :
    Calls Try.prog 21 #[v, .int .i64 L] w fun e w' => ∃ u, e = .returned (.tuple #[u, .bool (waB t L)]) ∧ w'.ownsRow w.heap.size 3 1 u (waN t L) (ints (waL t L)) ∧ Below w.heap.size w w' := by
  obtain ⟨A, ca, C, cb, D, cc, rfl, _, _, _⟩ := hv.form
  have hb0 : Below w.heap.size w (w.alloc (.cells #[.slice A t.n ca, .slice C t.m cb, .int .i64 t.c, .slice D t.p cc] 43)) := below_new (Below.refl _ _) _
  have k0 := Blk.new w 43 #[.slice A t.n ca, .slice C t.m cb, .int .i64 t.c, .slice D t.p cc]
  have Hv := Lib.hid (fun W (hb : Below w.heap.size w W) => hv.below' hb hB)
  have Hc := Lib.hid hcp
  have HB0 := Lib.hid hb0
  have K0 := Lib.hid k0
  obtain ⟨a0, a1, a2, a3⟩ := k0.c4
  clear hv hcp hb0 k0
  have P := cfAsked_any _ B t L _ Hc.out (Hv.out _ HB0.out) (Nat.le_trans hB HB0.out.size) hs
  cases b1 : cpB t L with
  | false =>
    have HT := Lib.hid (wa_no b1)
    rw [b1] at P
    have HP := Lib.hid P
    clear P b1
    go_enter Try.func21, Try.ntmps21
    go_wp2_with fail
    refine HP.out.mono ?_
    rintro e w2 ⟨rfl, h2⟩
    have HB1 := Lib.hid (below_on HB0.out h2)
    have K1 := Lib.hid (K0.out.on h2)
    clear h2 a0 a1 a2 a3 HB0 K0
    have HB0 := HB1
    have K0 := K1
    clear HB1 K1
    obtain ⟨a0, a1, a2, a3⟩ := K0.out.c4
    go_wp2_with fail
    go_ret2
    rw [HT.out.1, HT.out.2.1, HT.out.2.2]
    exact ⟨_, rfl, World.ownsRow_nil _ _ _ _, HB0.out⟩
  | true =>
    have hcc := wa_yes b1
    have hci := cp_in b1
    have hok := tr_ok hci.1
    have hn1 := hok.n1
    have hn0 := hok.n0
    have HR := Lib.hid (fun W (hb : Below w.heap.size w W) => cfBest_any _ B t L W (Hv.out W hb) (Nat.le_trans hB hb.size) hok hci.2.1 hci.2.2)
    have hwl := wvP_ok (q := qS (smAll (cfAt t L) t.n)) hn0
    rw [b1] at P
    have HT := Lib.hid hcc
    have HP := Lib.hid P
    have HWL := Lib.hid hwl
    clear P b1 hcc hci hok hwl
    go_enter Try.func21, Try.ntmps21
    go_wp2_with fail
    refine HP.out.mono ?_
    rintro e w2 ⟨rfl, h2⟩
    have HB1 := Lib.hid (below_on HB0.out h2)
    have K1 := Lib.hid (K0.out.on h2)
    clear h2 a0 a1 a2 a3 HB0 K0
    have HB0 := HB1
    have K0 := K1
    clear HB1 K1
    obtain ⟨a0, a1, a2, a3⟩ := K0.out.c4
    go_wp2_with fail
    refine (HR.out _ HB0.out).mono ?_
    rintro e w3 ⟨u, rfl, ho, h3⟩
    have HO := Lib.hid (own_base ho HB0.out.size)
    have HB := Lib.hid (below_on HB0.out h3)
    clear ho h3 a0 a1 a2 a3
    go_wp2_with fail
    go_ret2
    rw [HT.out.1, HT.out.2.1, HT.out.2.2]
    exact ⟨_, rfl, HO.out, HB.out⟩
end Go.Proofs.Ytpikhkdgohapeaa
