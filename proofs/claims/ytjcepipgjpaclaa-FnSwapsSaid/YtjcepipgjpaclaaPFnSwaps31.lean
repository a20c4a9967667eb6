/- Contracts of SwapPlaces on both sides. Condition: the transition's slices are owned. -/
import Derived.Test.YtjcepipgjpaclaaPFnSwaps30
namespace Go.Proofs.Ytjcepipgjpaclaa
open Go.RowKit

/-- Is i a performer of a good transition? -/
def hpB (t : TrN) (i : Int) : Bool := trB t && inB i 0 ((t.n : Int) - 1)
def spB (t : TrN) (i k : Int) : Bool := hpB t i && hpB t k
def spT (t : TrN) (i k : Int) : TrN := if spB t i k = true then swT t i.toNat k.toNat else zeroT
theorem sp_yes {t : TrN} {i k : Int} (h : spB t i k = true) : trB t = true ∧ (0 ≤ i ∧ i < t.n) ∧ (0 ≤ k ∧ k < t.n) := by
  simp only [spB, hpB, Bool.and_eq_true] at h
  have h1 := inB_yes h.1.2
  have h2 := inB_yes h.2.2
  exact ⟨h.1.1, by omega, by omega⟩
set_option maxHeartbeats 2000000 in
theorem isPerformer_any (v : Value) (B : Nat) (t : TrN) (i : Int) (w : World) (hcp : CapT v) (hv : RdT w B v t) (hB : B ≤ w.heap.size) (hs : t.small) :
    Calls Try.prog 112 #[v, .int .i64 i] w fun e w' => e = .returned (.bool (hpB t i)) ∧ Below w.heap.size w w' := by
  have P := Lib.hid (fun W (hb : Below w.heap.size w W) => IsTransition_any v B t W hcp (hv.below' hb hB) (Nat.le_trans hB hb.size) hs)
  obtain ⟨A, ca, C, cb, D, cc, rfl, -, -, -⟩ := hv.form
  have K0 := Lib.hid (Blk.new w 27 #[.slice A t.n ca, .slice C t.m cb, .int .i64 t.c, .slice D t.p cc])
  have HB0 := Lib.hid (below_new (Below.refl w.heap.size w) (.cells #[.slice A t.n ca, .slice C t.m cb, .int .i64 t.c, .slice D t.p cc] 27))
  have hdef : hpB t i = (trB t && inB i 0 ((t.n : Int) - 1)) := rfl
  have i1 := IntWalk.i64_in ((t.n : Int) - 1) (by have := hs.1; omega)
  obtain ⟨a0, a1, a2, a3⟩ := K0.out.c4
  clear hv hcp hs
  cases hg : trB t with
  | false =>
    have HD := Lib.hid (show hpB t i = false by rw [hdef, hg]; rfl)
    have HG := Lib.hid hg
    clear hg hdef
    go_enter Try.func112, Try.ntmps112
    go_wp2_with fail
    refine (P.out _ HB0.out).mono ?_
    rintro e w2 ⟨rfl, hb⟩
    rw [HG.out]
    have HB1 := Lib.hid (below_on HB0.out hb)
    clear hb a0 a1 a2 a3 K0 HB0
    go_wp2_with fail
    go_ret
    exact ⟨by rw [HD.out]; rfl, HB1.out⟩
  | true =>
    have HD := Lib.hid (show hpB t i = inB i 0 ((t.n : Int) - 1) by rw [hdef, hg]; rfl)
    have HG := Lib.hid hg
    clear hg hdef
    go_enter Try.func112, Try.ntmps112
    go_wp2_with fail
    refine (P.out _ HB0.out).mono ?_
    rintro e w2 ⟨rfl, hb⟩
    rw [HG.out]
    have HB1 := Lib.hid (below_on HB0.out hb)
    have K1 := Lib.hid (K0.out.on hb)
    clear hb a0 a1 a2 a3 K0 HB0
    obtain ⟨a0, a1, a2, a3⟩ := K1.out.c4
    go_wp2_with fail
    refine (within_any i 0 ((t.n : Int) - 1) _).mono ?_
    rintro e w3 ⟨rfl, rfl⟩
    go_wp2_with fail
    go_ret
    exact ⟨by rw [HD.out]; rfl, HB1.out⟩
set_option maxHeartbeats 2000000 in
theorem asHas_any (v : Value) (B : Nat) (t : TrN) (i : Int) (w : World) (hcp : CapT v) (hv : RdT w B v t) (hB : B ≤ w.heap.size) (hs : t.small) :
    Calls Try.prog 119 #[v, .int .i64 i] w fun e w' => e = .returned (.bool (hpB t i)) ∧ Below w.heap.size w w' := by
  have P := Lib.hid (fun W (hb : Below w.heap.size w W) => asGood_any v B t W hcp (hv.below' hb hB) (Nat.le_trans hB hb.size) hs)
  obtain ⟨A, ca, C, cb, D, cc, rfl, -, -, -⟩ := hv.form
  have K0 := Lib.hid (Blk.new w 27 #[.slice A t.n ca, .slice C t.m cb, .int .i64 t.c, .slice D t.p cc])
  have HB0 := Lib.hid (below_new (Below.refl w.heap.size w) (.cells #[.slice A t.n ca, .slice C t.m cb, .int .i64 t.c, .slice D t.p cc] 27))
  have hdef : hpB t i = (trB t && inB i 0 ((t.n : Int) - 1)) := rfl
  have i1 := IntWalk.i64_in ((t.n : Int) - 1) (by have := hs.1; omega)
  obtain ⟨a0, a1, a2, a3⟩ := K0.out.c4
  clear hv hcp hs
  cases hg : trB t with
  | false =>
    have HD := Lib.hid (show hpB t i = false by rw [hdef, hg]; rfl)
    have HG := Lib.hid hg
    clear hg hdef
    go_enter Try.func119, Try.ntmps119
    go_wp2_with fail
    refine (P.out _ HB0.out).mono ?_
    rintro e w2 ⟨rfl, hb⟩
    rw [HG.out]
    have HB1 := Lib.hid (below_on HB0.out hb)
    clear hb a0 a1 a2 a3 K0 HB0
    go_wp2_with fail
    go_ret
    exact ⟨by rw [HD.out]; rfl, HB1.out⟩
  | true =>
    have HD := Lib.hid (show hpB t i = inB i 0 ((t.n : Int) - 1) by rw [hdef, hg]; rfl)
    have HG := Lib.hid hg
    clear hg hdef
    go_enter Try.func119, Try.ntmps119
    go_wp2_with fail
    refine (P.out _ HB0.out).mono ?_
    rintro e w2 ⟨rfl, hb⟩
    rw [HG.out]
    have HB1 := Lib.hid (below_on HB0.out hb)
    have K1 := Lib.hid (K0.out.on hb)
    clear hb a0 a1 a2 a3 K0 HB0
    obtain ⟨a0, a1, a2, a3⟩ := K1.out.c4
    go_wp2_with fail
    refine (l1In_any i 0 ((t.n : Int) - 1) _).mono ?_
    rintro e w3 ⟨rfl, rfl⟩
    go_wp2_with fail
    go_ret
    exact ⟨by rw [HD.out]; rfl, HB1.out⟩
set_option maxRecDepth 100000 in
set_option maxHeartbeats 4000000 in
theorem SwapPlaces_any (v : Value) (lo : Nat) (t : TrN) (i k : Int) (w : World) (hv : OwnA w lo v t) (hs : t.small) :
    Calls Try.prog 60 #[v, .int .i64 i, .int .i64 k] w fun e w' => ∃ r, e = .returned (.tuple #[r, .bool (spB t i k)]) ∧ OwnA w' w.heap.size r (spT t i k) ∧ Below w.heap.size w w' := by
  have P := Lib.hid (fun j W (hb : Below w.heap.size w W) => isPerformer_any v W.heap.size t j W hv.cap ((hv.below hb (Nat.le_refl _)).rd) (Nat.le_refl _) hs)
  have Q := Lib.hid (fun (a b : Nat) (hok : TrOk t) (ha : a < t.n) (hb : b < t.n) W (h : Below w.heap.size w W) => swapPlaces_any v lo t a b W (hv.below h (Nat.le_refl _)) hok ha hb)
  obtain ⟨A, ca, C, cb, D, cc, rfl, -, -, -⟩ := hv.form
  have K0 := Lib.hid ((Blk.new w 27 #[.slice A t.n ca, .slice C t.m cb, .int .i64 t.c, .slice D t.p cc]).alloc (.cells #[.slice none 0 0, .slice none 0 0, .int .i64 0, .slice none 0 0] 27))
  have KR := Lib.hid (Blk.new2 w (.cells #[.slice A t.n ca, .slice C t.m cb, .int .i64 t.c, .slice D t.p cc] 27) 27 #[.slice none 0 0, .slice none 0 0, .int .i64 0, .slice none 0 0])
  have HB0 := Lib.hid (below_new (below_new (Below.refl w.heap.size w) (.cells #[.slice A t.n ca, .slice C t.m cb, .int .i64 t.c, .slice D t.p cc] 27)) (.cells #[.slice none 0 0, .slice none 0 0, .int .i64 0, .slice none 0 0] 27))
  have hdef : spB t i k = (hpB t i && hpB t k) := rfl
  have hyes := sp_yes (t := t) (i := i) (k := k)
  obtain ⟨a0, a1, a2, a3⟩ := K0.out.c4
  clear hv hs
  cases hi : hpB t i with
  | false =>
    have hf : spB t i k = false := by rw [hdef, hi]; rfl
    have HD := Lib.hid (show spT t i k = zeroT ∧ spB t i k = false from ⟨by simp [spT, hf], hf⟩)
    have HI := Lib.hid hi
    clear hi hdef hyes hf
    go_enter Try.func60, Try.ntmps60
    go_wp2_with fail
    refine (P.out i _ HB0.out).mono ?_
    rintro e w2 ⟨rfl, hb⟩
    rw [HI.out]
    replace HB0 := Lib.hid (below_on HB0.out hb)
    replace KR := Lib.hid (KR.out.on hb)
    clear hb a0 a1 a2 a3
    obtain ⟨r0, r1, r2, r3⟩ := KR.out.c4
    have f0 := KR.out.frozen 0
    have f1 := KR.out.frozen 1
    have f2 := KR.out.frozen 2
    have f3 := KR.out.frozen 3
    have KS := Lib.hid (blk_set4 KR.out (.slice none 0 0) (.slice none 0 0) (.int .i64 0) (.slice none 0 0))
    have HB9 := Lib.hid (below_set4 HB0.out (show w.heap.size ≤ w.heap.size + 1 by omega) (.slice none 0 0) (.slice none 0 0) (.int .i64 0) (.slice none 0 0))
    go_wp2_with fail
    obtain ⟨m0, m1, m2, m3⟩ := KS.out.c4
    exact bodyPost_ret (v := .tuple #[.agg #[.slice none 0 0, .slice none 0 0, .int .i64 0, .slice none 0 0], .bool false]) (by simp [results, Try.results60, go_sem, m0, m1, m2, m3]) rfl
      ⟨_, by rw [HD.out.2], by rw [HD.out.1]; exact OwnA.zero _ _, HB9.out⟩
  | true =>
    cases hk : hpB t k with
    | false =>
      have hf : spB t i k = false := by rw [hdef, hi, hk]; rfl
      have HD := Lib.hid (show spT t i k = zeroT ∧ spB t i k = false from ⟨by simp [spT, hf], hf⟩)
      have HI := Lib.hid hi
      have HK := Lib.hid hk
      clear hi hk hdef hyes hf
      go_enter Try.func60, Try.ntmps60
      go_wp2_with fail
      refine (P.out i _ HB0.out).mono ?_
      rintro e w2 ⟨rfl, hb⟩
      rw [HI.out]
      replace HB0 := Lib.hid (below_on HB0.out hb)
      replace KR := Lib.hid (KR.out.on hb)
      replace K0 := Lib.hid (K0.out.on hb)
      clear hb a0 a1 a2 a3
      obtain ⟨a0, a1, a2, a3⟩ := K0.out.c4
      go_wp2_with fail
      refine (P.out k _ HB0.out).mono ?_
      rintro e w3 ⟨rfl, hb⟩
      rw [HK.out]
      replace HB0 := Lib.hid (below_on HB0.out hb)
      replace KR := Lib.hid (KR.out.on hb)
      clear hb a0 a1 a2 a3
      obtain ⟨r0, r1, r2, r3⟩ := KR.out.c4
      have f0 := KR.out.frozen 0
      have f1 := KR.out.frozen 1
      have f2 := KR.out.frozen 2
      have f3 := KR.out.frozen 3
      have KS := Lib.hid (blk_set4 KR.out (.slice none 0 0) (.slice none 0 0) (.int .i64 0) (.slice none 0 0))
      have HB9 := Lib.hid (below_set4 HB0.out (show w.heap.size ≤ w.heap.size + 1 by omega) (.slice none 0 0) (.slice none 0 0) (.int .i64 0) (.slice none 0 0))
      go_wp2_with fail
      obtain ⟨m0, m1, m2, m3⟩ := KS.out.c4
      exact bodyPost_ret (v := .tuple #[.agg #[.slice none 0 0, .slice none 0 0, .int .i64 0, .slice none 0 0], .bool false]) (by simp [results, Try.results60, go_sem, m0, m1, m2, m3]) rfl
        ⟨_, by rw [HD.out.2], by rw [HD.out.1]; exact OwnA.zero _ _, HB9.out⟩
    | true =>
      have hf : spB t i k = true := by rw [hdef, hi, hk]; rfl
      obtain ⟨htr, ⟨x0, x1⟩, y0, y1⟩ := hyes hf
      have HD := Lib.hid (show spT t i k = swT t i.toNat k.toNat ∧ spB t i k = true from ⟨by simp [spT, hf], hf⟩)
      have HI := Lib.hid hi
      have HK := Lib.hid hk
      obtain ⟨a, rfl⟩ := Int.eq_ofNat_of_zero_le x0
      obtain ⟨b, rfl⟩ := Int.eq_ofNat_of_zero_le y0
      have HQ := Lib.hid (Q.out a b (tr_ok htr) (by omega) (by omega))
      clear hi hk hdef hyes hf htr Q
      go_enter Try.func60, Try.ntmps60
      go_wp2_with fail
      refine (P.out (a : Int) _ HB0.out).mono ?_
      rintro e w2 ⟨rfl, hb⟩
      rw [HI.out]
      replace HB0 := Lib.hid (below_on HB0.out hb)
      replace KR := Lib.hid (KR.out.on hb)
      replace K0 := Lib.hid (K0.out.on hb)
      clear hb a0 a1 a2 a3
      obtain ⟨a0, a1, a2, a3⟩ := K0.out.c4
      go_wp2_with fail
      refine (P.out (b : Int) _ HB0.out).mono ?_
      rintro e w3 ⟨rfl, hb⟩
      rw [HK.out]
      replace HB0 := Lib.hid (below_on HB0.out hb)
      replace KR := Lib.hid (KR.out.on hb)
      replace K0 := Lib.hid (K0.out.on hb)
      clear hb a0 a1 a2 a3
      obtain ⟨a0, a1, a2, a3⟩ := K0.out.c4
      go_wp2_with fail
      refine (HQ.out _ HB0.out).mono ?_
      rintro e w4 ⟨r, rfl, oa, hb⟩
      have hsz := HB0.out.size
      replace HB0 := Lib.hid (below_on HB0.out hb)
      replace KR := Lib.hid (KR.out.on hb)
      obtain ⟨T, eT⟩ : ∃ T, swT t a b = T := ⟨_, rfl⟩
      rw [eT] at oa
      obtain ⟨Ar, cr, Dr, dr, Er, er, rfl, o1, o2, o3⟩ := (oa.base hsz).form
      have ET := Lib.hid (show spT t (a : Int) (b : Int) = T by rw [HD.out.1]; exact eT)
      clear hb a0 a1 a2 a3 oa eT hsz
      obtain ⟨r0, r1, r2, r3⟩ := KR.out.c4
      have f0 := KR.out.frozen 0
      have f1 := KR.out.frozen 1
      have f2 := KR.out.frozen 2
      have f3 := KR.out.frozen 3
      have Q1 := Lib.hid (own_set4 o1 KR.out (by decide) (.slice Ar T.n cr) (.slice Dr T.m dr) (.int .i64 T.c) (.slice Er T.p er))
      have Q2 := Lib.hid (own_set4 o2 KR.out (by decide) (.slice Ar T.n cr) (.slice Dr T.m dr) (.int .i64 T.c) (.slice Er T.p er))
      have Q3 := Lib.hid (own_set4 o3 KR.out (by decide) (.slice Ar T.n cr) (.slice Dr T.m dr) (.int .i64 T.c) (.slice Er T.p er))
      have HB9 := Lib.hid (below_set4 HB0.out (show w.heap.size ≤ w.heap.size + 1 by omega) (.slice Ar T.n cr) (.slice Dr T.m dr) (.int .i64 T.c) (.slice Er T.p er))
      have KS := Lib.hid (blk_set4 KR.out (.slice Ar T.n cr) (.slice Dr T.m dr) (.int .i64 T.c) (.slice Er T.p er))
      clear o1 o2 o3
      go_wp2_with fail
      obtain ⟨m0, m1, m2, m3⟩ := KS.out.c4
      exact bodyPost_ret (v := .tuple #[.agg #[.slice Ar T.n cr, .slice Dr T.m dr, .int .i64 T.c, .slice Er T.p er], .bool true]) (by simp [results, Try.results60, go_sem, m0, m1, m2, m3]) rfl
        ⟨_, by rw [HD.out.2], by rw [ET.out]; exact ⟨_, _, _, rfl, Q1.out, Q2.out, Q3.out⟩, HB9.out⟩
set_option maxRecDepth 100000 in
set_option maxHeartbeats 4000000 in
theorem specSwapPlaces_any (v : Value) (lo : Nat) (t : TrN) (i k : Int) (w : World) (hv : OwnA w lo v t) (hs : t.small) :
    Calls Try.prog 66 #[v, .int .i64 i, .int .i64 k] w fun e w' => ∃ r, e = .returned (.tuple #[r, .bool (spB t i k)]) ∧ OwnA w' w.heap.size r (spT t i k) ∧ Below w.heap.size w w' := by
  have P := Lib.hid (fun j W (hb : Below w.heap.size w W) => asHas_any v W.heap.size t j W hv.cap ((hv.below hb (Nat.le_refl _)).rd) (Nat.le_refl _) hs)
  have Q := Lib.hid (fun (a b : Nat) (hok : TrOk t) (ha : a < t.n) (hb : b < t.n) W (h : Below w.heap.size w W) => asSwap_any v lo t a b W (hv.below h (Nat.le_refl _)) hok ha hb)
  obtain ⟨A, ca, C, cb, D, cc, rfl, -, -, -⟩ := hv.form
  have K0 := Lib.hid ((Blk.new w 27 #[.slice A t.n ca, .slice C t.m cb, .int .i64 t.c, .slice D t.p cc]).alloc (.cells #[.slice none 0 0, .slice none 0 0, .int .i64 0, .slice none 0 0] 27))
  have KR := Lib.hid (Blk.new2 w (.cells #[.slice A t.n ca, .slice C t.m cb, .int .i64 t.c, .slice D t.p cc] 27) 27 #[.slice none 0 0, .slice none 0 0, .int .i64 0, .slice none 0 0])
  have HB0 := Lib.hid (below_new (below_new (Below.refl w.heap.size w) (.cells #[.slice A t.n ca, .slice C t.m cb, .int .i64 t.c, .slice D t.p cc] 27)) (.cells #[.slice none 0 0, .slice none 0 0, .int .i64 0, .slice none 0 0] 27))
  have hdef : spB t i k = (hpB t i && hpB t k) := rfl
  have hyes := sp_yes (t := t) (i := i) (k := k)
  obtain ⟨a0, a1, a2, a3⟩ := K0.out.c4
  clear hv hs
  cases hi : hpB t i with
  | false =>
    have hf : spB t i k = false := by rw [hdef, hi]; rfl
    have HD := Lib.hid (show spT t i k = zeroT ∧ spB t i k = false from ⟨by simp [spT, hf], hf⟩)
    have HI := Lib.hid hi
    clear hi hdef hyes hf
    go_enter Try.func66, Try.ntmps66
    go_wp2_with fail
    refine (P.out i _ HB0.out).mono ?_
    rintro e w2 ⟨rfl, hb⟩
    rw [HI.out]
    replace HB0 := Lib.hid (below_on HB0.out hb)
    replace KR := Lib.hid (KR.out.on hb)
    clear hb a0 a1 a2 a3
    obtain ⟨r0, r1, r2, r3⟩ := KR.out.c4
    have f0 := KR.out.frozen 0
    have f1 := KR.out.frozen 1
    have f2 := KR.out.frozen 2
    have f3 := KR.out.frozen 3
    have KS := Lib.hid (blk_set4 KR.out (.slice none 0 0) (.slice none 0 0) (.int .i64 0) (.slice none 0 0))
    have HB9 := Lib.hid (below_set4 HB0.out (show w.heap.size ≤ w.heap.size + 1 by omega) (.slice none 0 0) (.slice none 0 0) (.int .i64 0) (.slice none 0 0))
    go_wp2_with fail
    obtain ⟨m0, m1, m2, m3⟩ := KS.out.c4
    exact bodyPost_ret (v := .tuple #[.agg #[.slice none 0 0, .slice none 0 0, .int .i64 0, .slice none 0 0], .bool false]) (by simp [results, Try.results66, go_sem, m0, m1, m2, m3]) rfl
      ⟨_, by rw [HD.out.2], by rw [HD.out.1]; exact OwnA.zero _ _, HB9.out⟩
  | true =>
    cases hk : hpB t k with
    | false =>
      have hf : spB t i k = false := by rw [hdef, hi, hk]; rfl
      have HD := Lib.hid (show spT t i k = zeroT ∧ spB t i k = false from ⟨by simp [spT, hf], hf⟩)
      have HI := Lib.hid hi
      have HK := Lib.hid hk
      clear hi hk hdef hyes hf
      go_enter Try.func66, Try.ntmps66
      go_wp2_with fail
      refine (P.out i _ HB0.out).mono ?_
      rintro e w2 ⟨rfl, hb⟩
      rw [HI.out]
      replace HB0 := Lib.hid (below_on HB0.out hb)
      replace KR := Lib.hid (KR.out.on hb)
      replace K0 := Lib.hid (K0.out.on hb)
      clear hb a0 a1 a2 a3
      obtain ⟨a0, a1, a2, a3⟩ := K0.out.c4
      go_wp2_with fail
      refine (P.out k _ HB0.out).mono ?_
      rintro e w3 ⟨rfl, hb⟩
      rw [HK.out]
      replace HB0 := Lib.hid (below_on HB0.out hb)
      replace KR := Lib.hid (KR.out.on hb)
      clear hb a0 a1 a2 a3
      obtain ⟨r0, r1, r2, r3⟩ := KR.out.c4
      have f0 := KR.out.frozen 0
      have f1 := KR.out.frozen 1
      have f2 := KR.out.frozen 2
      have f3 := KR.out.frozen 3
      have KS := Lib.hid (blk_set4 KR.out (.slice none 0 0) (.slice none 0 0) (.int .i64 0) (.slice none 0 0))
      have HB9 := Lib.hid (below_set4 HB0.out (show w.heap.size ≤ w.heap.size + 1 by omega) (.slice none 0 0) (.slice none 0 0) (.int .i64 0) (.slice none 0 0))
      go_wp2_with fail
      obtain ⟨m0, m1, m2, m3⟩ := KS.out.c4
      exact bodyPost_ret (v := .tuple #[.agg #[.slice none 0 0, .slice none 0 0, .int .i64 0, .slice none 0 0], .bool false]) (by simp [results, Try.results66, go_sem, m0, m1, m2, m3]) rfl
        ⟨_, by rw [HD.out.2], by rw [HD.out.1]; exact OwnA.zero _ _, HB9.out⟩
    | true =>
      have hf : spB t i k = true := by rw [hdef, hi, hk]; rfl
      obtain ⟨htr, ⟨x0, x1⟩, y0, y1⟩ := hyes hf
      have HD := Lib.hid (show spT t i k = swT t i.toNat k.toNat ∧ spB t i k = true from ⟨by simp [spT, hf], hf⟩)
      have HI := Lib.hid hi
      have HK := Lib.hid hk
      obtain ⟨a, rfl⟩ := Int.eq_ofNat_of_zero_le x0
      obtain ⟨b, rfl⟩ := Int.eq_ofNat_of_zero_le y0
      have HQ := Lib.hid (Q.out a b (tr_ok htr) (by omega) (by omega))
      clear hi hk hdef hyes hf htr Q
      go_enter Try.func66, Try.ntmps66
      go_wp2_with fail
      refine (P.out (a : Int) _ HB0.out).mono ?_
      rintro e w2 ⟨rfl, hb⟩
      rw [HI.out]
      replace HB0 := Lib.hid (below_on HB0.out hb)
      replace KR := Lib.hid (KR.out.on hb)
      replace K0 := Lib.hid (K0.out.on hb)
      clear hb a0 a1 a2 a3
      obtain ⟨a0, a1, a2, a3⟩ := K0.out.c4
      go_wp2_with fail
      refine (P.out (b : Int) _ HB0.out).mono ?_
      rintro e w3 ⟨rfl, hb⟩
      rw [HK.out]
      replace HB0 := Lib.hid (below_on HB0.out hb)
      replace KR := Lib.hid (KR.out.on hb)
      replace K0 := Lib.hid (K0.out.on hb)
      clear hb a0 a1 a2 a3
      obtain ⟨a0, a1, a2, a3⟩ := K0.out.c4
      go_wp2_with fail
      refine (HQ.out _ HB0.out).mono ?_
      rintro e w4 ⟨r, rfl, oa, hb⟩
      have hsz := HB0.out.size
      replace HB0 := Lib.hid (below_on HB0.out hb)
      replace KR := Lib.hid (KR.out.on hb)
      obtain ⟨T, eT⟩ : ∃ T, swT t a b = T := ⟨_, rfl⟩
      rw [eT] at oa
      obtain ⟨Ar, cr, Dr, dr, Er, er, rfl, o1, o2, o3⟩ := (oa.base hsz).form
      have ET := Lib.hid (show spT t (a : Int) (b : Int) = T by rw [HD.out.1]; exact eT)
      clear hb a0 a1 a2 a3 oa eT hsz
      obtain ⟨r0, r1, r2, r3⟩ := KR.out.c4
      have f0 := KR.out.frozen 0
      have f1 := KR.out.frozen 1
      have f2 := KR.out.frozen 2
      have f3 := KR.out.frozen 3
      have Q1 := Lib.hid (own_set4 o1 KR.out (by decide) (.slice Ar T.n cr) (.slice Dr T.m dr) (.int .i64 T.c) (.slice Er T.p er))
      have Q2 := Lib.hid (own_set4 o2 KR.out (by decide) (.slice Ar T.n cr) (.slice Dr T.m dr) (.int .i64 T.c) (.slice Er T.p er))
      have Q3 := Lib.hid (own_set4 o3 KR.out (by decide) (.slice Ar T.n cr) (.slice Dr T.m dr) (.int .i64 T.c) (.slice Er T.p er))
      have HB9 := Lib.hid (below_set4 HB0.out (show w.heap.size ≤ w.heap.size + 1 by omega) (.slice Ar T.n cr) (.slice Dr T.m dr) (.int .i64 T.c) (.slice Er T.p er))
      have KS := Lib.hid (blk_set4 KR.out (.slice Ar T.n cr) (.slice Dr T.m dr) (.int .i64 T.c) (.slice Er T.p er))
      clear o1 o2 o3
      go_wp2_with fail
      obtain ⟨m0, m1, m2, m3⟩ := KS.out.c4
      exact bodyPost_ret (v := .tuple #[.agg #[.slice Ar T.n cr, .slice Dr T.m dr, .int .i64 T.c, .slice Er T.p er], .bool true]) (by simp [results, Try.results66, go_sem, m0, m1, m2, m3]) rfl
        ⟨_, by rw [HD.out.2], by rw [ET.out]; exact ⟨_, _, _, rfl, Q1.out, Q2.out, Q3.out⟩, HB9.out⟩
end Go.Proofs.Ytjcepipgjpaclaa
