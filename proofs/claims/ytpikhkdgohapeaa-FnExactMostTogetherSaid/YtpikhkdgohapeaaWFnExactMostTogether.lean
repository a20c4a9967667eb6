/- The program's MostTogether returns what the reference's returns, for all arguments, and in memory of its own. Without conditions. The walk of the law. -/
import Derived.Test.YtpikhkdgohapeaaTransS
import Derived.Test.YtpikhkdgohapeaaIntS
import Derived.Test.YtpikhkdgohapeaaMostTop
namespace Go.Proofs.Ytpikhkdgohapeaa.fnExactMostTogether
open Go.RowKit

set_option maxRecDepth 100000 in
set_option maxHeartbeats 4000000 in
theorem walk (w : World) (v : Value) (t : TrN) (hr : RdT w w.heap.size v t) (hm : t.n ≤ maxLen ∧ t.m ≤ maxLen ∧ t.p ≤ maxLen) (p0 : Int) (wp0 : (Lit.int .i64 p0).wf = true) :
    Calls Try.prog 8 #[v, .int .i64 p0] w fun e w' => e = .returned (.bool true) ∧ Below w.heap.size w w' := by
  obtain ⟨Ar, ca, Cr, cb, Dr, cc, rfl, _, _, _⟩ := hr.form
  have b0 := below_new (Below.refl w.heap.size w) (.cells #[.slice Ar t.n ca, .slice Cr t.m cb, .int .i64 t.c, .slice Dr t.p cc] 38)
  have k0 := Blk.new w 38 #[.slice Ar t.n ca, .slice Cr t.m cb, .int .i64 t.c, .slice Dr t.p cc]
  have hP := szTransition_any _ _ t _ (hr.below b0) hm.1 hm.2.1 hm.2.2
  have Hr := Lib.hid (fun (W : World) (hb : Below w.heap.size w W) => hr.below hb)
  have B := Lib.hid b0
  have K := Lib.hid k0
  clear hr
  obtain ⟨a0, a1, a2, a3⟩ := k0.c4
  clear k0 b0
  rcases szT_cases t with hz | ⟨hz, hs⟩
  · rw [hz] at hP
    have HP := Lib.hid hP
    clear hP
    go_enter Try.func8, Try.ntmps8
    go_wp2_with fail
    refine (HP.out).mono ?_
    rintro e w1 ⟨rfl, h⟩
    go_wp2_with fail
    go_ret
    exact ⟨rfl, below_on B.out h⟩
  · obtain ⟨rL, erL⟩ : ∃ r, mgL t p0 = r := ⟨_, rfl⟩
    obtain ⟨rN, erN⟩ : ∃ r, mgN t p0 = r := ⟨_, rfl⟩
    obtain ⟨rB, erB⟩ : ∃ r, mgB t p0 = r := ⟨_, rfl⟩
    have hlen : rN ≤ 1000000 ∧ rL = rL := by rw [← erL, ← erN]; exact ⟨(mg_small t p0).1, rfl⟩
    have hS := fun (u : Value) (B : Nat) (W : World) (h0 : CapT u) (h1 : RdT W B u t) (h2 : B ≤ W.heap.size) => specMostTogether_any u B t p0 W h0 h1 h2 hs
    have hI := fun (u : Value) (B : Nat) (W : World) (h0 : CapT u) (h1 : RdT W B u t) (h2 : B ≤ W.heap.size) => MostTogether_any u B t p0 W h0 h1 h2 hs
    rw [erB, erN, erL] at hS hI
    have HS := Lib.hid hS
    have HI := Lib.hid hI
    have Hs := Lib.hid hs
    clear hS hI hs erL erN erB
    have hbb : (rB != rB) = false := by simp
    have Hl := Lib.hid hlen
    clear hlen
    obtain ⟨sz, esz⟩ : ∃ r, szT t = r := ⟨_, rfl⟩
    rw [esz] at hz hP
    have HP := Lib.hid hP
    clear hP esz
    have hz2 : ¬ sz < 0 := by omega
    go_enter Try.func8, Try.ntmps8
    go_wp2_with fail
    refine HP.out.mono ?_
    rintro e w1 ⟨rfl, h⟩
    clear a0 a1 a2 a3
    replace K := Lib.hid (K.out.on h)
    replace B := Lib.hid (below_on B.out h)
    clear h
    obtain ⟨a0, a1, a2, a3⟩ := K.out.c4
    go_wp2_with fail
    refine (toTransition_any _ _ t _ (Hr.out _ B.out) B.out.size Hs.out).mono ?_
    rintro e w2 ⟨u2, rfl, oo, h⟩
    clear a0 a1 a2 a3
    replace K := Lib.hid (K.out.on h)
    have yw2 := h.size
    replace B := Lib.hid (below_on B.out h)
    have q2 := Lib.hid oo
    clear oo
    clear h
    obtain ⟨a0, a1, a2, a3⟩ := K.out.c4
    go_wp2_with fail
    refine (HS.out u2 _ _ q2.out.cap q2.out.rd (Nat.le_refl _)).mono ?_
    rintro e w3 ⟨s3, rfl, oo, h⟩
    replace q2 := Lib.hid (q2.out.below h (Nat.le_refl _))
    clear a0 a1 a2 a3
    replace K := Lib.hid (K.out.on h)
    have yw3 := h.size
    replace B := Lib.hid (below_on B.out h)
    have q3 := Lib.hid (Own.of oo)
    clear oo
    clear h
    obtain ⟨a0, a1, a2, a3⟩ := K.out.c4
    clear q2
    have l3 := K.out.lt
    go_wp2_with fail
    refine (toTransition_any _ _ t _ (Hr.out _ B.out) B.out.size Hs.out).mono ?_
    rintro e w4 ⟨u4, rfl, oo, h⟩
    replace q3 := Lib.hid (q3.out.below h (Nat.le_refl _))
    clear a0 a1 a2 a3
    replace K := Lib.hid (K.out.on h)
    have yw4 := h.size
    replace B := Lib.hid (below_on B.out h)
    have q4 := Lib.hid oo
    clear oo
    clear h
    obtain ⟨a0, a1, a2, a3⟩ := K.out.c4
    obtain ⟨A4, c4a, C4, c4b, D4, c4c, rfl, _, _, _⟩ := q4.out.rd.form
    obtain ⟨wx, ewx⟩ : ∃ wx, w4.alloc (.cells #[.slice A4 t.n c4a, .slice C4 t.m c4b, .int .i64 t.c, .slice D4 t.p c4c] 43) = wx := ⟨_, rfl⟩
    have h : Below w4.heap.size w4 wx := by rw [← ewx]; exact below_new (Below.refl _ _) _
    have KX := Lib.hid (show Blk wx w4.heap.size 43 #[.slice A4 t.n c4a, .slice C4 t.m c4b, .int .i64 t.c, .slice D4 t.p c4c] by rw [← ewx]; exact Blk.new _ _ _)
    replace q3 := Lib.hid (q3.out.below h (Nat.le_refl _))
    replace q4 := Lib.hid (q4.out.below h (Nat.le_refl _))
    clear a0 a1 a2 a3
    replace K := Lib.hid (K.out.on h)
    have ywx := h.size
    replace B := Lib.hid (below_on B.out h)
    have lx := KX.out.lt
    clear h
    obtain ⟨a0, a1, a2, a3⟩ := K.out.c4
    obtain ⟨x0, x1, x2, x3⟩ := KX.out.c4
    go_wp2_with fail
    refine (HI.out _ _ _ q4.out.cap q4.out.rd (Nat.le_refl _)).mono ?_
    rintro e w5 ⟨g5, rfl, oo, h⟩
    replace q3 := Lib.hid (q3.out.below h (Nat.le_refl _))
    replace q4 := Lib.hid (q4.out.below h (Nat.le_refl _))
    clear a0 a1 a2 a3 x0 x1 x2 x3
    replace K := Lib.hid (K.out.on h)
    replace KX := Lib.hid (KX.out.on h)
    have yw5 := h.size
    replace B := Lib.hid (below_on B.out h)
    have q5 := Lib.hid (Own.of oo)
    clear oo
    clear h
    obtain ⟨a0, a1, a2, a3⟩ := K.out.c4
    obtain ⟨x0, x1, x2, x3⟩ := KX.out.c4
    go_wp2_with fail
    refine (eqIntS_same g5 s3 _ _ rL _ q5.out.rd q3.out.rd (Nat.le_refl _) (by have := Hl.out.1; omega)).mono ?_
    rintro e w6 ⟨rfl, h⟩
    replace q3 := Lib.hid (q3.out.below h (Nat.le_refl _))
    replace q4 := Lib.hid (q4.out.below h (Nat.le_refl _))
    replace q5 := Lib.hid (q5.out.below h (Nat.le_refl _))
    clear a0 a1 a2 a3 x0 x1 x2 x3
    replace K := Lib.hid (K.out.on h)
    replace KX := Lib.hid (KX.out.on h)
    have yw6 := h.size
    replace B := Lib.hid (below_on B.out h)
    clear h
    obtain ⟨a0, a1, a2, a3⟩ := K.out.c4
    obtain ⟨x0, x1, x2, x3⟩ := KX.out.c4
    have P7 := Lib.hid (fun (W : World) (hb : Below w6.heap.size w6 W) => toTransition_any _ _ t W (Hr.out _ (below_on B.out hb)) (below_on B.out hb).size Hs.out)
    have P8 := Lib.hid (fun (W : World) (hb : Below w6.heap.size w6 W) (u : Value) (lo : Nat) (ho : OwnT W lo W.heap.size u t) => eqTransition_same _ u _ t W ((q4.out.below hb (Nat.le_refl _)).rd) ho.rd (Nat.le_refl _) Hs.out)
    go_upto_region 10 with (fail)
    go_cut [49] (fun s wc => s = .bool false ∧ Below w6.heap.size w6 wc)
    case first =>
      go_region_held3 (fun W => W.cell? ⟨w.heap.size, 0, none⟩ = some (.slice Ar t.n ca) ∧ W.cell? ⟨w.heap.size, 1, none⟩ = some (.slice Cr t.m cb) ∧ W.cell? ⟨w.heap.size, 2, none⟩ = some (.int .i64 t.c) ∧ W.cell? ⟨w.heap.size, 3, none⟩ = some (.slice Dr t.p cc) ∧ W.cell? ⟨w4.heap.size, 0, none⟩ = some (.slice A4 t.n c4a) ∧ W.cell? ⟨w4.heap.size, 1, none⟩ = some (.slice C4 t.m c4b) ∧ W.cell? ⟨w4.heap.size, 2, none⟩ = some (.int .i64 t.c) ∧ W.cell? ⟨w4.heap.size, 3, none⟩ = some (.slice D4 t.p c4c) ∧ Below w6.heap.size w6 W)
        (first | exact ⟨a0, a1, a2, a3, x0, x1, x2, x3, (Below.refl _ _).drew⟩ | (go_split_ands; exact ⟨cell_on hb2 (by assumption), cell_on hb2 (by assumption), cell_on hb2 (by assumption), cell_on hb2 (by assumption), cell_on hb2 (by assumption), cell_on hb2 (by assumption), cell_on hb2 (by assumption), cell_on hb2 (by assumption), below_on (by assumption) hb2⟩) | go_keep)
        (first | (go_at_call 16; refine (P7.out _ (by go_split_ands; assumption)).mono ?_; rintro e w2 ⟨u2, rfl, ho2, hb2⟩) | (go_at_call 18; refine (P8.out _ (by go_split_ands; assumption) _ _ (by assumption)).mono ?_; rintro e w2 ⟨rfl, hb2⟩))
      all_goals
        go_split_ands
        go_wp2_with fail
        go_meet
        exact ⟨rfl, by assumption⟩
    case rest =>
      obtain ⟨rfl, h⟩ := hcut
      replace q3 := Lib.hid (q3.out.below h (Nat.le_refl _))
      replace q4 := Lib.hid (q4.out.below h (Nat.le_refl _))
      replace q5 := Lib.hid (q5.out.below h (Nat.le_refl _))
      clear a0 a1 a2 a3 x0 x1 x2 x3
      replace K := Lib.hid (K.out.on h)
      replace KX := Lib.hid (KX.out.on h)
      have yw8 := h.size
      replace B := Lib.hid (below_on B.out h)
      clear h P7 P8
      obtain ⟨a0, a1, a2, a3⟩ := K.out.c4
      obtain ⟨x0, x1, x2, x3⟩ := KX.out.c4
      go_wp2_with fail
      refine (markTransition_any _ _ _ t _ q4.out Hs.out).mono ?_
      rintro e w9 ⟨⟨k9, hk9, rfl⟩, o9⟩
      replace q3 := Lib.hid (q3.out.only o9 (.inl (Nat.le_refl _)))
      replace q5 := Lib.hid (q5.out.only o9 (.inr (by omega)))
      clear a0 a1 a2 a3 x0 x1 x2 x3
      replace K := Lib.hid (K.out.only o9 (.inl l3))
      have y9 := o9.size
      replace B := Lib.hid (B.out.trans (o9.below (B := w.heap.size) (Nat.le_of_lt l3) B.out.size))
      have hk9' : ¬ k9 < 0 := by omega
      clear q4 o9 KX
      obtain ⟨a0, a1, a2, a3⟩ := K.out.c4
      go_wp2_with fail
      refine (eqIntS_same g5 s3 _ _ rL _ q5.out.rd q3.out.rd (Nat.le_refl _) (by have := Hl.out.1; omega)).mono ?_
      rintro e w10 ⟨rfl, h⟩
      replace q3 := Lib.hid (q3.out.below h (Nat.le_refl _))
      replace q5 := Lib.hid (q5.out.below h (Nat.le_refl _))
      clear a0 a1 a2 a3
      replace K := Lib.hid (K.out.on h)
      have yw10 := h.size
      replace B := Lib.hid (below_on B.out h)
      clear h
      obtain ⟨a0, a1, a2, a3⟩ := K.out.c4
      go_wp2_with fail
      refine (markIntS_any g5 _ _ _ 1 _ q5.out.1 (by omega) (by omega) (by have := Hl.out.1; omega)).mono ?_
      rintro e w11 ⟨rfl, m11, o11⟩
      have qm := Lib.hid (q5.out.after m11)
      replace o11 := Only.of_grown o11 (fun k hk => ⟨(q5.out.1.lt k hk).1, q5.out.2 k hk⟩)
      replace q3 := Lib.hid (q3.out.only o11 (.inl (by omega)))
      clear a0 a1 a2 a3
      replace K := Lib.hid (K.out.only o11 (.inl (by omega)))
      replace B := Lib.hid (B.out.trans (o11.below (B := w.heap.size) (by omega) B.out.size))
      clear o11 m11 q5
      obtain ⟨a0, a1, a2, a3⟩ := K.out.c4
      go_wp2_with fail
      refine (heldIntS_marks g5 _ _ 1 _ qm.out.rd (by omega) (by omega) (by have := Hl.out.1; omega)).mono ?_
      rintro e w12 ⟨rfl, rfl⟩
      go_wp2_with fail
      refine (toTransition_any _ _ t _ (Hr.out _ B.out) B.out.size Hs.out).mono ?_
      rintro e w13 ⟨u13, rfl, oo, h⟩
      replace q3 := Lib.hid (q3.out.below h (Nat.le_refl _))
      replace qm := Lib.hid (qm.out.below h (Nat.le_refl _))
      clear a0 a1 a2 a3
      replace K := Lib.hid (K.out.on h)
      have yw13 := h.size
      replace B := Lib.hid (below_on B.out h)
      have q13 := Lib.hid oo
      clear oo
      clear h
      obtain ⟨a0, a1, a2, a3⟩ := K.out.c4
      go_wp2_with fail
      refine (HI.out u13 _ _ q13.out.cap q13.out.rd (Nat.le_refl _)).mono ?_
      rintro e w14 ⟨h14, rfl, oo, h⟩
      replace q3 := Lib.hid (q3.out.below h (Nat.le_refl _))
      replace qm := Lib.hid (qm.out.below h (Nat.le_refl _))
      replace q13 := Lib.hid (q13.out.below h (Nat.le_refl _))
      clear a0 a1 a2 a3
      replace K := Lib.hid (K.out.on h)
      have yw14 := h.size
      replace B := Lib.hid (below_on B.out h)
      have q14 := Lib.hid (Own.of oo)
      clear oo
      clear h
      obtain ⟨a0, a1, a2, a3⟩ := K.out.c4
      go_wp2_with fail
      refine (eqIntS_same h14 s3 _ _ rL _ q14.out.rd q3.out.rd (Nat.le_refl _) (by have := Hl.out.1; omega)).mono ?_
      rintro e w15 ⟨rfl, h⟩
      replace q3 := Lib.hid (q3.out.below h (Nat.le_refl _))
      replace qm := Lib.hid (qm.out.below h (Nat.le_refl _))
      replace q14 := Lib.hid (q14.out.below h (Nat.le_refl _))
      clear a0 a1 a2 a3
      replace K := Lib.hid (K.out.on h)
      have yw15 := h.size
      replace B := Lib.hid (below_on B.out h)
      clear h
      obtain ⟨a0, a1, a2, a3⟩ := K.out.c4
      go_wp2_with fail
      refine (heldIntS_marks g5 _ _ 1 _ qm.out.rd (by omega) (by omega) (by have := Hl.out.1; omega)).mono ?_
      rintro e w16 ⟨rfl, rfl⟩
      go_wp2_with fail
      go_ret
      exact ⟨rfl, B.out⟩
end Go.Proofs.Ytpikhkdgohapeaa.fnExactMostTogether
