/- Contracts of the two GreatestLeast. Conditions: the transition's slices can be read, and are short. -/
import Derived.Test.YtmklinmlliabaaaConf
namespace Go.Proofs.Ytmklinmlliabaaa
open Go.RowKit

theorem gl_at {t : TrN} {l : Nat} (h : (prTo (cfAt t (l : Int)) t.n t.n).length = 0) : glAt t l = true := by simp only [glAt, h]; rfl
theorem gl_not {t : TrN} {l : Nat} (h : (prTo (cfAt t (l : Int)) t.n t.n).length ≠ 0) : glAt t l = false := by simpa [glAt] using h
theorem down_yes {t : TrN} {l : Nat} (h0 : 0 < l) (h : glAt t l = true) : glDown t l = l := by
  obtain ⟨k, rfl⟩ : ∃ k, l = k + 1 := ⟨l - 1, by omega⟩
  rw [glDown, if_pos h]
theorem down_no {t : TrN} {l : Nat} (h0 : 0 < l) (h : glAt t l = false) : glDown t l = glDown t (l - 1) := by
  obtain ⟨k, rfl⟩ : ∃ k, l = k + 1 := ⟨l - 1, by omega⟩
  rw [glDown, if_neg (by simp [h])]; rfl
theorem up_yes {t : TrN} {l : Nat} (h : glAt t l = true) : glUp t (l + 1) = l := by rw [glUp, if_pos h]
theorem up_no {t : TrN} {l : Nat} (h : glAt t l = false) : glUp t (l + 1) = glUp t l := by rw [glUp, if_neg (by simp [h])]
set_option maxHeartbeats 2000000 in
theorem GreatestLeast_any (v : Value) (B : Nat) (t : TrN) (w : World) (hcp : CapT v) (hv : RdT w B v t) (hB : B ≤ w.heap.size) (hs : t.small) :
    Calls Try.prog 29 #[v] w fun e w' => e = .returned (.tuple #[.int .i64 (glV t), .bool (glB t)]) ∧ Below w.heap.size w w' := by
  obtain ⟨A, ca, C, cb, D, cc, rfl, _, _, _⟩ := hv.form
  have hb0 : Below w.heap.size w (w.alloc (.cells #[.slice A t.n ca, .slice C t.m cb, .int .i64 t.c, .slice D t.p cc] 32)) := below_new (Below.refl _ _) _
  have k0 := Blk.new w 32 #[.slice A t.n ca, .slice C t.m cb, .int .i64 t.c, .slice D t.p cc]
  have Hv := Lib.hid (fun W (hb : Below w.heap.size w W) => hv.below' hb hB)
  have Hc := Lib.hid hcp
  have HB0 := Lib.hid hb0
  have K0 := Lib.hid k0
  obtain ⟨a0, a1, a2, a3⟩ := k0.c4
  clear hv hcp hb0 k0
  have P := IsTransition_any _ B t _ Hc.out (Hv.out _ HB0.out) (Nat.le_trans hB HB0.out.size) hs
  obtain ⟨b1, e1⟩ : ∃ b, trB t = b := ⟨_, rfl⟩
  rw [e1] at P
  have HP := Lib.hid P
  clear P
  cases b1 with
  | false =>
    have HT := Lib.hid (gl_no e1)
    clear e1
    go_enter Try.func29, Try.ntmps29
    go_wp2_with fail
    refine HP.out.mono ?_
    rintro e w2 ⟨rfl, h2⟩
    have HB1 := Lib.hid (below_on HB0.out h2)
    have K1 := Lib.hid (K0.out.on h2)
    clear h2 a0 a1 a2 a3 HB0 K0
    have HB0 := HB1
    have K0 := K1
    clear HB1 K1
    obtain ⟨a0, a1, a2, a3⟩ := K0.out.c4
    go_wp2_with fail
    go_ret2
    exact ⟨by rw [HT.out.1, HT.out.2]; rfl, HB0.out⟩
  | true =>
    have HT := Lib.hid (gl_yes e1)
    have HR := Lib.hid (fun W (hb : Below w.heap.size w W) (l : Nat) (hl : l ≤ 80) => conflictPairs_any _ B t (l : Int) W (Hv.out W hb) (Nat.le_trans hB hb.size) (tr_ok e1) (by omega) (by omega))
    clear e1
    go_enter Try.func29, Try.ntmps29
    go_wp2_with fail
    refine HP.out.mono ?_
    rintro e w2 ⟨rfl, h2⟩
    have HB1 := Lib.hid (below_on HB0.out h2)
    have K1 := Lib.hid (K0.out.on h2)
    clear h2 a0 a1 a2 a3 HB0 K0
    have HB0 := HB1
    have K0 := K1
    clear HB1 K1
    obtain ⟨a0, a1, a2, a3⟩ := K0.out.c4
    go_wp2_with fail
    go_loopw [4] (fun s wr => ∃ l : Nat, l ≤ 80 ∧ s = .int .i64 l ∧ glDown t 80 = glDown t l ∧ Blk wr w.heap.size 32 #[.slice A t.n ca, .slice C t.m cb, .int .i64 t.c, .slice D t.p cc] ∧ Below w.heap.size w wr) (fun s _ => (intOf s).toNat)
    case atStart => exact ⟨80, Nat.le_refl _, rfl, rfl, K0.out, HB0.out⟩
    case round =>
      clear HB0 K0 a0 a1 a2 a3
      obtain ⟨l, hl, rfl, hd, hk, hb⟩ := hrel
      have HD := Lib.hid hd
      have HK := Lib.hid hk
      have HB := Lib.hid hb
      obtain ⟨a0, a1, a2, a3⟩ := hk.c4
      clear hd hk hb
      by_cases h0 : 0 < l
      · have hd0 : decide ((0 : Int) < (l : Int)) = true := by simp; omega
        have hl0 : (0 : Int) < (l : Int) := by omega
        go_wp2_with fail
        refine (HR.out _ HB.out l hl).mono ?_
        rintro e w3 ⟨u, gs, rfl, hr, h3⟩
        obtain ⟨U, cu, rfl⟩ := hr.form
        have HB3 := Lib.hid (below_on HB.out h3)
        have HK3 := Lib.hid (HK.out.on h3)
        have hat := gl_at (t := t) (l := l)
        have hnot := gl_not (t := t) (l := l)
        obtain ⟨m, em⟩ : ∃ m, (prTo (cfAt t (l : Int)) t.n t.n).length = m := ⟨_, rfl⟩
        rw [em] at hat hnot ⊢
        clear hr h3 em a0 a1 a2 a3
        by_cases hm : m = 0
        · have HY := Lib.hid (HD.out.trans (down_yes h0 (hat hm)))
          subst hm
          clear hat hnot
          go_wp2_with fail
          go_ret2
          exact ⟨by rw [HT.out.1, HT.out.2, HY.out]; rfl, HB3.out⟩
        · have HN := Lib.hid (HD.out.trans (down_no h0 (hnot hm)))
          have hm0 : (0 : Int) < (m : Int) := by omega
          clear hat hnot
          go_wp2_with fail
          go_roundw
          case rel => exact ⟨l - 1, by omega, by go_num, HN.out, HK3.out, HB3.out⟩
          case measure => simp [intOf]; omega
      · obtain rfl : l = 0 := by omega
        have HY := Lib.hid (HD.out.trans (show glDown t 0 = 0 from rfl))
        go_wp2_with fail
        go_ret2
        exact ⟨by rw [HT.out.1, HT.out.2, HY.out]; rfl, HB.out⟩
set_option maxHeartbeats 2000000 in
theorem specGreatestLeast_any (v : Value) (B : Nat) (t : TrN) (w : World) (hcp : CapT v) (hv : RdT w B v t) (hB : B ≤ w.heap.size) (hs : t.small) :
    Calls Try.prog 28 #[v] w fun e w' => e = .returned (.tuple #[.int .i64 (glV t), .bool (glB t)]) ∧ Below w.heap.size w w' := by
  obtain ⟨A, ca, C, cb, D, cc, rfl, _, _, _⟩ := hv.form
  have hb0 : Below w.heap.size w (w.alloc (.cells #[.slice A t.n ca, .slice C t.m cb, .int .i64 t.c, .slice D t.p cc] 32)) := below_new (Below.refl _ _) _
  have k0 := Blk.new w 32 #[.slice A t.n ca, .slice C t.m cb, .int .i64 t.c, .slice D t.p cc]
  have Hv := Lib.hid (fun W (hb : Below w.heap.size w W) => hv.below' hb hB)
  have Hc := Lib.hid hcp
  have HB0 := Lib.hid hb0
  have K0 := Lib.hid k0
  obtain ⟨a0, a1, a2, a3⟩ := k0.c4
  clear hv hcp hb0 k0
  have P := asGood_any _ B t _ Hc.out (Hv.out _ HB0.out) (Nat.le_trans hB HB0.out.size) hs
  obtain ⟨b1, e1⟩ : ∃ b, trB t = b := ⟨_, rfl⟩
  rw [e1] at P
  have HP := Lib.hid P
  clear P
  cases b1 with
  | false =>
    have HT := Lib.hid (gl_no e1)
    clear e1
    go_enter Try.func28, Try.ntmps28
    go_wp2_with fail
    refine HP.out.mono ?_
    rintro e w2 ⟨rfl, h2⟩
    have HB1 := Lib.hid (below_on HB0.out h2)
    have K1 := Lib.hid (K0.out.on h2)
    clear h2 a0 a1 a2 a3 HB0 K0
    have HB0 := HB1
    have K0 := K1
    clear HB1 K1
    obtain ⟨a0, a1, a2, a3⟩ := K0.out.c4
    go_wp2_with fail
    go_ret2
    exact ⟨by rw [HT.out.1, HT.out.2]; rfl, HB0.out⟩
  | true =>
    have HT := Lib.hid (gl_yes e1)
    have HR := Lib.hid (fun W (hb : Below w.heap.size w W) (l : Nat) (hl : l ≤ 80) => cfPairs_any _ B t (l : Int) W (Hv.out W hb) (Nat.le_trans hB hb.size) (tr_ok e1) (by omega) (by omega))
    clear e1
    go_enter Try.func28, Try.ntmps28
    go_wp2_with fail
    refine HP.out.mono ?_
    rintro e w2 ⟨rfl, h2⟩
    have HB1 := Lib.hid (below_on HB0.out h2)
    have K1 := Lib.hid (K0.out.on h2)
    clear h2 a0 a1 a2 a3 HB0 K0
    have HB0 := HB1
    have K0 := K1
    clear HB1 K1
    obtain ⟨a0, a1, a2, a3⟩ := K0.out.c4
    go_wp2_with fail
    go_loopw [4, 5] (fun q s wr => ∃ l : Nat, l ≤ 81 ∧ s = .int .i64 l ∧ q = .int .i64 (glUp t l : Nat) ∧ Blk wr w.heap.size 32 #[.slice A t.n ca, .slice C t.m cb, .int .i64 t.c, .slice D t.p cc] ∧ Below w.heap.size w wr) (fun _ s _ => 81 - (intOf s).toNat)
    case atStart => exact ⟨0, Nat.zero_le _, rfl, rfl, K0.out, HB0.out⟩
    case round =>
      clear HB0 K0 a0 a1 a2 a3
      obtain ⟨l, hl, rfl, rfl, hk, hb⟩ := hrel
      have HK := Lib.hid hk
      have HB := Lib.hid hb
      obtain ⟨a0, a1, a2, a3⟩ := hk.c4
      clear hk hb
      by_cases h0 : l ≤ 80
      · have hl0 : (l : Int) ≤ 80 := by omega
        have hyes := up_yes (t := t) (l := l)
        have hno := up_no (t := t) (l := l)
        have hat := gl_at (t := t) (l := l)
        have hnot := gl_not (t := t) (l := l)
        obtain ⟨q, eq⟩ : ∃ q, glUp t l = q := ⟨_, rfl⟩
        rw [eq] at hno ⊢
        obtain ⟨m, em⟩ : ∃ m, (prTo (cfAt t (l : Int)) t.n t.n).length = m := ⟨_, rfl⟩
        have hR := HR.out
        have hR2 := fun (W : World) (hb : Below w.heap.size w W) => hR W hb l h0
        rw [em] at hat hnot hR2
        have HR2 := Lib.hid hR2
        clear hR hR2 em eq
        go_wp2_with fail
        refine (HR2.out _ HB.out).mono ?_
        rintro e w3 ⟨u, gs, rfl, hr, h3⟩
        obtain ⟨U, cu, rfl⟩ := hr.form
        have HB3 := Lib.hid (below_on HB.out h3)
        have HK3 := Lib.hid (HK.out.on h3)
        clear hr h3 a0 a1 a2 a3
        by_cases hm : m = 0
        · have HY := Lib.hid (hyes (hat hm))
          subst hm
          clear hat hnot hyes hno
          go_wp2_with fail
          go_roundw
          case rel => exact ⟨l + 1, by omega, by go_num, by rw [HY.out], HK3.out, HB3.out⟩
          case measure => simp [intOf]; omega
        · have HN := Lib.hid (hno (hnot hm))
          have hm0 : ((m : Int) == 0) = false := by simp; omega
          have hm1 : ¬ (m : Int) = 0 := by omega
          clear hat hnot hyes hno
          go_wp2_with fail
          go_roundw
          case rel => exact ⟨l + 1, by omega, by go_num, by rw [HN.out], HK3.out, HB3.out⟩
          case measure => simp [intOf]; omega
      · obtain rfl : l = 81 := by omega
        have HY := Lib.hid (show glUp t 81 = glDown t 80 from gl_same t 80)
        go_wp2_with fail
        go_ret2
        exact ⟨by rw [HT.out.1, HT.out.2, ← HY.out]; rfl, HB.out⟩
end Go.Proofs.Ytmklinmlliabaaa
