/- Contracts of the two MostTogether. Conditions: the transition's slices can be read, and are short. -/
import Derived.Test.YtpikhkdgohapeaaSets
import Derived.Test.YtpikhkdgohapeaaMostT
namespace Go.Proofs.Ytpikhkdgohapeaa
open Go.RowKit

def mgL (t : TrN) (L : Int) : List Int := if cpB t L = true then nats (mtF (qS (smAll (cfAt t L) t.n)) t.n t.n []) else []
def mgN (t : TrN) (L : Int) : Nat := (mgL t L).length
def mgB (t : TrN) (L : Int) : Bool := cpB t L
theorem mg_no {t : TrN} {L : Int} (h : cpB t L = false) : mgB t L = false ∧ mgL t L = [] ∧ mgN t L = 0 := by simp [mgB, mgL, mgN, h]
theorem mg_yes {t : TrN} {L : Int} (h : cpB t L = true) : mgB t L = true ∧ mgL t L = nats (mtF (qS (smAll (cfAt t L) t.n)) t.n t.n []) ∧ mgN t L = (mtF (qS (smAll (cfAt t L) t.n)) t.n t.n []).length := by simp [mgB, mgL, mgN, h, nats_length]
theorem mg_small (t : TrN) (L : Int) : mgN t L ≤ 1000000 ∧ mgN t L = mgN t L := by
  refine ⟨?_, rfl⟩
  cases h : cpB t L with
  | false => rw [(mg_no h).2.2]; omega
  | true =>
    have h1 := mtF_len (q := qS (smAll (cfAt t L) t.n)) (n := t.n) (k := t.n) (T := [])
    have h2 := (tr_ok (cp_in h).1).n1
    rw [(mg_yes h).2.2]; omega
theorem smAll_len (p : Nat → Nat → Bool) (n : Nat) : (smAll p n).length = n := smTo_length _ _ _
set_option maxRecDepth 100000 in
set_option maxHeartbeats 2000000 in
theorem MostTogether_any (v : Value) (B : Nat) (t : TrN) (L : Int) (w : World) (hcp : CapT v) (hv : RdT w B v t) (hB : B ≤ w.heap.size) (hs : t.small) :
    Calls Try.prog 28 #[v, .int .i64 L] w fun e w' => ∃ u, e = .returned (.tuple #[u, .bool (mgB t L)]) ∧ w'.ownsRow w.heap.size 3 1 u (mgN t L) (ints (mgL t L)) ∧ Below w.heap.size w w' := by
  obtain ⟨A, ca, C, cb, D, cc, rfl, _, _, _⟩ := hv.form
  have hb0 : Below w.heap.size w (w.alloc (.cells #[.slice A t.n ca, .slice C t.m cb, .int .i64 t.c, .slice D t.p cc] 43)) := below_new (Below.refl _ _) _
  have k0 := Blk.new w 43 #[.slice A t.n ca, .slice C t.m cb, .int .i64 t.c, .slice D t.p cc]
  have Hv := Lib.hid (fun W (hb : Below w.heap.size w W) => hv.below' hb hB)
  have Hc := Lib.hid hcp
  have HB0 := Lib.hid hb0
  have K0 := Lib.hid k0
  obtain ⟨a0, a1, a2, a3⟩ := k0.c4
  clear hv hcp hb0 k0
  have P := IsTransition_any _ B t _ Hc.out (Hv.out _ HB0.out) (Nat.le_trans hB HB0.out.size) hs
  have Q := fun W => isLeast_any L W
  have hT : cpB t L = (trB t && inB L 0 80) := rfl
  cases b1 : trB t with
  | false =>
    have HT := Lib.hid (mg_no (show cpB t L = false by rw [hT, b1]; rfl))
    rw [b1] at P
    have HP := Lib.hid P
    clear P Q hT b1
    go_enter Try.func28, Try.ntmps28
    go_wp2_with fail
    refine HP.out.mono ?_
    rintro e w2 ⟨rfl, h2⟩
    have HB1 := Lib.hid (below_on HB0.out h2)
    have K1 := Lib.hid (K0.out.on h2)
    clear h2 a0 a1 a2 a3 HB0 K0
    have HB0 := HB1
    have K0 := K1
    clear HB1 K1
    obtain ⟨a0, a1, a2, a3⟩ := K0.out.c4
    go_wp2_with fail
    go_ret2
    rw [HT.out.1, HT.out.2.1, HT.out.2.2]
    exact ⟨_, rfl, World.ownsRow_nil _ _ _ _, HB0.out⟩
  | true =>
    cases b2 : inB L 0 80 with
    | false =>
      have HT := Lib.hid (mg_no (show cpB t L = false by rw [hT, b1, b2]; rfl))
      rw [b1] at P
      rw [b2] at Q
      have HP := Lib.hid P
      have HQ := Lib.hid Q
      clear P Q hT b1 b2
      go_enter Try.func28, Try.ntmps28
      go_wp2_with fail
      refine HP.out.mono ?_
      rintro e w2 ⟨rfl, h2⟩
      have HB1 := Lib.hid (below_on HB0.out h2)
      have K1 := Lib.hid (K0.out.on h2)
      clear h2 a0 a1 a2 a3 HB0 K0
      have HB0 := HB1
      have K0 := K1
      clear HB1 K1
      obtain ⟨a0, a1, a2, a3⟩ := K0.out.c4
      go_wp2_with fail
      refine (HQ.out _).mono ?_
      rintro e w3 ⟨rfl, rfl⟩
      go_wp2_with fail
      go_ret2
      rw [HT.out.1, HT.out.2.1, HT.out.2.2]
      exact ⟨_, rfl, World.ownsRow_nil _ _ _ _, HB0.out⟩
    | true =>
      have hcb : cpB t L = true := by rw [hT, b1, b2]; rfl
      have HT := Lib.hid (mg_yes hcb)
      have hok := tr_ok b1
      have hn1 := hok.n1
      have HR := Lib.hid (fun W (hb : Below w.heap.size w W) => conflictSets_any _ B t L W (Hv.out W hb) (Nat.le_trans hB hb.size) hok (inB_yes b2).1 (inB_yes b2).2)
      have hM := fun (u : Value) (W : World) (h : Rd W W.heap.size 1 u t.n (smAll (cfAt t L) t.n)) => mostTogether_any (smAll (cfAt t L) t.n) t.n (smAll_in hn1 (Nat.le_refl _)) (smAll_len _ _) hn1 t.n t.n (Nat.le_refl _) (Nat.le_refl _) [] (by simp) u W.heap.size W h (Nat.le_refl _)
      rw [Nat.sub_self] at hM
      have HM := Lib.hid hM
      rw [b1] at P
      rw [b2] at Q
      have HP := Lib.hid P
      have HQ := Lib.hid Q
      clear P Q hT b1 b2 hcb hok hM
      go_enter Try.func28, Try.ntmps28
      go_wp2_with fail
      refine HP.out.mono ?_
      rintro e w2 ⟨rfl, h2⟩
      have HB1 := Lib.hid (below_on HB0.out h2)
      have K1 := Lib.hid (K0.out.on h2)
      clear h2 a0 a1 a2 a3 HB0 K0
      have HB0 := HB1
      have K0 := K1
      clear HB1 K1
      obtain ⟨a0, a1, a2, a3⟩ := K0.out.c4
      go_wp2_with fail
      refine (HQ.out _).mono ?_
      rintro e w3 ⟨rfl, rfl⟩
      go_wp2_with fail
      refine (HR.out _ HB0.out).mono ?_
      rintro e w4 ⟨u, rfl, ho, h4⟩
      have HB4 := Lib.hid (below_on HB0.out h4)
      have HU := Lib.hid (Rd.of_own ho)
      clear ho h4 a0 a1 a2 a3
      go_wp2_with fail
      refine (HM.out _ _ HU.out).mono ?_
      rintro e w5 ⟨u5, rfl, ho, h5⟩
      have HB5 := Lib.hid (below_on HB4.out h5)
      have HO5 := Lib.hid (own_base ho HB4.out.size)
      clear ho h5
      go_wp2_with fail
      go_ret2
      rw [HT.out.1, HT.out.2.1, HT.out.2.2]
      exact ⟨_, rfl, HO5.out, HB5.out⟩
end Go.Proofs.Ytpikhkdgohapeaa
