/- Contracts of the two FreePerformers. Conditions: the transition's slices can be read, and are short. -/
import Derived.Test.YtmklinmlliabaaaCounts
namespace Go.Proofs.Ytmklinmlliabaaa
open Go.RowKit

set_option maxRecDepth 100000 in
set_option maxHeartbeats 2000000 in
theorem FreePerformers_any (v : Value) (B : Nat) (t : TrN) (L : Int) (w : World) (hcp : CapT v) (hv : RdT w B v t) (hB : B ≤ w.heap.size) (hs : t.small) :
    Calls Try.prog 25 #[v, .int .i64 L] w fun e w' => ∃ u, e = .returned (.tuple #[u, .bool (fpB t L)]) ∧ w'.ownsRow w.heap.size 3 1 u (fpN t L) (ints (fpL t L)) ∧ Below w.heap.size w w' := by
  obtain ⟨A, ca, C, cb, D, cc, rfl, _, _, _⟩ := hv.form
  have hb0 : Below w.heap.size w (w.alloc (.cells #[.slice A t.n ca, .slice C t.m cb, .int .i64 t.c, .slice D t.p cc] 32)) := below_new (Below.refl _ _) _
  have k0 := Blk.new w 32 #[.slice A t.n ca, .slice C t.m cb, .int .i64 t.c, .slice D t.p cc]
  have Hv := Lib.hid (fun W (hb : Below w.heap.size w W) => hv.below' hb hB)
  have Hc := Lib.hid hcp
  have HB0 := Lib.hid hb0
  have K0 := Lib.hid k0
  obtain ⟨a0, a1, a2, a3⟩ := k0.c4
  clear hv hcp hb0 k0
  have P := ConflictCounts_any _ B t L _ Hc.out (Hv.out _ HB0.out) (Nat.le_trans hB HB0.out.size) hs
  cases b1 : cpB t L with
  | false =>
    have HT := Lib.hid (fp_no b1)
    rw [show ccB t L = false from b1] at P
    have HP := Lib.hid P
    clear P b1
    go_enter Try.func25, Try.ntmps25
    go_wp2_with fail
    refine HP.out.mono ?_
    rintro e w2 ⟨u, rfl, ho, h2⟩
    have HB := Lib.hid (HB0.out.trans (h2.mono HB0.out.size))
    clear ho h2
    go_wp2_with fail
    go_ret2
    rw [HT.out.1, HT.out.2.1, HT.out.2.2]
    exact ⟨_, rfl, World.ownsRow_nil _ _ _ _, HB.out⟩
  | true =>
    have hfy := fp_yes b1
    have hcn := (cc_yes b1).2.2
    have hle := cc_le t L
    rw [show ccB t L = true from b1, hcn] at P
    rw [hcn] at hle
    obtain ⟨cs, ecs⟩ : ∃ l, ccL t L = l := ⟨_, rfl⟩
    rw [ecs] at P hfy
    obtain ⟨m, em⟩ : ∃ m, t.n = m := ⟨_, rfl⟩
    have HT := Lib.hid (em ▸ hfy)
    have EM := Lib.hid em
    have HP := Lib.hid P
    clear P b1 hfy hcn ecs em
    go_enter Try.func25, Try.ntmps25
    go_wp2_with fail
    refine HP.out.mono ?_
    rintro e w1 ⟨u, rfl, ho, h2⟩
    have HBW := Lib.hid (HB0.out.trans (h2.mono HB0.out.size))
    obtain ⟨_, U, cu, rfl, hA⟩ := Rd.of_own ho
    rw [EM.out] at hA hle ⊢
    clear ho h2 HP a0 a1 a2 a3
    go_wp2_with fail
    go_loopw [8, 22] (fun o s wr => ∃ j : Nat, j ≤ m ∧ s = .int .i64 j ∧ wr.ownsRow w1.heap.size 3 1 o (fpTo cs j).length (ints (fpTo cs j)) ∧ Below w1.heap.size w1 wr) (fun _ s _ => m - (intOf s).toNat)
    case atStart => exact ⟨0, Nat.zero_le _, rfl, own_empty _ _ _, below_new (Below.refl _ _) _⟩
    case round =>
      obtain ⟨j, hj, rfl, hown, hb⟩ := hrel
      by_cases hlt : j < m
      · obtain ⟨b, off, rfl, hbB, hc⟩ := hA (by omega)
        have c0 := (hb.cell (p := ⟨b, off + j, none⟩) hbB).trans (hc j (by omega))
        obtain ⟨x, ex⟩ : ∃ x, cs.getD j 0 = x := ⟨_, rfl⟩
        rw [ex] at c0
        have hfl := fpTo_len cs j
        have hyes := fpTo_yes (cs := cs) (i := j)
        have hno := fpTo_no (cs := cs) (i := j)
        rw [ex] at hyes hno
        have i0 : (0 : Int) ≤ (j : Int) := by omega
        have i1 : (j : Int) < (m : Int) := by omega
        have HFL := Lib.hid hfl
        clear hc hA ex hfl
        by_cases hx : x = 0
        · have HS := Lib.hid (hyes hx)
          subst hx
          have HB := Lib.hid (below_new hb (.cells #[.int .i64 (j : Int)] 3))
          have HO := Lib.hid (hown.alloc (.cells #[.int .i64 (j : Int)] 3))
          have n0 := (Blk.new wr 3 #[.int .i64 (j : Int)]).c1
          have hsz := hb.size
          clear hyes hno hown hb
          go_wp2_with (at_builtin; refine app_int rfl _ _ rfl w1.heap.size _ _ _ rfl HO.out wr.heap.size (j : Int) rfl n0 (by have := HFL.out; omega) (by simp; omega) ?_; intro v' w9 ho9 hg9)
          have hb9 : Below w1.heap.size w1 w9 := HB.out.grown hg9 (by simp; omega) (fun g hg => (HO.out.lt g hg).1)
          have HO9 := Lib.hid (show w9.ownsRow w1.heap.size 3 1 v' (fpTo cs (j + 1)).length (ints (fpTo cs (j + 1))) by rw [HS.out, List.length_append]; exact ho9)
          have HB9 := Lib.hid hb9
          clear ho9 hb9 hg9 n0 HO HB
          go_wp2_with fail
          go_roundw
          case rel => exact ⟨j + 1, by omega, by go_num, HO9.out, HB9.out⟩
          case measure => simp [intOf]; omega
        · have HS := Lib.hid (hno hx)
          have hxe : (x == 0) = false := by simp [hx]
          have HB := Lib.hid hb
          have HO := Lib.hid hown
          clear hyes hno hown hb
          go_wp2_with fail
          go_roundw
          case rel => exact ⟨j + 1, by omega, by go_num, by rw [HS.out]; exact HO.out, HB.out⟩
          case measure => simp [intOf]; omega
      · obtain rfl : j = m := by omega
        have HB := Lib.hid hb
        have HO := Lib.hid hown
        clear hown hb hA
        go_wp2_with fail
        go_ret2
        rw [HT.out.1, HT.out.2.1, HT.out.2.2]
        exact ⟨_, rfl, own_base HO.out HBW.out.size, HBW.out.trans (HB.out.mono HBW.out.size)⟩
set_option maxRecDepth 100000 in
set_option maxHeartbeats 2000000 in
theorem specFreePerformers_any (v : Value) (B : Nat) (t : TrN) (L : Int) (w : World) (hcp : CapT v) (hv : RdT w B v t) (hB : B ≤ w.heap.size) (hs : t.small) :
    Calls Try.prog 24 #[v, .int .i64 L] w fun e w' => ∃ u, e = .returned (.tuple #[u, .bool (fpB t L)]) ∧ w'.ownsRow w.heap.size 3 1 u (fpN t L) (ints (fpL t L)) ∧ Below w.heap.size w w' := by
  obtain ⟨A, ca, C, cb, D, cc, rfl, _, _, _⟩ := hv.form
  have hb0 : Below w.heap.size w (w.alloc (.cells #[.slice A t.n ca, .slice C t.m cb, .int .i64 t.c, .slice D t.p cc] 32)) := below_new (Below.refl _ _) _
  have k0 := Blk.new w 32 #[.slice A t.n ca, .slice C t.m cb, .int .i64 t.c, .slice D t.p cc]
  have Hv := Lib.hid (fun W (hb : Below w.heap.size w W) => hv.below' hb hB)
  have Hc := Lib.hid hcp
  have HB0 := Lib.hid hb0
  have K0 := Lib.hid k0
  obtain ⟨a0, a1, a2, a3⟩ := k0.c4
  clear hv hcp hb0 k0
  have P := cfAsked_any _ B t L _ Hc.out (Hv.out _ HB0.out) (Nat.le_trans hB HB0.out.size) hs
  cases b1 : cpB t L with
  | false =>
    have HT := Lib.hid (fp_no b1)
    rw [b1] at P
    have HP := Lib.hid P
    clear P b1
    go_enter Try.func24, Try.ntmps24
    go_wp2_with fail
    refine HP.out.mono ?_
    rintro e w2 ⟨rfl, h2⟩
    have HB1 := Lib.hid (below_on HB0.out h2)
    have K1 := Lib.hid (K0.out.on h2)
    clear h2 a0 a1 a2 a3 HB0 K0
    have HB0 := HB1
    have K0 := K1
    clear HB1 K1
    obtain ⟨a0, a1, a2, a3⟩ := K0.out.c4
    go_wp2_with fail
    go_ret2
    rw [HT.out.1, HT.out.2.1, HT.out.2.2]
    exact ⟨_, rfl, World.ownsRow_nil _ _ _ _, HB0.out⟩
  | true =>
    have hfy := fp_yes b1
    have hcc := cc_yes b1
    have hcy := cp_yes b1
    rw [hcy.2.1, hcy.2.2] at hcc
    have hle := (tr_ok (cp_in b1).1).n1
    have hci := cp_in b1
    have R := fun W (hb : Below w.heap.size w W) => cfCounts_any _ B t L W (Hv.out W hb) (Nat.le_trans hB hb.size) (tr_ok hci.1) hci.2.1 hci.2.2
    rw [b1] at P
    obtain ⟨cs, ecs⟩ : ∃ l, ccTo (prTo (cfAt t L) t.n t.n) t.n (prTo (cfAt t L) t.n t.n).length = l := ⟨_, rfl⟩
    rw [hcc.2.1, ecs] at hfy
    rw [ecs] at R
    obtain ⟨m, em⟩ : ∃ m, t.n = m := ⟨_, rfl⟩
    have HT := Lib.hid (em ▸ hfy)
    have EM := Lib.hid em
    have HP := Lib.hid P
    have HR := Lib.hid R
    clear P R b1 hfy hcc hcy hci ecs em
    go_enter Try.func24, Try.ntmps24
    go_wp2_with fail
    refine HP.out.mono ?_
    rintro e w2 ⟨rfl, h2⟩
    have HB1 := Lib.hid (below_on HB0.out h2)
    have K1 := Lib.hid (K0.out.on h2)
    clear h2 a0 a1 a2 a3 HB0 K0
    have HB0 := HB1
    have K0 := K1
    clear HB1 K1
    obtain ⟨a0, a1, a2, a3⟩ := K0.out.c4
    go_wp2_with fail
    refine (HR.out _ HB0.out).mono ?_
    rintro e w1 ⟨u, rfl, ho, h2⟩
    have HBW := Lib.hid (HB0.out.trans (h2.mono HB0.out.size))
    obtain ⟨_, U, cu, rfl, hA⟩ := Rd.of_own ho
    rw [EM.out] at hA hle ⊢
    clear ho h2 HP HR a0 a1 a2 a3
    go_wp2_with fail
    go_loopw [6, 17] (fun o s wr => ∃ j : Nat, j ≤ m ∧ s = .int .i64 j ∧ wr.ownsRow w1.heap.size 3 1 o (fpTo cs j).length (ints (fpTo cs j)) ∧ Below w1.heap.size w1 wr) (fun _ s _ => m - (intOf s).toNat)
    case atStart => exact ⟨0, Nat.zero_le _, rfl, World.ownsRow_nil _ _ _ _, Below.refl _ _⟩
    case round =>
      obtain ⟨j, hj, rfl, hown, hb⟩ := hrel
      by_cases hlt : j < m
      · obtain ⟨b, off, rfl, hbB, hc⟩ := hA (by omega)
        have c0 := (hb.cell (p := ⟨b, off + j, none⟩) hbB).trans (hc j (by omega))
        obtain ⟨x, ex⟩ : ∃ x, cs.getD j 0 = x := ⟨_, rfl⟩
        rw [ex] at c0
        have hfl := fpTo_len cs j
        have hyes := fpTo_yes (cs := cs) (i := j)
        have hno := fpTo_no (cs := cs) (i := j)
        rw [ex] at hyes hno
        have i0 : (0 : Int) ≤ (j : Int) := by omega
        have i1 : (j : Int) < (m : Int) := by omega
        have HFL := Lib.hid hfl
        clear hc hA ex hfl
        by_cases hx : x = 0
        · have HS := Lib.hid (hyes hx)
          subst hx
          have HB := Lib.hid (below_new hb (.cells #[.int .i64 (j : Int)] 3))
          have HO := Lib.hid (hown.alloc (.cells #[.int .i64 (j : Int)] 3))
          have n0 := (Blk.new wr 3 #[.int .i64 (j : Int)]).c1
          have hsz := hb.size
          clear hyes hno hown hb
          go_wp2_with (at_builtin; refine app_int rfl _ _ rfl w1.heap.size _ _ _ rfl HO.out wr.heap.size (j : Int) rfl n0 (by have := HFL.out; omega) (by simp; omega) ?_; intro v' w9 ho9 hg9)
          have hb9 : Below w1.heap.size w1 w9 := HB.out.grown hg9 (by simp; omega) (fun g hg => (HO.out.lt g hg).1)
          have HO9 := Lib.hid (show w9.ownsRow w1.heap.size 3 1 v' (fpTo cs (j + 1)).length (ints (fpTo cs (j + 1))) by rw [HS.out, List.length_append]; exact ho9)
          have HB9 := Lib.hid hb9
          clear ho9 hb9 hg9 n0 HO HB
          go_wp2_with fail
          go_roundw
          case rel => exact ⟨j + 1, by omega, by go_num, HO9.out, HB9.out⟩
          case measure => simp [intOf]; omega
        · have HS := Lib.hid (hno hx)
          have hxe : (x == 0) = false := by simp [hx]
          have HB := Lib.hid hb
          have HO := Lib.hid hown
          clear hyes hno hown hb
          go_wp2_with fail
          go_roundw
          case rel => exact ⟨j + 1, by omega, by go_num, by rw [HS.out]; exact HO.out, HB.out⟩
          case measure => simp [intOf]; omega
      · obtain rfl : j = m := by omega
        have HB := Lib.hid hb
        have HO := Lib.hid hown
        clear hown hb hA
        go_wp2_with fail
        go_ret2
        rw [HT.out.1, HT.out.2.1, HT.out.2.2]
        exact ⟨_, rfl, own_base HO.out HBW.out.size, HBW.out.trans (HB.out.mono HBW.out.size)⟩
end Go.Proofs.Ytmklinmlliabaaa
