/- Contracts of EvenTransition on both sides. Conditions: short slices that are owned. Contracts of the program's leastSums and leastMatching. Conditions: at most twelve rows of as many costs, each between 0 and 2100000, in memory that can be read. The contract of the program's leastMatching: the choice out of the table of least sums. Conditions: at most twelve rows of as many costs, each between 0 and 2100000, in memory that can be read. The contract of the program's LeastTransition. Conditions: short slices that are owned. The contract of the program's EvenTransition: its slices lie in memory of their own. Conditions: short slices that are owned. Transitions in memory of their own, kept while other memory changes; the even transition is short. Without conditions. -/
import Derived.Test.YtnlneblipedddaaPFnTransitions24
import Derived.Test.YtnlneblipedddaaPFnTransitions26
import Derived.Test.YtnlneblipedddaaPFnTransitions29
import Derived.Test.YtnlneblipedddaaPFnTransitions13
namespace Go.Proofs.Ytnlneblipedddaa
open Go.RowKit

/-- The places of the even transition. -/
def evP (n : Nat) (xs ys : List Int) : List Int := evL (coC xs ys n) n
def evT (n : Nat) (xs : List Int) (m : Nat) (ys : List Int) (c : Int) : TrN := if aaB n xs m ys c = true then ⟨n, xs, m, ys, c, n, evP n xs ys⟩ else zeroT
set_option maxRecDepth 100000 in
set_option maxHeartbeats 4000000 in
theorem specEvenTransition_any (v u : Value) (lo n m : Nat) (xs ys : List Int) (c : Int) (w : World) (hv : w.ownsRow lo 75 2 v n (ints xs)) (hu : w.ownsRow lo 75 2 u m (ints ys)) (hn : n ≤ 1048576) (hm : m ≤ 1048576) :
    Calls Try.prog 10 #[v, u, .int .i64 c] w fun e w' => ∃ r, e = .returned (.tuple #[r, .bool (aaB n xs m ys c)]) ∧ OwnA w' w.heap.size r (evT n xs m ys c) ∧ Below w.heap.size w w' := by
  obtain ⟨A, ca, rfl⟩ := (Rd.of_own hv).form
  obtain ⟨C, cb, rfl⟩ := (Rd.of_own hu).form
  have K0 := Lib.hid (Blk.new w 29 #[.slice none 0 0, .slice none 0 0, .int .i64 0, .slice none 0 0])
  have HB0 := Lib.hid (below_new (Below.refl w.heap.size w) (.cells #[.slice none 0 0, .slice none 0 0, .int .i64 0, .slice none 0 0] 29))
  have HV := Lib.hid (fun W (hb : Below w.heap.size w W) => own_below hv hb (Nat.le_refl _))
  have HU := Lib.hid (fun W (hb : Below w.heap.size w W) => own_below hu hb (Nat.le_refl _))
  have HP := Lib.hid (fun W (hb : Below w.heap.size w W) => asAsked_any _ _ n m W.heap.size xs ys c W (own_cap hv) (own_cap hu) (Rd.of_own (own_below hv hb (Nat.le_refl _))) (Rd.of_own (own_below hu hb (Nat.le_refl _))) (Nat.le_refl _) (by omega) (by omega))
  clear hv hu
  cases hab : aaB n xs m ys c with
  | false =>
    have HT := Lib.hid (show evT n xs m ys c = zeroT by simp [evT, hab])
    have HE := Lib.hid hab
    obtain ⟨f0, f1, f2, f3⟩ := K0.out.c4
    clear hab
    go_enter Try.func10, Try.ntmps10
    go_wp2_with fail
    refine (HP.out _ HB0.out).mono ?_
    rintro e w2 ⟨rfl, hb⟩
    have k1 := K0.out.on hb
    have HB1 := Lib.hid (below_on HB0.out hb)
    obtain ⟨g0, g1, g2, g3⟩ := k1.c4
    have g4 := k1.frozen 0
    have g5 := k1.frozen 1
    have g6 := k1.frozen 2
    have g7 := k1.frozen 3
    have K1 := Lib.hid k1
    clear hb K0 HB0 k1 f0 f1 f2 f3
    rw [HE.out]
    go_wp2_with fail
    obtain ⟨m0, m1, m2, m3⟩ := (blk_set4 K1.out (.slice none 0 0) (.slice none 0 0) (.int .i64 0) (.slice none 0 0)).c4
    exact bodyPost_ret (v := .tuple #[.agg #[.slice none 0 0, .slice none 0 0, .int .i64 0, .slice none 0 0], .bool false]) (by simp [results, Try.results10, go_sem, m0, m1, m2, m3]) rfl
      ⟨_, rfl, by rw [HT.out]; exact OwnA.zero _ _, below_set4 HB1.out (Nat.le_refl _) _ _ _ _⟩
  | true =>
    obtain ⟨⟨n0, n1⟩, rfl, hc, hx, hy⟩ := aa_yes hab
    have HT := Lib.hid (show evT m xs m ys c = ⟨m, xs, m, ys, c, m, evL (cst (coRs xs ys m m)) m⟩ by simp [evT, hab, evP, coC])
    have HE := Lib.hid hab
    have PC := Lib.hid (fun (W : World) (hb : Below w.heap.size w W) => asCosts_any _ _ m m W.heap.size xs ys W (Rd.of_own (HV.out W hb)) (Rd.of_own (HU.out W hb)) (Nat.le_refl _) n1 n1 hx hy)
    have hco := co_ok hx hy
    have hsq := co_sq xs ys m
    have hcl := coRs_length xs ys m m
    have PL := Lib.hid (fun (W : World) (B : Nat) (q : Value) (h : RdR W B q m (coRs xs ys m m)) (hB : B ≤ W.heap.size) => specLeastGreatest_any B m q (coRs xs ys m m) W h hB n0 n1 hcl hsq hco)
    have PW := Lib.hid (fun (W : World) (q : Value) (lq : Nat) (ps : List Int) (hb : Below w.heap.size w W) (h : W.ownsRow lq 3 1 q m (ints ps)) => asWith_any _ _ q lo lq m m m xs ys ps c W (HV.out W hb) (HU.out W hb) h (by omega) (by omega) (by omega))
    clear hab hx hy hc hco hsq hcl HV HU
    obtain ⟨f0, f1, f2, f3⟩ := K0.out.c4
    go_enter Try.func10, Try.ntmps10
    go_wp2_with fail
    refine (HP.out _ HB0.out).mono ?_
    rintro e w2 ⟨rfl, hb⟩
    have K1 := Lib.hid (K0.out.on hb)
    have HB1 := Lib.hid (below_on HB0.out hb)
    clear hb K0 HB0 f0 f1 f2 f3
    rw [HE.out]
    go_wp2_with fail
    refine (PC.out _ HB1.out).mono ?_
    rintro e w3 ⟨q, vs, rfl, hg, hb⟩
    have K2 := Lib.hid (K1.out.on hb)
    have HB2 := Lib.hid (below_on HB1.out hb)
    have HR := Lib.hid hg.rd
    clear hb hg K1 HB1
    go_wp2_with fail
    refine (PL.out _ _ _ HR.out (Nat.le_refl _)).mono ?_
    rintro e w4 ⟨q2, rfl, ho, hb⟩
    obtain ⟨Aq, cq, rfl⟩ := (Rd.of_own ho).form
    have K3 := Lib.hid (K2.out.on hb)
    have HB3 := Lib.hid (below_on HB2.out hb)
    have HO := Lib.hid ho
    clear hb ho K2 HB2 HR
    go_wp2_with fail
    refine (PW.out _ _ _ _ HB3.out HO.out).mono ?_
    rintro e w5 ⟨r, rfl, oa, hb⟩
    have OA := Lib.hid oa
    have KZ := Lib.hid (K3.out.on hb)
    have HBY := Lib.hid (below_on HB3.out hb)
    have HBZ := Lib.hid HB3.out.size
    clear hb oa K3 HB3 HO
    obtain ⟨Ar, cr, Dr, dr, Er, er, rfl, o1, o2, o3⟩ := OA.out.form
    obtain ⟨f0, f1, f2, f3⟩ := KZ.out.c4
    have g0 := KZ.out.frozen 0
    have g1 := KZ.out.frozen 1
    have g2 := KZ.out.frozen 2
    have g3 := KZ.out.frozen 3
    have O1 := Lib.hid o1
    have O2 := Lib.hid o2
    have O3 := Lib.hid o3
    clear o1 o2 o3 OA
    go_wp2_with fail
    obtain ⟨m0, m1, m2, m3⟩ := (blk_set4 KZ.out (.slice Ar m cr) (.slice Dr m dr) (.int .i64 c) (.slice Er m er)).c4
    exact bodyPost_ret (v := .tuple #[.agg #[.slice Ar m cr, .slice Dr m dr, .int .i64 c, .slice Er m er], .bool true]) (by simp [results, Try.results10, go_sem, m0, m1, m2, m3]) rfl
      ⟨_, rfl, by rw [HT.out]; exact ⟨_, _, _, rfl, own_base (own_set4 O1.out KZ.out (by decide) _ _ _ _) HBZ.out, own_base (own_set4 O2.out KZ.out (by decide) _ _ _ _) HBZ.out, own_base (own_set4 O3.out KZ.out (by decide) _ _ _ _) HBZ.out⟩, below_set4 HBY.out (Nat.le_refl _) _ _ _ _⟩
set_option maxRecDepth 100000 in
set_option maxHeartbeats 4000000 in
theorem EvenTransition_any (v u : Value) (lo n m : Nat) (xs ys : List Int) (c : Int) (w : World) (hv : w.ownsRow lo 75 2 v n (ints xs)) (hu : w.ownsRow lo 75 2 u m (ints ys)) (hn : n ≤ 1048576) (hm : m ≤ 1048576) :
    Calls Try.prog 9 #[v, u, .int .i64 c] w fun e w' => ∃ r, e = .returned (.tuple #[r, .bool (aaB n xs m ys c)]) ∧ OwnA w' w.heap.size r (evT n xs m ys c) ∧ Below w.heap.size w w' := by
  obtain ⟨A, ca, rfl⟩ := (Rd.of_own hv).form
  obtain ⟨C, cb, rfl⟩ := (Rd.of_own hu).form
  have K0 := Lib.hid (Blk.new w 29 #[.slice none 0 0, .slice none 0 0, .int .i64 0, .slice none 0 0])
  have HB0 := Lib.hid (below_new (Below.refl w.heap.size w) (.cells #[.slice none 0 0, .slice none 0 0, .int .i64 0, .slice none 0 0] 29))
  have HV := Lib.hid (fun W (hb : Below w.heap.size w W) => own_below hv hb (Nat.le_refl _))
  have HU := Lib.hid (fun W (hb : Below w.heap.size w W) => own_below hu hb (Nat.le_refl _))
  have HP := Lib.hid (fun W (hb : Below w.heap.size w W) => canChange_any _ _ n m W.heap.size xs ys c W (own_cap hv) (own_cap hu) (Rd.of_own (own_below hv hb (Nat.le_refl _))) (Rd.of_own (own_below hu hb (Nat.le_refl _))) (Nat.le_refl _) (by omega) (by omega))
  clear hv hu
  cases hab : aaB n xs m ys c with
  | false =>
    have HT := Lib.hid (show evT n xs m ys c = zeroT by simp [evT, hab])
    have HE := Lib.hid hab
    obtain ⟨f0, f1, f2, f3⟩ := K0.out.c4
    clear hab
    go_enter Try.func9, Try.ntmps9
    go_wp2_with fail
    refine (HP.out _ HB0.out).mono ?_
    rintro e w2 ⟨rfl, hb⟩
    have k1 := K0.out.on hb
    have HB1 := Lib.hid (below_on HB0.out hb)
    obtain ⟨g0, g1, g2, g3⟩ := k1.c4
    have g4 := k1.frozen 0
    have g5 := k1.frozen 1
    have g6 := k1.frozen 2
    have g7 := k1.frozen 3
    have K1 := Lib.hid k1
    clear hb K0 HB0 k1 f0 f1 f2 f3
    rw [HE.out]
    go_wp2_with fail
    obtain ⟨m0, m1, m2, m3⟩ := (blk_set4 K1.out (.slice none 0 0) (.slice none 0 0) (.int .i64 0) (.slice none 0 0)).c4
    exact bodyPost_ret (v := .tuple #[.agg #[.slice none 0 0, .slice none 0 0, .int .i64 0, .slice none 0 0], .bool false]) (by simp [results, Try.results9, go_sem, m0, m1, m2, m3]) rfl
      ⟨_, rfl, by rw [HT.out]; exact OwnA.zero _ _, below_set4 HB1.out (Nat.le_refl _) _ _ _ _⟩
  | true =>
    obtain ⟨⟨n0, n1⟩, rfl, hc, hx, hy⟩ := aa_yes hab
    have HT := Lib.hid (show evT m xs m ys c = ⟨m, xs, m, ys, c, m, evL (cst (coRs xs ys m m)) m⟩ by simp [evT, hab, evP, coC])
    have HE := Lib.hid hab
    have PC := Lib.hid (fun (W : World) (hb : Below w.heap.size w W) => squaresOf_any _ _ m m W.heap.size xs ys W (Rd.of_own (HV.out W hb)) (Rd.of_own (HU.out W hb)) (Nat.le_refl _) n1 n1 hx hy)
    have hco := co_ok hx hy
    have hsq := co_sq xs ys m
    have hcl := coRs_length xs ys m m
    have PL := Lib.hid (fun (W : World) (B : Nat) (q : Value) (h : RdR W B q m (coRs xs ys m m)) (hB : B ≤ W.heap.size) => implLeastGreatest_any B m q (coRs xs ys m m) W h hB n0 n1 hsq hco)
    have PW := Lib.hid (fun (W : World) (q : Value) (lq : Nat) (ps : List Int) (hb : Below w.heap.size w W) (h : W.ownsRow lq 3 1 q m (ints ps)) => newTransition_rd _ _ q W.heap.size m m m xs ys ps c W (Rd.of_own (HV.out W hb)) (Rd.of_own (HU.out W hb)) (Rd.of_own h) (Nat.le_refl _) (by omega) (by omega) (by omega) n0 n0 n0)
    clear hab hx hy hc hco hsq hcl HV HU
    obtain ⟨f0, f1, f2, f3⟩ := K0.out.c4
    go_enter Try.func9, Try.ntmps9
    go_wp2_with fail
    refine (HP.out _ HB0.out).mono ?_
    rintro e w2 ⟨rfl, hb⟩
    have K1 := Lib.hid (K0.out.on hb)
    have HB1 := Lib.hid (below_on HB0.out hb)
    clear hb K0 HB0 f0 f1 f2 f3
    rw [HE.out]
    go_wp2_with fail
    refine (PC.out _ HB1.out).mono ?_
    rintro e w3 ⟨q, vs, rfl, hg, hb⟩
    have K2 := Lib.hid (K1.out.on hb)
    have HB2 := Lib.hid (below_on HB1.out hb)
    have HR := Lib.hid hg.rd
    clear hb hg K1 HB1
    go_wp2_with fail
    refine (PL.out _ _ _ HR.out (Nat.le_refl _)).mono ?_
    rintro e w4 ⟨q2, rfl, ho, hb⟩
    obtain ⟨Aq, cq, rfl⟩ := (Rd.of_own ho).form
    have K3 := Lib.hid (K2.out.on hb)
    have HB3 := Lib.hid (below_on HB2.out hb)
    have HO := Lib.hid ho
    clear hb ho K2 HB2 HR
    go_wp2_with fail
    refine (PW.out _ _ _ _ HB3.out HO.out).mono ?_
    rintro e w5 ⟨r, rfl, oa, hb⟩
    have OA := Lib.hid oa
    have KZ := Lib.hid (K3.out.on hb)
    have HBY := Lib.hid (below_on HB3.out hb)
    have HBZ := Lib.hid HB3.out.size
    clear hb oa K3 HB3 HO
    obtain ⟨Ar, cr, Dr, dr, Er, er, rfl, o1, o2, o3⟩ := OA.out.form
    obtain ⟨f0, f1, f2, f3⟩ := KZ.out.c4
    have g0 := KZ.out.frozen 0
    have g1 := KZ.out.frozen 1
    have g2 := KZ.out.frozen 2
    have g3 := KZ.out.frozen 3
    have O1 := Lib.hid o1
    have O2 := Lib.hid o2
    have O3 := Lib.hid o3
    clear o1 o2 o3 OA
    go_wp2_with fail
    obtain ⟨m0, m1, m2, m3⟩ := (blk_set4 KZ.out (.slice Ar m cr) (.slice Dr m dr) (.int .i64 c) (.slice Er m er)).c4
    exact bodyPost_ret (v := .tuple #[.agg #[.slice Ar m cr, .slice Dr m dr, .int .i64 c, .slice Er m er], .bool true]) (by simp [results, Try.results9, go_sem, m0, m1, m2, m3]) rfl
      ⟨_, rfl, by rw [HT.out]; exact ⟨_, _, _, rfl, own_base (own_set4 O1.out KZ.out (by decide) _ _ _ _) HBZ.out, own_base (own_set4 O2.out KZ.out (by decide) _ _ _ _) HBZ.out, own_base (own_set4 O3.out KZ.out (by decide) _ _ _ _) HBZ.out⟩, below_set4 HBY.out (Nat.le_refl _) _ _ _ _⟩
end Go.Proofs.Ytnlneblipedddaa

namespace Go.Proofs.Ytnlneblipedddaa
open Go.RowKit

set_option maxRecDepth 100000 in
set_option maxHeartbeats 4000000 in
theorem leastSums_any (B n : Nat) (v : Value) (rs : List (List Int)) (w : World) (h : RdR w B v n rs) (hB : B ≤ w.heap.size) (hn0 : 1 ≤ n) (hn : n ≤ 12) (hr : Sq n rs) (hC : CostOk (cst rs)) :
    Calls Try.prog 66 #[v] w fun e w' => ∃ u, e = .returned u ∧ w'.ownsRow w.heap.size 3 1 u (2 ^ n) (ints (usL (tb (cst rs) n) n 0)) ∧ Below w.heap.size w w' := by
  obtain ⟨A, c, rfl, hrr⟩ := h
  obtain ⟨b, off, rfl, hbB, hrow⟩ := hrr (by omega)
  have hbw : b < w.heap.size := by omega
  have HROWS := Lib.hid hrow
  have HSQ := Lib.hid hr
  obtain ⟨T, eT⟩ : ∃ T, cst rs = T := ⟨_, rfl⟩
  have HT := Lib.hid eT
  rw [eT] at hC ⊢
  have HOL := Lib.hid (fun u (hu : u < 2 ^ n) (k : Nat) (hk : k < n) => or_lt hu hk)
  have HUM := Lib.hid (fun u (hu : u + 1 < 2 ^ n) => us_is (C := T) (n := n) (u := u) hC hn hu)
  have HPL := Lib.hid (fun u (hu : u + 1 < 2 ^ n) => pop_less hn0 hu)
  have HP12 := Lib.hid (fun u (hu : u < 2 ^ n) => popc_12 hn hu)
  have HTOP := Lib.hid (usL_top (F := tb T n) (tb_zero T n) n)
  have HUG := Lib.hid (fun m j (hj : m ≤ j) (h : j < 2 ^ n) => usL_get (F := tb T n) (n := n) hj h)
  have HUS := Lib.hid (fun m (h : m < 2 ^ n) => usL_set (F := tb T n) (n := n) h)
  have HUN := Lib.hid (fun m => usL_length (tb T n) n m)
  have HFB := Lib.hid (tb_bound hC n)
  have hM1 : 2 ^ 1 ≤ 2 ^ n := Nat.pow_le_pow_right (by decide) hn0
  have hM2 : 2 ^ n ≤ 4096 := Nat.pow_le_pow_right (by decide) hn
  obtain ⟨M, eM⟩ : ∃ M : Nat, 2 ^ n = M := ⟨_, rfl⟩
  have sh : wrap64 (2 ^ n) = (M : Int) := by rw [one_shl2 n (by omega), ← eM]; exact_mod_cast rfl
  rw [eM] at HUM HPL HP12 HTOP HUG HUS HUN hM1 hM2 HOL ⊢
  rw [Nat.pow_one] at hM1
  obtain ⟨F, eF⟩ : ∃ F, tb T n = F := ⟨_, rfl⟩
  rw [eF] at HUM HTOP HUG HUS HUN HFB ⊢
  have HC := Lib.hid hC
  clear hrr hrow hr hC eT eF eM
  obtain ⟨i0, hi, hz0, hz1, hz2⟩ := info_parts intInfo
  have hz2' : i0.bytes * M ≤ 281474976710656 := by rw [hz2]; omega
  go_enter Try.func66, Try.ntmps66
  go_wp2_with (at_make; rw [sh]; refine wpList_make_full _ rfl (.tmp 11) (.tmp 11) 27 rfl w.heap.size 3 i0 (.int .i64 0) 1 Try.underlying27 hi hz0 hz1 .i64 .i64 M M M rfl rfl rfl rfl hz2' (by unfold maxLen; omega) (by first | exact Nat.le_refl _ | simp) ?_; intro w3 hown1 hg1)
  rw [Nat.mul_one, madeInts] at hown1
  have HO3 := Lib.hid (show w3.ownsRow w.heap.size 3 1 (.slice (some ⟨w.heap.size, 0, none⟩) M M) M (ints (usL F n (M - 1))) by rw [HTOP.out]; exact hown1)
  have HB3 := Lib.hid ((Below.refl w.heap.size w).grown hg1 (Nat.le_refl _) (by simp))
  clear hown1 hg1 hi hz0 hz1 hz2 hz2'
  have s1 : (M : Int) - 2 = ((M - 1 : Nat) : Int) - 1 := by omega
  have s2 := IntWalk.i64_in ((M : Int) - 2) (by omega)
  go_wp2_with fail
  rw [sh]
  go_wp2_with fail
  go_loopw [5] (fun i wr => ∃ m : Nat, m + 1 ≤ M ∧ i = .int .i64 ((m : Int) - 1) ∧ wr.ownsRow w.heap.size 3 1 (.slice (some ⟨w.heap.size, 0, none⟩) M M) M (ints (usL F n m)) ∧ Below w.heap.size w wr) (fun i _ => (intOf i + 1).toNat)
  case atStart => exact ⟨M - 1, by omega, by rw [← s1], HO3.out, HB3.out⟩
  case round =>
    clear HO3 HB3 s1 s2
    obtain ⟨m, hm, rfl, hown, hb⟩ := hrel
    have HO := Lib.hid hown
    have HB := Lib.hid hb
    clear hown hb
    obtain ⟨wo, ewo⟩ : ∃ wo, wr = wo := ⟨_, rfl⟩
    rw [ewo] at HO HB ⊢
    clear ewo
    by_cases h0 : m = 0
    · subst h0
      have en1 : ((0 : Nat) : Int) - 1 = -1 := rfl
      rw [en1]
      clear en1
      go_wp2_with fail
      go_ret
      exact ⟨_, rfl, HO.out, HB.out⟩
    · obtain ⟨u, rfl⟩ : ∃ u, m = u + 1 := ⟨m - 1, by omega⟩
      have e1 : ((u + 1 : Nat) : Int) - 1 = (u : Int) := by omega
      rw [e1]
      clear e1 h0
      have hu1 : u + 1 < M := by omega
      have P0 := fun W => OnesCount_any u (by omega) W
      have hp12 := HP12.out u (by omega)
      simp only [hp12] at P0
      have hrn := HPL.out u hu1
      have hum := HUM.out u hu1
      obtain ⟨r, er⟩ : ∃ r, popc u n = r := ⟨_, rfl⟩
      rw [er] at hrn hum
      simp only [er] at P0
      have P := Lib.hid P0
      have HUMU := Lib.hid hum
      have HUSU := Lib.hid (HUS.out u (by omega))
      obtain ⟨sv, k0, -, A2, c2, rfl, hx⟩ := HROWS.out r hrn
      rw [HSQ.out r hrn] at hx k0
      obtain ⟨g, o2, rfl, hgB, hx⟩ := hx (by omega)
      have HX := Lib.hid hx
      have HGW := Lib.hid (show g < w.heap.size by omega)
      have HRC := Lib.hid (show ∀ j, (rs.getD r []).getD j 0 = T r j from fun j => by rw [← HT.out]; rfl)
      have HR0 := Lib.hid (fun (W : World) (hb : Below w.heap.size w W) => ((hb.cell (p := ⟨b, off + r, none⟩) hbw).trans k0))
      have hll := HUN.out (u + 1)
      have u0 : (0 : Int) ≤ (u : Int) := by omega
      have u1 : (u : Int) < (M : Int) := by omega
      have r0 : (0 : Int) ≤ (r : Int) := by omega
      have r1 : (r : Int) < (n : Int) := by omega
      have cu := u64_in u (by omega)
      have HLG := Lib.hid (fun j (hj : u + 1 ≤ j) (h : j < M) => HUG.out (u + 1) j hj h)
      obtain ⟨L, eL⟩ : ∃ L, usL F n (u + 1) = L := ⟨_, rfl⟩
      rw [eL] at hll HO HLG HUSU
      have f0 := HO.out.frozenAt u
      have x0 := (HO.out.cellAt u (by omega)).trans (ints_get _ u (by omega))
      have hst := (HO.out.stored u (.int .i64 13194139533312)).1
      rw [ints_set] at hst
      have HO1 := Lib.hid hst
      have HB1 := Lib.hid (HB.out.setCell (p := ⟨w.heap.size, u, none⟩) (Nat.le_refl _) (.int .i64 13194139533312))
      clear hst P0 hp12 hum er eL hx k0
      go_wp2_with fail
      refine (P.out _).mono ?_
      rintro e w' ⟨rfl, rfl⟩
      go_wp2_with fail
      have HZ0 := Lib.hid (show usK 13194139533312 T (fun x => F (oth n x)) r u 0 = 13194139533312 from rfl)
      clear f0 x0
      go_loopw [7] (fun i wr => ∃ k : Nat, k ≤ n ∧ i = .int .i64 k ∧ wr.ownsRow w.heap.size 3 1 (.slice (some ⟨w.heap.size, 0, none⟩) M M) M (ints (L.set u (usK 13194139533312 T (fun x => F (oth n x)) r u k))) ∧ Below w.heap.size w wr) (fun i _ => n - (intOf i).toNat)
      case atStart => exact ⟨0, by omega, rfl, by rw [HZ0.out]; exact HO1.out, HB1.out⟩
      case round =>
        clear HO HB HO1 HB1
        obtain ⟨k, hk, rfl, hown, hb⟩ := hrel
        have HO := Lib.hid hown
        have HB := Lib.hid hb
        clear hown hb
        by_cases hlk : k < n
        · have x1 := HX.out k (by omega)
          rw [HRC.out] at x1
          have x0 := (HB.out.cell (p := ⟨g, o2 + k, none⟩) HGW.out).trans x1
          have rr := HR0.out _ HB.out
          have tks := (show usK 13194139533312 T (fun x => F (oth n x)) r u (k + 1) = if u.testBit k then usK 13194139533312 T (fun x => F (oth n x)) r u k else min (usK 13194139533312 T (fun x => F (oth n x)) r u k) (T r k + F (oth n (u ||| 2 ^ k))) from rfl)
          have hol := HOL.out u (by omega) k hlk
          have xb := HC.out r k
          have yb := HFB.out (oth n (u ||| 2 ^ k))
          have hcell : u.testBit k = false → wr.cell? ⟨w.heap.size, u ||| 2 ^ k, none⟩ = some (.int .i64 (F (oth n (u ||| 2 ^ k)))) := by
            intro hbit
            have hx := or_gt hbit
            have := (HO.out.cellAt (u ||| 2 ^ k) (by omega)).trans (ints_get _ _ (by rw [List.length_set, hll]; omega))
            rw [this]
            congr 2
            rw [← HLG.out _ hx hol]
            simp only [List.getD_eq_getElem?_getD, List.getElem?_set]
            rw [if_neg (by omega)]
          obtain ⟨x, ex⟩ : ∃ x, T r k = x := ⟨_, rfl⟩
          obtain ⟨t, et⟩ : ∃ x, usK 13194139533312 T (fun x => F (oth n x)) r u k = x := ⟨_, rfl⟩
          obtain ⟨y, ey⟩ : ∃ x, F (oth n (u ||| 2 ^ k)) = x := ⟨_, rfl⟩
          rw [ex] at x0 tks xb
          rw [et] at tks HO
          rw [ey] at tks hcell yb
          have m0 : (0 : Int) ≤ (k : Int) := by omega
          have m1 : (k : Int) < (n : Int) := by omega
          have b1 := bit_at2 u k (by omega)
          have HS := Lib.hid tks
          have HCL := Lib.hid hcell
          clear x1 ex et ey tks hcell
          cases hbit : u.testBit k with
          | true =>
            have b2 : bitI u k = 1 := by simp [bitI, hbit]
            rw [b2] at b1
            have HS2 := Lib.hid (show usK 13194139533312 T (fun x => F (oth n x)) r u (k + 1) = t by rw [HS.out, hbit]; rfl)
            clear hbit b2
            go_wp2_with fail
            go_roundw
            case rel => exact ⟨k + 1, by omega, by go_num, by rw [HS2.out]; exact HO.out, HB.out⟩
            case measure => simp [intOf]; omega
          | false =>
            have b2 : bitI u k = 0 := by simp [bitI, hbit]
            rw [b2] at b1
            have HS2 := Lib.hid (show usK 13194139533312 T (fun x => F (oth n x)) r u (k + 1) = min t (x + y) by rw [HS.out, hbit]; rfl)
            have c2 := HCL.out hbit
            have sh1 := one_shl3 k (by omega)
            have fl := bit_set2 u k (by omega) (by omega)
            have i2 := IntWalk.i64_in (x + y) (by omega)
            obtain ⟨z, ez⟩ : ∃ z, u ||| 2 ^ k = z := ⟨_, rfl⟩
            rw [ez] at c2 fl hol
            have z0 : (0 : Int) ≤ (z : Int) := by omega
            have z1 : (z : Int) < (M : Int) := by omega
            have f0 := HO.out.frozenAt u
            have t0 := (HO.out.cellAt u (by omega)).trans (ints_get _ u (by rw [List.length_set, hll]; omega))
            have e0 : (L.set u t).getD u 0 = t := by
              simp only [List.getD_eq_getElem?_getD, List.getElem?_set]
              simp [show u < L.length by omega]
            rw [e0] at t0
            have hst := (HO.out.stored u (.int .i64 (min t (x + y)))).1
            rw [ints_set, List.set_set] at hst
            have HO2 := Lib.hid hst
            have HB2 := Lib.hid (HB.out.setCell (p := ⟨w.heap.size, u, none⟩) (Nat.le_refl _) (.int .i64 (min t (x + y))))
            clear hbit b2 e0 ez hst
            go_wp2_with fail
            refine wp_region_still_tail 23 (by kernel_rfl) (by kernel_rfl) ?_
            simp only [List.take_succ_cons, List.take_zero, List.drop_succ_cons, List.drop_zero]
            repeat (first | still_step | fail)
            try refine wpStill_nil ?_
            go_wp2_with fail
            go_roundw
            case rel => exact ⟨k + 1, by omega, by go_num, by rw [HS2.out]; exact HO2.out, HB2.out.drew⟩
            case measure => simp [intOf]; omega
        · obtain rfl : k = n := by omega
          have HO2 := Lib.hid (show wr.ownsRow w.heap.size 3 1 (.slice (some ⟨w.heap.size, 0, none⟩) M M) M (ints (usL F k u)) by
            rw [← HUSU.out, ← HUMU.out]; exact HO.out)
          have i1 := set_prev hu1 hM2
          go_wp2_with fail
          go_roundw
          case rel => exact ⟨u, Nat.le_of_lt hu1, by go_num, HO2.out, HB.out⟩
          case measure => simp [intOf]
end Go.Proofs.Ytnlneblipedddaa

namespace Go.Proofs.Ytnlneblipedddaa
open Go.RowKit

theorem ml_hit {C : Nat → Nat → Int} {n : Nat} (hC : CostOk C) (hn : n ≤ 12) {i : Nat} (hi : i < n) : mlS C (tb C n) n i < 2 ^ n ∧ 0 ≤ fst (mlP C (tb C n) i (mlS C (tb C n) n i)) n := by
  obtain ⟨a, _, c⟩ := mlS_ok hC hn i (by omega)
  exact ⟨a, (c hi).1⟩
set_option maxRecDepth 100000 in
set_option maxHeartbeats 4000000 in
theorem leastMatching_any (B n : Nat) (v : Value) (rs : List (List Int)) (w : World) (h : RdR w B v n rs) (hB : B ≤ w.heap.size) (hn0 : 1 ≤ n) (hn : n ≤ 12) (hr : Sq n rs) (hC : CostOk (cst rs)) :
    Calls Try.prog 35 #[v] w fun e w' => ∃ u, e = .returned u ∧ w'.ownsRow w.heap.size 3 1 u n (ints (mlL (cst rs) (tb (cst rs) n) n n)) ∧ Below w.heap.size w w' := by
  have PS0 := leastSums_any B n v rs w h hB hn0 hn hr hC
  obtain ⟨A, c, rfl, hrr⟩ := h
  obtain ⟨b, off, rfl, hbB, hrow⟩ := hrr (by omega)
  have hbw : b < w.heap.size := by omega
  have HROWS := Lib.hid hrow
  have HSQ := Lib.hid hr
  obtain ⟨T, eT⟩ : ∃ T, cst rs = T := ⟨_, rfl⟩
  have HT := Lib.hid eT
  rw [eT] at hC PS0 ⊢
  have HHIT := Lib.hid (fun i (hi : i < n) => ml_hit hC hn hi)
  have HOTH := Lib.hid (fun u (hu : u < 2 ^ n) (k : Nat) (hk : k < n) (hb : u.testBit k = false) => oth_set hu hk hb)
  have HOB := Lib.hid (fun u (hu : u < 2 ^ n) (k : Nat) (hk : k < n) => oth_bit hu hk)
  have HOL := Lib.hid (fun u (hu : u < 2 ^ n) (k : Nat) (hk : k < n) => or_lt hu hk)
  have HUG := Lib.hid (fun m j (hj : m ≤ j) (h : j < 2 ^ n) => usL_get (F := tb T n) (n := n) hj h)
  have HUN := Lib.hid (fun m => usL_length (tb T n) n m)
  have HFB := Lib.hid (tb_bound hC n)
  have HS0 := Lib.hid (show mlS T (tb T n) n 0 = 2 ^ n - 1 from rfl)
  have hO0 : oth n 0 = 2 ^ n - 1 := rfl
  have hM1 : 2 ^ 1 ≤ 2 ^ n := Nat.pow_le_pow_right (by decide) hn0
  have hM2 : 2 ^ n ≤ 4096 := Nat.pow_le_pow_right (by decide) hn
  obtain ⟨M, eM⟩ : ∃ M : Nat, 2 ^ n = M := ⟨_, rfl⟩
  rw [eM] at HUG HUN HS0 hO0 hM1 hM2 HHIT HOTH HOB HOL PS0
  rw [Nat.pow_one] at hM1
  obtain ⟨F, eF⟩ : ∃ F, tb T n = F := ⟨_, rfl⟩
  rw [eF] at HUG HUN HS0 HHIT HFB PS0 ⊢
  have HO0 := Lib.hid hO0
  have HC := Lib.hid hC
  have PS := Lib.hid PS0
  clear hrr hrow hr hC eT eF eM hO0 PS0
  go_enter Try.func35, Try.ntmps35
  go_wp2_with fail
  refine PS.out.mono ?_
  rintro e wo ⟨q, rfl, ho, hb⟩
  obtain ⟨Aq, cq, rfl⟩ := (Rd.of_own ho).form
  obtain ⟨gq, rfl, hgq⟩ := own_at ho (by omega)
  have HO := Lib.hid ho
  have HB := Lib.hid hb
  clear ho hb PS
  have HTC := Lib.hid (fun (W : World) (hb : Below wo.heap.size wo W) (j : Nat) (hj : j < M) => ((hb.cell (p := ⟨gq, j, none⟩) (HO.out.lt gq rfl).2).trans ((HO.out.cellAt j (by omega)).trans ((ints_get _ j (by rw [HUN.out]; exact hj)).trans (by rw [HUG.out 0 j (Nat.zero_le _) hj]))) : W.cell? ⟨gq, j, none⟩ = some (.int .i64 (F (oth n j)))))
  have hos0 : oth n 0 = mlS T F n 0 := by rw [HO0.out, HS0.out]
  have HSN := Lib.hid (show ∀ i, mlS T F n (i + 1) = mlS T F n i ^^^ 2 ^ (fst (mlP T F i (mlS T F n i)) n).toNat from fun i => rfl)
  have HLN := Lib.hid (show ∀ i, mlL T F n (i + 1) = mlL T F n i ++ [fst (mlP T F i (mlS T F n i)) n] from fun i => rfl)
  have HPD := Lib.hid (show ∀ i s k, mlP T F i s k = (s.testBit k && T i k + F (s ^^^ 2 ^ k) == F s) from fun i s k => rfl)
  have HML := Lib.hid (show mlL T F n 0 = [] from rfl)
  have HOS := Lib.hid hos0
  have HBW := Lib.hid (below_new (Below.refl wo.heap.size wo) (.cells #[] 3))
  have HEM := Lib.hid (own_empty wo 3 1)
  have p0 : (0 : Int) < (M : Int) := by omega
  clear hos0
  go_wp2_with fail
  go_loopw [4, 5, 13] (fun s o i wr => ∃ (k u : Nat), k ≤ n ∧ i = .int .i64 k ∧ u < M ∧ s = .int .i64 (u : Int) ∧ oth n u = mlS T F n k ∧ wr.ownsRow wo.heap.size 3 1 o k (ints (mlL T F n k)) ∧ Below wo.heap.size wo wr) (fun _ _ i _ => n - (intOf i).toNat)
  case atStart => exact ⟨0, 0, by omega, rfl, by omega, rfl, HOS.out, by rw [HML.out]; exact HEM.out, HBW.out⟩
  case round =>
    clear HBW HEM
    obtain ⟨i, u, hi, rfl, huM, rfl, hus, hown, hb⟩ := hrel
    obtain ⟨Ao, co, rfl⟩ := (Rd.of_own hown).form
    have HOO := Lib.hid hown
    have HBO := Lib.hid hb
    have HUS2 := Lib.hid hus
    clear hown hb hus
    by_cases hlt : i < n
    · obtain ⟨sv, k0, -, A2, c2, rfl, hx⟩ := HROWS.out i hlt
      rw [HSQ.out i hlt] at hx k0
      obtain ⟨g, o2, rfl, hgB, hx⟩ := hx (by omega)
      have HX := Lib.hid hx
      have HGW := Lib.hid (show g < w.heap.size by omega)
      have HRC := Lib.hid (show ∀ j, (rs.getD i []).getD j 0 = T i j from fun j => by rw [← HT.out]; rfl)
      have HR0 := Lib.hid (fun (W : World) (hb : Below w.heap.size w W) => ((hb.cell (p := ⟨b, off + i, none⟩) hbw).trans k0))
      have hhit := (HHIT.out i hlt).2
      have hsn := HSN.out i
      have hln := HLN.out i
      have hpd := HPD.out i (mlS T F n i)
      rw [← HUS2.out] at hhit hsn hln hpd
      obtain ⟨P, eP⟩ : ∃ P, mlP T F i (oth n u) = P := ⟨_, rfl⟩
      rw [eP] at hhit hsn hln hpd
      have HHT := Lib.hid hhit
      have HSN2 := Lib.hid hsn
      have HLN2 := Lib.hid hln
      have HPD2 := Lib.hid hpd
      have i0 : (0 : Int) ≤ (i : Int) := by omega
      have i1 : (i : Int) < (n : Int) := by omega
      have u0 : (0 : Int) ≤ (u : Int) := by omega
      have u1 : (u : Int) < (M : Int) := by omega
      have hu62 : u < 2 ^ 62 := by omega
      have hu20 : u < 2 ^ 20 := by omega
      obtain ⟨wq, ewq⟩ : ∃ wq, wr = wq := ⟨_, rfl⟩
      rw [ewq] at HOO HBO ⊢
      clear ewq eP hhit hsn hln hpd hx k0
      go_wp2_with fail
      go_loopw [4, 5, 18] (fun a d s wr => ∃ k : Nat, k ≤ n ∧ a = .int .i64 (u : Int) ∧ d = .slice Ao i co ∧ s = .int .i64 k ∧ (∀ j, j < k → P j = false) ∧ Below wq.heap.size wq wr) (fun _ _ s _ => n - (intOf s).toNat)
      case atStart => exact ⟨0, by omega, rfl, rfl, rfl, fun j hj => absurd hj (by omega), Below.refl _ _⟩
      case round =>
        obtain ⟨k, hk, rfl, rfl, rfl, hno, hbd⟩ := hrel
        have HNO := Lib.hid hno
        have HBD := Lib.hid hbd
        have HBV := Lib.hid (below_on HBO.out hbd)
        have HBA := Lib.hid (below_on HB.out HBV.out)
        clear hbd hno
        by_cases hlk : k < n
        · have x1 := HX.out k (by omega)
          rw [HRC.out] at x1
          have x0 := (HBA.out.cell (p := ⟨g, o2 + k, none⟩) HGW.out).trans x1
          have rr := HR0.out _ HBA.out
          have e0 := HTC.out _ HBV.out u huM
          have hpk := HPD2.out k
          have hob := HOB.out u huM k hlk
          rw [hob] at hpk
          have HPK := Lib.hid hpk
          have HOTK := Lib.hid (HOTH.out u huM k hlk)
          have b1 := bit_at2 u k hu62
          have k0 : (0 : Int) ≤ (k : Int) := by omega
          have k1 : (k : Int) < (n : Int) := by omega
          have hol := HOL.out u huM k hlk
          have HCZ := Lib.hid (HTC.out _ HBV.out (u ||| 2 ^ k) hol)
          clear x1 hpk hob
          cases hbit : u.testBit k with
          | true =>
            have b2 : bitI u k = 1 := by simp [bitI, hbit]
            rw [b2] at b1
            have HN2 := Lib.hid (show ∀ j, j < k + 1 → P j = false from fun j hj => by
              by_cases e : j = k
              · subst e; rw [HPK.out, hbit]; rfl
              · exact HNO.out j (by omega))
            clear hbit b2 x0 rr hol
            go_wp2_with fail
            go_quiet (fail)
            go_wp2_with fail
            go_roundw
            case rel => exact ⟨k + 1, by omega, rfl, rfl, by go_num, HN2.out, below_drewN HBD.out _⟩
            case measure => simp [intOf]; omega
          | false =>
            have b2 : bitI u k = 0 := by simp [bitI, hbit]
            rw [b2] at b1
            have hot := HOTK.out hbit
            have hpk := HPK.out
            rw [← hot, hbit] at hpk
            have c2 := HCZ.out
            have sh1 := one_shl3 k (by omega)
            have sh2 := one_shl2 k (by omega)
            have fl := bit_set2 u k hu20 (by omega)
            have HOT := Lib.hid hot
            obtain ⟨z, ez⟩ : ∃ z, u ||| 2 ^ k = z := ⟨_, rfl⟩
            rw [ez] at c2 fl hol hpk HOT
            have z0 : (0 : Int) ≤ (z : Int) := by omega
            have z1 : (z : Int) < (M : Int) := by omega
            obtain ⟨x, ex⟩ : ∃ x, T i k = x := ⟨_, rfl⟩
            obtain ⟨y, ey⟩ : ∃ y, F (oth n z) = y := ⟨_, rfl⟩
            obtain ⟨E, eE⟩ : ∃ y, F (oth n u) = y := ⟨_, rfl⟩
            rw [ex] at x0 hpk
            rw [ey] at c2 hpk
            rw [eE] at e0 hpk
            have yb := HFB.out (oth n z)
            rw [ey] at yb
            have xb := HC.out i k
            rw [ex] at xb
            have i2 := IntWalk.i64_in (x + y) (by omega)
            have HPQ := Lib.hid hpk
            have HHB := Lib.hid hbit
            clear hbit b2 ez ex ey eE hot hpk
            by_cases hle : x + y = E
            · have d0 : (x + y == E) = true := by simpa using hle
              have hP : P k = true := by rw [HPQ.out, d0]; rfl
              have hfst := fst_hit HNO.out hP hlk
              have hsn := HSN2.out
              have hln := HLN2.out
              rw [hfst] at hsn hln
              rw [Int.toNat_natCast, ← HOT.out] at hsn
              have HSN3 := Lib.hid hsn
              have HLN3 := Lib.hid hln
              have HO1 := Lib.hid (own_below HOO.out HBD.out (Nat.le_refl _))
              clear hle hP hfst hsn hln
              go_wp2_with fail
              go_quiet (fail)
              have HV := Lib.hid (own_drewN HO1.out nq)
              have HW := Lib.hid (below_drewN HBV.out nq)
              obtain ⟨V, eV⟩ : ∃ V, wr.drewN nq = V := ⟨_, rfl⟩
              rw [eV] at HV HW ⊢
              clear eV
              have n0 := (Blk.new V 3 #[.int .i64 (k : Int)]).c1
              have HO2 := Lib.hid (HV.out.alloc (.cells #[.int .i64 (k : Int)] 3))
              have HB2 := Lib.hid (below_new HW.out (.cells #[.int .i64 (k : Int)] 3))
              have hsz := HW.out.size
              go_wp2_with (at_builtin; refine app_int rfl _ _ rfl wo.heap.size _ _ _ rfl HO2.out V.heap.size (k : Int) rfl n0 (by omega) (by simp; omega) ?_; intro v' w9 ho9 hg9)
              have HB9 := Lib.hid (HB2.out.grown hg9 (by simp; omega) (fun g hg => (HO2.out.lt g hg).1))
              have HO9 := Lib.hid (show w9.ownsRow wo.heap.size 3 1 v' (i + 1) (ints (mlL T F n (i + 1))) by rw [HLN3.out]; exact ho9)
              clear ho9 hg9 n0 HO2 HB2
              go_wp2_with fail
              go_roundw
              case rel => exact ⟨i + 1, z, by omega, by go_num, hol, rfl, HSN3.out.symm, HO9.out, HB9.out⟩
              case measure => simp [intOf]; omega
            · have d0 : (x + y == E) = false := by simpa using hle
              have hP : P k = false := by rw [HPQ.out, d0]; rfl
              have HN2 := Lib.hid (show ∀ j, j < k + 1 → P j = false from fun j hj => by
                by_cases e : j = k
                · subst e; exact hP
                · exact HNO.out j (by omega))
              clear hle hP
              go_wp2_with fail
              go_quiet (fail)
              go_wp2_with fail
              go_roundw
              case rel => exact ⟨k + 1, by omega, rfl, rfl, by go_num, HN2.out, below_drewN HBD.out _⟩
              case measure => simp [intOf]; omega
        · obtain rfl : k = n := by omega
          have h1 := fst_no HNO.out
          have h2 := HHT.out
          exact absurd h1 (by omega)
    · obtain rfl : i = n := by omega
      have HO2 := Lib.hid (own_base (base' := w.heap.size) HOO.out HB.out.size)
      have HB2 := Lib.hid (below_on HB.out HBO.out)
      go_wp2_with fail
      go_ret
      exact ⟨_, rfl, HO2.out, HB2.out⟩
end Go.Proofs.Ytnlneblipedddaa

namespace Go.Proofs.Ytnlneblipedddaa
open Go.RowKit

set_option maxRecDepth 100000 in
set_option maxHeartbeats 4000000 in
theorem LeastTransition_any (v u : Value) (lo n m : Nat) (xs ys : List Int) (c : Int) (w : World) (hv : w.ownsRow lo 75 2 v n (ints xs)) (hu : w.ownsRow lo 75 2 u m (ints ys)) (hn : n ≤ 1048576) (hm : m ≤ 1048576) :
    Calls Try.prog 7 #[v, u, .int .i64 c] w fun e w' => ∃ r, e = .returned (.tuple #[r, .bool (aaB n xs m ys c)]) ∧ OwnA w' w.heap.size r (ltT n xs m ys c) ∧ Below w.heap.size w w' := by
  obtain ⟨A, ca, rfl⟩ := (Rd.of_own hv).form
  obtain ⟨C, cb, rfl⟩ := (Rd.of_own hu).form
  have K0 := Lib.hid (Blk.new w 29 #[.slice none 0 0, .slice none 0 0, .int .i64 0, .slice none 0 0])
  have HB0 := Lib.hid (below_new (Below.refl w.heap.size w) (.cells #[.slice none 0 0, .slice none 0 0, .int .i64 0, .slice none 0 0] 29))
  have HV := Lib.hid (fun W (hb : Below w.heap.size w W) => own_below hv hb (Nat.le_refl _))
  have HU := Lib.hid (fun W (hb : Below w.heap.size w W) => own_below hu hb (Nat.le_refl _))
  have HP := Lib.hid (fun W (hb : Below w.heap.size w W) => canChange_any _ _ n m W.heap.size xs ys c W (own_cap hv) (own_cap hu) (Rd.of_own (own_below hv hb (Nat.le_refl _))) (Rd.of_own (own_below hu hb (Nat.le_refl _))) (Nat.le_refl _) (by omega) (by omega))
  clear hv hu
  cases hab : aaB n xs m ys c with
  | false =>
    have HT := Lib.hid (show ltT n xs m ys c = zeroT by simp [ltT, hab])
    have HE := Lib.hid hab
    obtain ⟨f0, f1, f2, f3⟩ := K0.out.c4
    clear hab
    go_enter Try.func7, Try.ntmps7
    go_wp2_with fail
    refine (HP.out _ HB0.out).mono ?_
    rintro e w2 ⟨rfl, hb⟩
    have k1 := K0.out.on hb
    have HB1 := Lib.hid (below_on HB0.out hb)
    obtain ⟨g0, g1, g2, g3⟩ := k1.c4
    have g4 := k1.frozen 0
    have g5 := k1.frozen 1
    have g6 := k1.frozen 2
    have g7 := k1.frozen 3
    have K1 := Lib.hid k1
    clear hb K0 HB0 k1 f0 f1 f2 f3
    rw [HE.out]
    go_wp2_with fail
    obtain ⟨m0, m1, m2, m3⟩ := (blk_set4 K1.out (.slice none 0 0) (.slice none 0 0) (.int .i64 0) (.slice none 0 0)).c4
    exact bodyPost_ret (v := .tuple #[.agg #[.slice none 0 0, .slice none 0 0, .int .i64 0, .slice none 0 0], .bool false]) (by simp [results, Try.results7, go_sem, m0, m1, m2, m3]) rfl
      ⟨_, rfl, by rw [HT.out]; exact OwnA.zero _ _, below_set4 HB1.out (Nat.le_refl _) _ _ _ _⟩
  | true =>
    obtain ⟨⟨n0, n1⟩, rfl, hc, hx, hy⟩ := aa_yes hab
    have HT := Lib.hid (show ltT m xs m ys c = ⟨m, xs, m, ys, c, m, mlL (cst (coRs xs ys m m)) (tb (cst (coRs xs ys m m)) m) m m⟩ by simp [ltT, hab, ltP, coC])
    have HE := Lib.hid hab
    have PC := Lib.hid (fun (W : World) (hb : Below w.heap.size w W) => squaresOf_any _ _ m m W.heap.size xs ys W (Rd.of_own (HV.out W hb)) (Rd.of_own (HU.out W hb)) (Nat.le_refl _) n1 n1 hx hy)
    have hco := co_ok hx hy
    have hsq := co_sq xs ys m
    have PL := Lib.hid (fun (W : World) (B : Nat) (q : Value) (h : RdR W B q m (coRs xs ys m m)) (hB : B ≤ W.heap.size) => leastMatching_any B m q (coRs xs ys m m) W h hB n0 n1 hsq hco)
    have PW := Lib.hid (fun (W : World) (q : Value) (lq : Nat) (ps : List Int) (hb : Below w.heap.size w W) (h : W.ownsRow lq 3 1 q m (ints ps)) => newTransition_rd _ _ q W.heap.size m m m xs ys ps c W (Rd.of_own (HV.out W hb)) (Rd.of_own (HU.out W hb)) (Rd.of_own h) (Nat.le_refl _) (by omega) (by omega) (by omega) n0 n0 n0)
    clear hab hx hy hc hco hsq HV HU
    obtain ⟨f0, f1, f2, f3⟩ := K0.out.c4
    go_enter Try.func7, Try.ntmps7
    go_wp2_with fail
    refine (HP.out _ HB0.out).mono ?_
    rintro e w2 ⟨rfl, hb⟩
    have K1 := Lib.hid (K0.out.on hb)
    have HB1 := Lib.hid (below_on HB0.out hb)
    clear hb K0 HB0 f0 f1 f2 f3
    rw [HE.out]
    go_wp2_with fail
    refine (PC.out _ HB1.out).mono ?_
    rintro e w3 ⟨q, vs, rfl, hg, hb⟩
    have K2 := Lib.hid (K1.out.on hb)
    have HB2 := Lib.hid (below_on HB1.out hb)
    have HR := Lib.hid hg.rd
    clear hb hg K1 HB1
    go_wp2_with fail
    refine (PL.out _ _ _ HR.out (Nat.le_refl _)).mono ?_
    rintro e w4 ⟨q2, rfl, ho, hb⟩
    obtain ⟨Aq, cq, rfl⟩ := (Rd.of_own ho).form
    have K3 := Lib.hid (K2.out.on hb)
    have HB3 := Lib.hid (below_on HB2.out hb)
    have HO := Lib.hid ho
    clear hb ho K2 HB2 HR
    go_wp2_with fail
    refine (PW.out _ _ _ _ HB3.out HO.out).mono ?_
    rintro e w5 ⟨r, rfl, oa, hb⟩
    have OA := Lib.hid oa
    have KZ := Lib.hid (K3.out.on hb)
    have HBY := Lib.hid (below_on HB3.out hb)
    have HBZ := Lib.hid HB3.out.size
    clear hb oa K3 HB3 HO
    obtain ⟨Ar, cr, Dr, dr, Er, er, rfl, o1, o2, o3⟩ := OA.out.form
    obtain ⟨f0, f1, f2, f3⟩ := KZ.out.c4
    have g0 := KZ.out.frozen 0
    have g1 := KZ.out.frozen 1
    have g2 := KZ.out.frozen 2
    have g3 := KZ.out.frozen 3
    have O1 := Lib.hid o1
    have O2 := Lib.hid o2
    have O3 := Lib.hid o3
    clear o1 o2 o3 OA
    go_wp2_with fail
    obtain ⟨m0, m1, m2, m3⟩ := (blk_set4 KZ.out (.slice Ar m cr) (.slice Dr m dr) (.int .i64 c) (.slice Er m er)).c4
    exact bodyPost_ret (v := .tuple #[.agg #[.slice Ar m cr, .slice Dr m dr, .int .i64 c, .slice Er m er], .bool true]) (by simp [results, Try.results7, go_sem, m0, m1, m2, m3]) rfl
      ⟨_, rfl, by rw [HT.out]; exact ⟨_, _, _, rfl, own_base (own_set4 O1.out KZ.out (by decide) _ _ _ _) HBZ.out, own_base (own_set4 O2.out KZ.out (by decide) _ _ _ _) HBZ.out, own_base (own_set4 O3.out KZ.out (by decide) _ _ _ _) HBZ.out⟩, below_set4 HBY.out (Nat.le_refl _) _ _ _ _⟩
end Go.Proofs.Ytnlneblipedddaa

namespace Go.Proofs.Ytnlneblipedddaa
open Go.RowKit

theorem OwnT.zero {w : World} {lo hi : Nat} (h : lo ≤ hi) : OwnT w lo hi (.agg #[.slice none 0 0, .slice none 0 0, .int .i64 0, .slice none 0 0]) zeroT :=
  ⟨_, _, _, lo, lo, rfl, Nat.le_refl _, Nat.le_refl _, h, ⟨World.ownsRow_nil _ _ _ _, fun k hk => by cases hk⟩, ⟨World.ownsRow_nil _ _ _ _, fun k hk => by cases hk⟩, ⟨World.ownsRow_nil _ _ _ _, fun k hk => by cases hk⟩⟩
set_option maxRecDepth 100000 in
set_option maxHeartbeats 4000000 in
theorem EvenTransition_own (v u : Value) (lo n m : Nat) (xs ys : List Int) (c : Int) (w : World) (hv : w.ownsRow lo 75 2 v n (ints xs)) (hu : w.ownsRow lo 75 2 u m (ints ys)) (hn : n ≤ 1048576) (hm : m ≤ 1048576) :
    Calls Try.prog 9 #[v, u, .int .i64 c] w fun e w' => ∃ r, e = .returned (.tuple #[r, .bool (aaB n xs m ys c)]) ∧ OwnT w' w.heap.size w'.heap.size r (evT n xs m ys c) ∧ Below w.heap.size w w' := by
  obtain ⟨A, ca, rfl⟩ := (Rd.of_own hv).form
  obtain ⟨C, cb, rfl⟩ := (Rd.of_own hu).form
  have K0 := Lib.hid (Blk.new w 29 #[.slice none 0 0, .slice none 0 0, .int .i64 0, .slice none 0 0])
  have HB0 := Lib.hid (below_new (Below.refl w.heap.size w) (.cells #[.slice none 0 0, .slice none 0 0, .int .i64 0, .slice none 0 0] 29))
  have HV := Lib.hid (fun W (hb : Below w.heap.size w W) => own_below hv hb (Nat.le_refl _))
  have HU := Lib.hid (fun W (hb : Below w.heap.size w W) => own_below hu hb (Nat.le_refl _))
  have HP := Lib.hid (fun W (hb : Below w.heap.size w W) => canChange_any _ _ n m W.heap.size xs ys c W (own_cap hv) (own_cap hu) (Rd.of_own (own_below hv hb (Nat.le_refl _))) (Rd.of_own (own_below hu hb (Nat.le_refl _))) (Nat.le_refl _) (by omega) (by omega))
  clear hv hu
  cases hab : aaB n xs m ys c with
  | false =>
    have HT := Lib.hid (show evT n xs m ys c = zeroT by simp [evT, hab])
    have HE := Lib.hid hab
    obtain ⟨f0, f1, f2, f3⟩ := K0.out.c4
    clear hab
    go_enter Try.func9, Try.ntmps9
    go_wp2_with fail
    refine (HP.out _ HB0.out).mono ?_
    rintro e w2 ⟨rfl, hb⟩
    have k1 := K0.out.on hb
    have HB1 := Lib.hid (below_on HB0.out hb)
    obtain ⟨g0, g1, g2, g3⟩ := k1.c4
    have g4 := k1.frozen 0
    have g5 := k1.frozen 1
    have g6 := k1.frozen 2
    have g7 := k1.frozen 3
    have K1 := Lib.hid k1
    clear hb K0 HB0 k1 f0 f1 f2 f3
    rw [HE.out]
    go_wp2_with fail
    obtain ⟨m0, m1, m2, m3⟩ := (blk_set4 K1.out (.slice none 0 0) (.slice none 0 0) (.int .i64 0) (.slice none 0 0)).c4
    exact bodyPost_ret (v := .tuple #[.agg #[.slice none 0 0, .slice none 0 0, .int .i64 0, .slice none 0 0], .bool false]) (by simp [results, Try.results9, go_sem, m0, m1, m2, m3]) rfl
      ⟨_, rfl, by rw [HT.out]; exact OwnT.zero (below_set4 HB1.out (Nat.le_refl _) _ _ _ _).size, below_set4 HB1.out (Nat.le_refl _) _ _ _ _⟩
  | true =>
    obtain ⟨⟨n0, n1⟩, rfl, hc, hx, hy⟩ := aa_yes hab
    have HT := Lib.hid (show evT m xs m ys c = ⟨m, xs, m, ys, c, m, evL (cst (coRs xs ys m m)) m⟩ by simp [evT, hab, evP, coC])
    have HE := Lib.hid hab
    have PC := Lib.hid (fun (W : World) (hb : Below w.heap.size w W) => squaresOf_any _ _ m m W.heap.size xs ys W (Rd.of_own (HV.out W hb)) (Rd.of_own (HU.out W hb)) (Nat.le_refl _) n1 n1 hx hy)
    have hco := co_ok hx hy
    have hsq := co_sq xs ys m
    have hcl := coRs_length xs ys m m
    have PL := Lib.hid (fun (W : World) (B : Nat) (q : Value) (h : RdR W B q m (coRs xs ys m m)) (hB : B ≤ W.heap.size) => implLeastGreatest_any B m q (coRs xs ys m m) W h hB n0 n1 hsq hco)
    have PW := Lib.hid (fun (W : World) (q : Value) (lq : Nat) (ps : List Int) (hb : Below w.heap.size w W) (h : W.ownsRow lq 3 1 q m (ints ps)) => newTransition_own _ _ q W.heap.size m m m xs ys ps c W (Rd.of_own (HV.out W hb)) (Rd.of_own (HU.out W hb)) (Rd.of_own h) (Nat.le_refl _) (by omega) (by omega) (by omega) n0 n0 n0)
    clear hab hx hy hc hco hsq hcl HV HU
    obtain ⟨f0, f1, f2, f3⟩ := K0.out.c4
    go_enter Try.func9, Try.ntmps9
    go_wp2_with fail
    refine (HP.out _ HB0.out).mono ?_
    rintro e w2 ⟨rfl, hb⟩
    have K1 := Lib.hid (K0.out.on hb)
    have HB1 := Lib.hid (below_on HB0.out hb)
    clear hb K0 HB0 f0 f1 f2 f3
    rw [HE.out]
    go_wp2_with fail
    refine (PC.out _ HB1.out).mono ?_
    rintro e w3 ⟨q, vs, rfl, hg, hb⟩
    have K2 := Lib.hid (K1.out.on hb)
    have HB2 := Lib.hid (below_on HB1.out hb)
    have HR := Lib.hid hg.rd
    clear hb hg K1 HB1
    go_wp2_with fail
    refine (PL.out _ _ _ HR.out (Nat.le_refl _)).mono ?_
    rintro e w4 ⟨q2, rfl, ho, hb⟩
    obtain ⟨Aq, cq, rfl⟩ := (Rd.of_own ho).form
    have K3 := Lib.hid (K2.out.on hb)
    have HB3 := Lib.hid (below_on HB2.out hb)
    have HO := Lib.hid ho
    clear hb ho K2 HB2 HR
    go_wp2_with fail
    refine (PW.out _ _ _ _ HB3.out HO.out).mono ?_
    rintro e w5 ⟨r, rfl, oa, hb⟩
    have OA := Lib.hid oa
    have KZ := Lib.hid (K3.out.on hb)
    have HBY := Lib.hid (below_on HB3.out hb)
    have HBZ := Lib.hid HB3.out.size
    clear hb oa K3 HB3 HO
    obtain ⟨_, _, _, q1, q2, rfl, l1, l2, l3, o1, o2, o3⟩ := OA.out
    obtain ⟨Ar, cr, rfl⟩ := o1.rd.form
    obtain ⟨Dr, dr, rfl⟩ := o2.rd.form
    obtain ⟨Er, er, rfl⟩ := o3.rd.form
    simp only at o1 o2 o3
    have LL := Lib.hid (And.intro l1 (And.intro l2 l3))
    obtain ⟨f0, f1, f2, f3⟩ := KZ.out.c4
    have g0 := KZ.out.frozen 0
    have g1 := KZ.out.frozen 1
    have g2 := KZ.out.frozen 2
    have g3 := KZ.out.frozen 3
    have O1 := Lib.hid o1
    have O2 := Lib.hid o2
    have O3 := Lib.hid o3
    clear o1 o2 o3 OA l1 l2 l3
    go_wp2_with fail
    obtain ⟨m0, m1, m2, m3⟩ := (blk_set4 KZ.out (.slice Ar m cr) (.slice Dr m dr) (.int .i64 c) (.slice Er m er)).c4
    exact bodyPost_ret (v := .tuple #[.agg #[.slice Ar m cr, .slice Dr m dr, .int .i64 c, .slice Er m er], .bool true]) (by simp [results, Try.results9, go_sem, m0, m1, m2, m3]) rfl
      ⟨_, rfl, by rw [HT.out]; exact ⟨_, _, _, q1, q2, rfl, Nat.le_trans HBZ.out LL.out.1, LL.out.2.1, by simp only [World.size_setCell]; exact LL.out.2.2, own_lo ⟨own_set4 O1.out.1 KZ.out (by decide) _ _ _ _, O1.out.2⟩ HBZ.out, ⟨own_set4 O2.out.1 KZ.out (by decide) _ _ _ _, O2.out.2⟩, Own.of (own_set4 O3.out.1 KZ.out (by decide) _ _ _ _)⟩, below_set4 HBY.out (Nat.le_refl _) _ _ _ _⟩
end Go.Proofs.Ytnlneblipedddaa

namespace Go.Proofs.Ytnlneblipedddaa
open Go.RowKit

/-- A transition whose slices are owned, in blocks from lo on and below hi. -/
def OwnH (w : World) (lo hi : Nat) (v : Value) (t : TrN) : Prop :=
  ∃ va vb vc, v = .agg #[va, vb, .int .i64 t.c, vc] ∧ Own w lo hi 75 2 va t.n t.xs ∧ Own w lo hi 75 2 vb t.m t.ys ∧ Own w lo hi 3 1 vc t.p t.ps
section
variable {w w' : World} {lo hi lo2 hi2 C sz n : Nat} {v u : Value} {t : TrN} {e : TypeId} {ys : List Int}
theorem OwnH.of (h : OwnA w lo v t) : OwnH w lo w.heap.size v t := by
  obtain ⟨va, vb, vc, e, h1, h2, h3⟩ := h
  exact ⟨va, vb, vc, e, Own.of h1, Own.of h2, Own.of h3⟩
theorem OwnH.rd (h : OwnH w lo hi v t) : RdT w w.heap.size v t := by
  obtain ⟨va, vb, vc, e, h1, h2, h3⟩ := h
  exact ⟨va, vb, vc, e, h1.rd, h2.rd, h3.rd⟩
theorem OwnH.below (h : OwnH w lo hi v t) (hb : Below C w w') (hC : w.heap.size ≤ C) : OwnH w' lo hi v t := by
  obtain ⟨va, vb, vc, e, h1, h2, h3⟩ := h
  exact ⟨va, vb, vc, e, h1.below hb hC, h2.below hb hC, h3.below hb hC⟩
theorem OwnH.other (h : OwnH w lo hi v t) (h2 : Own w lo2 hi2 e sz u n ys) (hd : hi ≤ lo2 ∨ hi2 ≤ lo) (hg : w.grownBy w' u.ownBlock) : OwnH w' lo hi v t := by
  obtain ⟨va, vb, vc, e, k1, k2, k3⟩ := h
  exact ⟨va, vb, vc, e, k1.other h2 hd hg, k2.other h2 hd hg, k3.other h2 hd hg⟩
theorem OwnH.only (h : OwnH w lo hi v t) (h2 : Only lo2 hi2 w w') (hd : hi ≤ lo2 ∨ hi2 ≤ lo) : OwnH w' lo hi v t := by
  obtain ⟨va, vb, vc, e, k1, k2, k3⟩ := h
  exact ⟨va, vb, vc, e, k1.only h2 hd, k2.only h2 hd, k3.only h2 hd⟩
theorem OwnH.form (h : OwnH w lo hi v t) : ∃ A ca C cb D cc, v = .agg #[.slice A t.n ca, .slice C t.m cb, .int .i64 t.c, .slice D t.p cc] := by
  obtain ⟨va, vb, vc, rfl, h1, h2, h3⟩ := h
  obtain ⟨A, ca, rfl⟩ := h1.rd.form
  obtain ⟨C, cb, rfl⟩ := h2.rd.form
  obtain ⟨D, cc, rfl⟩ := h3.rd.form
  exact ⟨A, ca, C, cb, D, cc, rfl⟩
theorem OwnT.form (h : OwnT w lo hi v t) : ∃ A ca C cb D cc, v = .agg #[.slice A t.n ca, .slice C t.m cb, .int .i64 t.c, .slice D t.p cc] := by
  obtain ⟨va, vb, vc, m1, m2, rfl, l1, l2, l3, h1, h2, h3⟩ := h
  obtain ⟨A, ca, rfl⟩ := h1.rd.form
  obtain ⟨C, cb, rfl⟩ := h2.rd.form
  obtain ⟨D, cc, rfl⟩ := h3.rd.form
  exact ⟨A, ca, C, cb, D, cc, rfl⟩
theorem OwnT.other (h : OwnT w lo hi v t) (h2 : Own w lo2 hi2 e sz u n ys) (hd : hi ≤ lo2 ∨ hi2 ≤ lo) (hg : w.grownBy w' u.ownBlock) : OwnT w' lo hi v t := by
  obtain ⟨va, vb, vc, m1, m2, e, l1, l2, l3, k1, k2, k3⟩ := h
  exact ⟨va, vb, vc, m1, m2, e, l1, l2, l3, k1.other h2 (by omega) hg, k2.other h2 (by omega) hg, k3.other h2 (by omega) hg⟩
end
theorem evT_small {n m : Nat} {xs ys : List Int} {c : Int} : (evT n xs m ys c).small := by
  unfold evT
  split
  · rename_i h
    obtain ⟨⟨_, h1⟩, rfl, _⟩ := aa_yes h
    exact ⟨by show m ≤ 1048576; omega, by show m ≤ 1048576; omega, by show m ≤ 1048576; omega⟩
  · exact ⟨Nat.zero_le _, Nat.zero_le _, Nat.zero_le _⟩
end Go.Proofs.Ytnlneblipedddaa
