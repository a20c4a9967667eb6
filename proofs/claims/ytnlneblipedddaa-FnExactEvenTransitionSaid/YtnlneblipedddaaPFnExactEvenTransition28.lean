/- Contracts of EvenTransition on both sides. Conditions: short slices that are owned. The contract of the program's EvenTransition: its slices lie in memory of their own. Conditions: short slices that are owned. Transitions in memory of their own, kept while other memory changes; the even transition is short. Without conditions. The program's EvenTransition returns what the reference's returns, for all arguments, and in memory of its own. Without conditions. The walk of the law. -/
import Derived.Test.YtnlneblipedddaaPFnExactEvenTransition22
import Derived.Test.YtnlneblipedddaaPFnExactEvenTransition24
import Derived.Test.YtnlneblipedddaaPFnExactEvenTransition27
import Derived.Test.YtnlneblipedddaaPFnExactEvenTransition21
import Derived.Test.YtnlneblipedddaaPFnExactEvenTransition05
namespace Go.Proofs.Ytnlneblipedddaa
open Go.RowKit

/-- The places of the even transition. -/
def evP (n : Nat) (xs ys : List Int) : List Int := evL (coC xs ys n) n
def evT (n : Nat) (xs : List Int) (m : Nat) (ys : List Int) (c : Int) : TrN := if aaB n xs m ys c = true then ⟨n, xs, m, ys, c, n, evP n xs ys⟩ else zeroT
set_option maxRecDepth 100000 in
set_option maxHeartbeats 4000000 in
theorem specEvenTransition_any (v u : Value) (lo n m : Nat) (xs ys : List Int) (c : Int) (w : World) (hv : w.ownsRow lo 75 2 v n (ints xs)) (hu : w.ownsRow lo 75 2 u m (ints ys)) (hn : n ≤ 1048576) (hm : m ≤ 1048576) :
    Calls Try.prog 10 #[v, u, .int .i64 c] w fun e w' => ∃ r, e = .returned (.tuple #[r, .bool (aaB n xs m ys c)]) ∧ OwnA w' w.heap.size r (evT n xs m ys c) ∧ Below w.heap.size w w' := by
  obtain ⟨A, ca, rfl⟩ := (Rd.of_own hv).form
  obtain ⟨C, cb, rfl⟩ := (Rd.of_own hu).form
  have K0 := Lib.hid (Blk.new w 29 #[.slice none 0 0, .slice none 0 0, .int .i64 0, .slice none 0 0])
  have HB0 := Lib.hid (below_new (Below.refl w.heap.size w) (.cells #[.slice none 0 0, .slice none 0 0, .int .i64 0, .slice none 0 0] 29))
  have HV := Lib.hid (fun W (hb : Below w.heap.size w W) => own_below hv hb (Nat.le_refl _))
  have HU := Lib.hid (fun W (hb : Below w.heap.size w W) => own_below hu hb (Nat.le_refl _))
  have HP := Lib.hid (fun W (hb : Below w.heap.size w W) => asAsked_any _ _ n m W.heap.size xs ys c W (own_cap hv) (own_cap hu) (Rd.of_own (own_below hv hb (Nat.le_refl _))) (Rd.of_own (own_below hu hb (Nat.le_refl _))) (Nat.le_refl _) (by omega) (by omega))
  clear hv hu
  cases hab : aaB n xs m ys c with
  | false =>
    have HT := Lib.hid (show evT n xs m ys c = zeroT by simp [evT, hab])
    have HE := Lib.hid hab
    obtain ⟨f0, f1, f2, f3⟩ := K0.out.c4
    clear hab
    go_enter Try.func10, Try.ntmps10
    go_wp2_with fail
    refine (HP.out _ HB0.out).mono ?_
    rintro e w2 ⟨rfl, hb⟩
    have k1 := K0.out.on hb
    have HB1 := Lib.hid (below_on HB0.out hb)
    obtain ⟨g0, g1, g2, g3⟩ := k1.c4
    have g4 := k1.frozen 0
    have g5 := k1.frozen 1
    have g6 := k1.frozen 2
    have g7 := k1.frozen 3
    have K1 := Lib.hid k1
    clear hb K0 HB0 k1 f0 f1 f2 f3
    rw [HE.out]
    go_wp2_with fail
    obtain ⟨m0, m1, m2, m3⟩ := (blk_set4 K1.out (.slice none 0 0) (.slice none 0 0) (.int .i64 0) (.slice none 0 0)).c4
    exact bodyPost_ret (v := .tuple #[.agg #[.slice none 0 0, .slice none 0 0, .int .i64 0, .slice none 0 0], .bool false]) (by simp [results, Try.results10, go_sem, m0, m1, m2, m3]) rfl
      ⟨_, rfl, by rw [HT.out]; exact OwnA.zero _ _, below_set4 HB1.out (Nat.le_refl _) _ _ _ _⟩
  | true =>
    obtain ⟨⟨n0, n1⟩, rfl, hc, hx, hy⟩ := aa_yes hab
    have HT := Lib.hid (show evT m xs m ys c = ⟨m, xs, m, ys, c, m, evL (cst (coRs xs ys m m)) m⟩ by simp [evT, hab, evP, coC])
    have HE := Lib.hid hab
    have PC := Lib.hid (fun (W : World) (hb : Below w.heap.size w W) => asCosts_any _ _ m m W.heap.size xs ys W (Rd.of_own (HV.out W hb)) (Rd.of_own (HU.out W hb)) (Nat.le_refl _) n1 n1 hx hy)
    have hco := co_ok hx hy
    have hsq := co_sq xs ys m
    have hcl := coRs_length xs ys m m
    have PL := Lib.hid (fun (W : World) (B : Nat) (q : Value) (h : RdR W B q m (coRs xs ys m m)) (hB : B ≤ W.heap.size) => specLeastGreatest_any B m q (coRs xs ys m m) W h hB n0 n1 hcl hsq hco)
    have PW := Lib.hid (fun (W : World) (q : Value) (lq : Nat) (ps : List Int) (hb : Below w.heap.size w W) (h : W.ownsRow lq 3 1 q m (ints ps)) => asWith_any _ _ q lo lq m m m xs ys ps c W (HV.out W hb) (HU.out W hb) h (by omega) (by omega) (by omega))
    clear hab hx hy hc hco hsq hcl HV HU
    obtain ⟨f0, f1, f2, f3⟩ := K0.out.c4
    go_enter Try.func10, Try.ntmps10
    go_wp2_with fail
    refine (HP.out _ HB0.out).mono ?_
    rintro e w2 ⟨rfl, hb⟩
    have K1 := Lib.hid (K0.out.on hb)
    have HB1 := Lib.hid (below_on HB0.out hb)
    clear hb K0 HB0 f0 f1 f2 f3
    rw [HE.out]
    go_wp2_with fail
    refine (PC.out _ HB1.out).mono ?_
    rintro e w3 ⟨q, vs, rfl, hg, hb⟩
    have K2 := Lib.hid (K1.out.on hb)
    have HB2 := Lib.hid (below_on HB1.out hb)
    have HR := Lib.hid hg.rd
    clear hb hg K1 HB1
    go_wp2_with fail
    refine (PL.out _ _ _ HR.out (Nat.le_refl _)).mono ?_
    rintro e w4 ⟨q2, rfl, ho, hb⟩
    obtain ⟨Aq, cq, rfl⟩ := (Rd.of_own ho).form
    have K3 := Lib.hid (K2.out.on hb)
    have HB3 := Lib.hid (below_on HB2.out hb)
    have HO := Lib.hid ho
    clear hb ho K2 HB2 HR
    go_wp2_with fail
    refine (PW.out _ _ _ _ HB3.out HO.out).mono ?_
    rintro e w5 ⟨r, rfl, oa, hb⟩
    have OA := Lib.hid oa
    have KZ := Lib.hid (K3.out.on hb)
    have HBY := Lib.hid (below_on HB3.out hb)
    have HBZ := Lib.hid HB3.out.size
    clear hb oa K3 HB3 HO
    obtain ⟨Ar, cr, Dr, dr, Er, er, rfl, o1, o2, o3⟩ := OA.out.form
    obtain ⟨f0, f1, f2, f3⟩ := KZ.out.c4
    have g0 := KZ.out.frozen 0
    have g1 := KZ.out.frozen 1
    have g2 := KZ.out.frozen 2
    have g3 := KZ.out.frozen 3
    have O1 := Lib.hid o1
    have O2 := Lib.hid o2
    have O3 := Lib.hid o3
    clear o1 o2 o3 OA
    go_wp2_with fail
    obtain ⟨m0, m1, m2, m3⟩ := (blk_set4 KZ.out (.slice Ar m cr) (.slice Dr m dr) (.int .i64 c) (.slice Er m er)).c4
    exact bodyPost_ret (v := .tuple #[.agg #[.slice Ar m cr, .slice Dr m dr, .int .i64 c, .slice Er m er], .bool true]) (by simp [results, Try.results10, go_sem, m0, m1, m2, m3]) rfl
      ⟨_, rfl, by rw [HT.out]; exact ⟨_, _, _, rfl, own_base (own_set4 O1.out KZ.out (by decide) _ _ _ _) HBZ.out, own_base (own_set4 O2.out KZ.out (by decide) _ _ _ _) HBZ.out, own_base (own_set4 O3.out KZ.out (by decide) _ _ _ _) HBZ.out⟩, below_set4 HBY.out (Nat.le_refl _) _ _ _ _⟩
set_option maxRecDepth 100000 in
set_option maxHeartbeats 4000000 in
theorem EvenTransition_any (v u : Value) (lo n m : Nat) (xs ys : List Int) (c : Int) (w : World) (hv : w.ownsRow lo 75 2 v n (ints xs)) (hu : w.ownsRow lo 75 2 u m (ints ys)) (hn : n ≤ 1048576) (hm : m ≤ 1048576) :
    Calls Try.prog 9 #[v, u, .int .i64 c] w fun e w' => ∃ r, e = .returned (.tuple #[r, .bool (aaB n xs m ys c)]) ∧ OwnA w' w.heap.size r (evT n xs m ys c) ∧ Below w.heap.size w w' := by
  obtain ⟨A, ca, rfl⟩ := (Rd.of_own hv).form
  obtain ⟨C, cb, rfl⟩ := (Rd.of_own hu).form
  have K0 := Lib.hid (Blk.new w 29 #[.slice none 0 0, .slice none 0 0, .int .i64 0, .slice none 0 0])
  have HB0 := Lib.hid (below_new (Below.refl w.heap.size w) (.cells #[.slice none 0 0, .slice none 0 0, .int .i64 0, .slice none 0 0] 29))
  have HV := Lib.hid (fun W (hb : Below w.heap.size w W) => own_below hv hb (Nat.le_refl _))
  have HU := Lib.hid (fun W (hb : Below w.heap.size w W) => own_below hu hb (Nat.le_refl _))
  have HP := Lib.hid (fun W (hb : Below w.heap.size w W) => canChange_any _ _ n m W.heap.size xs ys c W (own_cap hv) (own_cap hu) (Rd.of_own (own_below hv hb (Nat.le_refl _))) (Rd.of_own (own_below hu hb (Nat.le_refl _))) (Nat.le_refl _) (by omega) (by omega))
  clear hv hu
  cases hab : aaB n xs m ys c with
  | false =>
    have HT := Lib.hid (show evT n xs m ys c = zeroT by simp [evT, hab])
    have HE := Lib.hid hab
    obtain ⟨f0, f1, f2, f3⟩ := K0.out.c4
    clear hab
    go_enter Try.func9, Try.ntmps9
    go_wp2_with fail
    refine (HP.out _ HB0.out).mono ?_
    rintro e w2 ⟨rfl, hb⟩
    have k1 := K0.out.on hb
    have HB1 := Lib.hid (below_on HB0.out hb)
    obtain ⟨g0, g1, g2, g3⟩ := k1.c4
    have g4 := k1.frozen 0
    have g5 := k1.frozen 1
    have g6 := k1.frozen 2
    have g7 := k1.frozen 3
    have K1 := Lib.hid k1
    clear hb K0 HB0 k1 f0 f1 f2 f3
    rw [HE.out]
    go_wp2_with fail
    obtain ⟨m0, m1, m2, m3⟩ := (blk_set4 K1.out (.slice none 0 0) (.slice none 0 0) (.int .i64 0) (.slice none 0 0)).c4
    exact bodyPost_ret (v := .tuple #[.agg #[.slice none 0 0, .slice none 0 0, .int .i64 0, .slice none 0 0], .bool false]) (by simp [results, Try.results9, go_sem, m0, m1, m2, m3]) rfl
      ⟨_, rfl, by rw [HT.out]; exact OwnA.zero _ _, below_set4 HB1.out (Nat.le_refl _) _ _ _ _⟩
  | true =>
    obtain ⟨⟨n0, n1⟩, rfl, hc, hx, hy⟩ := aa_yes hab
    have HT := Lib.hid (show evT m xs m ys c = ⟨m, xs, m, ys, c, m, evL (cst (coRs xs ys m m)) m⟩ by simp [evT, hab, evP, coC])
    have HE := Lib.hid hab
    have PC := Lib.hid (fun (W : World) (hb : Below w.heap.size w W) => squaresOf_any _ _ m m W.heap.size xs ys W (Rd.of_own (HV.out W hb)) (Rd.of_own (HU.out W hb)) (Nat.le_refl _) n1 n1 hx hy)
    have hco := co_ok hx hy
    have hsq := co_sq xs ys m
    have hcl := coRs_length xs ys m m
    have PL := Lib.hid (fun (W : World) (B : Nat) (q : Value) (h : RdR W B q m (coRs xs ys m m)) (hB : B ≤ W.heap.size) => implLeastGreatest_any B m q (coRs xs ys m m) W h hB n0 n1 hsq hco)
    have PW := Lib.hid (fun (W : World) (q : Value) (lq : Nat) (ps : List Int) (hb : Below w.heap.size w W) (h : W.ownsRow lq 3 1 q m (ints ps)) => newTransition_rd _ _ q W.heap.size m m m xs ys ps c W (Rd.of_own (HV.out W hb)) (Rd.of_own (HU.out W hb)) (Rd.of_own h) (Nat.le_refl _) (by omega) (by omega) (by omega) n0 n0 n0)
    clear hab hx hy hc hco hsq hcl HV HU
    obtain ⟨f0, f1, f2, f3⟩ := K0.out.c4
    go_enter Try.func9, Try.ntmps9
    go_wp2_with fail
    refine (HP.out _ HB0.out).mono ?_
    rintro e w2 ⟨rfl, hb⟩
    have K1 := Lib.hid (K0.out.on hb)
    have HB1 := Lib.hid (below_on HB0.out hb)
    clear hb K0 HB0 f0 f1 f2 f3
    rw [HE.out]
    go_wp2_with fail
    refine (PC.out _ HB1.out).mono ?_
    rintro e w3 ⟨q, vs, rfl, hg, hb⟩
    have K2 := Lib.hid (K1.out.on hb)
    have HB2 := Lib.hid (below_on HB1.out hb)
    have HR := Lib.hid hg.rd
    clear hb hg K1 HB1
    go_wp2_with fail
    refine (PL.out _ _ _ HR.out (Nat.le_refl _)).mono ?_
    rintro e w4 ⟨q2, rfl, ho, hb⟩
    obtain ⟨Aq, cq, rfl⟩ := (Rd.of_own ho).form
    have K3 := Lib.hid (K2.out.on hb)
    have HB3 := Lib.hid (below_on HB2.out hb)
    have HO := Lib.hid ho
    clear hb ho K2 HB2 HR
    go_wp2_with fail
    refine (PW.out _ _ _ _ HB3.out HO.out).mono ?_
    rintro e w5 ⟨r, rfl, oa, hb⟩
    have OA := Lib.hid oa
    have KZ := Lib.hid (K3.out.on hb)
    have HBY := Lib.hid (below_on HB3.out hb)
    have HBZ := Lib.hid HB3.out.size
    clear hb oa K3 HB3 HO
    obtain ⟨Ar, cr, Dr, dr, Er, er, rfl, o1, o2, o3⟩ := OA.out.form
    obtain ⟨f0, f1, f2, f3⟩ := KZ.out.c4
    have g0 := KZ.out.frozen 0
    have g1 := KZ.out.frozen 1
    have g2 := KZ.out.frozen 2
    have g3 := KZ.out.frozen 3
    have O1 := Lib.hid o1
    have O2 := Lib.hid o2
    have O3 := Lib.hid o3
    clear o1 o2 o3 OA
    go_wp2_with fail
    obtain ⟨m0, m1, m2, m3⟩ := (blk_set4 KZ.out (.slice Ar m cr) (.slice Dr m dr) (.int .i64 c) (.slice Er m er)).c4
    exact bodyPost_ret (v := .tuple #[.agg #[.slice Ar m cr, .slice Dr m dr, .int .i64 c, .slice Er m er], .bool true]) (by simp [results, Try.results9, go_sem, m0, m1, m2, m3]) rfl
      ⟨_, rfl, by rw [HT.out]; exact ⟨_, _, _, rfl, own_base (own_set4 O1.out KZ.out (by decide) _ _ _ _) HBZ.out, own_base (own_set4 O2.out KZ.out (by decide) _ _ _ _) HBZ.out, own_base (own_set4 O3.out KZ.out (by decide) _ _ _ _) HBZ.out⟩, below_set4 HBY.out (Nat.le_refl _) _ _ _ _⟩
end Go.Proofs.Ytnlneblipedddaa

namespace Go.Proofs.Ytnlneblipedddaa
open Go.RowKit

theorem OwnT.zero {w : World} {lo hi : Nat} (h : lo ≤ hi) : OwnT w lo hi (.agg #[.slice none 0 0, .slice none 0 0, .int .i64 0, .slice none 0 0]) zeroT :=
  ⟨_, _, _, lo, lo, rfl, Nat.le_refl _, Nat.le_refl _, h, ⟨World.ownsRow_nil _ _ _ _, fun k hk => by cases hk⟩, ⟨World.ownsRow_nil _ _ _ _, fun k hk => by cases hk⟩, ⟨World.ownsRow_nil _ _ _ _, fun k hk => by cases hk⟩⟩
set_option maxRecDepth 100000 in
set_option maxHeartbeats 4000000 in
theorem EvenTransition_own (v u : Value) (lo n m : Nat) (xs ys : List Int) (c : Int) (w : World) (hv : w.ownsRow lo 75 2 v n (ints xs)) (hu : w.ownsRow lo 75 2 u m (ints ys)) (hn : n ≤ 1048576) (hm : m ≤ 1048576) :
    Calls Try.prog 9 #[v, u, .int .i64 c] w fun e w' => ∃ r, e = .returned (.tuple #[r, .bool (aaB n xs m ys c)]) ∧ OwnT w' w.heap.size w'.heap.size r (evT n xs m ys c) ∧ Below w.heap.size w w' := by
  obtain ⟨A, ca, rfl⟩ := (Rd.of_own hv).form
  obtain ⟨C, cb, rfl⟩ := (Rd.of_own hu).form
  have K0 := Lib.hid (Blk.new w 29 #[.slice none 0 0, .slice none 0 0, .int .i64 0, .slice none 0 0])
  have HB0 := Lib.hid (below_new (Below.refl w.heap.size w) (.cells #[.slice none 0 0, .slice none 0 0, .int .i64 0, .slice none 0 0] 29))
  have HV := Lib.hid (fun W (hb : Below w.heap.size w W) => own_below hv hb (Nat.le_refl _))
  have HU := Lib.hid (fun W (hb : Below w.heap.size w W) => own_below hu hb (Nat.le_refl _))
  have HP := Lib.hid (fun W (hb : Below w.heap.size w W) => canChange_any _ _ n m W.heap.size xs ys c W (own_cap hv) (own_cap hu) (Rd.of_own (own_below hv hb (Nat.le_refl _))) (Rd.of_own (own_below hu hb (Nat.le_refl _))) (Nat.le_refl _) (by omega) (by omega))
  clear hv hu
  cases hab : aaB n xs m ys c with
  | false =>
    have HT := Lib.hid (show evT n xs m ys c = zeroT by simp [evT, hab])
    have HE := Lib.hid hab
    obtain ⟨f0, f1, f2, f3⟩ := K0.out.c4
    clear hab
    go_enter Try.func9, Try.ntmps9
    go_wp2_with fail
    refine (HP.out _ HB0.out).mono ?_
    rintro e w2 ⟨rfl, hb⟩
    have k1 := K0.out.on hb
    have HB1 := Lib.hid (below_on HB0.out hb)
    obtain ⟨g0, g1, g2, g3⟩ := k1.c4
    have g4 := k1.frozen 0
    have g5 := k1.frozen 1
    have g6 := k1.frozen 2
    have g7 := k1.frozen 3
    have K1 := Lib.hid k1
    clear hb K0 HB0 k1 f0 f1 f2 f3
    rw [HE.out]
    go_wp2_with fail
    obtain ⟨m0, m1, m2, m3⟩ := (blk_set4 K1.out (.slice none 0 0) (.slice none 0 0) (.int .i64 0) (.slice none 0 0)).c4
    exact bodyPost_ret (v := .tuple #[.agg #[.slice none 0 0, .slice none 0 0, .int .i64 0, .slice none 0 0], .bool false]) (by simp [results, Try.results9, go_sem, m0, m1, m2, m3]) rfl
      ⟨_, rfl, by rw [HT.out]; exact OwnT.zero (below_set4 HB1.out (Nat.le_refl _) _ _ _ _).size, below_set4 HB1.out (Nat.le_refl _) _ _ _ _⟩
  | true =>
    obtain ⟨⟨n0, n1⟩, rfl, hc, hx, hy⟩ := aa_yes hab
    have HT := Lib.hid (show evT m xs m ys c = ⟨m, xs, m, ys, c, m, evL (cst (coRs xs ys m m)) m⟩ by simp [evT, hab, evP, coC])
    have HE := Lib.hid hab
    have PC := Lib.hid (fun (W : World) (hb : Below w.heap.size w W) => squaresOf_any _ _ m m W.heap.size xs ys W (Rd.of_own (HV.out W hb)) (Rd.of_own (HU.out W hb)) (Nat.le_refl _) n1 n1 hx hy)
    have hco := co_ok hx hy
    have hsq := co_sq xs ys m
    have hcl := coRs_length xs ys m m
    have PL := Lib.hid (fun (W : World) (B : Nat) (q : Value) (h : RdR W B q m (coRs xs ys m m)) (hB : B ≤ W.heap.size) => implLeastGreatest_any B m q (coRs xs ys m m) W h hB n0 n1 hsq hco)
    have PW := Lib.hid (fun (W : World) (q : Value) (lq : Nat) (ps : List Int) (hb : Below w.heap.size w W) (h : W.ownsRow lq 3 1 q m (ints ps)) => newTransition_own _ _ q W.heap.size m m m xs ys ps c W (Rd.of_own (HV.out W hb)) (Rd.of_own (HU.out W hb)) (Rd.of_own h) (Nat.le_refl _) (by omega) (by omega) (by omega) n0 n0 n0)
    clear hab hx hy hc hco hsq hcl HV HU
    obtain ⟨f0, f1, f2, f3⟩ := K0.out.c4
    go_enter Try.func9, Try.ntmps9
    go_wp2_with fail
    refine (HP.out _ HB0.out).mono ?_
    rintro e w2 ⟨rfl, hb⟩
    have K1 := Lib.hid (K0.out.on hb)
    have HB1 := Lib.hid (below_on HB0.out hb)
    clear hb K0 HB0 f0 f1 f2 f3
    rw [HE.out]
    go_wp2_with fail
    refine (PC.out _ HB1.out).mono ?_
    rintro e w3 ⟨q, vs, rfl, hg, hb⟩
    have K2 := Lib.hid (K1.out.on hb)
    have HB2 := Lib.hid (below_on HB1.out hb)
    have HR := Lib.hid hg.rd
    clear hb hg K1 HB1
    go_wp2_with fail
    refine (PL.out _ _ _ HR.out (Nat.le_refl _)).mono ?_
    rintro e w4 ⟨q2, rfl, ho, hb⟩
    obtain ⟨Aq, cq, rfl⟩ := (Rd.of_own ho).form
    have K3 := Lib.hid (K2.out.on hb)
    have HB3 := Lib.hid (below_on HB2.out hb)
    have HO := Lib.hid ho
    clear hb ho K2 HB2 HR
    go_wp2_with fail
    refine (PW.out _ _ _ _ HB3.out HO.out).mono ?_
    rintro e w5 ⟨r, rfl, oa, hb⟩
    have OA := Lib.hid oa
    have KZ := Lib.hid (K3.out.on hb)
    have HBY := Lib.hid (below_on HB3.out hb)
    have HBZ := Lib.hid HB3.out.size
    clear hb oa K3 HB3 HO
    obtain ⟨_, _, _, q1, q2, rfl, l1, l2, l3, o1, o2, o3⟩ := OA.out
    obtain ⟨Ar, cr, rfl⟩ := o1.rd.form
    obtain ⟨Dr, dr, rfl⟩ := o2.rd.form
    obtain ⟨Er, er, rfl⟩ := o3.rd.form
    simp only at o1 o2 o3
    have LL := Lib.hid (And.intro l1 (And.intro l2 l3))
    obtain ⟨f0, f1, f2, f3⟩ := KZ.out.c4
    have g0 := KZ.out.frozen 0
    have g1 := KZ.out.frozen 1
    have g2 := KZ.out.frozen 2
    have g3 := KZ.out.frozen 3
    have O1 := Lib.hid o1
    have O2 := Lib.hid o2
    have O3 := Lib.hid o3
    clear o1 o2 o3 OA l1 l2 l3
    go_wp2_with fail
    obtain ⟨m0, m1, m2, m3⟩ := (blk_set4 KZ.out (.slice Ar m cr) (.slice Dr m dr) (.int .i64 c) (.slice Er m er)).c4
    exact bodyPost_ret (v := .tuple #[.agg #[.slice Ar m cr, .slice Dr m dr, .int .i64 c, .slice Er m er], .bool true]) (by simp [results, Try.results9, go_sem, m0, m1, m2, m3]) rfl
      ⟨_, rfl, by rw [HT.out]; exact ⟨_, _, _, q1, q2, rfl, Nat.le_trans HBZ.out LL.out.1, LL.out.2.1, by simp only [World.size_setCell]; exact LL.out.2.2, own_lo ⟨own_set4 O1.out.1 KZ.out (by decide) _ _ _ _, O1.out.2⟩ HBZ.out, ⟨own_set4 O2.out.1 KZ.out (by decide) _ _ _ _, O2.out.2⟩, Own.of (own_set4 O3.out.1 KZ.out (by decide) _ _ _ _)⟩, below_set4 HBY.out (Nat.le_refl _) _ _ _ _⟩
end Go.Proofs.Ytnlneblipedddaa

namespace Go.Proofs.Ytnlneblipedddaa
open Go.RowKit

/-- A transition whose slices are owned, in blocks from lo on and below hi. -/
def OwnH (w : World) (lo hi : Nat) (v : Value) (t : TrN) : Prop :=
  ∃ va vb vc, v = .agg #[va, vb, .int .i64 t.c, vc] ∧ Own w lo hi 75 2 va t.n t.xs ∧ Own w lo hi 75 2 vb t.m t.ys ∧ Own w lo hi 3 1 vc t.p t.ps
section
variable {w w' : World} {lo hi lo2 hi2 C sz n : Nat} {v u : Value} {t : TrN} {e : TypeId} {ys : List Int}
theorem OwnH.of (h : OwnA w lo v t) : OwnH w lo w.heap.size v t := by
  obtain ⟨va, vb, vc, e, h1, h2, h3⟩ := h
  exact ⟨va, vb, vc, e, Own.of h1, Own.of h2, Own.of h3⟩
theorem OwnH.rd (h : OwnH w lo hi v t) : RdT w w.heap.size v t := by
  obtain ⟨va, vb, vc, e, h1, h2, h3⟩ := h
  exact ⟨va, vb, vc, e, h1.rd, h2.rd, h3.rd⟩
theorem OwnH.below (h : OwnH w lo hi v t) (hb : Below C w w') (hC : w.heap.size ≤ C) : OwnH w' lo hi v t := by
  obtain ⟨va, vb, vc, e, h1, h2, h3⟩ := h
  exact ⟨va, vb, vc, e, h1.below hb hC, h2.below hb hC, h3.below hb hC⟩
theorem OwnH.other (h : OwnH w lo hi v t) (h2 : Own w lo2 hi2 e sz u n ys) (hd : hi ≤ lo2 ∨ hi2 ≤ lo) (hg : w.grownBy w' u.ownBlock) : OwnH w' lo hi v t := by
  obtain ⟨va, vb, vc, e, k1, k2, k3⟩ := h
  exact ⟨va, vb, vc, e, k1.other h2 hd hg, k2.other h2 hd hg, k3.other h2 hd hg⟩
theorem OwnH.only (h : OwnH w lo hi v t) (h2 : Only lo2 hi2 w w') (hd : hi ≤ lo2 ∨ hi2 ≤ lo) : OwnH w' lo hi v t := by
  obtain ⟨va, vb, vc, e, k1, k2, k3⟩ := h
  exact ⟨va, vb, vc, e, k1.only h2 hd, k2.only h2 hd, k3.only h2 hd⟩
theorem OwnH.form (h : OwnH w lo hi v t) : ∃ A ca C cb D cc, v = .agg #[.slice A t.n ca, .slice C t.m cb, .int .i64 t.c, .slice D t.p cc] := by
  obtain ⟨va, vb, vc, rfl, h1, h2, h3⟩ := h
  obtain ⟨A, ca, rfl⟩ := h1.rd.form
  obtain ⟨C, cb, rfl⟩ := h2.rd.form
  obtain ⟨D, cc, rfl⟩ := h3.rd.form
  exact ⟨A, ca, C, cb, D, cc, rfl⟩
theorem OwnT.form (h : OwnT w lo hi v t) : ∃ A ca C cb D cc, v = .agg #[.slice A t.n ca, .slice C t.m cb, .int .i64 t.c, .slice D t.p cc] := by
  obtain ⟨va, vb, vc, m1, m2, rfl, l1, l2, l3, h1, h2, h3⟩ := h
  obtain ⟨A, ca, rfl⟩ := h1.rd.form
  obtain ⟨C, cb, rfl⟩ := h2.rd.form
  obtain ⟨D, cc, rfl⟩ := h3.rd.form
  exact ⟨A, ca, C, cb, D, cc, rfl⟩
theorem OwnT.other (h : OwnT w lo hi v t) (h2 : Own w lo2 hi2 e sz u n ys) (hd : hi ≤ lo2 ∨ hi2 ≤ lo) (hg : w.grownBy w' u.ownBlock) : OwnT w' lo hi v t := by
  obtain ⟨va, vb, vc, m1, m2, e, l1, l2, l3, k1, k2, k3⟩ := h
  exact ⟨va, vb, vc, m1, m2, e, l1, l2, l3, k1.other h2 (by omega) hg, k2.other h2 (by omega) hg, k3.other h2 (by omega) hg⟩
end
theorem evT_small {n m : Nat} {xs ys : List Int} {c : Int} : (evT n xs m ys c).small := by
  unfold evT
  split
  · rename_i h
    obtain ⟨⟨_, h1⟩, rfl, _⟩ := aa_yes h
    exact ⟨by show m ≤ 1048576; omega, by show m ≤ 1048576; omega, by show m ≤ 1048576; omega⟩
  · exact ⟨Nat.zero_le _, Nat.zero_le _, Nat.zero_le _⟩
end Go.Proofs.Ytnlneblipedddaa

namespace Go.Proofs.Ytnlneblipedddaa.fnExactEvenTransition
open Go.RowKit

set_option maxRecDepth 100000 in
set_option maxHeartbeats 4000000 in
theorem walk (w : World) (v : Value) (n : Nat) (xs : List Int) (hr : Rd w w.heap.size 2 v n xs) (hm : n ≤ maxLen) (u : Value) (m : Nat) (ys : List Int) (hr2 : Rd w w.heap.size 2 u m ys) (hm2 : m ≤ maxLen) (p0 : Int) (_ : (Lit.int .i64 p0).wf = true) :
    Calls Try.prog 4 #[v, u, .int .i64 p0] w fun e w' => e = .returned (.bool true) ∧ Below w.heap.size w w' := by
  obtain ⟨A, c, rfl⟩ := hr.form
  obtain ⟨C, d, rfl⟩ := hr2.form
  unfold maxLen at hm hm2
  have Hr := Lib.hid hr
  have Hr2 := Lib.hid hr2
  clear hr hr2
  by_cases hbig : 1048576 < n
  · go_enter Try.func4, Try.ntmps4
    go_wp2_with fail
    refine (szSpotS_no A n c _ _ (by omega) (by omega) (by omega)).mono ?_
    rintro e w' ⟨rfl, rfl⟩
    go_wp2_with fail
    go_ret
    exact ⟨rfl, Below.refl _ _⟩
  by_cases hbig2 : 1048576 < n + m
  · go_enter Try.func4, Try.ntmps4
    go_wp2_with fail
    refine (szSpotS_yes A n c _ _ (by omega) (by omega)).mono ?_
    rintro e w' ⟨rfl, rfl⟩
    go_wp2_with fail
    refine (szSpotS_no C m d _ _ (by omega) (by omega) (by omega)).mono ?_
    rintro e w' ⟨rfl, rfl⟩
    go_wp2_with fail
    go_ret
    exact ⟨rfl, Below.refl _ _⟩
  · have hn : n ≤ 1099511627776 := by omega
    have hn2 : m ≤ 1099511627776 := by omega
    have hbb : (aaB n xs m ys p0 != aaB n xs m ys p0) = false := by simp
    have hsm := evT_small (n := n) (m := m) (xs := xs) (ys := ys) (c := p0)
    have hmp := mkT_pos (evT n xs m ys p0)
    have hmm : (mkT (evT n xs m ys p0) != mkT (evT n xs m ys p0)) = false := by simp
    have hS := fun (x y : Value) (lo : Nat) (W : World) (h1 : W.ownsRow lo 75 2 x n (ints xs)) (h2 : W.ownsRow lo 75 2 y m (ints ys)) => specEvenTransition_any x y lo n m xs ys p0 W h1 h2 (by omega) (by omega)
    have hI := fun (x y : Value) (lo : Nat) (W : World) (h1 : W.ownsRow lo 75 2 x n (ints xs)) (h2 : W.ownsRow lo 75 2 y m (ints ys)) => EvenTransition_own x y lo n m xs ys p0 W h1 h2 (by omega) (by omega)
    obtain ⟨rB, eB⟩ : ∃ r, aaB n xs m ys p0 = r := ⟨_, rfl⟩
    obtain ⟨T, eT⟩ : ∃ r, evT n xs m ys p0 = r := ⟨_, rfl⟩
    rw [eB, eT] at hS hI
    rw [eT] at hsm hmp hmm
    rw [eB] at hbb
    obtain ⟨mk, emk⟩ : ∃ r, mkT T = r := ⟨_, rfl⟩
    have HE := Lib.hid (fun (a b : Value) (W : World) (h1 : RdT W W.heap.size a T) (h2 : RdT W W.heap.size b T) => eqTransition_same a b W.heap.size T W h1 h2 (Nat.le_refl _) hsm)
    have hM := fun (a : Value) (lo hi : Nat) (W : World) (h : OwnT W lo hi a T) => markTransition_own a lo hi T W h hsm
    have hH := fun (a : Value) (W : World) (h : RdT W W.heap.size a (mrT T)) => heldTransition_marks a W.heap.size T W h (Nat.le_refl _) hsm
    rw [emk] at hM hH hmp hmm
    have HS := Lib.hid hS
    have HI := Lib.hid hI
    have HM := Lib.hid hM
    have HH := Lib.hid hH
    clear hS hI hM hH eB eT hsm emk
    go_enter Try.func4, Try.ntmps4
    go_wp2_with fail
    refine (szSpotS_yes A n c _ _ (by omega) (by omega)).mono ?_
    rintro e w' ⟨rfl, rfl⟩
    go_wp2_with fail
    refine (szSpotS_yes C m d _ _ (by omega) (by omega)).mono ?_
    rintro e w' ⟨rfl, rfl⟩
    go_wp2_with fail
    refine (toSpotS_any _ n _ xs _ (Hr.out) (Nat.le_refl _) hn).mono ?_
    rintro e w1 ⟨u1, rfl, o1, b1⟩
    have z1 := b1.size
    have q1 := Lib.hid (Own.of o1)
    clear o1
    go_wp2_with fail
    refine (toSpotS_any _ m _ ys _ (Hr2.out.below b1) (b1.size) hn2).mono ?_
    rintro e w2 ⟨u2, rfl, o2, b2⟩
    replace q1 := Lib.hid (q1.out.below b2 (Nat.le_refl _))
    have z2 := b2.size
    replace b2 := b1.trans (b2.mono b1.size)
    have q2 := Lib.hid (Own.of o2)
    clear o2
    go_wp2_with fail
    refine (HS.out u1 u2 w.heap.size _ q1.out.1 (own_base q2.out.1 b1.size)).mono ?_
    rintro e w3 ⟨s0, rfl, o3, b3⟩
    replace q1 := Lib.hid (q1.out.below b3 (Nat.le_refl _))
    replace q2 := Lib.hid (q2.out.below b3 (Nat.le_refl _))
    have z3 := b3.size
    replace b3 := b2.trans (b3.mono b2.size)
    have q3 := Lib.hid (OwnH.of o3)
    clear o3
    clear q1 q2
    obtain ⟨As, cas, Cs, cbs, Ds, ccs, rfl⟩ := q3.out.form
    have Ks := Lib.hid (Blk.new w3 29 #[.slice As T.n cas, .slice Cs T.m cbs, .int .i64 T.c, .slice Ds T.p ccs])
    replace q3 := Lib.hid (q3.out.below (below_new (Below.refl _ _) (.cells #[.slice As T.n cas, .slice Cs T.m cbs, .int .i64 T.c, .slice Ds T.p ccs] 29)) (Nat.le_refl _))
    have b103 := below_new b3 (.cells #[.slice As T.n cas, .slice Cs T.m cbs, .int .i64 T.c, .slice Ds T.p ccs] 29)
    go_wp2_with fail
    refine (toSpotS_any _ n _ xs _ (Hr.out.below b103) (b103.size) hn).mono ?_
    rintro e w4 ⟨x0, rfl, o4, b4⟩
    replace q3 := Lib.hid (q3.out.below b4 (Nat.le_refl _))
    replace Ks := Lib.hid (Ks.out.on b4)
    have z4 := b4.size
    replace b4 := b103.trans (b4.mono b103.size)
    replace o4 := own_base (base' := w3.heap.size) o4 (by simp)
    replace z4 : w3.heap.size ≤ w4.heap.size := by simp at z4; omega
    have q4 := Lib.hid (Own.of o4)
    clear o4
    go_wp2_with fail
    refine (toSpotS_any _ m _ ys _ (Hr2.out.below b4) (b4.size) hn2).mono ?_
    rintro e w5 ⟨x1, rfl, o5, b5⟩
    replace q3 := Lib.hid (q3.out.below b5 (Nat.le_refl _))
    replace q4 := Lib.hid (q4.out.below b5 (Nat.le_refl _))
    replace Ks := Lib.hid (Ks.out.on b5)
    have z5 := b5.size
    replace b5 := b4.trans (b5.mono b4.size)
    have q5 := Lib.hid (Own.of o5)
    clear o5
    have HK5 := Lib.hid Ks.out.lt
    go_wp2_with fail
    refine (HI.out x0 x1 w3.heap.size _ q4.out.1 (own_base q5.out.1 z4)).mono ?_
    rintro e w6 ⟨g0, rfl, o6, b6⟩
    replace q3 := Lib.hid (q3.out.below b6 (Nat.le_refl _))
    replace q4 := Lib.hid (q4.out.below b6 (Nat.le_refl _))
    replace q5 := Lib.hid (q5.out.below b6 (Nat.le_refl _))
    replace Ks := Lib.hid (Ks.out.on b6)
    have z6 := b6.size
    replace b6 := b5.trans (b6.mono b5.size)
    have q6 := Lib.hid o6
    clear o6
    have z46 : w4.heap.size ≤ w6.heap.size := Nat.le_trans z5 z6
    obtain ⟨Ag, cag, Cg, cbg, Dg, ccg, rfl⟩ := q6.out.form
    have Kg := Lib.hid (Blk.new w6 29 #[.slice Ag T.n cag, .slice Cg T.m cbg, .int .i64 T.c, .slice Dg T.p ccg])
    replace q3 := Lib.hid (q3.out.below (below_new (Below.refl _ _) (.cells #[.slice Ag T.n cag, .slice Cg T.m cbg, .int .i64 T.c, .slice Dg T.p ccg] 29)) (Nat.le_refl _))
    replace q4 := Lib.hid (q4.out.below (below_new (Below.refl _ _) (.cells #[.slice Ag T.n cag, .slice Cg T.m cbg, .int .i64 T.c, .slice Dg T.p ccg] 29)) (Nat.le_refl _))
    replace q5 := Lib.hid (q5.out.below (below_new (Below.refl _ _) (.cells #[.slice Ag T.n cag, .slice Cg T.m cbg, .int .i64 T.c, .slice Dg T.p ccg] 29)) (Nat.le_refl _))
    replace q6 := Lib.hid (q6.out.below (below_new (Below.refl _ _) (.cells #[.slice Ag T.n cag, .slice Cg T.m cbg, .int .i64 T.c, .slice Dg T.p ccg] 29)) (Nat.le_refl _))
    replace Ks := Lib.hid (Ks.out.alloc (.cells #[.slice Ag T.n cag, .slice Cg T.m cbg, .int .i64 T.c, .slice Dg T.p ccg] 29))
    have b106 := below_new b6 (.cells #[.slice Ag T.n cag, .slice Cg T.m cbg, .int .i64 T.c, .slice Dg T.p ccg] 29)
    have hks := HK5.out
    obtain ⟨g0, g1, g2, g3⟩ := Kg.out.c4
    obtain ⟨s0, s1, s2, s3⟩ := Ks.out.c4
    go_wp2_with fail
    refine (HE.out _ _ _ q6.out.rd q3.out.rd).mono ?_
    rintro e w7 ⟨rfl, b7⟩
    clear g0 g1 g2 g3
    clear s0 s1 s2 s3
    replace q3 := Lib.hid (q3.out.below b7 (Nat.le_refl _))
    replace q4 := Lib.hid (q4.out.below b7 (Nat.le_refl _))
    replace q5 := Lib.hid (q5.out.below b7 (Nat.le_refl _))
    replace q6 := Lib.hid (q6.out.below b7 (Nat.le_refl _))
    replace Ks := Lib.hid (Ks.out.on b7)
    replace Kg := Lib.hid (Kg.out.on b7)
    have z7 := b7.size
    replace b7 := b106.trans (b7.mono b106.size)
    go_wp2_with fail
    refine (toSpotS_any _ n _ xs _ (Hr.out.below b7) (b7.size) hn).mono ?_
    rintro e w8 ⟨x8, rfl, o8, b8⟩
    replace q3 := Lib.hid (q3.out.below b8 (Nat.le_refl _))
    replace q4 := Lib.hid (q4.out.below b8 (Nat.le_refl _))
    replace q5 := Lib.hid (q5.out.below b8 (Nat.le_refl _))
    replace q6 := Lib.hid (q6.out.below b8 (Nat.le_refl _))
    replace Ks := Lib.hid (Ks.out.on b8)
    replace Kg := Lib.hid (Kg.out.on b8)
    have z8 := b8.size
    replace b8 := b7.trans (b8.mono b7.size)
    have q8 := Lib.hid (Own.of o8)
    clear o8
    go_wp2_with fail
    refine (eqSpotS_same x0 x8 _ _ xs _ q4.out.rd q8.out.rd (Nat.le_refl _) hn).mono ?_
    rintro e w9 ⟨rfl, b9⟩
    replace q3 := Lib.hid (q3.out.below b9 (Nat.le_refl _))
    replace q4 := Lib.hid (q4.out.below b9 (Nat.le_refl _))
    replace q5 := Lib.hid (q5.out.below b9 (Nat.le_refl _))
    replace q6 := Lib.hid (q6.out.below b9 (Nat.le_refl _))
    replace q8 := Lib.hid (q8.out.below b9 (Nat.le_refl _))
    replace Ks := Lib.hid (Ks.out.on b9)
    replace Kg := Lib.hid (Kg.out.on b9)
    have z9 := b9.size
    replace b9 := b8.trans (b9.mono b8.size)
    clear q8
    go_wp2_with fail
    refine (toSpotS_any _ m _ ys _ (Hr2.out.below b9) (b9.size) hn2).mono ?_
    rintro e w10 ⟨x10, rfl, o10, b10⟩
    replace q3 := Lib.hid (q3.out.below b10 (Nat.le_refl _))
    replace q4 := Lib.hid (q4.out.below b10 (Nat.le_refl _))
    replace q5 := Lib.hid (q5.out.below b10 (Nat.le_refl _))
    replace q6 := Lib.hid (q6.out.below b10 (Nat.le_refl _))
    replace Ks := Lib.hid (Ks.out.on b10)
    replace Kg := Lib.hid (Kg.out.on b10)
    have z10 := b10.size
    replace b10 := b9.trans (b10.mono b9.size)
    have q10 := Lib.hid (Own.of o10)
    clear o10
    go_wp2_with fail
    refine (eqSpotS_same x1 x10 _ _ ys _ q5.out.rd q10.out.rd (Nat.le_refl _) hn2).mono ?_
    rintro e w11 ⟨rfl, b11⟩
    replace q3 := Lib.hid (q3.out.below b11 (Nat.le_refl _))
    replace q4 := Lib.hid (q4.out.below b11 (Nat.le_refl _))
    replace q5 := Lib.hid (q5.out.below b11 (Nat.le_refl _))
    replace q6 := Lib.hid (q6.out.below b11 (Nat.le_refl _))
    replace q10 := Lib.hid (q10.out.below b11 (Nat.le_refl _))
    replace Ks := Lib.hid (Ks.out.on b11)
    replace Kg := Lib.hid (Kg.out.on b11)
    have z11 := b11.size
    replace b11 := b10.trans (b11.mono b10.size)
    clear q10
    go_wp2_with fail
    refine (markSpotS_any x0 n _ _ 1 _ q4.out.1 (by omega) (by omega) hn).mono ?_
    rintro e w12 ⟨rfl, o12, g12⟩
    have nes := own_blk_ne q4.out.1 Ks.out (by decide)
    replace Ks := Lib.hid (Ks.out.grown g12 (fun e => nes e.symm))
    clear nes
    have neg := own_blk_ne q4.out.1 Kg.out (by decide)
    replace Kg := Lib.hid (Kg.out.grown g12 (fun e => neg e.symm))
    clear neg
    replace q3 := Lib.hid (q3.out.other q4.out (.inl (Nat.le_refl _)) g12)
    replace q5 := Lib.hid (q5.out.other q4.out (.inr (Nat.le_refl _)) g12)
    replace q6 := Lib.hid (q6.out.other q4.out (.inr z5) g12)
    have b12 := q4.out.frame b11 b3.size b11.size g12
    clear o12 g12
    clear q4
    go_wp2_with fail
    refine (markSpotS_any x1 m _ _ _ _ q5.out.1 (by omega) (by omega) hn2).mono ?_
    rintro e w13 ⟨rfl, o13, g13⟩
    have nes := own_blk_ne q5.out.1 Ks.out (by decide)
    replace Ks := Lib.hid (Ks.out.grown g13 (fun e => nes e.symm))
    clear nes
    have neg := own_blk_ne q5.out.1 Kg.out (by decide)
    replace Kg := Lib.hid (Kg.out.grown g13 (fun e => neg e.symm))
    clear neg
    replace q3 := Lib.hid (q3.out.other q5.out (.inl z4) g13)
    replace q6 := Lib.hid (q6.out.other q5.out (.inr (Nat.le_refl _)) g13)
    have b13 := q5.out.frame b12 b4.size b12.size g13
    clear o13 g13
    clear q5
    obtain ⟨g0, g1, g2, g3⟩ := Kg.out.c4
    obtain ⟨s0, s1, s2, s3⟩ := Ks.out.c4
    go_wp2_with fail
    refine (HE.out _ _ _ q6.out.rd q3.out.rd).mono ?_
    rintro e w14 ⟨rfl, b14⟩
    clear g0 g1 g2 g3
    clear s0 s1 s2 s3
    replace q3 := Lib.hid (q3.out.below b14 (Nat.le_refl _))
    replace q6 := Lib.hid (q6.out.below b14 (Nat.le_refl _))
    replace Ks := Lib.hid (Ks.out.on b14)
    replace Kg := Lib.hid (Kg.out.on b14)
    have z14 := b14.size
    replace b14 := b13.trans (b14.mono b13.size)
    obtain ⟨g0, g1, g2, g3⟩ := Kg.out.c4
    go_wp2_with fail
    refine (HM.out _ _ _ _ q6.out).mono ?_
    rintro e w15 ⟨rfl, o15, g15⟩
    clear g0 g1 g2 g3
    replace q3 := Lib.hid (q3.out.only g15 (.inl (Nat.le_trans z4 z5)))
    replace Ks := Lib.hid (Ks.out.only g15 (.inl hks))
    replace Kg := Lib.hid (Kg.out.only g15 (.inr (Nat.le_refl _)))
    have b15 := b14.trans ((g15.below (B := w.heap.size) b5.size b14.size).mono (Nat.le_refl _))
    have q7 := Lib.hid o15
    clear q6 o15 g15
    obtain ⟨g0, g1, g2, g3⟩ := Kg.out.c4
    go_wp2_with fail
    refine (HH.out _ _ q7.out.rd).mono ?_
    rintro e w16 ⟨rfl, b16⟩
    clear g0 g1 g2 g3
    replace q3 := Lib.hid (q3.out.below b16 (Nat.le_refl _))
    replace q7 := Lib.hid (q7.out.below b16 (Nat.le_refl _))
    replace Ks := Lib.hid (Ks.out.on b16)
    replace Kg := Lib.hid (Kg.out.on b16)
    have z16 := b16.size
    replace b16 := b15.trans (b16.mono b15.size)
    go_wp2_with fail
    refine (toSpotS_any _ n _ xs _ (Hr.out.below b16) (b16.size) hn).mono ?_
    rintro e w17 ⟨u17, rfl, o17, b17⟩
    replace q3 := Lib.hid (q3.out.below b17 (Nat.le_refl _))
    replace q7 := Lib.hid (q7.out.below b17 (Nat.le_refl _))
    replace Ks := Lib.hid (Ks.out.on b17)
    replace Kg := Lib.hid (Kg.out.on b17)
    have z17 := b17.size
    replace b17 := b16.trans (b17.mono b16.size)
    have q17 := Lib.hid (Own.of o17)
    clear o17
    go_wp2_with fail
    refine (toSpotS_any _ m _ ys _ (Hr2.out.below b17) (b17.size) hn2).mono ?_
    rintro e w18 ⟨u18, rfl, o18, b18⟩
    replace q3 := Lib.hid (q3.out.below b18 (Nat.le_refl _))
    replace q7 := Lib.hid (q7.out.below b18 (Nat.le_refl _))
    replace q17 := Lib.hid (q17.out.below b18 (Nat.le_refl _))
    replace Ks := Lib.hid (Ks.out.on b18)
    replace Kg := Lib.hid (Kg.out.on b18)
    have z18 := b18.size
    replace b18 := b17.trans (b18.mono b17.size)
    have q18 := Lib.hid (Own.of o18)
    clear o18
    go_wp2_with fail
    refine (HI.out u17 u18 w16.heap.size _ q17.out.1 (own_base q18.out.1 z17)).mono ?_
    rintro e w19 ⟨h0, rfl, o19, b19⟩
    replace q3 := Lib.hid (q3.out.below b19 (Nat.le_refl _))
    replace q7 := Lib.hid (q7.out.below b19 (Nat.le_refl _))
    replace q17 := Lib.hid (q17.out.below b19 (Nat.le_refl _))
    replace q18 := Lib.hid (q18.out.below b19 (Nat.le_refl _))
    replace Ks := Lib.hid (Ks.out.on b19)
    replace Kg := Lib.hid (Kg.out.on b19)
    have z19 := b19.size
    replace b19 := b18.trans (b19.mono b18.size)
    have q19 := Lib.hid o19
    clear o19
    clear q17 q18
    obtain ⟨Ah, cah, Ch, cbh, Dh, cch, rfl⟩ := q19.out.form
    have Kh := Lib.hid (Blk.new w19 29 #[.slice Ah T.n cah, .slice Ch T.m cbh, .int .i64 T.c, .slice Dh T.p cch])
    replace q3 := Lib.hid (q3.out.below (below_new (Below.refl _ _) (.cells #[.slice Ah T.n cah, .slice Ch T.m cbh, .int .i64 T.c, .slice Dh T.p cch] 29)) (Nat.le_refl _))
    replace q7 := Lib.hid (q7.out.below (below_new (Below.refl _ _) (.cells #[.slice Ah T.n cah, .slice Ch T.m cbh, .int .i64 T.c, .slice Dh T.p cch] 29)) (Nat.le_refl _))
    replace q19 := Lib.hid (q19.out.below (below_new (Below.refl _ _) (.cells #[.slice Ah T.n cah, .slice Ch T.m cbh, .int .i64 T.c, .slice Dh T.p cch] 29)) (Nat.le_refl _))
    replace Ks := Lib.hid (Ks.out.alloc (.cells #[.slice Ah T.n cah, .slice Ch T.m cbh, .int .i64 T.c, .slice Dh T.p cch] 29))
    replace Kg := Lib.hid (Kg.out.alloc (.cells #[.slice Ah T.n cah, .slice Ch T.m cbh, .int .i64 T.c, .slice Dh T.p cch] 29))
    have b119 := below_new b19 (.cells #[.slice Ah T.n cah, .slice Ch T.m cbh, .int .i64 T.c, .slice Dh T.p cch] 29)
    obtain ⟨h0, h1, h2, h3⟩ := Kh.out.c4
    obtain ⟨s0, s1, s2, s3⟩ := Ks.out.c4
    go_wp2_with fail
    refine (HE.out _ _ _ q19.out.rd q3.out.rd).mono ?_
    rintro e w20 ⟨rfl, b20⟩
    clear h0 h1 h2 h3
    clear s0 s1 s2 s3
    replace q3 := Lib.hid (q3.out.below b20 (Nat.le_refl _))
    replace q7 := Lib.hid (q7.out.below b20 (Nat.le_refl _))
    replace q19 := Lib.hid (q19.out.below b20 (Nat.le_refl _))
    replace Ks := Lib.hid (Ks.out.on b20)
    replace Kg := Lib.hid (Kg.out.on b20)
    replace Kh := Lib.hid (Kh.out.on b20)
    have z20 := b20.size
    replace b20 := b119.trans (b20.mono b119.size)
    obtain ⟨g0, g1, g2, g3⟩ := Kg.out.c4
    go_wp2_with fail
    refine (HH.out _ _ q7.out.rd).mono ?_
    rintro e w21 ⟨rfl, b21⟩
    clear g0 g1 g2 g3
    replace q3 := Lib.hid (q3.out.below b21 (Nat.le_refl _))
    replace q7 := Lib.hid (q7.out.below b21 (Nat.le_refl _))
    replace q19 := Lib.hid (q19.out.below b21 (Nat.le_refl _))
    replace Ks := Lib.hid (Ks.out.on b21)
    replace Kg := Lib.hid (Kg.out.on b21)
    replace Kh := Lib.hid (Kh.out.on b21)
    have z21 := b21.size
    replace b21 := b20.trans (b21.mono b20.size)
    go_wp2_with fail
    go_ret
    exact ⟨rfl, b21⟩
end Go.Proofs.Ytnlneblipedddaa.fnExactEvenTransition
