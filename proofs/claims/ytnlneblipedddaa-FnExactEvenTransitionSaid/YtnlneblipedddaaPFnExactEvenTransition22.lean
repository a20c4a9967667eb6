/- A contract of the reference's LeastTransition. Conditions: short slices that are owned. -/
import Derived.Test.YtnlneblipedddaaPFnExactEvenTransition18
import Derived.Test.YtnlneblipedddaaPFnExactEvenTransition21
namespace Go.Proofs.Ytnlneblipedddaa
open Go.RowKit

/-- The costs between two charts. -/
def coC (xs ys : List Int) (n : Nat) : Nat → Nat → Int := cst (coRs xs ys n n)
/-- The places of the least transition. -/
def ltP (n : Nat) (xs ys : List Int) : List Int := mlL (coC xs ys n) (tb (coC xs ys n) n) n n
def ltT (n : Nat) (xs : List Int) (m : Nat) (ys : List Int) (c : Int) : TrN := if aaB n xs m ys c = true then ⟨n, xs, m, ys, c, n, ltP n xs ys⟩ else zeroT
theorem aa_yes {n m : Nat} {xs ys : List Int} {c : Int} (h : aaB n xs m ys c = true) : (1 ≤ n ∧ n ≤ 12) ∧ m = n ∧ (1 ≤ c ∧ c ≤ 64) ∧ (∀ i, i < n → spotB (X xs i) (Y xs i) = true) ∧ ∀ i, i < n → spotB (X ys i) (Y ys i) = true := by
  simp only [aaB, Bool.and_eq_true, beq_iff_eq] at h
  obtain ⟨⟨h1, h2, h3⟩, h4⟩ := h
  have k1 := chB_spot h1
  have k2 := chB_spot h2
  have k4 := inB_yes h4
  exact ⟨k1.1, h3.symm, k4, k1.2, fun i hi => k2.2 i (by omega)⟩
set_option maxRecDepth 100000 in
set_option maxHeartbeats 4000000 in
theorem specLeastTransition_any (v u : Value) (lo n m : Nat) (xs ys : List Int) (c : Int) (w : World) (hv : w.ownsRow lo 75 2 v n (ints xs)) (hu : w.ownsRow lo 75 2 u m (ints ys)) (hn : n ≤ 1000) (hm : m ≤ 1000) :
    Calls Try.prog 8 #[v, u, .int .i64 c] w fun e w' => ∃ r, e = .returned (.tuple #[r, .bool (aaB n xs m ys c)]) ∧ OwnA w' w.heap.size r (ltT n xs m ys c) ∧ Below w.heap.size w w' := by
  obtain ⟨A, ca, rfl⟩ := (Rd.of_own hv).form
  obtain ⟨C, cb, rfl⟩ := (Rd.of_own hu).form
  have K0 := Lib.hid (Blk.new w 29 #[.slice none 0 0, .slice none 0 0, .int .i64 0, .slice none 0 0])
  have HB0 := Lib.hid (below_new (Below.refl w.heap.size w) (.cells #[.slice none 0 0, .slice none 0 0, .int .i64 0, .slice none 0 0] 29))
  have HV := Lib.hid (fun W (hb : Below w.heap.size w W) => own_below hv hb (Nat.le_refl _))
  have HU := Lib.hid (fun W (hb : Below w.heap.size w W) => own_below hu hb (Nat.le_refl _))
  have HP := Lib.hid (fun W (hb : Below w.heap.size w W) => asAsked_any _ _ n m W.heap.size xs ys c W (own_cap hv) (own_cap hu) (Rd.of_own (own_below hv hb (Nat.le_refl _))) (Rd.of_own (own_below hu hb (Nat.le_refl _))) (Nat.le_refl _) (by omega) (by omega))
  clear hv hu
  cases hab : aaB n xs m ys c with
  | false =>
    have HT := Lib.hid (show ltT n xs m ys c = zeroT by simp [ltT, hab])
    have HE := Lib.hid hab
    obtain ⟨f0, f1, f2, f3⟩ := K0.out.c4
    clear hab
    go_enter Try.func8, Try.ntmps8
    go_wp2_with fail
    refine (HP.out _ HB0.out).mono ?_
    rintro e w2 ⟨rfl, hb⟩
    have k1 := K0.out.on hb
    have HB1 := Lib.hid (below_on HB0.out hb)
    obtain ⟨g0, g1, g2, g3⟩ := k1.c4
    have g4 := k1.frozen 0
    have g5 := k1.frozen 1
    have g6 := k1.frozen 2
    have g7 := k1.frozen 3
    have K1 := Lib.hid k1
    clear hb K0 HB0 k1 f0 f1 f2 f3
    rw [HE.out]
    go_wp2_with fail
    obtain ⟨m0, m1, m2, m3⟩ := (blk_set4 K1.out (.slice none 0 0) (.slice none 0 0) (.int .i64 0) (.slice none 0 0)).c4
    exact bodyPost_ret (v := .tuple #[.agg #[.slice none 0 0, .slice none 0 0, .int .i64 0, .slice none 0 0], .bool false]) (by simp [results, Try.results8, go_sem, m0, m1, m2, m3]) rfl
      ⟨_, rfl, by rw [HT.out]; exact OwnA.zero _ _, below_set4 HB1.out (Nat.le_refl _) _ _ _ _⟩
  | true =>
    obtain ⟨⟨n0, n1⟩, rfl, hc, hx, hy⟩ := aa_yes hab
    have HT := Lib.hid (show ltT m xs m ys c = ⟨m, xs, m, ys, c, m, mlL (coC xs ys m) (tb (coC xs ys m) m) m m⟩ by simp [ltT, hab, ltP])
    have HE := Lib.hid hab
    have PC := Lib.hid (fun (W : World) (hb : Below w.heap.size w W) => asCosts_any _ _ m m W.heap.size xs ys W (Rd.of_own (HV.out W hb)) (Rd.of_own (HU.out W hb)) (Nat.le_refl _) n1 n1 hx hy)
    have hco := co_ok hx hy
    have hsq := co_sq xs ys m
    have PL := Lib.hid (fun (W : World) (B : Nat) (q : Value) (h : RdR W B q m (coRs xs ys m m)) (hB : B ≤ W.heap.size) => maLeast_any B m q (coRs xs ys m m) W h hB n0 n1 hsq hco)
    have PW := Lib.hid (fun (W : World) (q : Value) (lq : Nat) (ps : List Int) (hb : Below w.heap.size w W) (h : W.ownsRow lq 3 1 q m (ints ps)) => asWith_any _ _ q lo lq m m m xs ys ps c W (HV.out W hb) (HU.out W hb) h hn hn (by omega))
    clear hab hx hy hc hco hsq HV HU
    obtain ⟨f0, f1, f2, f3⟩ := K0.out.c4
    go_enter Try.func8, Try.ntmps8
    go_wp2_with fail
    refine (HP.out _ HB0.out).mono ?_
    rintro e w2 ⟨rfl, hb⟩
    have K1 := Lib.hid (K0.out.on hb)
    have HB1 := Lib.hid (below_on HB0.out hb)
    clear hb K0 HB0 f0 f1 f2 f3
    rw [HE.out]
    go_wp2_with fail
    refine (PC.out _ HB1.out).mono ?_
    rintro e w3 ⟨q, vs, rfl, hg, hb⟩
    have K2 := Lib.hid (K1.out.on hb)
    have HB2 := Lib.hid (below_on HB1.out hb)
    have HR := Lib.hid hg.rd
    clear hb hg K1 HB1
    go_wp2_with fail
    refine (PL.out _ _ _ HR.out (Nat.le_refl _)).mono ?_
    rintro e w4 ⟨q2, rfl, ho, hb⟩
    obtain ⟨Aq, cq, rfl⟩ := (Rd.of_own ho).form
    have K3 := Lib.hid (K2.out.on hb)
    have HB3 := Lib.hid (below_on HB2.out hb)
    have HO := Lib.hid ho
    clear hb ho K2 HB2 HR
    go_wp2_with fail
    refine (PW.out _ _ _ _ HB3.out HO.out).mono ?_
    rintro e w5 ⟨r, rfl, oa, hb⟩
    have OA := Lib.hid oa
    have KZ := Lib.hid (K3.out.on hb)
    have HBY := Lib.hid (below_on HB3.out hb)
    have HBZ := Lib.hid HB3.out.size
    clear hb oa K3 HB3 HO
    obtain ⟨Ar, cr, Dr, dr, Er, er, rfl, o1, o2, o3⟩ := OA.out.form
    obtain ⟨f0, f1, f2, f3⟩ := KZ.out.c4
    have g0 := KZ.out.frozen 0
    have g1 := KZ.out.frozen 1
    have g2 := KZ.out.frozen 2
    have g3 := KZ.out.frozen 3
    have O1 := Lib.hid o1
    have O2 := Lib.hid o2
    have O3 := Lib.hid o3
    clear o1 o2 o3 OA
    go_wp2_with fail
    obtain ⟨m0, m1, m2, m3⟩ := (blk_set4 KZ.out (.slice Ar m cr) (.slice Dr m dr) (.int .i64 c) (.slice Er m er)).c4
    exact bodyPost_ret (v := .tuple #[.agg #[.slice Ar m cr, .slice Dr m dr, .int .i64 c, .slice Er m er], .bool true]) (by simp [results, Try.results8, go_sem, m0, m1, m2, m3]) rfl
      ⟨_, rfl, by rw [HT.out]; exact ⟨_, _, _, rfl, own_base (own_set4 O1.out KZ.out (by decide) _ _ _ _) HBZ.out, own_base (own_set4 O2.out KZ.out (by decide) _ _ _ _) HBZ.out, own_base (own_set4 O3.out KZ.out (by decide) _ _ _ _) HBZ.out⟩, below_set4 HBY.out (Nat.le_refl _) _ _ _ _⟩
end Go.Proofs.Ytnlneblipedddaa
