/- Contracts of the least square of two moves with delays, in the program and in the reference, and of the two LeastDelayed. Without conditions. -/
import Derived.Test.YtpikhkdgohapeaaDelayTo
import Derived.Test.YtpikhkdgohapeaaFrac
import Derived.Test.YtpikhkdgohapeaaTerms
import Derived.Deep.DeepCutAuto
namespace Go.Proofs.Ytpikhkdgohapeaa
open Go.RowKit

/-! ### One part of the way, in the reference -/
set_option maxHeartbeats 2000000 in
theorem rpPart_any (d e q r : Int) (w : World) (h : Part d e q r) (h1 : -20480 ≤ d ∧ d ≤ 20480) (h2 : -20480 ≤ e ∧ e ≤ 20480) (h3 : -20480 ≤ q ∧ q ≤ 20480) (h4 : -20480 ≤ r ∧ r ≤ 20480) (h5 : -2560 ≤ q - d ∧ q - d ≤ 2560) (h6 : -2560 ≤ r - e ∧ r - e ≤ 2560) :
    Calls Try.prog 69 #[.int .i64 d, .int .i64 e, .int .i64 q, .int .i64 r] w fun e' w' => e' = .returned (.tuple #[.int .i64 (rwT d e q r), .int .i64 (rwB d e q r)]) ∧ w = w' := by
  have m1 := h.m1; have m2 := h.m2; have m3 := h.m3; have m4 := h.m4; have m7 := h.m7; have m8 := h.m8; have m9 := h.m9; have m10 := h.m10; have m11 := h.m11; have m12 := h.m12
  have hcc : 0 ≤ (d * r - e * q) * (d * r - e * q) ∧ (d * r - e * q) * (d * r - e * q) ≤ 10995116277760000 := by rw [h.cr2]; exact h.cc
  have hdt := h.dt
  have hsz := h.sz
  have hcr2 := h.cr2
  clear h
  have hmid := lp_mid (px := d) (py := e) (qx := q) (qy := r)
  have hno : ¬ (dtOf d e q r < 0 ∧ -dtOf d e q r < szOf d e q r) → inMid d e q r = false := fun h => by
    cases hm : inMid d e q r with
    | false => rfl
    | true => exact absurd (mid_yes hm) h
  by_cases c1 : d * (q - d) + e * (r - e) < 0
  · by_cases c2 : -(d * (q - d) + e * (r - e)) < (q - d) * (q - d) + (r - e) * (r - e)
    · have hm := hmid (by rw [hdt]; exact c1) (by rw [hdt, hsz]; exact c2)
      have hX := Lib.hid (show rwT d e q r = (d * r - e * q) * (d * r - e * q) by rw [rwT, if_pos hm, hcr2])
      have hY := Lib.hid (show rwB d e q r = (q - d) * (q - d) + (r - e) * (r - e) by rw [rwB, if_pos hm, hsz])
      have c3 : 0 < -(d * (q - d) + e * (r - e)) := by omega
      clear hdt hsz hcr2 hmid hno hm
      go_enter Try.func69, Try.ntmps69
      go_wp2_with fail
      go_ret2
      exact ⟨by rw [hX.out, hY.out]; rfl, rfl⟩
    · have hm := hno (by rw [hdt, hsz]; exact fun h => c2 h.2)
      have hX := Lib.hid (show rwT d e q r = min (d * d + e * e) (q * q + r * r) by rw [rwT, if_neg (by simp [hm])])
      have hY := Lib.hid (show rwB d e q r = 1 by rw [rwB, if_neg (by simp [hm])])
      have c3 : 0 < -(d * (q - d) + e * (r - e)) := by omega
      have HL := Lib.hid (fun W => l1Least_any (d * d + e * e) (q * q + r * r) W)
      clear hdt hsz hcr2 hmid hno hm
      go_enter Try.func69, Try.ntmps69
      go_wp2_with fail
      refine (HL.out _).mono ?_
      rintro e w1 ⟨rfl, rfl⟩
      go_wp2_with fail
      go_ret2
      exact ⟨by rw [hX.out, hY.out]; rfl, rfl⟩
  · have hm := hno (by rw [hdt]; exact fun h => c1 h.1)
    have hX := Lib.hid (show rwT d e q r = min (d * d + e * e) (q * q + r * r) by rw [rwT, if_neg (by simp [hm])])
    have hY := Lib.hid (show rwB d e q r = 1 by rw [rwB, if_neg (by simp [hm])])
    have c3 : ¬ 0 < -(d * (q - d) + e * (r - e)) := by omega
    have HL := Lib.hid (fun W => l1Least_any (d * d + e * e) (q * q + r * r) W)
    clear hdt hsz hcr2 hmid hno hm
    go_enter Try.func69, Try.ntmps69
    go_wp2_with fail
    refine (HL.out _).mono ?_
    rintro e w1 ⟨rfl, rfl⟩
    go_wp2_with fail
    go_ret2
    exact ⟨by rw [hX.out, hY.out]; rfl, rfl⟩

/-! ### What the walks share -/
theorem wy_at (x z u r c p q : Int) (j : Nat) : paX x z c (dlK c p (j : Int)) - paX u r c (dlK c q (j : Int)) = wyT x z u r c p q j ∧ paX x z c (dlK c p ((j : Int) + 1)) - paX u r c (dlK c q ((j : Int) + 1)) = wyT x z u r c p q (j + 1) :=
  ⟨rfl, by unfold wyT; rw [show ((j + 1 : Nat) : Int) = (j : Int) + 1 by omega]⟩
theorem pa_all {x z c d : Int} (hx : 0 ≤ x) (hx2 : x ≤ 1280) (hz : 0 ≤ z) (hz2 : z ≤ 1280) (hc1 : 1 ≤ c) (hc : c ≤ 16) (hd : 0 ≤ d) (j : Nat) : (0 ≤ paX x z c (dlK c d (j : Int)) ∧ paX x z c (dlK c d (j : Int)) ≤ 20480) ∧ 0 ≤ paX x z c (dlK c d ((j : Int) + 1)) ∧ paX x z c (dlK c d ((j : Int) + 1)) ≤ 20480 := by
  have i1 := dl_in hc1 hd j
  have i2 := dl_in hc1 hd (j + 1)
  rw [show ((j + 1 : Nat) : Int) = (j : Int) + 1 by omega] at i2
  exact ⟨pa_in hx hx2 hz hz2 i1.1 i1.2 hc, pa_in hx hx2 hz hz2 i2.1 i2.2 hc⟩
def dlN (c p q : Int) : Nat := (c + max p q).toNat


/-! ### The program's search -/
set_option maxRecDepth 100000 in
set_option maxHeartbeats 4000000 in
theorem leastDelayed_any (x y z u X Y Z U c p q : Int) (w : World) (ha : okM x y z u) (hb : okM X Y Z U) (hc1 : 1 ≤ c) (hc : c ≤ 16) (hp : 0 ≤ p) (hp4 : p ≤ 4) (hq : 0 ≤ q) (hq4 : q ≤ 4) :
    Calls Try.prog 40 #[(Value.agg #[Value.int .i64 x, Value.int .i64 y, Value.int .i64 z, Value.int .i64 u, Value.int .i64 c]), (Value.agg #[Value.int .i64 X, Value.int .i64 Y, Value.int .i64 Z, Value.int .i64 U, Value.int .i64 c]), .int .i64 p, .int .i64 q] w fun e w' =>
      e = .returned (.tuple #[.int .i64 (ldA (wyT x z X Z c p q) (wyT y u Y U c p q) (dlN c p q) c), .int .i64 (ldC (wyT x z X Z c p q) (wyT y u Y U c p q) (dlN c p q) c)]) ∧ Below w.heap.size w w' := by
  have PA := Lib.hid (fun W => placeAt_any x y z u c 0 W ha (by omega) (by omega) (by omega) (by omega))
  have PB := Lib.hid (fun W => placeAt_any X Y Z U c 0 W hb (by omega) (by omega) (by omega) (by omega))
  have z1 : paX x z c 0 = x * c := by unfold paX; omega
  have z2 : paX y u c 0 = y * c := by unfold paX; omega
  have z3 : paX X Z c 0 = X * c := by unfold paX; omega
  have z4 : paX Y U c 0 = Y * c := by unfold paX; omega
  rw [z1, z2] at PA
  rw [z3, z4] at PB
  clear z1 z2 z3 z4
  obtain ⟨⟨h1, h2⟩, ⟨h3, h4⟩, ⟨h5, h6⟩, h7, h8⟩ := ha
  obtain ⟨⟨k1, k2⟩, ⟨k3, k4⟩, ⟨k5, k6⟩, k7, k8⟩ := hb
  have hN : ((dlN c p q : Nat) : Int) = c + max p q := by unfold dlN; omega
  have hN0 : 0 < dlN c p q := by unfold dlN; omega
  have hNl : dlN c p q ≤ 20 := by unfold dlN; omega
  have hF := wy_steps (x := x) (z := z) (u := X) (r := Z) (c := c) (p := p) (q := q) ⟨h1, h2⟩ ⟨h5, h6⟩ ⟨k1, k2⟩ ⟨k5, k6⟩ hc1 hc hp hq
  have hG := wy_steps (x := y) (z := u) (u := Y) (r := U) (c := c) (p := p) (q := q) ⟨h3, h4⟩ ⟨h7, h8⟩ ⟨k3, k4⟩ ⟨k7, k8⟩ hc1 hc hp hq
  have HAF := Lib.hid (fun j => wy_at x z X Z c p q j)
  have HAG := Lib.hid (fun j => wy_at y u Y U c p q j)
  have HX1 := Lib.hid (fun j => pa_all (x := x) (z := z) (c := c) (d := p) h1 h2 h5 h6 hc1 hc hp j)
  have HX2 := Lib.hid (fun j => pa_all (x := y) (z := u) (c := c) (d := p) h3 h4 h7 h8 hc1 hc hp j)
  have HX3 := Lib.hid (fun j => pa_all (x := X) (z := Z) (c := c) (d := q) k1 k2 k5 k6 hc1 hc hq j)
  have HX4 := Lib.hid (fun j => pa_all (x := Y) (z := U) (c := c) (d := q) k3 k4 k7 k8 hc1 hc hq j)
  have HP1 := Lib.hid (fun (k : Int) (W : World) (h0 : 0 ≤ k) (h100 : k ≤ 100) => placeDelayed_any x y z u c p k W ⟨⟨h1, h2⟩, ⟨h3, h4⟩, ⟨h5, h6⟩, h7, h8⟩ (by omega) (by omega) hp hp4 h0 h100)
  have HP2 := Lib.hid (fun (k : Int) (W : World) (h0 : 0 ≤ k) (h100 : k ≤ 100) => placeDelayed_any X Y Z U c q k W ⟨⟨k1, k2⟩, ⟨k3, k4⟩, ⟨k5, k6⟩, k7, k8⟩ (by omega) (by omega) hq hq4 h0 h100)
  have HLA := Lib.hid (fun n (hn : 0 < n) => ld_last hF hG (n := n) hn hc1 hc)
  have HIN := Lib.hid (fun j => ldI_in hF hG j)
  have HPT := Lib.hid (fun j => hF.part hG j)
  have HFS := Lib.hid (And.intro hF hG)
  have HZ := Lib.hid (show wyT x z X Z c p q 0 = x * c - X * c ∧ wyT y u Y U c p q 0 = y * c - Y * c by
    unfold wyT paX
    rw [show ((0 : Nat) : Int) = 0 from rfl, dl_zero hc1 hp, dl_zero hc1 hq]
    omega)
  have k0 := Blk.new w 30 #[.int .i64 x, .int .i64 y, .int .i64 z, .int .i64 u, .int .i64 c]
  have K1 := Lib.hid (Blk.new2 w (.cells #[.int .i64 x, .int .i64 y, .int .i64 z, .int .i64 u, .int .i64 c] 30) 30 #[.int .i64 X, .int .i64 Y, .int .i64 Z, .int .i64 U, .int .i64 c])
  have K0 := Lib.hid (k0.alloc (.cells #[.int .i64 X, .int .i64 Y, .int .i64 Z, .int .i64 U, .int .i64 c] 30))
  have HB0 := Lib.hid (below_new (below_new (Below.refl w.heap.size w) (.cells #[.int .i64 x, .int .i64 y, .int .i64 z, .int .i64 u, .int .i64 c] 30)) (.cells #[.int .i64 X, .int .i64 Y, .int .i64 Z, .int .i64 U, .int .i64 c] 30))
  obtain ⟨F, eF⟩ : ∃ F, wyT x z X Z c p q = F := ⟨_, rfl⟩
  obtain ⟨G, eG⟩ : ∃ G, wyT y u Y U c p q = G := ⟨_, rfl⟩
  obtain ⟨N, eN⟩ : ∃ N, dlN c p q = N := ⟨_, rfl⟩
  rw [eF] at HAF HLA HIN HPT HFS HZ ⊢
  rw [eG] at HAG HLA HIN HPT HFS HZ ⊢
  rw [eN] at hN hN0 hNl ⊢
  clear hF hG k0 eF eG eN
  have b0 := (HFS.out.1 0).1
  have b1 := (HFS.out.2 0).1
  rw [HZ.out.1] at b0
  rw [HZ.out.2] at b1
  have n1 := mul_wide (x := x) (y := c) (a := 1280) (b := 16) (by omega) (by omega) (by omega) (by omega)
  have n2 := mul_wide (x := y) (y := c) (a := 1280) (b := 16) (by omega) (by omega) (by omega) (by omega)
  have n3 := mul_wide (x := X) (y := c) (a := 1280) (b := 16) (by omega) (by omega) (by omega) (by omega)
  have n4 := mul_wide (x := Y) (y := c) (a := 1280) (b := 16) (by omega) (by omega) (by omega) (by omega)
  obtain ⟨a1, ea1⟩ : ∃ a, x * c = a := ⟨_, rfl⟩
  obtain ⟨a2, ea2⟩ : ∃ a, y * c = a := ⟨_, rfl⟩
  obtain ⟨a3, ea3⟩ : ∃ a, X * c = a := ⟨_, rfl⟩
  obtain ⟨a4, ea4⟩ : ∃ a, Y * c = a := ⟨_, rfl⟩
  rw [ea1] at PA HZ b0 n1
  rw [ea2] at PA HZ b1 n2
  rw [ea3] at PB HZ b0 n3
  rw [ea4] at PB HZ b1 n4
  have n5 := mul_wide (x := a1 - a3) (y := a1 - a3) (a := 20480) (b := 20480) (by omega) (by omega) (by omega) (by omega)
  have n6 := mul_wide (x := a2 - a4) (y := a2 - a4) (a := 20480) (b := 20480) (by omega) (by omega) (by omega) (by omega)
  clear ea1 ea2 ea3 ea4
  have HZ0 := Lib.hid (show ldI F G 0 = ((a1 - a3) * (a1 - a3) + (a2 - a4) * (a2 - a4), 1) by rw [ldI, HZ.out.1, HZ.out.2])
  obtain ⟨c0, c1, c2, c3, c4⟩ := K0.out.c5
  obtain ⟨e0, e1, e2, e3, e4⟩ := K1.out.c5
  go_enter Try.func40, Try.ntmps40
  go_wp2_with fail
  refine (PA.out _).mono ?_
  rintro e w1 ⟨rfl, hh⟩
  clear c0 c1 c2 c3 c4 e0 e1 e2 e3 e4
  replace K0 := Lib.hid (K0.out.on hh)
  replace K1 := Lib.hid (K1.out.on hh)
  replace HB0 := Lib.hid (below_on HB0.out hh)
  clear hh
  obtain ⟨c0, c1, c2, c3, c4⟩ := K0.out.c5
  obtain ⟨e0, e1, e2, e3, e4⟩ := K1.out.c5
  go_wp2_with fail
  refine (PB.out _).mono ?_
  rintro e w2 ⟨rfl, hh⟩
  clear c0 c1 c2 c3 c4 e0 e1 e2 e3 e4
  replace K0 := Lib.hid (K0.out.on hh)
  replace K1 := Lib.hid (K1.out.on hh)
  replace HB0 := Lib.hid (below_on HB0.out hh)
  clear hh
  obtain ⟨c0, c1, c2, c3, c4⟩ := K0.out.c5
  obtain ⟨e0, e1, e2, e3, e4⟩ := K1.out.c5
  go_wp2_with fail
  clear c0 c1 c2 c3 c4 e0 e1 e2 e3 e4
  go_loopw [14, 15, 16, 17, 18] (fun d e T B k wr => ∃ j : Nat, j ≤ N ∧ d = .int .i64 (F j) ∧ e = .int .i64 (G j) ∧ T = .int .i64 (ldI F G j).1 ∧ B = .int .i64 (ldI F G j).2 ∧ k = .int .i64 ((j : Int) + 1) ∧ Blk wr w.heap.size 30 #[.int .i64 x, .int .i64 y, .int .i64 z, .int .i64 u, .int .i64 c] ∧ Blk wr (w.heap.size + 1) 30 #[.int .i64 X, .int .i64 Y, .int .i64 Z, .int .i64 U, .int .i64 c] ∧ Below w.heap.size w wr) (fun _ _ _ _ k _ => 30 - (intOf k).toNat)
  case atStart => exact ⟨0, Nat.zero_le _, by rw [HZ.out.1], by rw [HZ.out.2], by rw [HZ0.out], by rw [HZ0.out], rfl, K0.out, K1.out, HB0.out⟩
  case round =>
    clear K0 K1 HB0 n1 n2 n3 n4 n5 n6 b0 b1 HZ HZ0 PA PB
    obtain ⟨j, hj, rfl, rfl, rfl, rfl, rfl, kk0, kk1, hb9⟩ := hrel
    have K0 := Lib.hid kk0
    have K1 := Lib.hid kk1
    have HB0 := Lib.hid hb9
    clear kk0 kk1 hb9
    obtain ⟨c0, c1, c2, c3, c4⟩ := K0.out.c5
    obtain ⟨e0, e1, e2, e3, e4⟩ := K1.out.c5
    obtain ⟨⟨t1, t2⟩, t3, t4⟩ := HIN.out j
    by_cases hlt : j < N
    · have hle : (j : Int) + 1 ≤ c + max p q := by omega
      have hj0 : (0 : Int) ≤ (j : Int) + 1 := by omega
      have hj1 : (j : Int) + 1 ≤ 100 := by omega
      have PT := HPT.out j
      have HNE := Lib.hid (ldI_next (f := F) (g := G) (j := j))
      have f1 := HAF.out j
      have f2 := HAG.out j
      have x1 := (HX1.out j).2
      have x2 := (HX2.out j).2
      have x3 := (HX3.out j).2
      have x4 := (HX4.out j).2
      have sF := HFS.out.1 j
      have sG := HFS.out.2 j
      have s1 := (HFS.out.1 (j + 1)).1
      have s2 := (HFS.out.2 (j + 1)).1
      have P1 := fun W => HP1.out ((j : Int) + 1) W hj0 hj1
      have P2 := fun W => HP2.out ((j : Int) + 1) W hj0 hj1
      obtain ⟨A1, eA1⟩ : ∃ a, paX x z c (dlK c p ((j : Int) + 1)) = a := ⟨_, rfl⟩
      obtain ⟨A2, eA2⟩ : ∃ a, paX y u c (dlK c p ((j : Int) + 1)) = a := ⟨_, rfl⟩
      obtain ⟨U1, eU1⟩ : ∃ a, paX X Z c (dlK c q ((j : Int) + 1)) = a := ⟨_, rfl⟩
      obtain ⟨U2, eU2⟩ : ∃ a, paX Y U c (dlK c q ((j : Int) + 1)) = a := ⟨_, rfl⟩
      rw [eA1] at P1 f1 x1
      rw [eA2] at P1 f2 x2
      rw [eU1] at P2 f1 x3
      rw [eU2] at P2 f2 x4
      have HF1 := Lib.hid f1.2.symm
      have HG1 := Lib.hid f2.2.symm
      rw [HF1.out] at PT HNE s1 sF
      rw [HG1.out] at PT HNE s2 sG
      obtain ⟨d, ed⟩ : ∃ a, F j = a := ⟨_, rfl⟩
      obtain ⟨ee, eee⟩ : ∃ a, G j = a := ⟨_, rfl⟩
      obtain ⟨T, eT⟩ : ∃ a, (ldI F G j).1 = a := ⟨_, rfl⟩
      obtain ⟨B, eB⟩ : ∃ a, (ldI F G j).2 = a := ⟨_, rfl⟩
      rw [show ldI F G j = (T, B) by rw [← eT, ← eB]] at HNE
      rw [ed] at PT HNE sF ⊢
      rw [eee] at PT HNE sG ⊢
      rw [eT] at t1 t2 ⊢
      rw [eB] at t3 t4 ⊢
      have HPP1 := Lib.hid P1
      have HPP2 := Lib.hid P2
      clear f1 f2 P1 P2 eA1 eA2 eU1 eU2 ed eee eT eB
      have m1 := PT.m1; have m2 := PT.m2; have m3 := PT.m3; have m4 := PT.m4; have m5 := PT.m5; have m6 := PT.m6; have m7 := PT.m7; have m8 := PT.m8
      have hcc : 0 ≤ (d * (A2 - U2 - ee) - ee * (A1 - U1 - d)) * (d * (A2 - U2 - ee) - ee * (A1 - U1 - d)) ∧ (d * (A2 - U2 - ee) - ee * (A1 - U1 - d)) * (d * (A2 - U2 - ee) - ee * (A1 - U1 - d)) ≤ 10995116277760000 := by rw [← PT.cr]; exact PT.cc
      have hdt := PT.dt
      have hsz := PT.sz
      have hcr := PT.cr
      clear PT
      have hmid := lp_mid (px := d) (py := ee) (qx := A1 - U1) (qy := A2 - U2)
      have hno : ¬ (dtOf d ee (A1 - U1) (A2 - U2) < 0 ∧ -dtOf d ee (A1 - U1) (A2 - U2) < szOf d ee (A1 - U1) (A2 - U2)) → inMid d ee (A1 - U1) (A2 - U2) = false := fun h => by
        cases hm : inMid d ee (A1 - U1) (A2 - U2) with
        | false => rfl
        | true => exact absurd (mid_yes hm) h
      go_wp2_with fail
      refine (HPP1.out _).mono ?_
      rintro e w3 ⟨rfl, hh⟩
      clear c0 c1 c2 c3 c4 e0 e1 e2 e3 e4
      replace K0 := Lib.hid (K0.out.on hh)
      replace K1 := Lib.hid (K1.out.on hh)
      replace HB0 := Lib.hid (below_on HB0.out hh)
      clear hh
      obtain ⟨c0, c1, c2, c3, c4⟩ := K0.out.c5
      obtain ⟨e0, e1, e2, e3, e4⟩ := K1.out.c5
      go_wp2_with fail
      refine (HPP2.out _).mono ?_
      rintro e w4 ⟨rfl, hh⟩
      clear c0 c1 c2 c3 c4 e0 e1 e2 e3 e4
      replace K0 := Lib.hid (K0.out.on hh)
      replace K1 := Lib.hid (K1.out.on hh)
      replace HB0 := Lib.hid (below_on HB0.out hh)
      clear hh
      obtain ⟨c0, c1, c2, c3, c4⟩ := K0.out.c5
      obtain ⟨e0, e1, e2, e3, e4⟩ := K1.out.c5
      by_cases c1 : d * (A1 - U1 - d) + ee * (A2 - U2 - ee) < 0
      · by_cases c2 : -(d * (A1 - U1 - d) + ee * (A2 - U2 - ee)) < (A1 - U1 - d) * (A1 - U1 - d) + (A2 - U2 - ee) * (A2 - U2 - ee)
        · have hm := hmid (by rw [hdt]; exact c1) (by rw [hdt, hsz]; exact c2)
          have hown : owT d ee (A1 - U1) (A2 - U2) = (d * (A2 - U2 - ee) - ee * (A1 - U1 - d)) * (d * (A2 - U2 - ee) - ee * (A1 - U1 - d)) := by rw [owT, if_pos hm, hcr]
          have hund : rwB d ee (A1 - U1) (A2 - U2) = (A1 - U1 - d) * (A1 - U1 - d) + (A2 - U2 - ee) * (A2 - U2 - ee) := by rw [rwB, if_pos hm, hsz]
          clear hdt hsz hcr hmid hno hm
          -- own, under
          have HL := Lib.hid (fun W => lessFraction_any ((d * (A2 - U2 - ee) - ee * (A1 - U1 - d)) * (d * (A2 - U2 - ee) - ee * (A1 - U1 - d))) ((A1 - U1 - d) * (A1 - U1 - d) + (A2 - U2 - ee) * (A2 - U2 - ee)) T B W (by omega) (by omega) (by omega) (by omega) (by omega) (by omega) (by omega) (by omega))
          have HNX := Lib.hid (show ldI F G (j + 1) = if decide (((d * (A2 - U2 - ee) - ee * (A1 - U1 - d)) * (d * (A2 - U2 - ee) - ee * (A1 - U1 - d))) * B < T * ((A1 - U1 - d) * (A1 - U1 - d) + (A2 - U2 - ee) * (A2 - U2 - ee))) = true then ((d * (A2 - U2 - ee) - ee * (A1 - U1 - d)) * (d * (A2 - U2 - ee) - ee * (A1 - U1 - d)), (A1 - U1 - d) * (A1 - U1 - d) + (A2 - U2 - ee) * (A2 - U2 - ee)) else (T, B) by
            rw [HNE.out, hown, hund, fmin]
            simp only [decide_eq_true_eq])
          clear HNE hown hund
          by_cases hlt2 : ((d * (A2 - U2 - ee) - ee * (A1 - U1 - d)) * (d * (A2 - U2 - ee) - ee * (A1 - U1 - d))) * B < T * ((A1 - U1 - d) * (A1 - U1 - d) + (A2 - U2 - ee) * (A2 - U2 - ee))
          · have HN2 := Lib.hid (show ldI F G (j + 1) = ((d * (A2 - U2 - ee) - ee * (A1 - U1 - d)) * (d * (A2 - U2 - ee) - ee * (A1 - U1 - d)), (A1 - U1 - d) * (A1 - U1 - d) + (A2 - U2 - ee) * (A2 - U2 - ee)) by rw [HNX.out, decide_eq_true hlt2]; rfl)
            have hd7 : decide (((d * (A2 - U2 - ee) - ee * (A1 - U1 - d)) * (d * (A2 - U2 - ee) - ee * (A1 - U1 - d))) * B < T * ((A1 - U1 - d) * (A1 - U1 - d) + (A2 - U2 - ee) * (A2 - U2 - ee))) = true := decide_eq_true hlt2
            rw [hd7] at HL
            clear HNX hlt2 hd7
            go_wp2_with fail
            refine (HL.out _).mono ?_
            rintro e w7 ⟨rfl, rfl⟩
            go_wp2_with fail
            go_roundw
            case rel => exact ⟨j + 1, by omega, by rw [HF1.out], by rw [HG1.out], by rw [HN2.out], by rw [HN2.out], by go_num, K0.out, K1.out, HB0.out⟩
            case measure => simp [intOf]; omega
          · have HN2 := Lib.hid (show ldI F G (j + 1) = (T, B) by rw [HNX.out, decide_eq_false hlt2]; rfl)
            have hd7 : decide (((d * (A2 - U2 - ee) - ee * (A1 - U1 - d)) * (d * (A2 - U2 - ee) - ee * (A1 - U1 - d))) * B < T * ((A1 - U1 - d) * (A1 - U1 - d) + (A2 - U2 - ee) * (A2 - U2 - ee))) = false := decide_eq_false hlt2
            rw [hd7] at HL
            clear HNX hlt2 hd7
            go_wp2_with fail
            refine (HL.out _).mono ?_
            rintro e w7 ⟨rfl, rfl⟩
            go_wp2_with fail
            go_roundw
            case rel => exact ⟨j + 1, by omega, by rw [HF1.out], by rw [HG1.out], by rw [HN2.out], by rw [HN2.out], by go_num, K0.out, K1.out, HB0.out⟩
            case measure => simp [intOf]; omega
        · have hm := hno (by rw [hdt, hsz]; exact fun h => c2 h.2)
          have hown : owT d ee (A1 - U1) (A2 - U2) = (A1 - U1) * (A1 - U1) + (A2 - U2) * (A2 - U2) := by rw [owT, if_neg (by simp [hm])]
          have hund : rwB d ee (A1 - U1) (A2 - U2) = 1 := by rw [rwB, if_neg (by simp [hm])]
          clear hdt hsz hcr hmid hno hm hcc
          -- own, under
          have HL := Lib.hid (fun W => lessFraction_any ((A1 - U1) * (A1 - U1) + (A2 - U2) * (A2 - U2)) (1) T B W (by omega) (by omega) (by omega) (by omega) (by omega) (by omega) (by omega) (by omega))
          have HNX := Lib.hid (show ldI F G (j + 1) = if decide (((A1 - U1) * (A1 - U1) + (A2 - U2) * (A2 - U2)) * B < T * (1)) = true then ((A1 - U1) * (A1 - U1) + (A2 - U2) * (A2 - U2), 1) else (T, B) by
            rw [HNE.out, hown, hund, fmin]
            simp only [decide_eq_true_eq])
          clear HNE hown hund
          by_cases hlt2 : ((A1 - U1) * (A1 - U1) + (A2 - U2) * (A2 - U2)) * B < T * (1)
          · have HN2 := Lib.hid (show ldI F G (j + 1) = ((A1 - U1) * (A1 - U1) + (A2 - U2) * (A2 - U2), 1) by rw [HNX.out, decide_eq_true hlt2]; rfl)
            have hd7 : decide (((A1 - U1) * (A1 - U1) + (A2 - U2) * (A2 - U2)) * B < T * (1)) = true := decide_eq_true hlt2
            rw [hd7] at HL
            clear HNX hlt2 hd7
            go_wp2_with fail
            refine (HL.out _).mono ?_
            rintro e w7 ⟨rfl, rfl⟩
            go_wp2_with fail
            go_roundw
            case rel => exact ⟨j + 1, by omega, by rw [HF1.out], by rw [HG1.out], by rw [HN2.out], by rw [HN2.out], by go_num, K0.out, K1.out, HB0.out⟩
            case measure => simp [intOf]; omega
          · have HN2 := Lib.hid (show ldI F G (j + 1) = (T, B) by rw [HNX.out, decide_eq_false hlt2]; rfl)
            have hd7 : decide (((A1 - U1) * (A1 - U1) + (A2 - U2) * (A2 - U2)) * B < T * (1)) = false := decide_eq_false hlt2
            rw [hd7] at HL
            clear HNX hlt2 hd7
            go_wp2_with fail
            refine (HL.out _).mono ?_
            rintro e w7 ⟨rfl, rfl⟩
            go_wp2_with fail
            go_roundw
            case rel => exact ⟨j + 1, by omega, by rw [HF1.out], by rw [HG1.out], by rw [HN2.out], by rw [HN2.out], by go_num, K0.out, K1.out, HB0.out⟩
            case measure => simp [intOf]; omega
      · have hm := hno (by rw [hdt]; exact fun h => c1 h.1)
        have hown : owT d ee (A1 - U1) (A2 - U2) = (A1 - U1) * (A1 - U1) + (A2 - U2) * (A2 - U2) := by rw [owT, if_neg (by simp [hm])]
        have hund : rwB d ee (A1 - U1) (A2 - U2) = 1 := by rw [rwB, if_neg (by simp [hm])]
        clear hdt hsz hcr hmid hno hm hcc
        -- own, under
        have HL := Lib.hid (fun W => lessFraction_any ((A1 - U1) * (A1 - U1) + (A2 - U2) * (A2 - U2)) (1) T B W (by omega) (by omega) (by omega) (by omega) (by omega) (by omega) (by omega) (by omega))
        have HNX := Lib.hid (show ldI F G (j + 1) = if decide (((A1 - U1) * (A1 - U1) + (A2 - U2) * (A2 - U2)) * B < T * (1)) = true then ((A1 - U1) * (A1 - U1) + (A2 - U2) * (A2 - U2), 1) else (T, B) by
          rw [HNE.out, hown, hund, fmin]
          simp only [decide_eq_true_eq])
        clear HNE hown hund
        by_cases hlt2 : ((A1 - U1) * (A1 - U1) + (A2 - U2) * (A2 - U2)) * B < T * (1)
        · have HN2 := Lib.hid (show ldI F G (j + 1) = ((A1 - U1) * (A1 - U1) + (A2 - U2) * (A2 - U2), 1) by rw [HNX.out, decide_eq_true hlt2]; rfl)
          have hd7 : decide (((A1 - U1) * (A1 - U1) + (A2 - U2) * (A2 - U2)) * B < T * (1)) = true := decide_eq_true hlt2
          rw [hd7] at HL
          clear HNX hlt2 hd7
          go_wp2_with fail
          refine (HL.out _).mono ?_
          rintro e w7 ⟨rfl, rfl⟩
          go_wp2_with fail
          go_roundw
          case rel => exact ⟨j + 1, by omega, by rw [HF1.out], by rw [HG1.out], by rw [HN2.out], by rw [HN2.out], by go_num, K0.out, K1.out, HB0.out⟩
          case measure => simp [intOf]; omega
        · have HN2 := Lib.hid (show ldI F G (j + 1) = (T, B) by rw [HNX.out, decide_eq_false hlt2]; rfl)
          have hd7 : decide (((A1 - U1) * (A1 - U1) + (A2 - U2) * (A2 - U2)) * B < T * (1)) = false := decide_eq_false hlt2
          rw [hd7] at HL
          clear HNX hlt2 hd7
          go_wp2_with fail
          refine (HL.out _).mono ?_
          rintro e w7 ⟨rfl, rfl⟩
          go_wp2_with fail
          go_roundw
          case rel => exact ⟨j + 1, by omega, by rw [HF1.out], by rw [HG1.out], by rw [HN2.out], by rw [HN2.out], by go_num, K0.out, K1.out, HB0.out⟩
          case measure => simp [intOf]; omega
    · obtain rfl : j = N := by omega
      have hle : ¬ (j : Int) + 1 ≤ c + max p q := by omega
      obtain ⟨T', B', l1, l2, l3, l4, l5, l6, l7, l8, l9, l10, l11, l12, l13, l14, l15, l16, l17⟩ := HLA.out j hN0
      obtain ⟨T, eT⟩ : ∃ a, (ldI F G j).1 = a := ⟨_, rfl⟩
      obtain ⟨B, eB⟩ : ∃ a, (ldI F G j).2 = a := ⟨_, rfl⟩
      rw [eT] at t1 t2 l1 l2 ⊢
      rw [eB] at t3 t4 l1 l2 ⊢
      have L1 := fun W => lowestTerms_any T B W t1 (by omega) (by omega) (by omega)
      rw [l1, l2] at L1
      have HL1 := Lib.hid L1
      have L2 := fun W => lowestTerms_any T' (B' * c * c) W l3 (by omega) (by omega) (by omega)
      rw [l11, l12] at L2
      have HL2 := Lib.hid L2
      clear L1 L2 l1 l2 l11 l12 l13 l14 l15 l16 l17 eT eB
      go_wp2_with fail
      refine (HL1.out _).mono ?_
      rintro e w3 ⟨rfl, hh⟩
      clear c0 c1 c2 c3 c4 e0 e1 e2 e3 e4
      replace K0 := Lib.hid (K0.out.on hh)
      replace K1 := Lib.hid (K1.out.on hh)
      replace HB0 := Lib.hid (below_on HB0.out hh)
      clear hh
      obtain ⟨c0, c1, c2, c3, c4⟩ := K0.out.c5
      obtain ⟨e0, e1, e2, e3, e4⟩ := K1.out.c5
      go_wp2_with fail
      refine (HL2.out _).mono ?_
      rintro e w4 ⟨rfl, hh⟩
      clear c0 c1 c2 c3 c4 e0 e1 e2 e3 e4
      replace K0 := Lib.hid (K0.out.on hh)
      replace K1 := Lib.hid (K1.out.on hh)
      replace HB0 := Lib.hid (below_on HB0.out hh)
      clear hh
      go_wp2_with fail
      go_ret2
      exact ⟨rfl, HB0.out⟩


/-! ### The reference's search -/
set_option maxRecDepth 100000 in
set_option maxHeartbeats 4000000 in
theorem rpFirst_any (x y z u X Y Z U c p q : Int) (w : World) (ha : okM x y z u) (hb : okM X Y Z U) (hc1 : 1 ≤ c) (hc : c ≤ 16) (hp : 0 ≤ p) (hp4 : p ≤ 4) (hq : 0 ≤ q) (hq4 : q ≤ 4) :
    Calls Try.prog 39 #[(Value.agg #[Value.int .i64 x, Value.int .i64 y, Value.int .i64 z, Value.int .i64 u, Value.int .i64 c]), (Value.agg #[Value.int .i64 X, Value.int .i64 Y, Value.int .i64 Z, Value.int .i64 U, Value.int .i64 c]), .int .i64 p, .int .i64 q] w fun e w' =>
      e = .returned (.tuple #[.int .i64 (ldA (wyT x z X Z c p q) (wyT y u Y U c p q) (dlN c p q) c), .int .i64 (ldC (wyT x z X Z c p q) (wyT y u Y U c p q) (dlN c p q) c)]) ∧ Below w.heap.size w w' := by
  obtain ⟨⟨h1, h2⟩, ⟨h3, h4⟩, ⟨h5, h6⟩, h7, h8⟩ := ha
  obtain ⟨⟨k1, k2⟩, ⟨k3, k4⟩, ⟨k5, k6⟩, k7, k8⟩ := hb
  have hN : ((dlN c p q : Nat) : Int) = c + max p q := by unfold dlN; omega
  have hN0 : 0 < dlN c p q := by unfold dlN; omega
  have hNl : dlN c p q ≤ 20 := by unfold dlN; omega
  have hF := wy_steps (x := x) (z := z) (u := X) (r := Z) (c := c) (p := p) (q := q) ⟨h1, h2⟩ ⟨h5, h6⟩ ⟨k1, k2⟩ ⟨k5, k6⟩ hc1 hc hp hq
  have hG := wy_steps (x := y) (z := u) (u := Y) (r := U) (c := c) (p := p) (q := q) ⟨h3, h4⟩ ⟨h7, h8⟩ ⟨k3, k4⟩ ⟨k7, k8⟩ hc1 hc hp hq
  have HAF := Lib.hid (fun j => wy_at x z X Z c p q j)
  have HAG := Lib.hid (fun j => wy_at y u Y U c p q j)
  have HX1 := Lib.hid (fun j => pa_all (x := x) (z := z) (c := c) (d := p) h1 h2 h5 h6 hc1 hc hp j)
  have HX2 := Lib.hid (fun j => pa_all (x := y) (z := u) (c := c) (d := p) h3 h4 h7 h8 hc1 hc hp j)
  have HX3 := Lib.hid (fun j => pa_all (x := X) (z := Z) (c := c) (d := q) k1 k2 k5 k6 hc1 hc hq j)
  have HX4 := Lib.hid (fun j => pa_all (x := Y) (z := U) (c := c) (d := q) k3 k4 k7 k8 hc1 hc hq j)
  have HP1 := Lib.hid (fun (k : Int) (W : World) (h0 : 0 ≤ k) (h100 : k ≤ 100) => rpAt_any x y z u c p k W ⟨⟨h1, h2⟩, ⟨h3, h4⟩, ⟨h5, h6⟩, h7, h8⟩ (by omega) (by omega) hp hp4 h0 h100)
  have HP2 := Lib.hid (fun (k : Int) (W : World) (h0 : 0 ≤ k) (h100 : k ≤ 100) => rpAt_any X Y Z U c q k W ⟨⟨k1, k2⟩, ⟨k3, k4⟩, ⟨k5, k6⟩, k7, k8⟩ (by omega) (by omega) hq hq4 h0 h100)
  have HLA := Lib.hid (fun n (hn : 0 < n) => ld_last hF hG (n := n) hn hc1 hc)
  have HIN := Lib.hid (fun j => ldS_in hF hG j)
  have HPT := Lib.hid (fun j => hF.part hG j)
  have HFS := Lib.hid (And.intro hF hG)
  have HZ := Lib.hid (show wyT x z X Z c p q 0 = x * c - X * c ∧ wyT y u Y U c p q 0 = y * c - Y * c by
    unfold wyT paX
    rw [show ((0 : Nat) : Int) = 0 from rfl, dl_zero hc1 hp, dl_zero hc1 hq]
    omega)
  have k0 := Blk.new w 30 #[.int .i64 x, .int .i64 y, .int .i64 z, .int .i64 u, .int .i64 c]
  have K1 := Lib.hid (Blk.new2 w (.cells #[.int .i64 x, .int .i64 y, .int .i64 z, .int .i64 u, .int .i64 c] 30) 30 #[.int .i64 X, .int .i64 Y, .int .i64 Z, .int .i64 U, .int .i64 c])
  have K0 := Lib.hid (k0.alloc (.cells #[.int .i64 X, .int .i64 Y, .int .i64 Z, .int .i64 U, .int .i64 c] 30))
  have HB0 := Lib.hid (below_new (below_new (Below.refl w.heap.size w) (.cells #[.int .i64 x, .int .i64 y, .int .i64 z, .int .i64 u, .int .i64 c] 30)) (.cells #[.int .i64 X, .int .i64 Y, .int .i64 Z, .int .i64 U, .int .i64 c] 30))
  obtain ⟨F, eF⟩ : ∃ F, wyT x z X Z c p q = F := ⟨_, rfl⟩
  obtain ⟨G, eG⟩ : ∃ G, wyT y u Y U c p q = G := ⟨_, rfl⟩
  obtain ⟨N, eN⟩ : ∃ N, dlN c p q = N := ⟨_, rfl⟩
  rw [eF] at HAF HLA HIN HPT HFS HZ ⊢
  rw [eG] at HAG HLA HIN HPT HFS HZ ⊢
  rw [eN] at hN hN0 hNl ⊢
  clear hF hG k0 eF eG eN
  have HM := Lib.hid (fun W => l1Most_any p q W)
  have hw1 := IntWalk.i64_in (c + max p q) (by omega)
  go_enter Try.func39, Try.ntmps39
  go_wp2_with fail
  go_loopw [10, 11, 12] (fun T B k wr => ∃ j : Nat, j ≤ N ∧ T = .int .i64 (ldS F G j).1 ∧ B = .int .i64 (ldS F G j).2 ∧ k = .int .i64 (j : Int) ∧ Blk wr w.heap.size 30 #[.int .i64 x, .int .i64 y, .int .i64 z, .int .i64 u, .int .i64 c] ∧ Blk wr (w.heap.size + 1) 30 #[.int .i64 X, .int .i64 Y, .int .i64 Z, .int .i64 U, .int .i64 c] ∧ Below w.heap.size w wr) (fun _ _ k _ => 30 - (intOf k).toNat)
  case atStart => exact ⟨0, Nat.zero_le _, rfl, rfl, rfl, K0.out, K1.out, HB0.out⟩
  case round =>
    clear K0 K1 HB0 HZ
    obtain ⟨j, hj, rfl, rfl, rfl, kk0, kk1, hb9⟩ := hrel
    obtain ⟨⟨t1, t2⟩, t3, t4⟩ := HIN.out j
    by_cases hlt : j < N
    · have hle : (j : Int) < c + max p q := by omega
      have hd1 : decide ((j : Int) < c + max p q) = true := decide_eq_true hle
      have hc4 := kk0.cell 4
      simp at hc4
      go_upto_region 3 with (fail)
      go_cut [30] (fun s wx => s = .bool true ∧ Below wr.heap.size wr wx)
      case first =>
        go_region_held3 (fun W => W.cell? ⟨w.heap.size, 4, none⟩ = some (.int .i64 c) ∧ Below wr.heap.size wr W)
          (first | exact ⟨hc4, (Below.refl _ _).drew⟩ | (go_split_ands; exact ⟨cell_on hb2 (by assumption), below_on (by assumption) hb2⟩) | go_keep)
          (first | (go_at_call 55; refine (HM.out _).mono ?_; rintro e w2 ⟨rfl, rfl⟩))
        all_goals
          go_split_ands
          go_wp2_with fail
          go_meet
          exact ⟨rfl, by assumption⟩
      case rest =>
        obtain ⟨rfl, hb2⟩ := hcut
        have K0 := Lib.hid (kk0.on hb2)
        have K1 := Lib.hid (kk1.on hb2)
        have HB0 := Lib.hid (below_on hb9 hb2)
        clear kk0 kk1 hb9 hb2 hc4 hd1
        obtain ⟨c0, c1, c2, c3, c4⟩ := K0.out.c5
        obtain ⟨e0, e1, e2, e3, e4⟩ := K1.out.c5
        have hj0 : (0 : Int) ≤ (j : Int) := by omega
        have hj1 : (0 : Int) ≤ (j : Int) + 1 := by omega
        have PT := HPT.out j
        have HNE := Lib.hid (show ldS F G (j + 1) = if (ldS F G j).1 < 0 then (rwT (F j) (G j) (F (j + 1)) (G (j + 1)), rwB (F j) (G j) (F (j + 1)) (G (j + 1))) else fmin (rwT (F j) (G j) (F (j + 1)) (G (j + 1))) (rwB (F j) (G j) (F (j + 1)) (G (j + 1))) (ldS F G j) from rfl)
        have hown := PT.own
        have f1 := HAF.out j
        have f2 := HAG.out j
        have x1 := HX1.out j
        have x2 := HX2.out j
        have x3 := HX3.out j
        have x4 := HX4.out j
        have sF := HFS.out.1 j
        have sG := HFS.out.2 j
        have s1 := (HFS.out.1 (j + 1)).1
        have s2 := (HFS.out.2 (j + 1)).1
        have P1 := fun W => HP1.out (j : Int) W hj0 (by omega)
        have P2 := fun W => HP2.out (j : Int) W hj0 (by omega)
        have P3 := fun W => HP1.out ((j : Int) + 1) W hj1 (by omega)
        have P4 := fun W => HP2.out ((j : Int) + 1) W hj1 (by omega)
        have PR := fun W => rpPart_any (F j) (G j) (F (j + 1)) (G (j + 1)) W PT sF.1 sG.1 s1 s2 sF.2 sG.2
        obtain ⟨R1, eR1⟩ : ∃ a, rwT (F j) (G j) (F (j + 1)) (G (j + 1)) = a := ⟨_, rfl⟩
        obtain ⟨R2, eR2⟩ : ∃ a, rwB (F j) (G j) (F (j + 1)) (G (j + 1)) = a := ⟨_, rfl⟩
        rw [eR1] at PR hown HNE
        rw [eR2] at PR hown HNE
        obtain ⟨A1, eA1⟩ : ∃ a, paX x z c (dlK c p ((j : Int) + 1)) = a := ⟨_, rfl⟩
        obtain ⟨A2, eA2⟩ : ∃ a, paX y u c (dlK c p ((j : Int) + 1)) = a := ⟨_, rfl⟩
        obtain ⟨U1, eU1⟩ : ∃ a, paX X Z c (dlK c q ((j : Int) + 1)) = a := ⟨_, rfl⟩
        obtain ⟨U2, eU2⟩ : ∃ a, paX Y U c (dlK c q ((j : Int) + 1)) = a := ⟨_, rfl⟩
        obtain ⟨D1, eD1⟩ : ∃ a, paX x z c (dlK c p (j : Int)) = a := ⟨_, rfl⟩
        obtain ⟨D2, eD2⟩ : ∃ a, paX y u c (dlK c p (j : Int)) = a := ⟨_, rfl⟩
        obtain ⟨E1, eE1⟩ : ∃ a, paX X Z c (dlK c q (j : Int)) = a := ⟨_, rfl⟩
        obtain ⟨E2, eE2⟩ : ∃ a, paX Y U c (dlK c q (j : Int)) = a := ⟨_, rfl⟩
        rw [eA1] at P3 f1 x1
        rw [eA2] at P3 f2 x2
        rw [eU1] at P4 f1 x3
        rw [eU2] at P4 f2 x4
        rw [eD1] at P1 f1 x1
        rw [eD2] at P1 f2 x2
        rw [eE1] at P2 f1 x3
        rw [eE2] at P2 f2 x4
        rw [← f1.1, ← f1.2, ← f2.1, ← f2.2] at PR
        obtain ⟨T, eT⟩ : ∃ a, (ldS F G j).1 = a := ⟨_, rfl⟩
        obtain ⟨B, eB⟩ : ∃ a, (ldS F G j).2 = a := ⟨_, rfl⟩
        rw [show ldS F G j = (T, B) by rw [← eT, ← eB]] at HNE
        rw [eT] at t1 t2 ⊢
        rw [eB] at t3 t4 ⊢
        have HPP1 := Lib.hid P1
        have HPP2 := Lib.hid P2
        have HPP3 := Lib.hid P3
        have HPP4 := Lib.hid P4
        have HPR := Lib.hid PR
        have hwj := IntWalk.i64_in ((j : Int) + 1) (by omega)
        clear f1 f2 P1 P2 P3 P4 PR PT eA1 eA2 eU1 eU2 eD1 eD2 eE1 eE2 eT eB eR1 eR2 sF sG s1 s2
        go_wp2_with fail
        refine (HPP1.out _).mono ?_
        rintro e w3 ⟨rfl, hh⟩
        clear c0 c1 c2 c3 c4 e0 e1 e2 e3 e4
        replace K0 := Lib.hid (K0.out.on hh)
        replace K1 := Lib.hid (K1.out.on hh)
        replace HB0 := Lib.hid (below_on HB0.out hh)
        clear hh
        obtain ⟨c0, c1, c2, c3, c4⟩ := K0.out.c5
        obtain ⟨e0, e1, e2, e3, e4⟩ := K1.out.c5
        go_wp2_with fail
        refine (HPP2.out _).mono ?_
        rintro e w4 ⟨rfl, hh⟩
        clear c0 c1 c2 c3 c4 e0 e1 e2 e3 e4
        replace K0 := Lib.hid (K0.out.on hh)
        replace K1 := Lib.hid (K1.out.on hh)
        replace HB0 := Lib.hid (below_on HB0.out hh)
        clear hh
        obtain ⟨c0, c1, c2, c3, c4⟩ := K0.out.c5
        obtain ⟨e0, e1, e2, e3, e4⟩ := K1.out.c5
        go_wp2_with fail
        refine (HPP3.out _).mono ?_
        rintro e w5 ⟨rfl, hh⟩
        clear c0 c1 c2 c3 c4 e0 e1 e2 e3 e4
        replace K0 := Lib.hid (K0.out.on hh)
        replace K1 := Lib.hid (K1.out.on hh)
        replace HB0 := Lib.hid (below_on HB0.out hh)
        clear hh
        obtain ⟨c0, c1, c2, c3, c4⟩ := K0.out.c5
        obtain ⟨e0, e1, e2, e3, e4⟩ := K1.out.c5
        go_wp2_with fail
        refine (HPP4.out _).mono ?_
        rintro e w6 ⟨rfl, hh⟩
        clear c0 c1 c2 c3 c4 e0 e1 e2 e3 e4
        replace K0 := Lib.hid (K0.out.on hh)
        replace K1 := Lib.hid (K1.out.on hh)
        replace HB0 := Lib.hid (below_on HB0.out hh)
        clear hh
        go_wp2_with fail
        refine (HPR.out _).mono ?_
        rintro e w7 ⟨rfl, rfl⟩
        by_cases hT : T < 0
        · have HN2 := Lib.hid (show ldS F G (j + 1) = (R1, R2) by rw [HNE.out, if_pos hT])
          go_wp2_with fail
          go_roundw
          case rel => exact ⟨j + 1, by omega, by rw [HN2.out], by rw [HN2.out], by go_num, K0.out, K1.out, HB0.out⟩
          case measure => simp [intOf]; omega
        · have HL := fun W => apLess_any R1 R2 T B W (by omega) (by omega) (by omega) (by omega) (by omega) (by omega) (by omega) (by omega)
          have hdT : decide (T < 0) = false := decide_eq_false hT
          by_cases hl : R1 * B < T * R2
          · rw [decide_eq_true hl] at HL
            have HLL := Lib.hid HL
            have HN2 := Lib.hid (show ldS F G (j + 1) = (R1, R2) by rw [HNE.out, if_neg hT, fmin, if_pos hl])
            clear HL hl HNE
            go_wp2_with fail
            refine (HLL.out _).mono ?_
            rintro e w8 ⟨rfl, hh⟩
            replace K0 := Lib.hid (K0.out.on hh)
            replace K1 := Lib.hid (K1.out.on hh)
            replace HB0 := Lib.hid (below_on HB0.out hh)
            clear hh
            go_wp2_with fail
            go_roundw
            case rel => exact ⟨j + 1, by omega, by rw [HN2.out], by rw [HN2.out], by go_num, K0.out, K1.out, HB0.out⟩
            case measure => simp [intOf]; omega
          · rw [decide_eq_false hl] at HL
            have HLL := Lib.hid HL
            have HN2 := Lib.hid (show ldS F G (j + 1) = (T, B) by rw [HNE.out, if_neg hT, fmin, if_neg hl])
            clear HL hl HNE
            go_wp2_with fail
            refine (HLL.out _).mono ?_
            rintro e w8 ⟨rfl, hh⟩
            replace K0 := Lib.hid (K0.out.on hh)
            replace K1 := Lib.hid (K1.out.on hh)
            replace HB0 := Lib.hid (below_on HB0.out hh)
            clear hh
            go_wp2_with fail
            go_roundw
            case rel => exact ⟨j + 1, by omega, by rw [HN2.out], by rw [HN2.out], by go_num, K0.out, K1.out, HB0.out⟩
            case measure => simp [intOf]; omega
    · obtain rfl : j = N := by omega
      have hle : ¬ (j : Int) < c + max p q := by omega
      have hd1 : decide ((j : Int) < c + max p q) = false := decide_eq_false hle
      have HN9 := Lib.hid hN
      clear hN
      have hc4 := kk0.cell 4
      simp at hc4
      obtain ⟨T', B', l1, l2, l3, l4, l5, l6, l7, l8, l9, l10, l11, l12, l13, l14, l15, l16, l17⟩ := HLA.out j hN0
      have hRA : ldA F G j c = tmA (ldS F G j).1 ((ldS F G j).2 * c * c) := rfl
      have hRB : ldC F G j c = tmB (ldS F G j).1 ((ldS F G j).2 * c * c) := rfl
      obtain ⟨T, eT⟩ : ∃ a, (ldS F G j).1 = a := ⟨_, rfl⟩
      obtain ⟨B, eB⟩ : ∃ a, (ldS F G j).2 = a := ⟨_, rfl⟩
      rw [eT] at t1 t2 l13 hRA hRB ⊢
      rw [eB] at t3 t4 l14 l15 l16 l17 hRA hRB ⊢
      have L1 := fun W => mvPart_any T (B * c * c) W l13 (by omega) (by omega) (by omega)
      rw [← hRA, ← hRB] at L1
      have HL1 := Lib.hid L1
      clear L1 l1 l2 l3 l4 l5 l6 l7 l8 l9 l10 l11 l12 hRA hRB eT eB
      go_upto_region 3 with (fail)
      go_cut [30] (fun s wx => s = .bool false ∧ Below wr.heap.size wr wx)
      case first =>
        go_region_held3 (fun W => W.cell? ⟨w.heap.size, 4, none⟩ = some (.int .i64 c) ∧ Below wr.heap.size wr W)
          (first | exact ⟨hc4, (Below.refl _ _).drew⟩ | (go_split_ands; exact ⟨cell_on hb2 (by assumption), below_on (by assumption) hb2⟩) | go_keep)
          (first | (go_at_call 55; refine (HM.out _).mono ?_; rintro e w2 ⟨rfl, rfl⟩))
        all_goals
          go_split_ands
          go_wp2_with fail
          go_meet
          exact ⟨rfl, by assumption⟩
      case rest =>
        obtain ⟨rfl, hb2⟩ := hcut
        have K0 := Lib.hid (kk0.on hb2)
        have HB0 := Lib.hid (below_on hb9 hb2)
        clear kk0 kk1 hb9 hb2 hc4 hd1
        obtain ⟨c0, c1, c2, c3, c4⟩ := K0.out.c5
        go_wp2_with fail
        refine (HL1.out _).mono ?_
        rintro e w4 ⟨rfl, hh⟩
        go_wp2_with fail
        go_ret2
        exact ⟨rfl, below_on HB0.out hh⟩
end Go.Proofs.Ytpikhkdgohapeaa
