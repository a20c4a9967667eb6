/- The law on waves from the question on the waves on. Conditions: what both sides have found. -/
import Derived.Test.YtjcepipgjpaclaaGreatPFnWaves43
import Derived.Test.YtjcepipgjpaclaaGreatPFnWaves01
import Derived.Test.YtjcepipgjpaclaaGreatPFnWaves45
import Derived.Test.YtjcepipgjpaclaaGreatPFnWaves47
import Derived.Test.YtjcepipgjpaclaaGreatPFnWaves20
import Derived.Test.YtjcepipgjpaclaaGreatPFnWaves30
import Derived.Test.YtjcepipgjpaclaaGreatPFnWaves11
namespace Go.Proofs.YtjcepipgjpaclaaGreat
open Go.RowKit

structure WvC (W : World) (t : TrN) (L : Int) (lo : Nat) (vw vm vp : Value) (gp : List Nat) : Prop where
  w : W.ownsRow lo 3 1 vw (waN t L) (ints (waL t L))
  m : W.ownsRow lo 3 1 vm (mgN t L) (ints (mgL t L))
  p : Rows W lo vp (cpN t L) gp (cpL t L)
theorem pr_row {p : Nat → Nat → Bool} {n j : Nat} (h : j < (prTo p n n).length) : ∃ i k : Nat, i < k ∧ k < n ∧ p i k = true ∧ (prTo p n n).getD j [] = [(i : Int), (k : Int)] := by
  obtain ⟨i, k, _, h2, h3, h4, h5⟩ := prTo_mem (List.getElem_mem h)
  refine ⟨i, k, h2, h3, h4, ?_⟩
  rw [List.getD_eq_getElem?_getD, List.getElem?_eq_getElem h]
  exact h5
/-- How many performers each wave has among the first i. -/
def cwL (r : List Nat) (m i : Nat) : List Int := (List.range m).map fun k => (cntW r k i : Int)
theorem cwL_length (r : List Nat) (m i : Nat) : (cwL r m i).length = m := by simp [cwL]
theorem cwL_get {r : List Nat} {m i k : Nat} (h : k < m) : (cwL r m i).getD k 0 = (cntW r k i : Int) := by simp [cwL, List.getD_eq_getElem?_getD, h]
theorem cwL_zero (r : List Nat) (m : Nat) : cwL r m 0 = List.replicate m 0 := by
  refine List.ext_getElem (by simp [cwL]) fun i h1 h2 => ?_
  simp [cwL, cntW]
theorem cwL_step {r : List Nat} {m i : Nat} (h : r.getD i 0 < m) : cwL r m (i + 1) = (cwL r m i).set (r.getD i 0) ((cntW r (r.getD i 0) i : Int) + 1) := by
  refine List.ext_getElem (by simp [cwL]) fun k h1 h2 => ?_
  simp only [cwL, List.getElem_map, List.getElem_range, List.getElem_set, cntW]
  by_cases e : r.getD i 0 = k
  · rw [if_pos e, if_pos e, e]; omega
  · rw [if_neg e, if_neg e]; omega
set_option maxRecDepth 100000 in
set_option maxHeartbeats 4000000 in
theorem wv_c (w W : World) (hB : Below w.heap.size w W) (gt : Nat) (A C D : Option Addr) (ca cb cc : Nat) (t : TrN) (L : Int) (lo : Nat) (vw vm vp : Value) (gp : List Nat) (ob : Bool) (A1 : Option Addr) (n1 c1 : Nat) (h1 : RdB W W.heap.size A1 n1) (hm1 : n1 ≤ 9223372036854775807) (hR : WvR W gt A C D ca cb cc t) (hC : WvC W t L lo vw vm vp gp) (hob : cpB t L = ob) (f : Nat → Value) :
    Code.wp Tryz.prog (tailOf 12 wvBody) (bodyPost Tryz.prog Tryz.f3 (fun e w' => e = .returned (.bool true) ∧ Below w.heap.size w w')) ⟨#[f 0, .slice A1 n1 c1, f 2, f 3, f 4, .pointer (some ⟨gt, 0, none⟩), f 6, f 7, .bool ob, vw, f 10, f 11, f 12, .int .i64 (wvV t L), f 14, f 15, f 16, vm, f 18, f 19, f 20, vp, f 22, f 23, f 24, f 25, f 26, f 27, f 28, f 29, f 30, f 31, f 32, f 33, f 34, f 35, f 36, f 37, f 38, f 39, f 40, f 41, f 42, f 43, f 44, f 45, f 46, f 47, f 48, f 49, f 50, f 51, f 52, f 53, f 54, f 55, f 56, f 57, f 58, f 59, f 60, f 61, f 62, f 63, f 64, f 65, f 66, f 67, f 68, f 69, f 70, f 71, f 72, f 73, f 74, f 75, f 76, f 77, f 78, f 79, f 80, f 81, f 82, f 83, f 84, f 85, f 86, f 87, f 88, f 89, f 90, f 91, f 92, f 93, f 94, f 95, f 96, f 97, f 98, f 99, f 100, f 101, f 102, f 103, f 104, f 105, f 106, f 107, f 108, f 109, f 110, f 111, f 112, f 113, f 114, f 115, f 116, f 117, f 118, f 119, f 120, f 121, f 122, f 123, f 124, f 125, f 126, f 127, f 128, f 129, f 130, f 131, f 132, f 133, f 134, f 135, f 136, f 137, f 138, f 139, f 140, f 141, f 142, f 143, f 144, f 145, f 146, f 147, f 148, f 149, f 150, f 151, f 152, f 153, f 154, f 155, f 156, f 157, f 158, f 159, f 160, f 161, f 162, f 163, f 164, f 165, f 166, f 167, f 168, f 169, f 170, f 171, f 172, f 173, f 174, f 175, f 176, f 177, f 178, f 179, f 180, f 181, f 182, f 183, f 184, f 185, f 186, f 187, f 188, f 189, f 190, f 191, f 192, f 193, f 194, f 195, f 196, f 197, f 198, f 199, f 200, f 201, f 202, f 203, f 204, f 205, f 206, f 207, f 208, f 209, f 210, f 211, f 212, f 213, f 214, f 215, f 216, f 217, f 218, f 219, f 220, f 221, f 222, f 223, f 224, f 225, f 226, f 227, f 228, f 229, f 230, f 231, f 232, f 233, f 234, f 235, f 236, f 237, f 238, f 239, f 240, f 241, f 242, f 243, f 244, f 245, f 246, f 247, f 248, f 249, f 250, f 251, f 252, f 253, f 254, f 255, f 256, f 257, f 258, f 259, f 260, f 261, f 262, f 263, f 264, f 265, f 266, f 267, f 268, f 269, f 270, f 271, f 272, f 273, f 274, f 275, f 276, f 277, f 278, f 279, f 280, f 281, f 282, f 283, f 284, f 285, f 286, f 287, f 288, f 289, f 290, f 291, f 292, f 293, f 294, f 295, f 296, f 297, f 298, f 299, f 300, f 301, f 302, f 303, f 304, f 305, f 306, f 307, f 308, f 309, f 310, f 311, f 312, f 313, f 314, f 315, f 316, f 317, f 318, f 319, f 320, f 321, f 322, f 323, f 324, f 325, f 326, f 327, f 328, f 329, f 330, f 331, f 332, f 333, f 334, f 335, f 336, f 337, f 338, f 339, f 340, f 341, f 342, f 343, f 344, f 345, f 346, f 347, f 348, f 349, f 350, f 351, f 352, f 353, f 354, f 355, f 356, f 357, f 358, f 359, f 360, f 361], []⟩ W := by
  conv => arg 2; whnf
  have HR := Lib.hid hR
  have HC := Lib.hid hC
  have H1 := Lib.hid h1
  have B0 := Lib.hid hB
  clear hR hC h1 hB
  cases ob with
  | false =>
    clear hob
    go_upto_if 155 with (fail)
    go_step
    go_step
    go_step
    go_step
    exact wp_of_fn (by kernel_rfl) (fun f => wv_b w W B0.out A1 n1 c1 H1.out hm1 f)
  | true =>
    have hok2 := hob
    simp only [cpB, Bool.and_eq_true] at hok2
    obtain ⟨htr, hin⟩ := hok2
    have hok := tr_ok htr
    have n0 := hok.n0
    have n1' := hok.n1
    obtain ⟨eW, eWN, -⟩ := wa_yes hob
    obtain ⟨-, eM, eMN⟩ := mg_yes hob
    obtain ⟨eV, -⟩ := wv_yes hob
    obtain ⟨-, eL, eN⟩ := cp_yes hob
    have hrw := HC.out.w
    have hrm := HC.out.m
    have hrp := HC.out.p
    rw [eWN, eW] at hrw
    rw [eMN, eM] at hrm
    rw [eN, eL] at hrp
    rw [eV]
    have hml := (pr_small (p := cfAt t L) n1').1
    have hrow := fun j => pr_row (p := cfAt t L) (n := t.n) (j := j)
    have hsm := fun i k (h1 : i < k) (h2 : k < t.n) => smAll_bit (p := cfAt t L) h1 h2
    obtain ⟨q, eq⟩ : ∃ q, qS (smAll (cfAt t L) t.n) = q := ⟨_, rfl⟩
    rw [eq] at hrw hrm hsm ⊢
    have lw := wvP_ok (q := q) n0
    obtain ⟨m, em⟩ : ∃ m, (wvP q t.n).1 = m := ⟨_, rfl⟩
    obtain ⟨r, er⟩ : ∃ r, (wvP q t.n).2 = r := ⟨_, rfl⟩
    rw [em, er] at lw
    rw [er] at hrw
    rw [em]
    have m0 := lw.pos
    have m1 := lw_le n0 lw
    have hone := lw_one n0 lw
    have hzero := lw_zero n0 lw
    have hprod := lw_product lw
    have hrl := (lw_good lw).2
    have hmle := mt_le (q := q) (n := t.n)
    have HLT := Lib.hid (fun i (hi : i < t.n) => lw_lt lw hi)
    have HCW := Lib.hid (fun k i (hi : i ≤ t.n) => cntW_le lw k hi)
    have HNE := Lib.hid (fun i k (h1 : i < k) (h2 : k < t.n) (hp : cfAt t L i k = true) => lw_ne lw h1 h2 (by rw [hsm i k h1 h2]; exact hp))
    have HFR := Lib.hid (fun i k (h1 : i < k) (h2 : k < t.n) (hp : cfAt t L i k = true) (hi : i ∈ mtF q t.n t.n []) (hk : k ∈ mtF q t.n t.n []) => mt_free (q := q) (n := t.n) h1 (by rw [hsm i k h1 h2]; exact hp) hi hk)
    have hpairs : (prTo (cfAt t L) t.n t.n).length = 0 ↔ m = 1 := by
      rw [hone]
      constructor
      · intro h0 i k hik hk
        rw [hsm i k hik hk]
        cases hc : cfAt t L i k with
        | false => rfl
        | true => have := (pr_next (p := cfAt t L) hik hk hc).1; omega
      · intro hno
        rcases Nat.eq_zero_or_pos (prTo (cfAt t L) t.n t.n).length with h0 | h0
        · exact h0
        · obtain ⟨i, k, h1, h2, h3, _⟩ := hrow 0 h0
          have := hno i k h1 h2
          rw [hsm i k h1 h2, h3] at this
          cases this
    obtain ⟨MT, eMT⟩ : ∃ q', mtF q t.n t.n [] = q' := ⟨_, rfl⟩
    rw [eMT] at hrm hprod hmle HCW HFR
    obtain ⟨p, ep⟩ : ∃ p, cfAt t L = p := ⟨_, rfl⟩
    rw [ep] at hrp hml hrow HNE HFR hpairs
    obtain ⟨R, eR⟩ : ∃ R, prTo p t.n t.n = R := ⟨_, rfl⟩
    rw [eR] at hrp hml hrow hpairs
    obtain ⟨M, eM'⟩ : ∃ M, R.length = M := ⟨_, rfl⟩
    rw [eM'] at hrp hml hrow hpairs
    obtain ⟨Q, eQ⟩ : ∃ Q, MT.length = Q := ⟨_, rfl⟩
    have EQ := Lib.hid eQ
    rw [eQ] at hrm hprod hmle HCW
    obtain ⟨bz, d1, d2⟩ : ∃ b, ((M : Int) == 0) = b ∧ ((m : Int) == 1) = b := by
      by_cases hM : M = 0
      · exact ⟨true, by simp [hM], by have := hpairs.1 hM; simp; omega⟩
      · exact ⟨false, by simp; omega, by simp; intro h; exact hM (hpairs.2 (by omega))⟩
    have hmq : m * Q ≤ 12 * 12 := Nat.mul_le_mul (by omega) (by omega)
    have d3 : decide ((m : Int) * (Q : Int) < (t.n : Int)) = false := by
      have : ((m * Q : Nat) : Int) = (m : Int) * (Q : Int) := by simp
      simp only [decide_eq_false_iff_not]; omega
    have i1 := IntWalk.i64_in ((m : Int) * (Q : Int)) (by
      have : ((m * Q : Nat) : Int) = (m : Int) * (Q : Int) := by simp
      omega)
    have nn : ((t.n : Int) != (t.n : Int)) = false := by simp
    have nb : (bz != bz) = false := by simp
    obtain ⟨bw, cw, rfl, -, hbw⟩ := own_head hrw n0
    obtain ⟨Am, cm, rfl⟩ := (Rd.of_own hrm).form
    obtain ⟨Ap, cp', rfl⟩ := hrp.form
    have HROW := Lib.hid hrow
    have HRP := Lib.hid hrp
    have HRM := Lib.hid hrm
    have HWC := Lib.hid (fun (V : World) (hb : Below W.heap.size W V) (j : Nat) (hj : j < t.n) => (by
      have := (hb.cell (p := ⟨bw, j, none⟩) hbw).trans ((hrw.cellAt j (by omega)).trans (ints_get _ j (by rw [nats_length, hrl]; exact hj)))
      rwa [nats_get] at this : V.cell? ⟨bw, j, none⟩ = some (.int .i64 ((r.getD j 0 : Nat) : Int))))
    have HZ := Lib.hid hzero
    have BW := Lib.hid (Below.refl W.heap.size W)
    clear hob htr hin hok eW eWN eM eMN eV eL eN hrw hrm hrp hrow hsm eq lw em er hone hzero hprod hrl hpairs eMT ep eR eM' eQ hmq HC
    go_wp2_with fail
    go_loopw [158] (fun i wr => ∃ j : Nat, j ≤ M ∧ i = .int .i64 j ∧ Below w.heap.size w wr ∧ Below W.heap.size W wr) (fun i _ => M - (intOf i).toNat)
    case atStart => exact ⟨0, by omega, rfl, B0.out, BW.out⟩
    case round =>
      clear B0 BW
      obtain ⟨j, hj, rfl, hb0, hbw2⟩ := hrel
      have B0 := Lib.hid hb0
      have BW := Lib.hid hbw2
      clear hb0 hbw2
      by_cases hlt : j < M
      · obtain ⟨a, b, hab, hbn, hpt, hrr⟩ := HROW.out j hlt
        obtain ⟨bp, cq, gg, rr, ev, pk0, -, -, hrd, hkb, -⟩ := (HRP.out.below BW.out (Nat.le_refl _)).at hlt
        simp only [Value.slice.injEq, true_and] at ev
        obtain ⟨rfl, rfl⟩ := ev
        rw [hrr] at hrd
        subst hrd
        have pk1 := hkb.cell 0
        have pk2 := hkb.cell 1
        unfold rowV at pk0
        simp [ints] at pk1 pk2
        simp only [List.length_cons, List.length_nil, Nat.zero_add, Nat.reduceAdd] at pk0
        have w1 := HWC.out _ BW.out a (by omega)
        have w2 := HWC.out _ BW.out b hbn
        have hwn := HNE.out a b hab hbn hpt
        have hfr := HFR.out a b hab hbn hpt
        have HPI := Lib.hid (fun (x : Int) (V : World) (hb : Below W.heap.size W V) => pIn_any _ _ V.heap.size (nats MT) x V (Rd.of_own (own_below HRM.out hb (Nat.le_refl _))).2 (Nat.le_refl _) (by omega))
        have hia := hasI_nats (h := MT) (w := a)
        have hib := hasI_nats (h := MT) (w := b)
        rw [EQ.out] at hia hib
        obtain ⟨x, ex⟩ : ∃ x, r.getD a 0 = x := ⟨_, rfl⟩
        obtain ⟨y, ey⟩ : ∃ x, r.getD b 0 = x := ⟨_, rfl⟩
        rw [ex] at w1 hwn
        rw [ey] at w2 hwn
        have dw : ((x : Int) == (y : Int)) = false := by simp; omega
        obtain ⟨ma, ema⟩ : ∃ z, hasI (nats MT) Q (a : Int) = z := ⟨_, rfl⟩
        obtain ⟨mb, emb⟩ : ∃ z, hasI (nats MT) Q (b : Int) = z := ⟨_, rfl⟩
        have HPA := HPI.out (a : Int)
        have HPB := HPI.out (b : Int)
        rw [ema] at HPA hia
        rw [emb] at HPB hib
        have a0 : (0 : Int) ≤ (a : Int) := by omega
        have a1 : (a : Int) < (t.n : Int) := by omega
        have b0 : (0 : Int) ≤ (b : Int) := by omega
        have b1 : (b : Int) < (t.n : Int) := by omega
        have j0 : (0 : Int) ≤ (j : Int) := by omega
        have j1 : (j : Int) < (M : Int) := by omega
        replace B0 := Lib.hid (below_drewN B0.out 1)
        replace BW := Lib.hid (below_drewN BW.out 1)
        have QA := Lib.hid HPA
        have QB := Lib.hid HPB
        have hmab : ma = false ∨ (ma = true ∧ mb = false) := by
          cases ma with
          | false => exact .inl rfl
          | true =>
            refine .inr ⟨rfl, ?_⟩
            cases mb with
            | false => rfl
            | true => exact absurd (hfr (hia.1 rfl) (hib.1 rfl)) id
        clear HPA HPB HPI hwn hfr hia hib ex ey ema emb hkb hrr hpt
        rcases hmab with rfl | ⟨rfl, rfl⟩
        · go_wp2_with fail
          refine wp_region_held_drew (S := fun W => W.cell? ⟨gg, 0, none⟩ = some (.int .i64 (a : Int)) ∧ W.cell? ⟨gg, 1, none⟩ = some (.int .i64 (b : Int)) ∧ W.cell? ⟨bw, a, none⟩ = some (.int .i64 (x : Int)) ∧ W.cell? ⟨bw, b, none⟩ = some (.int .i64 (y : Int))) (by kernel_rfl) ⟨pk1, pk2, w1, w2⟩ (fun hHeld => ?_)
          refine take_at (i := 0) (oi := _) 162 (v := .slice (some ⟨bw, 0, none⟩) t.n cw) rfl rfl (by kernel_rfl) (by kernel_rfl) (by kernel_rfl) (fun _ _ _ h => h) (Or.inl ⟨by rfl, ?_⟩) hHeld ?_
          · (intro w hSw; (try dsimp only at hSw); go_split_ands; go_simp)
          simp only [List.setIfInBounds_toArray, List.set_cons_zero, List.set_cons_succ]
          refine take_at (i := 1) (oi := _) 163 (v := .slice (some ⟨gg, 0, none⟩) 2 2) rfl rfl (by kernel_rfl) (by kernel_rfl) (by kernel_rfl) (fun _ _ _ h => h) (Or.inl ⟨by rfl, ?_⟩) hHeld ?_
          · (intro w hSw; (try dsimp only at hSw); go_split_ands; go_simp)
          simp only [List.setIfInBounds_toArray, List.set_cons_zero, List.set_cons_succ]
          refine take_at (i := 2) (oi := _) 164 (v := .pointer (some ⟨gg, 0, none⟩)) rfl rfl (by kernel_rfl) (by kernel_rfl) (by kernel_rfl) (fun _ _ _ h => h) (Or.inl ⟨by rfl, ?_⟩) hHeld ?_
          · (intro w hSw; (try dsimp only at hSw); go_split_ands; go_simp)
          simp only [List.setIfInBounds_toArray, List.set_cons_zero, List.set_cons_succ]
          refine take_at (i := 3) (oi := _) 165 (v := .int .i64 (a : Int)) rfl rfl (by kernel_rfl) (by kernel_rfl) (by kernel_rfl) (fun _ _ _ h => h) (Or.inl ⟨by rfl, ?_⟩) hHeld ?_
          · (intro w hSw; (try dsimp only at hSw); go_split_ands; go_simp)
          simp only [List.setIfInBounds_toArray, List.set_cons_zero, List.set_cons_succ]
          refine take_at (i := 4) (oi := _) 166 (v := .pointer (some ⟨bw, a, none⟩)) rfl rfl (by kernel_rfl) (by kernel_rfl) (by kernel_rfl) (fun _ _ _ h => h) (Or.inl ⟨by rfl, ?_⟩) hHeld ?_
          · (intro w hSw; (try dsimp only at hSw); go_split_ands; go_simp)
          simp only [List.setIfInBounds_toArray, List.set_cons_zero, List.set_cons_succ]
          refine take_at (i := 5) (oi := _) 167 (v := .int .i64 (x : Int)) rfl rfl (by kernel_rfl) (by kernel_rfl) (by kernel_rfl) (fun _ _ _ h => h) (Or.inl ⟨by rfl, ?_⟩) hHeld ?_
          · (intro w hSw; (try dsimp only at hSw); go_split_ands; go_simp)
          simp only [List.setIfInBounds_toArray, List.set_cons_zero, List.set_cons_succ]
          refine take_at (i := 6) (oi := _) 168 (v := .slice (some ⟨bw, 0, none⟩) t.n cw) rfl rfl (by kernel_rfl) (by kernel_rfl) (by kernel_rfl) (fun _ _ _ h => h) (Or.inl ⟨by rfl, ?_⟩) hHeld ?_
          · (intro w hSw; (try dsimp only at hSw); go_split_ands; go_simp)
          simp only [List.setIfInBounds_toArray, List.set_cons_zero, List.set_cons_succ]
          refine take_at (i := 7) (oi := _) 169 (v := .slice (some ⟨gg, 0, none⟩) 2 2) rfl rfl (by kernel_rfl) (by kernel_rfl) (by kernel_rfl) (fun _ _ _ h => h) (Or.inl ⟨by rfl, ?_⟩) hHeld ?_
          · (intro w hSw; (try dsimp only at hSw); go_split_ands; go_simp)
          simp only [List.setIfInBounds_toArray, List.set_cons_zero, List.set_cons_succ]
          refine take_at (i := 8) (oi := _) 170 (v := .pointer (some ⟨gg, 1, none⟩)) rfl rfl (by kernel_rfl) (by kernel_rfl) (by kernel_rfl) (fun _ _ _ h => h) (Or.inl ⟨by rfl, ?_⟩) hHeld ?_
          · (intro w hSw; (try dsimp only at hSw); go_split_ands; go_simp)
          simp only [List.setIfInBounds_toArray, List.set_cons_zero, List.set_cons_succ]
          refine take_at (i := 9) (oi := _) 171 (v := .int .i64 (b : Int)) rfl rfl (by kernel_rfl) (by kernel_rfl) (by kernel_rfl) (fun _ _ _ h => h) (Or.inl ⟨by rfl, ?_⟩) hHeld ?_
          · (intro w hSw; (try dsimp only at hSw); go_split_ands; go_simp)
          simp only [List.setIfInBounds_toArray, List.set_cons_zero, List.set_cons_succ]
          refine take_at (i := 10) (oi := _) 172 (v := .pointer (some ⟨bw, b, none⟩)) rfl rfl (by kernel_rfl) (by kernel_rfl) (by kernel_rfl) (fun _ _ _ h => h) (Or.inl ⟨by rfl, ?_⟩) hHeld ?_
          · (intro w hSw; (try dsimp only at hSw); go_split_ands; go_simp)
          simp only [List.setIfInBounds_toArray, List.set_cons_zero, List.set_cons_succ]
          refine take_at (i := 11) (oi := _) 173 (v := .int .i64 (y : Int)) rfl rfl (by kernel_rfl) (by kernel_rfl) (by kernel_rfl) (fun _ _ _ h => h) (Or.inl ⟨by rfl, ?_⟩) hHeld ?_
          · (intro w hSw; (try dsimp only at hSw); go_split_ands; go_simp)
          simp only [List.setIfInBounds_toArray, List.set_cons_zero, List.set_cons_succ]
          refine take_at (i := 12) (oi := _) 174 (v := .bool false) rfl rfl (by kernel_rfl) (by kernel_rfl) (by kernel_rfl) (fun _ _ _ h => h) (Or.inl ⟨by rfl, ?_⟩) hHeld ?_
          · (intro w hSw; (try dsimp only at hSw); go_split_ands; go_simp)
          simp only [List.setIfInBounds_toArray, List.set_cons_zero, List.set_cons_succ]
          refine take_at (i := 13) (oi := _) 175 (v := .bool false) rfl rfl (by kernel_rfl) (by kernel_rfl) (by kernel_rfl) (fun _ _ _ h => h) (Or.inl ⟨by rfl, ?_⟩) hHeld ?_
          · (intro w hSw; (try dsimp only at hSw); go_split_ands; go_simp)
          simp only [List.setIfInBounds_toArray, List.set_cons_zero, List.set_cons_succ]
          refine take_at (i := 14) (oi := _) 176 (v := .slice Am Q cm) rfl rfl (by kernel_rfl) (by kernel_rfl) (by kernel_rfl) (fun _ _ _ h => h) (Or.inl ⟨by rfl, ?_⟩) hHeld ?_
          · (intro w hSw; (try dsimp only at hSw); go_split_ands; go_simp)
          simp only [List.setIfInBounds_toArray, List.set_cons_zero, List.set_cons_succ]
          refine take_at (i := 15) (oi := _) 177 (v := .slice (some ⟨gg, 0, none⟩) 2 2) rfl rfl (by kernel_rfl) (by kernel_rfl) (by kernel_rfl) (fun _ _ _ h => h) (Or.inl ⟨by rfl, ?_⟩) hHeld ?_
          · (intro w hSw; (try dsimp only at hSw); go_split_ands; go_simp)
          simp only [List.setIfInBounds_toArray, List.set_cons_zero, List.set_cons_succ]
          refine take_at (i := 16) (oi := _) 178 (v := .pointer (some ⟨gg, 0, none⟩)) rfl rfl (by kernel_rfl) (by kernel_rfl) (by kernel_rfl) (fun _ _ _ h => h) (Or.inl ⟨by rfl, ?_⟩) hHeld ?_
          · (intro w hSw; (try dsimp only at hSw); go_split_ands; go_simp)
          simp only [List.setIfInBounds_toArray, List.set_cons_zero, List.set_cons_succ]
          refine take_at (i := 17) (oi := _) 179 (v := .int .i64 (a : Int)) rfl rfl (by kernel_rfl) (by kernel_rfl) (by kernel_rfl) (fun _ _ _ h => h) (Or.inl ⟨by rfl, ?_⟩) hHeld ?_
          · (intro w hSw; (try dsimp only at hSw); go_split_ands; go_simp)
          simp only [List.setIfInBounds_toArray, List.set_cons_zero, List.set_cons_succ]
          refine wpAnyH_ready (rs := [18]) (by kernel_rfl) (by simp) ?_
          refine AllReadyH.cons (o := _) rfl (fun K9 hK => ?_) AllReadyH.nil
          go_simp
          refine (QA.out _ BW.out).mono ?_
          rintro e w' ⟨rfl, rfl⟩
          refine hK.out _ _ hHeld (fun hHeld => ?_)
          clear hK K9
          try simp only [Act.put, List.setIfInBounds_toArray, List.set_cons_zero, List.set_cons_succ]
          refine take_at (i := 19) (oi := _) 181 (v := .bool false) rfl rfl (by kernel_rfl) (by kernel_rfl) (by kernel_rfl) (fun _ _ _ h => h) (Or.inl ⟨by rfl, ?_⟩) hHeld ?_
          · (intro w hSw; (try dsimp only at hSw); go_split_ands; go_simp)
          simp only [List.setIfInBounds_toArray, List.set_cons_zero, List.set_cons_succ]
          refine take_at (i := 20) (oi := _) 182 (v := undef) rfl rfl (by kernel_rfl) (by kernel_rfl) (by kernel_rfl) (fun _ _ _ h => h) (Or.inr ⟨by rfl, rfl⟩) hHeld ?_
          simp only [List.setIfInBounds_toArray, List.set_cons_zero, List.set_cons_succ]
          refine take_at (i := 21) (oi := _) 183 (v := undef) rfl rfl (by kernel_rfl) (by kernel_rfl) (by kernel_rfl) (fun _ _ _ h => h) (Or.inr ⟨by rfl, rfl⟩) hHeld ?_
          simp only [List.setIfInBounds_toArray, List.set_cons_zero, List.set_cons_succ]
          refine take_at (i := 22) (oi := _) 184 (v := undef) rfl rfl (by kernel_rfl) (by kernel_rfl) (by kernel_rfl) (fun _ _ _ h => h) (Or.inr ⟨by rfl, rfl⟩) hHeld ?_
          simp only [List.setIfInBounds_toArray, List.set_cons_zero, List.set_cons_succ]
          refine take_at (i := 23) (oi := _) 185 (v := undef) rfl rfl (by kernel_rfl) (by kernel_rfl) (by kernel_rfl) (fun _ _ _ h => h) (Or.inr ⟨by rfl, rfl⟩) hHeld ?_
          simp only [List.setIfInBounds_toArray, List.set_cons_zero, List.set_cons_succ]
          refine take_at (i := 24) (oi := _) 186 (v := undef) rfl rfl (by kernel_rfl) (by kernel_rfl) (by kernel_rfl) (fun _ _ _ h => h) (Or.inr ⟨by rfl, rfl⟩) hHeld ?_
          simp only [List.setIfInBounds_toArray, List.set_cons_zero, List.set_cons_succ]
          refine take_at (i := 25) (oi := _) 187 (v := .bool false) rfl rfl (by kernel_rfl) (by kernel_rfl) (by kernel_rfl) (fun _ _ _ h => h) (Or.inl ⟨by rfl, ?_⟩) hHeld ?_
          · (intro w hSw; (try dsimp only at hSw); go_split_ands; go_simp)
          simp only [List.setIfInBounds_toArray, List.set_cons_zero, List.set_cons_succ]
          refine take_at (i := 26) (oi := _) 188 (v := .bool false) rfl rfl (by kernel_rfl) (by kernel_rfl) (by kernel_rfl) (fun _ _ _ h => h) (Or.inl ⟨by rfl, ?_⟩) hHeld ?_
          · (intro w hSw; (try dsimp only at hSw); go_split_ands; go_simp)
          simp only [List.setIfInBounds_toArray, List.set_cons_zero, List.set_cons_succ]
          refine wpAnyH_done (by kernel_rfl) ?_ _
          clear hHeld pk0 pk1 pk2 w1 w2
          go_wp2_with fail
          go_roundw
          case rel => exact ⟨j + 1, by omega, by go_num, B0.out, BW.out⟩
          case measure => simp [intOf]; omega
        · go_wp2_with fail
          refine wp_region_held_drew (S := fun W => W.cell? ⟨gg, 0, none⟩ = some (.int .i64 (a : Int)) ∧ W.cell? ⟨gg, 1, none⟩ = some (.int .i64 (b : Int)) ∧ W.cell? ⟨bw, a, none⟩ = some (.int .i64 (x : Int)) ∧ W.cell? ⟨bw, b, none⟩ = some (.int .i64 (y : Int))) (by kernel_rfl) ⟨pk1, pk2, w1, w2⟩ (fun hHeld => ?_)
          refine take_at (i := 0) (oi := _) 162 (v := .slice (some ⟨bw, 0, none⟩) t.n cw) rfl rfl (by kernel_rfl) (by kernel_rfl) (by kernel_rfl) (fun _ _ _ h => h) (Or.inl ⟨by rfl, ?_⟩) hHeld ?_
          · (intro w hSw; (try dsimp only at hSw); go_split_ands; go_simp)
          simp only [List.setIfInBounds_toArray, List.set_cons_zero, List.set_cons_succ]
          refine take_at (i := 1) (oi := _) 163 (v := .slice (some ⟨gg, 0, none⟩) 2 2) rfl rfl (by kernel_rfl) (by kernel_rfl) (by kernel_rfl) (fun _ _ _ h => h) (Or.inl ⟨by rfl, ?_⟩) hHeld ?_
          · (intro w hSw; (try dsimp only at hSw); go_split_ands; go_simp)
          simp only [List.setIfInBounds_toArray, List.set_cons_zero, List.set_cons_succ]
          refine take_at (i := 2) (oi := _) 164 (v := .pointer (some ⟨gg, 0, none⟩)) rfl rfl (by kernel_rfl) (by kernel_rfl) (by kernel_rfl) (fun _ _ _ h => h) (Or.inl ⟨by rfl, ?_⟩) hHeld ?_
          · (intro w hSw; (try dsimp only at hSw); go_split_ands; go_simp)
          simp only [List.setIfInBounds_toArray, List.set_cons_zero, List.set_cons_succ]
          refine take_at (i := 3) (oi := _) 165 (v := .int .i64 (a : Int)) rfl rfl (by kernel_rfl) (by kernel_rfl) (by kernel_rfl) (fun _ _ _ h => h) (Or.inl ⟨by rfl, ?_⟩) hHeld ?_
          · (intro w hSw; (try dsimp only at hSw); go_split_ands; go_simp)
          simp only [List.setIfInBounds_toArray, List.set_cons_zero, List.set_cons_succ]
          refine take_at (i := 4) (oi := _) 166 (v := .pointer (some ⟨bw, a, none⟩)) rfl rfl (by kernel_rfl) (by kernel_rfl) (by kernel_rfl) (fun _ _ _ h => h) (Or.inl ⟨by rfl, ?_⟩) hHeld ?_
          · (intro w hSw; (try dsimp only at hSw); go_split_ands; go_simp)
          simp only [List.setIfInBounds_toArray, List.set_cons_zero, List.set_cons_succ]
          refine take_at (i := 5) (oi := _) 167 (v := .int .i64 (x : Int)) rfl rfl (by kernel_rfl) (by kernel_rfl) (by kernel_rfl) (fun _ _ _ h => h) (Or.inl ⟨by rfl, ?_⟩) hHeld ?_
          · (intro w hSw; (try dsimp only at hSw); go_split_ands; go_simp)
          simp only [List.setIfInBounds_toArray, List.set_cons_zero, List.set_cons_succ]
          refine take_at (i := 6) (oi := _) 168 (v := .slice (some ⟨bw, 0, none⟩) t.n cw) rfl rfl (by kernel_rfl) (by kernel_rfl) (by kernel_rfl) (fun _ _ _ h => h) (Or.inl ⟨by rfl, ?_⟩) hHeld ?_
          · (intro w hSw; (try dsimp only at hSw); go_split_ands; go_simp)
          simp only [List.setIfInBounds_toArray, List.set_cons_zero, List.set_cons_succ]
          refine take_at (i := 7) (oi := _) 169 (v := .slice (some ⟨gg, 0, none⟩) 2 2) rfl rfl (by kernel_rfl) (by kernel_rfl) (by kernel_rfl) (fun _ _ _ h => h) (Or.inl ⟨by rfl, ?_⟩) hHeld ?_
          · (intro w hSw; (try dsimp only at hSw); go_split_ands; go_simp)
          simp only [List.setIfInBounds_toArray, List.set_cons_zero, List.set_cons_succ]
          refine take_at (i := 8) (oi := _) 170 (v := .pointer (some ⟨gg, 1, none⟩)) rfl rfl (by kernel_rfl) (by kernel_rfl) (by kernel_rfl) (fun _ _ _ h => h) (Or.inl ⟨by rfl, ?_⟩) hHeld ?_
          · (intro w hSw; (try dsimp only at hSw); go_split_ands; go_simp)
          simp only [List.setIfInBounds_toArray, List.set_cons_zero, List.set_cons_succ]
          refine take_at (i := 9) (oi := _) 171 (v := .int .i64 (b : Int)) rfl rfl (by kernel_rfl) (by kernel_rfl) (by kernel_rfl) (fun _ _ _ h => h) (Or.inl ⟨by rfl, ?_⟩) hHeld ?_
          · (intro w hSw; (try dsimp only at hSw); go_split_ands; go_simp)
          simp only [List.setIfInBounds_toArray, List.set_cons_zero, List.set_cons_succ]
          refine take_at (i := 10) (oi := _) 172 (v := .pointer (some ⟨bw, b, none⟩)) rfl rfl (by kernel_rfl) (by kernel_rfl) (by kernel_rfl) (fun _ _ _ h => h) (Or.inl ⟨by rfl, ?_⟩) hHeld ?_
          · (intro w hSw; (try dsimp only at hSw); go_split_ands; go_simp)
          simp only [List.setIfInBounds_toArray, List.set_cons_zero, List.set_cons_succ]
          refine take_at (i := 11) (oi := _) 173 (v := .int .i64 (y : Int)) rfl rfl (by kernel_rfl) (by kernel_rfl) (by kernel_rfl) (fun _ _ _ h => h) (Or.inl ⟨by rfl, ?_⟩) hHeld ?_
          · (intro w hSw; (try dsimp only at hSw); go_split_ands; go_simp)
          simp only [List.setIfInBounds_toArray, List.set_cons_zero, List.set_cons_succ]
          refine take_at (i := 12) (oi := _) 174 (v := .bool false) rfl rfl (by kernel_rfl) (by kernel_rfl) (by kernel_rfl) (fun _ _ _ h => h) (Or.inl ⟨by rfl, ?_⟩) hHeld ?_
          · (intro w hSw; (try dsimp only at hSw); go_split_ands; go_simp)
          simp only [List.setIfInBounds_toArray, List.set_cons_zero, List.set_cons_succ]
          refine take_at (i := 13) (oi := _) 175 (v := .bool false) rfl rfl (by kernel_rfl) (by kernel_rfl) (by kernel_rfl) (fun _ _ _ h => h) (Or.inl ⟨by rfl, ?_⟩) hHeld ?_
          · (intro w hSw; (try dsimp only at hSw); go_split_ands; go_simp)
          simp only [List.setIfInBounds_toArray, List.set_cons_zero, List.set_cons_succ]
          refine take_at (i := 14) (oi := _) 176 (v := .slice Am Q cm) rfl rfl (by kernel_rfl) (by kernel_rfl) (by kernel_rfl) (fun _ _ _ h => h) (Or.inl ⟨by rfl, ?_⟩) hHeld ?_
          · (intro w hSw; (try dsimp only at hSw); go_split_ands; go_simp)
          simp only [List.setIfInBounds_toArray, List.set_cons_zero, List.set_cons_succ]
          refine take_at (i := 15) (oi := _) 177 (v := .slice (some ⟨gg, 0, none⟩) 2 2) rfl rfl (by kernel_rfl) (by kernel_rfl) (by kernel_rfl) (fun _ _ _ h => h) (Or.inl ⟨by rfl, ?_⟩) hHeld ?_
          · (intro w hSw; (try dsimp only at hSw); go_split_ands; go_simp)
          simp only [List.setIfInBounds_toArray, List.set_cons_zero, List.set_cons_succ]
          refine take_at (i := 16) (oi := _) 178 (v := .pointer (some ⟨gg, 0, none⟩)) rfl rfl (by kernel_rfl) (by kernel_rfl) (by kernel_rfl) (fun _ _ _ h => h) (Or.inl ⟨by rfl, ?_⟩) hHeld ?_
          · (intro w hSw; (try dsimp only at hSw); go_split_ands; go_simp)
          simp only [List.setIfInBounds_toArray, List.set_cons_zero, List.set_cons_succ]
          refine take_at (i := 17) (oi := _) 179 (v := .int .i64 (a : Int)) rfl rfl (by kernel_rfl) (by kernel_rfl) (by kernel_rfl) (fun _ _ _ h => h) (Or.inl ⟨by rfl, ?_⟩) hHeld ?_
          · (intro w hSw; (try dsimp only at hSw); go_split_ands; go_simp)
          simp only [List.setIfInBounds_toArray, List.set_cons_zero, List.set_cons_succ]
          refine wpAnyH_ready (rs := [18]) (by kernel_rfl) (by simp) ?_
          refine AllReadyH.cons (o := _) rfl (fun K9 hK => ?_) AllReadyH.nil
          go_simp
          refine (QA.out _ BW.out).mono ?_
          rintro e w' ⟨rfl, rfl⟩
          refine hK.out _ _ hHeld (fun hHeld => ?_)
          clear hK K9
          try simp only [Act.put, List.setIfInBounds_toArray, List.set_cons_zero, List.set_cons_succ]
          refine take_at (i := 19) (oi := _) 181 (v := .bool true) rfl rfl (by kernel_rfl) (by kernel_rfl) (by kernel_rfl) (fun _ _ _ h => h) (Or.inl ⟨by rfl, ?_⟩) hHeld ?_
          · (intro w hSw; (try dsimp only at hSw); go_split_ands; go_simp)
          simp only [List.setIfInBounds_toArray, List.set_cons_zero, List.set_cons_succ]
          refine take_at (i := 20) (oi := _) 182 (v := .slice Am Q cm) rfl rfl (by kernel_rfl) (by kernel_rfl) (by kernel_rfl) (fun _ _ _ h => h) (Or.inl ⟨by rfl, ?_⟩) hHeld ?_
          · (intro w hSw; (try dsimp only at hSw); go_split_ands; go_simp)
          simp only [List.setIfInBounds_toArray, List.set_cons_zero, List.set_cons_succ]
          refine take_at (i := 21) (oi := _) 183 (v := .slice (some ⟨gg, 0, none⟩) 2 2) rfl rfl (by kernel_rfl) (by kernel_rfl) (by kernel_rfl) (fun _ _ _ h => h) (Or.inl ⟨by rfl, ?_⟩) hHeld ?_
          · (intro w hSw; (try dsimp only at hSw); go_split_ands; go_simp)
          simp only [List.setIfInBounds_toArray, List.set_cons_zero, List.set_cons_succ]
          refine take_at (i := 22) (oi := _) 184 (v := .pointer (some ⟨gg, 1, none⟩)) rfl rfl (by kernel_rfl) (by kernel_rfl) (by kernel_rfl) (fun _ _ _ h => h) (Or.inl ⟨by rfl, ?_⟩) hHeld ?_
          · (intro w hSw; (try dsimp only at hSw); go_split_ands; go_simp)
          simp only [List.setIfInBounds_toArray, List.set_cons_zero, List.set_cons_succ]
          refine take_at (i := 23) (oi := _) 185 (v := .int .i64 (b : Int)) rfl rfl (by kernel_rfl) (by kernel_rfl) (by kernel_rfl) (fun _ _ _ h => h) (Or.inl ⟨by rfl, ?_⟩) hHeld ?_
          · (intro w hSw; (try dsimp only at hSw); go_split_ands; go_simp)
          simp only [List.setIfInBounds_toArray, List.set_cons_zero, List.set_cons_succ]
          refine wpAnyH_ready (rs := [24]) (by kernel_rfl) (by simp) ?_
          refine AllReadyH.cons (o := _) rfl (fun K9 hK => ?_) AllReadyH.nil
          go_simp
          refine (QB.out _ BW.out).mono ?_
          rintro e w' ⟨rfl, rfl⟩
          refine hK.out _ _ hHeld (fun hHeld => ?_)
          clear hK K9
          try simp only [Act.put, List.setIfInBounds_toArray, List.set_cons_zero, List.set_cons_succ]
          refine take_at (i := 25) (oi := _) 187 (v := .bool false) rfl rfl (by kernel_rfl) (by kernel_rfl) (by kernel_rfl) (fun _ _ _ h => h) (Or.inl ⟨by rfl, ?_⟩) hHeld ?_
          · (intro w hSw; (try dsimp only at hSw); go_split_ands; go_simp)
          simp only [List.setIfInBounds_toArray, List.set_cons_zero, List.set_cons_succ]
          refine take_at (i := 26) (oi := _) 188 (v := .bool false) rfl rfl (by kernel_rfl) (by kernel_rfl) (by kernel_rfl) (fun _ _ _ h => h) (Or.inl ⟨by rfl, ?_⟩) hHeld ?_
          · (intro w hSw; (try dsimp only at hSw); go_split_ands; go_simp)
          simp only [List.setIfInBounds_toArray, List.set_cons_zero, List.set_cons_succ]
          refine wpAnyH_done (by kernel_rfl) ?_ _
          clear hHeld pk0 pk1 pk2 w1 w2
          go_wp2_with fail
          go_roundw
          case rel => exact ⟨j + 1, by omega, by go_num, B0.out, BW.out⟩
          case measure => simp [intOf]; omega
      · obtain rfl : j = M := by omega
        obtain ⟨wo, ewo⟩ : ∃ q, wr = q := ⟨_, rfl⟩
        rw [ewo] at B0 BW ⊢
        clear ewo
        obtain ⟨i0', hi, hz0, hz1, hz2⟩ := info_parts intInfo
        have hz2' : i0'.bytes * m ≤ 281474976710656 := by rw [hz2]; omega
        go_wp2_with (at_make; refine wpList_make_full _ rfl (.tmp 190) (.tmp 190) 25 rfl wo.heap.size 3 i0' (.int .i64 0) 1 Tryz.underlying25 hi hz0 hz1 .i64 .i64 m m m rfl rfl rfl rfl hz2' (by unfold maxLen; omega) (by first | exact Nat.le_refl _ | simp) ?_; intro w3 hown1 hg1)
        rw [Nat.mul_one, madeInts] at hown1
        have HO3 := Lib.hid (show w3.ownsRow wo.heap.size 3 1 (.slice (some ⟨wo.heap.size, 0, none⟩) m m) m (ints (cwL r m 0)) by rw [cwL_zero]; exact hown1)
        have HW0 := Lib.hid BW.out.size
        have HWO := Lib.hid B0.out.size
        replace B0 := Lib.hid (B0.out.grown hg1 B0.out.size (by simp))
        replace BW := Lib.hid (BW.out.grown hg1 BW.out.size (by simp))
        clear hown1 hg1 hi hz0 hz1 hz2 hz2'
        go_loopw [194] (fun i wr => ∃ k : Nat, k ≤ t.n ∧ i = .int .i64 k ∧ wr.ownsRow wo.heap.size 3 1 (.slice (some ⟨wo.heap.size, 0, none⟩) m m) m (ints (cwL r m k)) ∧ Below w.heap.size w wr ∧ Below W.heap.size W wr) (fun i _ => t.n - (intOf i).toNat)
        case atStart => exact ⟨0, by omega, rfl, HO3.out, B0.out, BW.out⟩
        case round =>
          clear B0 BW HO3
          obtain ⟨k, hk, rfl, hown, hb0, hbw2⟩ := hrel
          have B0 := Lib.hid hb0
          have BW := Lib.hid hbw2
          have HO := Lib.hid hown
          clear hb0 hbw2 hown
          by_cases hlk : k < t.n
          · have w1 := HWC.out _ BW.out k hlk
            have hx := HLT.out k hlk
            have hst := cwL_step (r := r) (m := m) (i := k) hx
            have hcw := fun x => HCW.out x (k + 1) hlk
            have hcn : ∀ x, cntW r x (k + 1) = cntW r x k + (if r.getD k 0 = x then 1 else 0) := fun x => rfl
            have hcg := cwL_get (r := r) (i := k) hx
            obtain ⟨x, ex⟩ : ∃ x, r.getD k 0 = x := ⟨_, rfl⟩
            rw [ex] at w1 hx hst hcg
            have hc1 := hcw x
            rw [hcn x, if_pos ex] at hc1
            obtain ⟨c, ec⟩ : ∃ c, cntW r x k = c := ⟨_, rfl⟩
            rw [ec] at hst hc1 hcg
            have c0 := (HO.out.cellAt x (by omega)).trans (ints_get _ x (by rw [cwL_length]; exact hx))
            rw [hcg] at c0
            have f0 := HO.out.frozenAt x
            have hs2 := (HO.out.stored x (.int .i64 ((c : Int) + 1))).1
            rw [ints_set, ← hst] at hs2
            have HO2 := Lib.hid hs2
            have B2 := Lib.hid (B0.out.setCell (p := ⟨wo.heap.size, x, none⟩) HWO.out (.int .i64 ((c : Int) + 1)))
            have BW2 := Lib.hid (BW.out.setCell (p := ⟨wo.heap.size, x, none⟩) HW0.out (.int .i64 ((c : Int) + 1)))
            have x0 : (0 : Int) ≤ (x : Int) := by omega
            have x1 : (x : Int) < (m : Int) := by omega
            have x2 : decide ((m : Int) ≤ (x : Int)) = false := by simp; omega
            have x3 : decide ((x : Int) < 0) = false := by simp
            have x4 : decide ((Q : Int) < (c : Int) + 1) = false := by simp; omega
            have i2 := IntWalk.i64_in ((c : Int) + 1) (by omega)
            have k0 : (0 : Int) ≤ (k : Int) := by omega
            have k1 : (k : Int) < (t.n : Int) := by omega
            clear hst hcw hcn hcg ex ec hs2 hc1
            go_wp2_with fail
            go_roundw
            case rel => exact ⟨k + 1, by omega, by go_num, HO2.out, B2.out, BW2.out⟩
            case measure => simp [intOf]; omega
          · obtain rfl : k = t.n := by omega
            have w1 := HWC.out _ BW.out 0 (by omega)
            rw [HZ.out] at w1
            obtain ⟨k0, -, -, -⟩ := (HR.out.k.on BW.out).c4
            have z0 : (0 : Int) < (t.n : Int) := by omega
            have hF := Lib.hid (fun f => wv_b w wr B0.out A1 n1 c1 (H1.out.kept BW.out) hm1 f)
            go_upto_if 248 with (fail)
            go_step
            go_step
            go_step
            go_step
            repeat (first | exact wp_of_fn (by kernel_rfl) hF.out | go_step)
end Go.Proofs.YtjcepipgjpaclaaGreat
