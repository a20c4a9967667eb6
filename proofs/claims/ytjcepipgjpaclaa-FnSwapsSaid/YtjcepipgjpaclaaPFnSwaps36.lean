/- The law on swaps from the look at the moves on. Condition: what both sides have found. -/
import Derived.Test.YtjcepipgjpaclaaPFnSwaps35
namespace Go.Proofs.Ytjcepipgjpaclaa
open Go.RowKit

/-- A transition in a cell of the law's. -/
structure SwR (W : World) (gt lo : Nat) (A C D : Option Addr) (ca cb cc : Nat) (t : TrN) : Prop where
  k : Blk W gt 27 #[.slice A t.n ca, .slice C t.m cb, .int .i64 t.c, .slice D t.p cc]
  o : OwnA W lo (.agg #[.slice A t.n ca, .slice C t.m cb, .int .i64 t.c, .slice D t.p cc]) t
  s : t.small
theorem SwR.keep {W W' : World} {gt lo : Nat} {A C D : Option Addr} {ca cb cc : Nat} {t : TrN} (h : SwR W gt lo A C D ca cb cc t) (hb : Below W.heap.size W W') : SwR W' gt lo A C D ca cb cc t := ⟨h.k.on hb, h.o.keep hb, h.s⟩
set_option maxRecDepth 100000 in
set_option maxHeartbeats 4000000 in
theorem sw_c (w W : World) (hB : Below w.heap.size w W) (gt lo : Nat) (A C D : Option Addr) (ca cb cc : Nat) (t : TrN) (tb : Bool) (lm : Nat) (vm : Value) (A1 : Option Addr) (n1 c1 : Nat) (h1 : RdB W W.heap.size A1 n1) (hm1 : n1 ≤ 9223372036854775807) (hR : SwR W gt lo A C D ca cb cc t) (hM : tb = true → W.ownsRow lm 47 5 vm t.n (ints (mvTo t t.n))) (htb : trB t = tb) (f : Nat → Value) :
    Code.wp Try.prog (tailOf 13 swBody) (bodyPost Try.prog Try.f6 (fun e w' => e = .returned (.bool true) ∧ Below w.heap.size w w')) ⟨#[f 0, .slice A1 n1 c1, f 2, f 3, f 4, .pointer (some ⟨gt, 0, none⟩), f 6, f 7, f 8, f 9, f 10, f 11, f 12, f 13, f 14, .bool tb, vm, f 17, f 18, f 19, .int .i64 (faV t), f 21, f 22, f 23, .int .i64 (suV t), f 25, f 26, f 27, f 28, f 29, f 30, f 31, f 32, f 33, f 34, f 35, f 36, f 37, f 38, f 39, f 40, f 41, f 42, f 43, f 44, f 45, f 46, f 47, f 48, f 49, f 50, f 51, f 52, f 53, f 54, f 55, f 56, f 57, f 58, f 59, f 60, f 61, f 62, f 63, f 64, f 65, f 66, f 67, f 68, f 69, f 70, f 71, f 72, f 73, f 74, f 75, f 76, f 77, f 78, f 79, f 80, f 81, f 82, f 83, f 84, f 85, f 86, f 87, f 88, f 89, f 90, f 91, f 92, f 93, f 94, f 95, f 96, f 97, f 98, f 99, f 100, f 101, f 102, f 103, f 104, f 105, f 106, f 107, f 108, f 109, f 110, f 111, f 112, f 113, f 114, f 115, f 116, f 117, f 118, f 119, f 120, f 121, f 122, f 123, f 124, f 125, f 126, f 127, f 128, f 129, f 130, f 131, f 132, f 133, f 134, f 135, f 136, f 137, f 138, f 139, f 140, f 141, f 142, f 143, f 144, f 145, f 146, f 147, f 148, f 149, f 150, f 151, f 152, f 153, f 154, f 155, f 156, f 157, f 158, f 159, f 160, f 161, f 162, f 163, f 164, f 165, f 166, f 167, f 168, f 169, f 170, f 171, f 172, f 173, f 174, f 175, f 176, f 177, f 178, f 179, f 180, f 181, f 182, f 183, f 184, f 185, f 186, f 187, f 188, f 189, f 190, f 191, f 192, f 193, f 194, f 195, f 196, f 197, f 198, f 199, f 200, f 201, f 202, f 203, f 204, f 205, f 206, f 207, f 208, f 209, f 210, f 211, f 212, f 213, f 214, f 215, f 216, f 217, f 218, f 219, f 220, f 221, f 222, f 223, f 224, f 225, f 226, f 227, f 228, f 229, f 230, f 231, f 232, f 233, f 234, f 235, f 236, f 237, f 238, f 239, f 240, f 241, f 242, f 243, f 244, f 245, f 246, f 247, f 248, f 249, f 250, f 251, f 252, f 253, f 254, f 255, f 256, f 257, f 258, f 259, f 260, f 261, f 262, f 263, f 264, f 265, f 266, f 267, f 268, f 269, f 270, f 271, f 272, f 273, f 274, f 275, f 276, f 277, f 278, f 279, f 280, f 281, f 282, f 283, f 284, f 285, f 286, f 287, f 288, f 289, f 290, f 291, f 292, f 293, f 294, f 295, f 296, f 297, f 298, f 299, f 300, f 301, f 302, f 303, f 304, f 305, f 306, f 307, f 308, f 309, f 310, f 311, f 312, f 313, f 314, f 315, f 316, f 317, f 318, f 319, f 320, f 321, f 322, f 323, f 324, f 325, f 326, f 327, f 328, f 329, f 330, f 331, f 332, f 333, f 334, f 335, f 336, f 337, f 338, f 339, f 340, f 341, f 342, f 343, f 344, f 345, f 346, f 347, f 348, f 349, f 350, f 351, f 352, f 353, f 354, f 355, f 356, f 357, f 358, f 359, f 360, f 361, f 362], []⟩ W := by
  conv => arg 2; whnf
  have HR := Lib.hid hR
  have H1 := Lib.hid h1
  have B0 := Lib.hid hB
  have BW := Lib.hid (Below.refl W.heap.size W)
  clear hR h1 hB
  cases tb with
  | false =>
    clear htb hM
    go_upto_if 200 with (fail)
    go_step
    go_step
    go_step
    go_step
    exact wp_of_fn (by kernel_rfl) (fun f => sw_b w W B0.out A1 n1 c1 H1.out hm1 f)
  | true =>
    have hok := tr_ok htb
    have n0 := hok.n0
    have n1' := hok.n1
    have o1 := hM rfl
    obtain ⟨bm, cm, rfl, -, hbm⟩ : ∃ b c, vm = .slice (some ⟨b, 0, none⟩) t.n c ∧ lm ≤ b ∧ b < W.heap.size := by
      have hl := o1.lt
      rcases o1.2 with ⟨rfl, h0⟩ | ⟨g, cap, cur, rfl, _⟩
      · exact absurd h0 (by omega)
      · exact ⟨g, cap, rfl, hl g rfl⟩
    have HM := Lib.hid (fun (V : World) (hb : Below W.heap.size W V) (j : Nat) (hj : j < t.n) => (by
      have h := mvTo_get t t.n j hj
      have hl := mvTo_length t t.n
      have g := fun i (hi : i < t.n * 5) => (hb.cell (p := ⟨bm, i, none⟩) hbm).trans ((o1.cellAt i hi).trans (ints_get _ i (by rw [hl]; exact hi)))
      have k0 := g (j * 5) (by omega)
      have k1 := g (j * 5 + 1) (by omega)
      have k2 := g (j * 5 + 2) (by omega)
      have k3 := g (j * 5 + 3) (by omega)
      have k4 := g (j * 5 + 4) (by omega)
      rw [h.1] at k0
      rw [h.2.1] at k1
      rw [h.2.2.1] at k2
      rw [h.2.2.2.1] at k3
      rw [h.2.2.2.2] at k4
      exact ⟨k0, k1, k2, k3, k4⟩ : V.cell? ⟨bm, j * 5, none⟩ = some (.int .i64 (X t.xs j)) ∧ V.cell? ⟨bm, j * 5 + 1, none⟩ = some (.int .i64 (Y t.xs j)) ∧ V.cell? ⟨bm, j * 5 + 2, none⟩ = some (.int .i64 (X t.ys (plc t j))) ∧ V.cell? ⟨bm, j * 5 + 3, none⟩ = some (.int .i64 (Y t.ys (plc t j))) ∧ V.cell? ⟨bm, j * 5 + 4, none⟩ = some (.int .i64 t.c)))
    obtain ⟨_, _, _, ev, ha, -, -⟩ := HR.out.o
    simp only [Value.agg.injEq, Array.mk.injEq, List.cons.injEq] at ev
    rw [← ev.1] at ha
    obtain ⟨bA, oA, rfl, hbA, hcA⟩ := (Rd.of_own ha).spot n0
    have HF := Lib.hid (fun (V : World) (hb : Below W.heap.size W V) (j : Nat) (hj : j < t.n) => (⟨(hb.cell (p := ⟨bA, oA + j * 2, none⟩) hbA).trans (hcA j hj).1, (hb.cell (p := ⟨bA, oA + j * 2 + 1, none⟩) hbA).trans (hcA j hj).2⟩ : V.cell? ⟨bA, oA + j * 2, none⟩ = some (.int .i64 (X t.xs j)) ∧ V.cell? ⟨bA, oA + j * 2 + 1, none⟩ = some (.int .i64 (Y t.xs j))))
    have HQ := Lib.hid (fun (j : Nat) (hj : j < t.n) (V : World) => (SquareOf_yes (X t.xs j) (Y t.xs j) (X t.ys (plc t j)) (Y t.ys (plc t j)) V (hok.from_ j hj) (hok.to_ _ (hok.place j hj).2)))
    have hdef := fun j => (show mSq t j = sqL (X t.xs j) (Y t.xs j) (X t.ys (plc t j)) (Y t.ys (plc t j)) from rfl)
    have HDF := Lib.hid hdef
    obtain ⟨-, hf1, hf2⟩ := faT_is (t := t) t.n
    have hfl := faT_lt (t := t) n0
    have HS := Lib.hid (fun k (hk : k ≤ t.n) => suT_in hok k hk)
    rw [show faV t = (faT t t.n : Int) by simp [faV, htb], show suV t = suT t t.n by simp [suV, htb]]
    obtain ⟨fa, efa⟩ : ∃ q, faT t t.n = q := ⟨_, rfl⟩
    rw [efa] at hf1 hf2 hfl ⊢
    obtain ⟨m0, m1, m2, m3, m4⟩ := HM.out _ BW.out fa hfl
    have hd := hdef fa
    have hp := HQ.out fa hfl
    obtain ⟨x, ex⟩ : ∃ q, X t.xs fa = q := ⟨_, rfl⟩
    obtain ⟨y, ey⟩ : ∃ q, Y t.xs fa = q := ⟨_, rfl⟩
    obtain ⟨z, ez⟩ : ∃ q, X t.ys (plc t fa) = q := ⟨_, rfl⟩
    obtain ⟨u, eu⟩ : ∃ q, Y t.ys (plc t fa) = q := ⟨_, rfl⟩
    rw [ex] at m0
    rw [ey] at m1
    rw [ez] at m2
    rw [eu] at m3
    rw [ex, ey, ez, eu] at hd hp
    rw [← hd] at hp
    obtain ⟨ms, ems⟩ : ∃ q, mSq t fa = q := ⟨_, rfl⟩
    rw [ems] at hp hf1 hf2
    have HP := Lib.hid hp
    have HF1 := Lib.hid hf1
    have HF2 := Lib.hid hf2
    have j0 : (0 : Int) ≤ (fa : Int) := by omega
    have j1 : (fa : Int) < (t.n : Int) := by omega
    have HTB := Lib.hid htb
    clear htb hM hok o1 ev ha hcA hdef hf1 hf2 efa hd hp ex ey ez eu ems
    go_wp2_with fail
    refine wp_region_held_drew (S := fun V => V.cell? ⟨bm, fa * 5, none⟩ = some (.int .i64 x) ∧ V.cell? ⟨bm, fa * 5 + 1, none⟩ = some (.int .i64 y) ∧ V.cell? ⟨bm, fa * 5 + 2, none⟩ = some (.int .i64 z) ∧ V.cell? ⟨bm, fa * 5 + 3, none⟩ = some (.int .i64 u)) (by kernel_rfl) ⟨m0, m1, m2, m3⟩ (fun hHeld => ?_)
    clear m0 m1 m2 m3 m4
    refine take_at (i := 0) (oi := _) 202 (v := .slice (some ⟨bm, 0, none⟩) t.n cm) rfl rfl (by kernel_rfl) (by kernel_rfl) (by kernel_rfl) (fun _ _ _ h => h) (Or.inl ⟨by rfl, ?_⟩) hHeld ?_
    · (intro w hSw; (try dsimp only at hSw); go_split_ands; go_simp)
    simp only [List.setIfInBounds_toArray, List.set_cons_zero, List.set_cons_succ]
    refine take_at (i := 1) (oi := _) 203 (v := .int .i64 (fa : Int)) rfl rfl (by kernel_rfl) (by kernel_rfl) (by kernel_rfl) (fun _ _ _ h => h) (Or.inl ⟨by rfl, ?_⟩) hHeld ?_
    · (intro w hSw; (try dsimp only at hSw); go_split_ands; go_simp)
    simp only [List.setIfInBounds_toArray, List.set_cons_zero, List.set_cons_succ]
    refine take_at (i := 2) (oi := _) 204 (v := .pointer (some ⟨bm, fa * 5, none⟩)) rfl rfl (by kernel_rfl) (by kernel_rfl) (by kernel_rfl) (fun _ _ _ h => h) (Or.inl ⟨by rfl, ?_⟩) hHeld ?_
    · (intro w hSw; (try dsimp only at hSw); go_split_ands; go_simp)
    simp only [List.setIfInBounds_toArray, List.set_cons_zero, List.set_cons_succ]
    refine take_at (i := 3) (oi := _) 205 (v := .pointer (some ⟨bm, fa * 5, none⟩)) rfl rfl (by kernel_rfl) (by kernel_rfl) (by kernel_rfl) (fun _ _ _ h => h) (Or.inl ⟨by rfl, ?_⟩) hHeld ?_
    · (intro w hSw; (try dsimp only at hSw); go_split_ands; go_simp)
    simp only [List.setIfInBounds_toArray, List.set_cons_zero, List.set_cons_succ]
    refine take_at (i := 4) (oi := _) 206 (v := (Value.agg #[Value.int .i64 x, Value.int .i64 y])) rfl rfl (by kernel_rfl) (by kernel_rfl) (by kernel_rfl) (fun _ _ _ h => h) (Or.inl ⟨by rfl, ?_⟩) hHeld ?_
    · (intro w hSw; (try dsimp only at hSw); go_split_ands; go_simp)
    simp only [List.setIfInBounds_toArray, List.set_cons_zero, List.set_cons_succ]
    refine take_at (i := 5) (oi := _) 207 (v := .slice (some ⟨bm, 0, none⟩) t.n cm) rfl rfl (by kernel_rfl) (by kernel_rfl) (by kernel_rfl) (fun _ _ _ h => h) (Or.inl ⟨by rfl, ?_⟩) hHeld ?_
    · (intro w hSw; (try dsimp only at hSw); go_split_ands; go_simp)
    simp only [List.setIfInBounds_toArray, List.set_cons_zero, List.set_cons_succ]
    refine take_at (i := 6) (oi := _) 208 (v := .int .i64 (fa : Int)) rfl rfl (by kernel_rfl) (by kernel_rfl) (by kernel_rfl) (fun _ _ _ h => h) (Or.inl ⟨by rfl, ?_⟩) hHeld ?_
    · (intro w hSw; (try dsimp only at hSw); go_split_ands; go_simp)
    simp only [List.setIfInBounds_toArray, List.set_cons_zero, List.set_cons_succ]
    refine take_at (i := 7) (oi := _) 209 (v := .pointer (some ⟨bm, fa * 5, none⟩)) rfl rfl (by kernel_rfl) (by kernel_rfl) (by kernel_rfl) (fun _ _ _ h => h) (Or.inl ⟨by rfl, ?_⟩) hHeld ?_
    · (intro w hSw; (try dsimp only at hSw); go_split_ands; go_simp)
    simp only [List.setIfInBounds_toArray, List.set_cons_zero, List.set_cons_succ]
    refine take_at (i := 8) (oi := _) 210 (v := .pointer (some ⟨bm, fa * 5 + 2, none⟩)) rfl rfl (by kernel_rfl) (by kernel_rfl) (by kernel_rfl) (fun _ _ _ h => h) (Or.inl ⟨by rfl, ?_⟩) hHeld ?_
    · (intro w hSw; (try dsimp only at hSw); go_split_ands; go_simp)
    simp only [List.setIfInBounds_toArray, List.set_cons_zero, List.set_cons_succ]
    refine take_at (i := 9) (oi := _) 211 (v := (Value.agg #[Value.int .i64 z, Value.int .i64 u])) rfl rfl (by kernel_rfl) (by kernel_rfl) (by kernel_rfl) (fun _ _ _ h => h) (Or.inl ⟨by rfl, ?_⟩) hHeld ?_
    · (intro w hSw; (try dsimp only at hSw); go_split_ands; go_simp)
    simp only [List.setIfInBounds_toArray, List.set_cons_zero, List.set_cons_succ]
    refine wpAnyH_ready (rs := [10]) (by kernel_rfl) (by simp) ?_
    refine AllReadyH.cons (o := _) rfl (fun K9 hK => ?_) AllReadyH.nil
    go_simp
    refine (HP.out _).mono ?_
    rintro e w1 ⟨rfl, hb⟩
    obtain ⟨h0, h1, h2, h3⟩ := hHeld
    refine hK.out _ _ ⟨cell_on hb h0, cell_on hb h1, cell_on hb h2, cell_on hb h3⟩ (fun hHeld => ?_)
    replace B0 := Lib.hid (below_on (below_drewN B0.out 1) hb)
    replace BW := Lib.hid (below_on (below_drewN BW.out 1) hb)
    clear hK K9 hb h0 h1 h2 h3
    try simp only [Act.put, List.setIfInBounds_toArray, List.set_cons_zero, List.set_cons_succ]
    refine take_at (i := 11) (oi := _) 201 (v := .tuple #[.int .i64 ms, .bool true]) rfl rfl (by kernel_rfl) (by kernel_rfl) (by kernel_rfl) (fun _ _ _ h => h) (Or.inl ⟨by rfl, ?_⟩) hHeld ?_
    · (intro w hSw; (try dsimp only at hSw); go_split_ands; go_simp)
    simp only [List.setIfInBounds_toArray, List.set_cons_zero, List.set_cons_succ]
    refine take_at (i := 12) (oi := _) 213 (v := .int .i64 ms) rfl rfl (by kernel_rfl) (by kernel_rfl) (by kernel_rfl) (fun _ _ _ h => h) (Or.inl ⟨by rfl, ?_⟩) hHeld ?_
    · (intro w hSw; (try dsimp only at hSw); go_split_ands; go_simp)
    simp only [List.setIfInBounds_toArray, List.set_cons_zero, List.set_cons_succ]
    refine take_at (i := 13) (oi := _) 214 (v := .bool true) rfl rfl (by kernel_rfl) (by kernel_rfl) (by kernel_rfl) (fun _ _ _ h => h) (Or.inl ⟨by rfl, ?_⟩) hHeld ?_
    · (intro w hSw; (try dsimp only at hSw); go_split_ands; go_simp)
    simp only [List.setIfInBounds_toArray, List.set_cons_zero, List.set_cons_succ]
    refine wpAnyH_ready (rs := [14]) (by kernel_rfl) (by simp) ?_
    refine AllReadyH.cons (o := _) rfl (fun K9 hK => ?_) AllReadyH.nil
    go_simp
    refine hK.out _ _ hHeld (fun hHeld => ?_)
    clear hK K9
    try simp only [Act.put, List.setIfInBounds_toArray, List.set_cons_zero, List.set_cons_succ]
    refine wpAnyH_ready (rs := [15]) (by kernel_rfl) (by simp) ?_
    refine AllReadyH.cons (o := _) rfl (fun K9 hK => ?_) AllReadyH.nil
    go_simp
    refine hK.out _ _ hHeld (fun hHeld => ?_)
    clear hK K9
    try simp only [Act.put, List.setIfInBounds_toArray, List.set_cons_zero, List.set_cons_succ]
    refine wpAnyH_done (by kernel_rfl) ?_ _
    clear hHeld HP
    go_wp2_with fail
    go_loopw [30, 217] (fun s i wr => ∃ j : Nat, j ≤ t.n ∧ i = .int .i64 j ∧ s = .int .i64 (suT t j) ∧ Below w.heap.size w wr ∧ Below W.heap.size W wr) (fun _ i _ => t.n - (intOf i).toNat)
    case atStart => exact ⟨0, by omega, rfl, rfl, B0.out, BW.out⟩
    case round =>
      clear B0 BW
      obtain ⟨j, hj, rfl, rfl, hb0, hbw⟩ := hrel
      have B0 := Lib.hid hb0
      have BW := Lib.hid hbw
      clear hb0 hbw
      by_cases hlt : j < t.n
      · obtain ⟨m0, m1, m2, m3, m4⟩ := HM.out _ BW.out j hlt
        obtain ⟨c0, c1⟩ := HF.out _ BW.out j hlt
        obtain ⟨k0, k1, k2, k3⟩ := (HR.out.k.on BW.out).c4
        have hd := HDF.out j
        have hp := HQ.out j hlt
        have hle := HF1.out j hlt
        have hfs := HF2.out j
        have s0 := HS.out j hj
        have s1 := HS.out (j + 1) (by omega)
        have s2 : suT t (j + 1) = suT t j + mSq t j := rfl
        obtain ⟨x', ex⟩ : ∃ q, X t.xs j = q := ⟨_, rfl⟩
        obtain ⟨y', ey⟩ : ∃ q, Y t.xs j = q := ⟨_, rfl⟩
        obtain ⟨z', ez⟩ : ∃ q, X t.ys (plc t j) = q := ⟨_, rfl⟩
        obtain ⟨u', eu⟩ : ∃ q, Y t.ys (plc t j) = q := ⟨_, rfl⟩
        rw [ex] at m0 c0
        rw [ey] at m1 c1
        rw [ez] at m2
        rw [eu] at m3
        rw [ex, ey, ez, eu] at hd hp
        rw [← hd] at hp
        obtain ⟨sq, esq⟩ : ∃ q, mSq t j = q := ⟨_, rfl⟩
        rw [esq] at hp hle hfs s2
        obtain ⟨a, ea⟩ : ∃ q, suT t j = q := ⟨_, rfl⟩
        rw [ea] at s0 s2 ⊢
        have HSN := Lib.hid s2
        have HP := Lib.hid hp
        have i9 := IntWalk.i64_in (a + sq) (by omega)
        have i0 : (0 : Int) ≤ (j : Int) := by omega
        have i1 : (j : Int) < (t.n : Int) := by omega
        have nq := neq_spots_same x' y'
        have nc : (t.c != t.c) = false := by simp
        have d1 : decide (ms < sq) = false := by simp; omega
        obtain ⟨be, d2, d3⟩ : ∃ b, (sq == ms) = b ∧ (b = true → decide ((j : Int) < (fa : Int)) = false) := by
          by_cases hx : sq = ms
          · exact ⟨true, by simp [hx], fun _ => by simp only [decide_eq_false_iff_not]; intro hlf; have := hfs (by omega); omega⟩
          · exact ⟨false, by simp [hx], fun h => by cases h⟩
        have KX := Lib.hid (Blk.new wr 47 #[.int .i64 x', .int .i64 y', .int .i64 z', .int .i64 u', .int .i64 t.c])
        have D3 := Lib.hid d3
        replace B0 := Lib.hid (below_new B0.out (.cells #[.int .i64 x', .int .i64 y', .int .i64 z', .int .i64 u', .int .i64 t.c] 47))
        replace BW := Lib.hid (below_new BW.out (.cells #[.int .i64 x', .int .i64 y', .int .i64 z', .int .i64 u', .int .i64 t.c] 47))
        obtain ⟨b0, b1, b2, b3, b4⟩ := KX.out.c5
        have EX := Lib.hid ex
        have EY := Lib.hid ey
        clear hd hp hle hfs s0 s1 s2 ex ey ez eu esq ea d3
        go_wp2_with fail
        refine (HP.out _).mono ?_
        rintro e w2 ⟨rfl, hb⟩
        replace B0 := Lib.hid (below_on B0.out hb)
        replace BW := Lib.hid (below_on BW.out hb)
        clear m0 m1 m2 m3 m4 b0 b1 b2 b3 b4 c0 c1 k0 k1 k2 k3
        obtain ⟨b0, b1, b2, b3, b4⟩ := (KX.out.on hb).c5
        obtain ⟨c0, c1⟩ := HF.out _ BW.out j hlt
        obtain ⟨k0, k1, k2, k3⟩ := (HR.out.k.on BW.out).c4
        rw [EX.out] at c0
        rw [EY.out] at c1
        clear hb
        cases be with
        | false =>
          go_wp2_with fail
          go_quiet (fail)
          go_wp2_with fail
          go_roundw
          case rel => exact ⟨j + 1, by omega, by go_num, by rw [HSN.out], below_drewN B0.out _, below_drewN BW.out _⟩
          case measure => simp [intOf]; omega
        | true =>
          have d4 := D3.out rfl
          have d5 : decide (j < fa) = false := by have := of_decide_eq_false d4; simp only [decide_eq_false_iff_not]; omega
          go_wp2_with fail
          go_quiet (fail)
          go_wp2_with fail
          go_roundw
          case rel => exact ⟨j + 1, by omega, by go_num, by rw [HSN.out], below_drewN B0.out _, below_drewN BW.out _⟩
          case measure => simp [intOf]; omega
      · obtain rfl : j = t.n := by omega
        have ns : (suT t t.n != suT t t.n) = false := by simp
        go_upto_if 274 with (fail)
        go_step
        go_step
        go_step
        go_step
        exact wp_of_fn (by kernel_rfl) (fun f => sw_b w _ B0.out A1 n1 c1 (H1.out.kept BW.out) hm1 f)
end Go.Proofs.Ytjcepipgjpaclaa
