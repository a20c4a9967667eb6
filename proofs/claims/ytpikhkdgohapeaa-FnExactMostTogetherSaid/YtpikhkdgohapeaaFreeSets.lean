/- A contract of the reference's table that tells for each set of performers whether there is no conflict within it. Conditions: the transition is good, its slices can be read, and the least distance lies within its bounds. -/
import Derived.Test.YtpikhkdgohapeaaCounts
import Derived.Test.YtpikhkdgohapeaaSetsFn
import Derived.Test.YtpikhkdgohapeaaBits
import Derived.Test.YtpikhkdgohapeaaRowStep
namespace Go.Proofs.Ytpikhkdgohapeaa
open Go.RowKit

/-- A list of Bools as the program holds it. -/
def bools (f : Nat → Bool) (n : Nat) : List Value := (List.range n).map fun s => Value.bool (f s)
theorem bools_length (f : Nat → Bool) (n : Nat) : (bools f n).length = n := by simp [bools]
theorem bools_get {f : Nat → Bool} {n k : Nat} (h : k < n) : (bools f n)[k]? = some (.bool (f k)) := by simp [bools, h]
theorem bools_set {f : Nat → Bool} {n k : Nat} (b : Bool) : (bools f n).set k (.bool b) = bools (fun s => if s = k then b else f s) n := by
  apply List.ext_getElem?
  intro j
  rw [List.getElem?_set, bools_length]
  by_cases hj : j < n
  · rw [bools_get hj, bools_get hj]
    by_cases h : k = j
    · subst h; simp [hj]
    · rw [if_neg h]; simp [Ne.symm h]
  · rw [show (bools f n)[j]? = none from List.getElem?_eq_none (by rw [bools_length]; omega), show (bools (fun s => if s = k then b else f s) n)[j]? = none from List.getElem?_eq_none (by rw [bools_length]; omega)]
    split
    · simp; omega
    · rfl
theorem bools_ext {f g : Nat → Bool} {n : Nat} (h : ∀ s, s < n → f s = g s) : bools f n = bools g n := by
  unfold bools
  apply List.map_congr_left
  intro s hs
  rw [h s (by simpa using hs)]
theorem madeBools (m : Nat) : (madeCells (Value.bool false).cells m).toList = bools (fun _ => false) m := by
  show (madeCells #[Value.bool false] m).toList = _
  rw [toList_madeCells_one]
  apply List.ext_getElem?
  intro j
  simp only [bools, List.getElem?_map, List.getElem?_range, List.getElem?_replicate]
  by_cases h : j < m <;> simp [h]
theorem boolInfo : (Try.prog.info? 4).map (fun i => (i.zero, i.size, i.bytes)) = some (some (.bool false), 1, 1) := by kernel_rfl
set_option maxRecDepth 100000 in
set_option maxHeartbeats 4000000 in
theorem cfFree_any (v : Value) (B : Nat) (t : TrN) (L : Int) (w : World) (hv : RdT w B v t) (hB : B ≤ w.heap.size) (hok : TrOk t) (hL0 : 0 ≤ L) (hL : L ≤ 80) :
    Calls Try.prog 59 #[v, .int .i64 L] w fun e w' => ∃ u, e = .returned u ∧ w'.ownsRow w.heap.size 4 1 u (2 ^ t.n) (bools (freeS (qS (smAll (cfAt t L) t.n)) t.n) (2 ^ t.n)) ∧ Below w.heap.size w w' := by
  have hcp : True := trivial
  obtain ⟨A, ca, C, cb, D, cc, rfl, _, _, _⟩ := hv.form
  have hb0 : Below w.heap.size w (w.alloc (.cells #[.slice A t.n ca, .slice C t.m cb, .int .i64 t.c, .slice D t.p cc] 43)) := below_new (Below.refl _ _) _
  have k0 := Blk.new w 43 #[.slice A t.n ca, .slice C t.m cb, .int .i64 t.c, .slice D t.p cc]
  have Hv := Lib.hid (fun W (hb : Below w.heap.size w W) => hv.below' hb hB)
  have Hc := Lib.hid hcp
  have HB0 := Lib.hid hb0
  have K0 := Lib.hid k0
  obtain ⟨a0, a1, a2, a3⟩ := k0.c4
  clear hv hcp hb0 k0
  have hn1 := hok.n1
  have R := fun W (hb : Below w.heap.size w W) => cfPairs_any _ B t L W (Hv.out W hb) (Nat.le_trans hB hb.size) hok hL0 hL
  have PA := fun j => pairs_at (p := cfAt t L) (n := t.n) (j := j)
  have hml := (pr_small (p := cfAt t L) hn1).1
  have HFR := Lib.hid (fun s => fr_free (cfAt t L) t.n s)
  obtain ⟨rs, ers⟩ : ∃ r, prTo (cfAt t L) t.n t.n = r := ⟨_, rfl⟩
  rw [ers] at R PA hml HFR
  replace PA := Lib.hid PA
  have HR := Lib.hid R
  obtain ⟨FR, eFR⟩ : ∃ f, freeS (qS (smAll (cfAt t L) t.n)) t.n = f := ⟨_, rfl⟩
  rw [eFR] at HFR ⊢
  have hsh := one_shl2 t.n (by omega)
  have hN1 : 2 ^ t.n ≤ 2 ^ 12 := Nat.pow_le_pow_right (by decide) hn1
  have hNe : (2 : Int) ^ t.n = ((2 ^ t.n : Nat) : Int) := by simp
  rw [hNe] at hsh
  obtain ⟨N, eN⟩ : ∃ N, 2 ^ t.n = N := ⟨_, rfl⟩
  rw [eN] at hsh hN1 hNe ⊢
  have n0 : (0 : Int) ≤ (t.n : Int) := by omega
  clear R ers eFR eN hok
  have hsz0 : (w.alloc (.cells #[.slice A t.n ca, .slice C t.m cb, .int .i64 t.c, .slice D t.p cc] 43)).heap.size = w.heap.size + 1 := by simp
  go_enter Try.func59, Try.ntmps59
  obtain ⟨i0, hi, hz0, hz1, hz2⟩ := info_parts boolInfo
  have hz2' : i0.bytes * N ≤ 281474976710656 := by rw [hz2]; omega
  go_wp2_with (at_make; refine wpList_make_full _ rfl (.tmp 16) (.tmp 16) 79 rfl (w.heap.size + 1) 4 i0 (.bool false) 1 Try.underlying79 hi hz0 hz1 .i64 .i64 N N N (by first | rfl | (simp [hsh, hNe])) (by first | rfl | (simp [hsh, hNe])) rfl rfl hz2' (by unfold maxLen; omega) (by first | exact Nat.le_refl _ | simp) ?_; intro w3 hown1 hg1; obtain ⟨d0, d1, d2, d3⟩ := (K0.out.grown hg1 (by simp)).c4)
  rw [Nat.mul_one, madeBools] at hown1
  rw [hsz0] at hown1
  have hk3 := K0.out.grown hg1 (by simp)
  have hb3 := HB0.out.grown hg1 HB0.out.size (by simp)
  obtain ⟨c0, ec0⟩ : ∃ c, w.heap.size + 1 = c := ⟨_, rfl⟩
  have hc0 : w.heap.size ≤ c0 := by omega
  rw [ec0] at hown1 ⊢
  have h3lt : c0 < w3.heap.size := (hown1.lt _ rfl).2
  have HO1 := Lib.hid hown1
  have HB3 := Lib.hid hb3
  clear hi hz0 hz1 hz2 hz2' hg1 hown1 hk3 hb3 a0 a1 a2 a3 HB0 K0 hsz0 hsh hNe n0
  refine (HR.out _ HB3.out).mono ?_
  rintro e w4 ⟨u, gs, rfl, hrr, h4⟩
  obtain ⟨U, cu, rfl⟩ := hrr.form
  have HO4 := Lib.hid (own_below HO1.out h4 (Nat.le_refl _))
  have HR4 := Lib.hid hrr
  have HB4 := Lib.hid (below_on HB3.out h4)
  clear hrr h4 HO1 HB3 d0 d1 d2 d3 HR
  obtain ⟨m, em⟩ : ∃ m, rs.length = m := ⟨_, rfl⟩
  rw [em] at HR4 PA hml HFR ⊢
  clear em
  go_wp2_with fail
  go_loopw [23] (fun s wr => ∃ k : Nat, k ≤ N ∧ s = .int .i64 k ∧ wr.ownsRow c0 4 1 (.slice (some ⟨c0, 0, none⟩) N N) N (bools (fun s => decide (s < k) && FR s) N) ∧ Rows wr w3.heap.size (.slice U m cu) m gs rs ∧ Below w.heap.size w wr) (fun s _ => N - (intOf s).toNat)
  case atStart => exact ⟨0, Nat.zero_le _, rfl, by rw [bools_ext (g := fun _ => false) (fun s _ => by simp)]; exact HO4.out, HR4.out, HB4.out⟩
  case round =>
    clear HO4 HR4 HB4
    obtain ⟨k, hk, rfl, hown, hrr, hb⟩ := hrel
    by_cases hlt : k < N
    · have k0 : (0 : Int) ≤ (k : Int) := by omega
      have k1 : (k : Int) < (N : Int) := by omega
      have f0 : wr.frozen? ⟨c0, k, none⟩ = false := hown.frozenAt k
      have x0 : wr.cell? ⟨c0, k, none⟩ = some (.bool (decide (k < k) && FR k)) := (hown.cellAt k (by omega)).trans (bools_get hlt)
      have hown2 := (hown.stored k (.bool true)).1
      rw [bools_set] at hown2
      have HO := Lib.hid (show (wr.setCell ⟨c0, k, none⟩ (.bool true)).ownsRow c0 4 1 (.slice (some ⟨c0, 0, none⟩) N N) N (bools (fun s => if s = k then frTo rs k 0 else decide (s < k) && FR s) N) from hown2)
      have HR := Lib.hid (hrr.kept (only_cell wr c0 k (.bool true)) (fun j hj => by
        rcases hj with hj | hj
        · have := (hrr.own.lt j hj).1; omega
        · have := (hrr.mem hj).1; omega))
      have HB := Lib.hid (hb.setCell (p := ⟨c0, k, none⟩) hc0 (.bool true))
      clear hown2 hown hrr hb
      go_wp2_with fail
      go_loopw [31] (fun s wq => ∃ j : Nat, j ≤ m ∧ s = .int .i64 j ∧ wq.ownsRow c0 4 1 (.slice (some ⟨c0, 0, none⟩) N N) N (bools (fun s => if s = k then frTo rs k j else decide (s < k) && FR s) N) ∧ Rows wq w3.heap.size (.slice U m cu) m gs rs ∧ Below w.heap.size w wq) (fun s _ => m - (intOf s).toNat)
      case atStart => exact ⟨0, Nat.zero_le _, rfl, HO.out, HR.out, HB.out⟩
      case round =>
        clear HO HR HB x0 f0
        obtain ⟨wq, rfl⟩ : ∃ wq : World, wq = wr := ⟨_, rfl⟩
        obtain ⟨j, hj, rfl, hown, hrr, hb⟩ := hrel
        by_cases hlt2 : j < m
        · obtain ⟨b, cp, g, r, e1, kk0, hg, -, hrd, hkb, hlo⟩ := hrr.at hlt2
          obtain ⟨p, q, hpq, hqn, hpr⟩ := PA.out j hlt2
          simp only [Value.slice.injEq, true_and] at e1
          obtain ⟨rfl, rfl⟩ := e1
          rw [hpr] at hrd
          subst hrd
          have hfr : frTo rs k (j + 1) = if k.testBit p = true ∧ k.testBit q = true then false else frTo rs k j := by rw [frTo, hpr]; rfl
          have g0 := hkb.cell 0
          have g1 := hkb.cell 1
          simp [ints] at g0 g1
          unfold rowV at kk0
          have bp := bit_at2 k p (by omega)
          have bq := bit_at2 k q (by omega)
          have i0 : (0 : Int) ≤ (j : Int) := by omega
          have i1 : (j : Int) < (m : Int) := by omega
          have i2 : (0 : Int) ≤ (p : Int) := by omega
          have i4 : (0 : Int) ≤ (q : Int) := by omega
          have p64 : p < 64 := by omega
          have q64 : q < 64 := by omega
          by_cases hbb : k.testBit p = true ∧ k.testBit q = true
          · rw [show bitI k p = 1 by unfold bitI; rw [hbb.1]; rfl] at bp
            rw [show bitI k q = 1 by unfold bitI; rw [hbb.2]; rfl] at bq
            have f0 : wq.frozen? ⟨c0, k, none⟩ = false := hown.frozenAt k
            have x0 : wq.cell? ⟨c0, k, none⟩ = some (.bool (if k = k then frTo rs k j else decide (k < k) && FR k)) := (hown.cellAt k (by omega)).trans (bools_get hlt)
            have hown2 := (hown.stored k (.bool false)).1
            rw [bools_set, bools_ext (g := fun s => if s = k then frTo rs k (j + 1) else decide (s < k) && FR s) (fun s _ => by
              by_cases h : s = k
              · simp [h, hfr, hbb]
              · simp [h])] at hown2
            have HO := Lib.hid hown2
            have HR := Lib.hid (hrr.kept (only_cell wq c0 k (.bool false)) (fun j hj => by
              rcases hj with hj | hj
              · have := (hrr.own.lt j hj).1; omega
              · have := (hrr.mem hj).1; omega))
            have HB := Lib.hid (hb.setCell (p := ⟨c0, k, none⟩) hc0 (.bool false))
            clear hown2 hown hrr hb hkb hg hlo hpr hfr hbb
            go_wp2_with fail
            go_roundw
            case rel => exact ⟨j + 1, by omega, by go_num, HO.out, HR.out, HB.out⟩
            case measure => simp [intOf]; omega
          · have HO := Lib.hid (show wq.ownsRow c0 4 1 (.slice (some ⟨c0, 0, none⟩) N N) N (bools (fun s => if s = k then frTo rs k (j + 1) else decide (s < k) && FR s) N) by rw [hfr, if_neg hbb]; exact hown)
            have HR := Lib.hid hrr
            have HB := Lib.hid hb
            cases h1 : k.testBit p with
            | false =>
              rw [show bitI k p = 0 by unfold bitI; rw [h1]; rfl] at bp
              clear hown hrr hb hkb hg hlo hpr hfr hbb h1 bq
              go_wp2_with fail
              go_roundw
              case rel => exact ⟨j + 1, by omega, by go_num, HO.out, HR.out, HB.out⟩
              case measure => simp [intOf]; omega
            | true =>
              have h2 : k.testBit q = false := by
                cases h2 : k.testBit q with
                | false => rfl
                | true => exact absurd ⟨h1, h2⟩ hbb
              rw [show bitI k p = 1 by unfold bitI; rw [h1]; rfl] at bp
              rw [show bitI k q = 0 by unfold bitI; rw [h2]; rfl] at bq
              clear hown hrr hb hkb hg hlo hpr hfr hbb h1 h2
              go_wp2_with fail
              go_roundw
              case rel => exact ⟨j + 1, by omega, by go_num, HO.out, HR.out, HB.out⟩
              case measure => simp [intOf]; omega
        · obtain rfl : j = m := by omega
          have HO := Lib.hid (show wq.ownsRow c0 4 1 (.slice (some ⟨c0, 0, none⟩) N N) N (bools (fun s => decide (s < k + 1) && FR s) N) by
            rw [← bools_ext (f := fun s => if s = k then frTo rs k j else decide (s < k) && FR s) (fun s _ => by
              by_cases h : s = k
              · subst h; simp [HFR.out]
              · simp only [if_neg h]
                congr 1
                exact decide_eq_decide.2 (by omega))]
            exact hown)
          have HR := Lib.hid hrr
          have HB := Lib.hid hb
          clear hown hrr hb
          go_wp2_with fail
          go_roundw
          case rel => exact ⟨k + 1, by omega, by go_num, HO.out, HR.out, HB.out⟩
          case measure => simp [intOf]; omega
    · obtain rfl : k = N := by omega
      have HO := Lib.hid (show wr.ownsRow c0 4 1 (.slice (some ⟨c0, 0, none⟩) k k) k (bools FR k) by
        rw [bools_ext (f := FR) (g := fun s => decide (s < k) && FR s) (fun s hs => by simp [hs])]; exact hown)
      have HB := Lib.hid hb
      clear hown hrr hb
      go_wp2_with fail
      go_ret
      exact ⟨_, rfl, own_base HO.out hc0, HB.out⟩
end Go.Proofs.Ytpikhkdgohapeaa
