/- Contracts of the two DroppedRanges. Condition: the slice can be read, and its length is at most its capacity. -/
import Derived.Test.YtamehlafmfmgmaaDoorCarrierSpec
import Derived.Test.YtamehlafmfmgmaaDoorDropFn
import Derived.Test.YtamehlafmfmgmaaDoorRowSet
import Derived.Test.YtamehlafmfmgmaaDoorRowsSmall
namespace Go.Proofs.YtamehlafmfmgmaaDoor
open Go.RowKit

def ddB (n : Nat) (xs : List Int) (q a b : Int) : Bool := gcB n xs && (inB q 1 9 && (decide (0 ≤ a) && (decide (a ≤ b) && decide (b ≤ 1000))))
def ddL (n : Nat) (xs : List Int) (q a b : Int) : List (List Int) := if ddB n xs q a b = true then prs (rI (ownB n xs q) a b) else []
def ddN (n : Nat) (xs : List Int) (q a b : Int) : Nat := (ddL n xs q a b).length
theorem dd_no {n : Nat} {xs : List Int} {q a b : Int} (h : ddB n xs q a b = false) : ddB n xs q a b = false ∧ ddL n xs q a b = [] ∧ ddN n xs q a b = 0 := by simp [ddN, ddL, h]
theorem dd_yes {n : Nat} {xs : List Int} {q a b : Int} (h : ddB n xs q a b = true) : ddB n xs q a b = true ∧ ddL n xs q a b = prs (rI (ownB n xs q) a b) ∧ ddN n xs q a b = (rI (ownB n xs q) a b).length := by simp [ddN, ddL, h, prs_length]
theorem dd_in {n : Nat} {xs : List Int} {q a b : Int} (h : ddB n xs q a b = true) : GoodC n xs ∧ 1 ≤ q ∧ 0 ≤ a ∧ a ≤ b ∧ b ≤ 1000 := by
  simp only [ddB, Bool.and_eq_true, decide_eq_true_eq] at h
  exact ⟨gc_yes h.1, (inB_yes h.2.1).1, h.2.2.1, h.2.2.2.1, h.2.2.2.2⟩
theorem rI_len (own : Int → Bool) {a b : Int} (h : a ≤ b) : ((rI own a b).length : Int) ≤ b - a := by
  have := rn_len own a (b - a).toNat
  unfold rI; omega
theorem dd_small (n : Nat) (xs : List Int) (q a b : Int) : smallRows (ddL n xs q a b) ∧ ddN n xs q a b = (ddL n xs q a b).length := by
  refine ⟨?_, rfl⟩
  cases h : ddB n xs q a b with
  | false => rw [(dd_no h).2.1]; simp [smallRows]
  | true =>
    have hi := dd_in h
    have hl := rI_len (ownB n xs q) (a := a) (b := b) (by omega)
    rw [(dd_yes h).2.1]
    refine ⟨by rw [prs_length]; omega, fun r hr => ?_⟩
    simp only [prs, List.mem_map] at hr
    obtain ⟨p, _, rfl⟩ := hr
    simp
theorem dr_len (xs : List Int) (q a b : Int) : ∀ k, (drTo xs q a b k).1.length ≤ k
  | 0 => by simp [drTo]
  | k + 1 => by
    have := dr_len xs q a b k
    rw [drTo]
    split
    · show (if _ then _ else _ : List (Int × Int)).length ≤ _
      split
      · rw [List.length_append]; simp; omega
      · omega
    · omega
/-- A load has a carrier at a count, as the reference looks for it. -/
theorem idx_own {n : Nat} {xs : List Int} {q t : Int} (hq : 1 ≤ q) : (0 ≤ idxV n xs q 0 t) ↔ ownB n xs q t = true := by
  have hp : ∀ k, isAt xs q 0 t k = (cL xs k == q && inB t (cF xs k) (cT xs k - 1)) := by
    intro k
    have h0 : (q == 0) = false := by simp; omega
    simp [isAt, h0]
  have hs := fa_spec (p := isAt xs q 0 t) n 0
  unfold idxV
  constructor
  · intro h
    split at h
    · rename_i hlt
      have := hs.1 (by unfold idxAt at hlt; omega)
      rw [hp] at this
      simp only [ownB, List.any_eq_true, List.mem_range]
      exact ⟨_, hlt, this⟩
    · omega
  · intro h
    simp only [ownB, List.any_eq_true, List.mem_range] at h
    obtain ⟨k, hk, h1⟩ := h
    split
    · omega
    · rename_i hlt
      have := hs.2.2.2 k (by omega) (by unfold idxAt at hlt; omega)
      rw [hp, h1] at this
      cases this
theorem rnPut_nil (t : Int) : rnPut [] t = [(t, t + 1)] := by simp [rnPut]
theorem rnPut_more (l : List (Int × Int)) (x t : Int) : rnPut (l ++ [(x, t)]) t = l ++ [(x, t + 1)] := by simp [rnPut, List.getLastD_concat]
theorem rnPut_new {l : List (Int × Int)} {x y t : Int} (h : y ≠ t) : rnPut (l ++ [(x, y)]) t = l ++ [(x, y)] ++ [(t, t + 1)] := by
  rw [rnPut, if_neg]
  rintro ⟨_, h2⟩
  simp [List.getLastD_concat] at h2
  exact h h2
theorem prs_last (l : List (Int × Int)) (x y : Int) : (prs (l ++ [(x, y)]))[l.length]? = some [x, y] := by simp [prs]
theorem prs_set (l : List (Int × Int)) (x y z : Int) : (prs (l ++ [(x, y)])).set l.length ([x, y].set 1 z) = prs (l ++ [(x, z)]) := by
  have h : l.length = (prs l).length := (prs_length l).symm
  rw [prs_app, prs_app, h, List.set_append_right _ _ (Nat.le_refl _), Nat.sub_self]
  rfl
set_option maxRecDepth 100000 in
set_option maxHeartbeats 4000000 in
theorem DroppedRanges_any (v : Value) (n B : Nat) (xs : List Int) (q a b : Int) (w : World) (hcp : Cap v) (hv : Rd w B 4 v n xs) (hB : B ≤ w.heap.size) (hn : n ≤ 1099511627776) :
    Calls Tryd.prog 11 #[v, .int .i64 q, .int .i64 a, .int .i64 b] w fun e w' => ∃ u gs, e = .returned (.tuple #[u, .bool (ddB n xs q a b)]) ∧ Rows w' w.heap.size u (ddN n xs q a b) gs (ddL n xs q a b) ∧ Below w.heap.size w w' := by
  obtain ⟨A, c, rfl⟩ := hv.form4
  have Hv := Lib.hid hv
  have Hc := Lib.hid hcp
  have hB' := hB
  clear hv hcp
  cases h1 : gcB n xs with
  | false =>
    have hf := Lib.hid (dd_no (q := q) (a := a) (b := b) (show ddB n xs q a b = false by simp [ddB, h1]))
    go_enter Tryd.func11, Tryd.ntmps11
    go_wp2_with fail
    refine (AreCarries_any _ n B xs _ Hc.out Hv.out hB hn).mono ?_
    rintro e w1 ⟨rfl, hb1⟩
    go_wp2_with fail
    go_ret2
    rw [hf.out.1, hf.out.2.1, hf.out.2.2]
    exact ⟨_, [], rfl, Rows.nil _ _, hb1⟩
  | true =>
    cases h2 : inB q 1 9 with
    | false =>
      have hf := Lib.hid (dd_no (q := q) (a := a) (b := b) (show ddB n xs q a b = false by simp [ddB, h2]))
      go_enter Tryd.func11, Tryd.ntmps11
      go_wp2_with fail
      refine (AreCarries_any _ n B xs _ Hc.out Hv.out hB hn).mono ?_
      rintro e w1 ⟨rfl, hb1⟩
      go_wp2_with fail
      refine (within_any _ _ _ _).mono ?_
      rintro e w' ⟨rfl, rfl⟩
      go_wp2_with fail
      go_ret2
      rw [hf.out.1, hf.out.2.1, hf.out.2.2]
      exact ⟨_, [], rfl, Rows.nil _ _, hb1⟩
    | true =>
      by_cases ha : a < 0
      · have hf := Lib.hid (dd_no (q := q) (a := a) (b := b) (show ddB n xs q a b = false by simp [ddB]; omega))
        go_enter Tryd.func11, Tryd.ntmps11
        go_wp2_with fail
        refine (AreCarries_any _ n B xs _ Hc.out Hv.out hB hn).mono ?_
        rintro e w1 ⟨rfl, hb1⟩
        go_wp2_with fail
        refine (within_any _ _ _ _).mono ?_
        rintro e w' ⟨rfl, rfl⟩
        go_wp2_with fail
        go_ret2
        rw [hf.out.1, hf.out.2.1, hf.out.2.2]
        exact ⟨_, [], rfl, Rows.nil _ _, hb1⟩
      · by_cases hab : b < a
        · have hf := Lib.hid (dd_no (q := q) (a := a) (b := b) (show ddB n xs q a b = false by simp [ddB]; omega))
          go_enter Tryd.func11, Tryd.ntmps11
          go_wp2_with fail
          refine (AreCarries_any _ n B xs _ Hc.out Hv.out hB hn).mono ?_
          rintro e w1 ⟨rfl, hb1⟩
          go_wp2_with fail
          refine (within_any _ _ _ _).mono ?_
          rintro e w' ⟨rfl, rfl⟩
          go_wp2_with fail
          go_ret2
          rw [hf.out.1, hf.out.2.1, hf.out.2.2]
          exact ⟨_, [], rfl, Rows.nil _ _, hb1⟩
        · by_cases hb : 1000 < b
          · have hf := Lib.hid (dd_no (q := q) (a := a) (b := b) (show ddB n xs q a b = false by simp [ddB]; omega))
            go_enter Tryd.func11, Tryd.ntmps11
            go_wp2_with fail
            refine (AreCarries_any _ n B xs _ Hc.out Hv.out hB hn).mono ?_
            rintro e w1 ⟨rfl, hb1⟩
            go_wp2_with fail
            refine (within_any _ _ _ _).mono ?_
            rintro e w' ⟨rfl, rfl⟩
            go_wp2_with fail
            go_ret2
            rw [hf.out.1, hf.out.2.1, hf.out.2.2]
            exact ⟨_, [], rfl, Rows.nil _ _, hb1⟩
          · have hf := dd_yes (q := q) (a := a) (b := b) (show ddB n xs q a b = true by simp [ddB, h1, h2]; omega)
            have hg := gc_yes h1
            have h40 := hg.len
            rw [← dr_same hg (by omega)] at hf
            have HF := Lib.hid hf
            have HLN := Lib.hid (fun k => dr_len xs q a b k)
            clear hg hf
            go_enter Tryd.func11, Tryd.ntmps11
            go_wp2_with fail
            refine (AreCarries_any _ n B xs _ Hc.out Hv.out hB hn).mono ?_
            rintro e w1 ⟨rfl, hb1⟩
            go_wp2_with fail
            refine (within_any _ _ _ _).mono ?_
            rintro e w' ⟨rfl, rfl⟩
            go_wp2_with fail
            go_loopw [10, 11, 40] (fun o s i wr => ∃ (k : Nat) (gs : List Nat), k ≤ n ∧ i = .int .i64 k ∧ s = .int .i64 (drTo xs q a b k).2 ∧ Rows wr w.heap.size o (drTo xs q a b k).1.length gs (prs (drTo xs q a b k).1) ∧ Below w.heap.size w wr) (fun _ _ i _ => n - (intOf i).toNat)
            case atStart => exact ⟨0, [], Nat.zero_le _, rfl, rfl, (Rows.empty w1).base hb1.size, below_new hb1 _⟩
            case round =>
              obtain ⟨k, gs, hk, rfl, rfl, hrw, hbw⟩ := hrel
              clear hb1
              by_cases hlt : k < n
              · obtain ⟨b', off, rfl, hbB, hc⟩ := Hv.out.carry (by omega)
                have HC := Lib.hid hc
                clear hc
                obtain ⟨p, ep⟩ : ∃ a, cP xs k = a := ⟨_, rfl⟩
                obtain ⟨l, el⟩ : ∃ a, cL xs k = a := ⟨_, rfl⟩
                obtain ⟨f, ef⟩ : ∃ a, cF xs k = a := ⟨_, rfl⟩
                obtain ⟨t, et⟩ : ∃ a, cT xs k = a := ⟨_, rfl⟩
                have hci := HC.out k hlt
                rw [ep, el, ef, et] at hci
                have c0 := (hbw.cell (p := ⟨b', off + k * 4, none⟩) (Nat.lt_of_lt_of_le hbB hB)).trans hci.1
                have c1 := (hbw.cell (p := ⟨b', off + k * 4 + 1, none⟩) (Nat.lt_of_lt_of_le hbB hB)).trans hci.2.1
                have c2 := (hbw.cell (p := ⟨b', off + k * 4 + 2, none⟩) (Nat.lt_of_lt_of_le hbB hB)).trans hci.2.2.1
                have c3 := (hbw.cell (p := ⟨b', off + k * 4 + 3, none⟩) (Nat.lt_of_lt_of_le hbB hB)).trans hci.2.2.2
                have i0 : (0 : Int) ≤ (k : Int) := by omega
                have i1 : (k : Int) < (n : Int) := by omega
                have hst : drTo xs q a b (k + 1) = if l = q then ((if (drTo xs q a b k).2 < min f b then (drTo xs q a b k).1 ++ [((drTo xs q a b k).2, min f b)] else (drTo xs q a b k).1), max (drTo xs q a b k).2 t) else drTo xs q a b k := by rw [drTo, el, ef, et]
                have hln := HLN.out k
                obtain ⟨D, eD⟩ : ∃ d, drTo xs q a b k = d := ⟨_, rfl⟩
                obtain ⟨o, at_⟩ := D
                rw [eD] at hst hrw hln ⊢
                have hst' : drTo xs q a b (k + 1) = if l = q then ((if at_ < min f b then o ++ [(at_, min f b)] else o), max at_ t) else (o, at_) := hst
                have HB := Lib.hid (below_new hbw (.cells #[.int .i64 p, .int .i64 l, .int .i64 f, .int .i64 t] 50))
                have HR := Lib.hid (show Rows (wr.alloc (.cells #[.int .i64 p, .int .i64 l, .int .i64 f, .int .i64 t] 50)) w.heap.size _ o.length gs (prs o) from hrw.alloc (.cells #[.int .i64 p, .int .i64 l, .int .i64 f, .int .i64 t] 50))
                have K := Lib.hid (Blk.new wr 50 #[.int .i64 p, .int .i64 l, .int .i64 f, .int .i64 t])
                have hln2 : o.length ≤ k := hln
                clear hci ep el ef et hrw hbw hst hln
                by_cases hl : l = q
                · rw [if_pos hl] at hst'
                  subst hl
                  have hne : (l != l) = false := by simp
                  by_cases hlm : at_ < min f b
                  · rw [if_pos hlm] at hst'
                    have HST := Lib.hid hst'
                    clear hst'
                    have hsz : (wr.alloc (.cells #[.int .i64 p, .int .i64 l, .int .i64 f, .int .i64 t] 50)).heap.size = wr.heap.size + 1 := by simp
                    have g0 := Blk.new (wr.alloc (.cells #[.int .i64 p, .int .i64 l, .int .i64 f, .int .i64 t] 50)) 3 #[.int .i64 at_, .int .i64 (min f b)]
                    rw [hsz] at g0
                    have g1 := (Blk.new2 (wr.alloc (.cells #[.int .i64 p, .int .i64 l, .int .i64 f, .int .i64 t] 50)) (.cells #[.int .i64 at_, .int .i64 (min f b)] 3) 42 #[.slice (some ⟨wr.heap.size + 1, 0, none⟩) 2 2]).c1
                    rw [hsz] at g1
                    have hr2 := Lib.hid ((HR.out.alloc (.cells #[.int .i64 at_, .int .i64 (min f b)] 3)).alloc (.cells #[.slice (some ⟨wr.heap.size + 1, 0, none⟩) 2 2] 42))
                    have hb2 := Lib.hid (below_new (below_new HB.out (.cells #[.int .i64 at_, .int .i64 (min f b)] 3)) (.cells #[.slice (some ⟨wr.heap.size + 1, 0, none⟩) 2 2] 42))
                    have G0 := Lib.hid (show Blk _ (wr.heap.size + 1) 3 (ints [at_, (min f b)]).toArray from g0.alloc (.cells #[.slice (some ⟨wr.heap.size + 1, 0, none⟩) 2 2] 42))
                    have HNW := Lib.hid (show wr.heap.size + 1 ∉ gs from fun hm => by have := (HR.out.mem hm).2; omega)
                    have HWZ := Lib.hid (show w.heap.size ≤ wr.heap.size + 1 by have := HB.out.size; omega)
                    clear g0
                    have K2 := Lib.hid ((K.out.alloc (.cells #[.int .i64 at_, .int .i64 (min f b)] 3)).alloc (.cells #[.slice (some ⟨wr.heap.size + 1, 0, none⟩) 2 2] 42))
                    go_wp2_with (at_builtin; refine app_row rfl _ _ rfl w.heap.size _ _ gs _ rfl hr2.out _ _ [at_, min f b] rfl g1 G0.out HWZ.out HNW.out (by omega) (by have := hb2.out.size; omega) ?_; intro v9 w9 hr9 hg9; obtain ⟨z0, z1, z2, z3⟩ := (K2.out.grown hg9 (fun e => own_blk_ne hr2.out.own K2.out (by decide) e.symm)).c4)
                    have HR9 := Lib.hid (show Rows w9 w.heap.size v9 (o ++ [(at_, min f b)]).length (gs ++ [wr.heap.size + 1]) (prs (o ++ [(at_, min f b)])) by
                      rw [List.length_append, prs_app]; exact hr9)
                    have HB9 := Lib.hid (hb2.out.grown hg9 (by have := hb2.out.size; omega) (fun g hg => (hr2.out.own.lt g hg).1))
                    clear hr9 hg9
                    go_wp2_with fail
                    go_roundw
                    case rel => exact ⟨k + 1, _, by omega, by go_num, by rw [HST.out], by rw [HST.out]; exact HR9.out, HB9.out⟩
                    case measure => simp [intOf]; omega
                  · rw [if_neg hlm] at hst'
                    have HST := Lib.hid hst'
                    clear hst'
                    go_wp2_with fail
                    go_roundw
                    case rel => exact ⟨k + 1, _, by omega, by go_num, by rw [HST.out], by rw [HST.out]; exact HR.out, HB.out⟩
                    case measure => simp [intOf]; omega
                · rw [if_neg hl] at hst'
                  have hne : (l != q) = true := by simp [hl]
                  have HST := Lib.hid hst'
                  clear hst'
                  go_wp2_with fail
                  go_roundw
                  case rel => exact ⟨k + 1, _, by omega, by go_num, by rw [HST.out], by rw [HST.out]; exact HR.out, HB.out⟩
                  case measure => simp [intOf]; omega
              · obtain rfl : k = n := by omega
                have hda : drAll k xs q a b = if (drTo xs q a b k).2 < b then (drTo xs q a b k).1 ++ [((drTo xs q a b k).2, b)] else (drTo xs q a b k).1 := rfl
                have hln := HLN.out k
                obtain ⟨D, eD⟩ : ∃ d, drTo xs q a b k = d := ⟨_, rfl⟩
                obtain ⟨o, at_⟩ := D
                rw [eD] at hda hrw hln ⊢
                have hda' : drAll k xs q a b = if at_ < b then o ++ [(at_, b)] else o := hda
                have HB := Lib.hid hbw
                have HR := Lib.hid (show Rows wr w.heap.size _ o.length gs (prs o) from hrw)
                have hln2 : o.length ≤ k := hln
                clear hda hrw hbw eD hln
                by_cases hlm : at_ < b
                · rw [if_pos hlm] at hda'
                  have HDA := Lib.hid hda'
                  clear hda'
                  have hsz : wr.heap.size = wr.heap.size := rfl
                  have g0 := Blk.new wr 3 #[.int .i64 at_, .int .i64 b]
                  rw [hsz] at g0
                  have g1 := (Blk.new2 wr (.cells #[.int .i64 at_, .int .i64 b] 3) 42 #[.slice (some ⟨wr.heap.size, 0, none⟩) 2 2]).c1
                  rw [hsz] at g1
                  have hr2 := Lib.hid ((HR.out.alloc (.cells #[.int .i64 at_, .int .i64 b] 3)).alloc (.cells #[.slice (some ⟨wr.heap.size, 0, none⟩) 2 2] 42))
                  have hb2 := Lib.hid (below_new (below_new HB.out (.cells #[.int .i64 at_, .int .i64 b] 3)) (.cells #[.slice (some ⟨wr.heap.size, 0, none⟩) 2 2] 42))
                  have G0 := Lib.hid (show Blk _ (wr.heap.size) 3 (ints [at_, b]).toArray from g0.alloc (.cells #[.slice (some ⟨wr.heap.size, 0, none⟩) 2 2] 42))
                  have HNW := Lib.hid (show wr.heap.size ∉ gs from fun hm => by have := (HR.out.mem hm).2; omega)
                  have HWZ := Lib.hid (show w.heap.size ≤ wr.heap.size by have := HB.out.size; omega)
                  clear g0
                  go_wp2_with (at_builtin; refine app_row rfl _ _ rfl w.heap.size _ _ gs _ rfl hr2.out _ _ [at_, b] rfl g1 G0.out HWZ.out HNW.out (by omega) (by have := hb2.out.size; omega) ?_; intro v9 w9 hr9 hg9)
                  have HR9 := Lib.hid (show Rows w9 w.heap.size v9 (o ++ [(at_, b)]).length (gs ++ [wr.heap.size]) (prs (o ++ [(at_, b)])) by
                    rw [List.length_append, prs_app]; exact hr9)
                  have HB9 := Lib.hid (hb2.out.grown hg9 (by have := hb2.out.size; omega) (fun g hg => (hr2.out.own.lt g hg).1))
                  clear hr9 hg9
                  go_wp2_with fail
                  go_ret2
                  rw [HF.out.1, HF.out.2.1, HF.out.2.2, HDA.out]
                  first | exact ⟨_, _, rfl, HR9.out, HB9.out⟩ | exact ⟨_, rfl, ⟨_, HR9.out⟩, HB9.out⟩
                · rw [if_neg hlm] at hda'
                  have HDA := Lib.hid hda'
                  clear hda'
                  go_wp2_with fail
                  go_ret2
                  rw [HF.out.1, HF.out.2.1, HF.out.2.2, HDA.out]
                  first | exact ⟨_, _, rfl, HR.out, HB.out⟩ | exact ⟨_, rfl, ⟨_, HR.out⟩, HB.out⟩
set_option maxRecDepth 100000 in
set_option maxHeartbeats 4000000 in
theorem specDroppedRanges_any (v : Value) (n B : Nat) (xs : List Int) (q a b : Int) (w : World) (hcp : Cap v) (hv : Rd w B 4 v n xs) (hB : B ≤ w.heap.size) (hn : n ≤ 1099511627776) :
    Calls Tryd.prog 12 #[v, .int .i64 q, .int .i64 a, .int .i64 b] w fun e w' => ∃ u gs, e = .returned (.tuple #[u, .bool (ddB n xs q a b)]) ∧ Rows w' w.heap.size u (ddN n xs q a b) gs (ddL n xs q a b) ∧ Below w.heap.size w w' := by
  obtain ⟨A, c, rfl⟩ := hv.form4
  have Hv := Lib.hid hv
  have Hc := Lib.hid hcp
  clear hv hcp
  cases h1 : gcB n xs with
  | false =>
    have hf := Lib.hid (dd_no (q := q) (a := a) (b := b) (show ddB n xs q a b = false by simp [ddB, h1]))
    go_enter Tryd.func12, Tryd.ntmps12
    go_wp2_with fail
    refine (caGood_any _ n B xs _ Hc.out Hv.out hB hn).mono ?_
    rintro e w1 ⟨rfl, hb1⟩
    go_wp2_with fail
    go_ret2
    rw [hf.out.1, hf.out.2.1, hf.out.2.2]
    exact ⟨_, [], rfl, Rows.nil _ _, hb1⟩
  | true =>
    cases h2 : inB q 1 9 with
    | false =>
      have hf := Lib.hid (dd_no (q := q) (a := a) (b := b) (show ddB n xs q a b = false by simp [ddB, h2]))
      go_enter Tryd.func12, Tryd.ntmps12
      go_wp2_with fail
      refine (caGood_any _ n B xs _ Hc.out Hv.out hB hn).mono ?_
      rintro e w1 ⟨rfl, hb1⟩
      go_wp2_with fail
      refine (caLoad_any _ _).mono ?_
      rintro e w' ⟨rfl, rfl⟩
      go_wp2_with fail
      go_ret2
      rw [hf.out.1, hf.out.2.1, hf.out.2.2]
      exact ⟨_, [], rfl, Rows.nil _ _, hb1⟩
    | true =>
      cases h3 : inB a 0 b with
      | false =>
        have hf := Lib.hid (dd_no (q := q) (a := a) (b := b) (show ddB n xs q a b = false by
          cases hd : ddB n xs q a b with
          | false => rfl
          | true =>
            have := dd_in hd
            rw [show inB a 0 b = true by simp [inB]; omega] at h3
            cases h3))
        go_enter Tryd.func12, Tryd.ntmps12
        go_wp2_with fail
        refine (caGood_any _ n B xs _ Hc.out Hv.out hB hn).mono ?_
        rintro e w1 ⟨rfl, hb1⟩
        go_wp2_with fail
        refine (caLoad_any _ _).mono ?_
        rintro e w' ⟨rfl, rfl⟩
        go_wp2_with fail
        refine (l1In_any _ _ _ _).mono ?_
        rintro e w' ⟨rfl, rfl⟩
        go_wp2_with fail
        go_ret2
        rw [hf.out.1, hf.out.2.1, hf.out.2.2]
        exact ⟨_, [], rfl, Rows.nil _ _, hb1⟩
      | true =>
        cases h4 : inB b a 1000 with
        | false =>
          have hf := Lib.hid (dd_no (q := q) (a := a) (b := b) (show ddB n xs q a b = false by
            cases hd : ddB n xs q a b with
            | false => rfl
            | true =>
              have := dd_in hd
              rw [show inB b a 1000 = true by simp [inB]; omega] at h4
              cases h4))
          go_enter Tryd.func12, Tryd.ntmps12
          go_wp2_with fail
          refine (caGood_any _ n B xs _ Hc.out Hv.out hB hn).mono ?_
          rintro e w1 ⟨rfl, hb1⟩
          go_wp2_with fail
          refine (caLoad_any _ _).mono ?_
          rintro e w' ⟨rfl, rfl⟩
          go_wp2_with fail
          refine (l1In_any _ _ _ _).mono ?_
          rintro e w' ⟨rfl, rfl⟩
          go_wp2_with fail
          refine (l1In_any _ _ _ _).mono ?_
          rintro e w' ⟨rfl, rfl⟩
          go_wp2_with fail
          go_ret2
          rw [hf.out.1, hf.out.2.1, hf.out.2.2]
          exact ⟨_, [], rfl, Rows.nil _ _, hb1⟩
        | true =>
          have b3 := inB_yes h3
          have b4 := inB_yes h4
          have hf := dd_yes (q := q) (a := a) (b := b) (show ddB n xs q a b = true by simp [ddB, h1, h2]; omega)
          have hg := gc_yes h1
          have q1 := (inB_yes h2).1
          have HF := Lib.hid hf
          have HLN := Lib.hid (fun t (h : a ≤ t) => rI_len (ownB n xs q) h)
          have HSU := Lib.hid (fun t (h : a ≤ t) => rI_succ (own := ownB n xs q) h)
          have HAT := Lib.hid (fun t W (hW : Below w.heap.size w W) => caAt_any (.slice A n c) n B xs q 0 t W (Hv.out.below' hW hB) (Nat.le_trans hB hW.size) hg)
          have HIX := Lib.hid (fun t => idx_own (n := n) (xs := xs) (t := t) q1)
          clear hg hf
          go_enter Tryd.func12, Tryd.ntmps12
          go_wp2_with fail
          refine (caGood_any _ n B xs _ Hc.out Hv.out hB hn).mono ?_
          rintro e w1 ⟨rfl, hb1⟩
          go_wp2_with fail
          refine (caLoad_any _ _).mono ?_
          rintro e w' ⟨rfl, rfl⟩
          go_wp2_with fail
          refine (l1In_any _ _ _ _).mono ?_
          rintro e w' ⟨rfl, rfl⟩
          go_wp2_with fail
          refine (l1In_any _ _ _ _).mono ?_
          rintro e w' ⟨rfl, rfl⟩
          go_wp2_with fail
          go_loopw [10, 11] (fun o s wr => ∃ (t : Int) (gs : List Nat), a ≤ t ∧ t ≤ b ∧ s = .int .i64 t ∧ Rows wr w.heap.size o (rI (ownB n xs q) a t).length gs (prs (rI (ownB n xs q) a t)) ∧ Below w.heap.size w wr) (fun _ s _ => (b - intOf s).toNat)
          case atStart => exact ⟨a, [], Int.le_refl _, b3.2, rfl, by rw [rI_zero]; exact Rows.nil _ _, hb1⟩
          case round =>
            obtain ⟨t, gs, ht1, ht2, rfl, hrw, hbw⟩ := hrel
            clear hb1
            by_cases hlt : t < b
            · have hsu := HSU.out t ht1
              have hix := HIX.out t
              have hln := HLN.out t ht1
              have hat := fun W (hW : Below w.heap.size w W) => HAT.out t W hW
              obtain ⟨L, eL⟩ : ∃ L, rI (ownB n xs q) a t = L := ⟨_, rfl⟩
              obtain ⟨ix, eix⟩ : ∃ L, idxV n xs q 0 t = L := ⟨_, rfl⟩
              rw [eL] at hsu hrw hln
              rw [eix] at hix hat
              have HA := Lib.hid hat
              have hwt := IntWalk.i64_in (t + 1) (by omega)
              clear hat eL eix
              cases hown : ownB n xs q t with
              | true =>
                rw [hown] at hsu hix
                have h0 : 0 ≤ ix := hix.2 rfl
                have HST := Lib.hid (show rI (ownB n xs q) a (t + 1) = L by rw [hsu, if_pos rfl])
                have HR0 := Lib.hid hrw
                have HB0 := Lib.hid hbw
                clear hsu hix hown hrw hbw
                go_wp2_with fail
                refine (HA.out _ HB0.out).mono ?_
                rintro e w2 ⟨rfl, hh⟩
                have HR := Lib.hid (HR0.out.below hh (Nat.le_refl _))
                have HB := Lib.hid (below_on HB0.out hh)
                clear hh HR0 HB0
                go_wp2_with fail
                go_roundw
                case rel => exact ⟨t + 1, gs, by omega, by omega, rfl, by rw [HST.out]; exact HR.out, HB.out⟩
                case measure => simp [intOf]; omega
              | false =>
                rw [hown] at hsu hix
                have h0 : ¬ 0 ≤ ix := fun h => by have := hix.1 h; cases this
                have HST := Lib.hid (show rI (ownB n xs q) a (t + 1) = rnPut L t by rw [hsu, if_neg (by simp)])
                have HR0 := Lib.hid hrw
                have HB0 := Lib.hid hbw
                clear hsu hix hown hrw hbw
                obtain ⟨N, eN⟩ : ∃ N, L.length = N := ⟨_, rfl⟩
                rw [eN] at HR0 hln
                obtain ⟨A2, c2, rfl⟩ := HR0.out.form
                rcases List.eq_nil_or_concat L with rfl | ⟨L', p, hL⟩
                · obtain rfl : N = 0 := eN.symm
                  have HST2 := Lib.hid (show rI (ownB n xs q) a (t + 1) = [(t, t + 1)] by rw [HST.out, rnPut_nil])
                  clear eN
                  go_wp2_with fail
                  refine (HA.out _ HB0.out).mono ?_
                  rintro e w2 ⟨rfl, hh⟩
                  have HR := Lib.hid (show Rows w2 w.heap.size _ 0 gs [] from HR0.out.below hh (Nat.le_refl _))
                  have HB := Lib.hid (below_on HB0.out hh)
                  clear hh HR0 HB0 HST
                  have hsz : w2.heap.size = w2.heap.size := rfl
                  have g0 := Blk.new w2 3 #[.int .i64 t, .int .i64 (t + 1)]
                  rw [hsz] at g0
                  have g1 := (Blk.new2 w2 (.cells #[.int .i64 t, .int .i64 (t + 1)] 3) 42 #[.slice (some ⟨w2.heap.size, 0, none⟩) 2 2]).c1
                  rw [hsz] at g1
                  have hr2 := Lib.hid ((HR.out.alloc (.cells #[.int .i64 t, .int .i64 (t + 1)] 3)).alloc (.cells #[.slice (some ⟨w2.heap.size, 0, none⟩) 2 2] 42))
                  have hb2 := Lib.hid (below_new (below_new HB.out (.cells #[.int .i64 t, .int .i64 (t + 1)] 3)) (.cells #[.slice (some ⟨w2.heap.size, 0, none⟩) 2 2] 42))
                  have G0 := Lib.hid (show Blk _ (w2.heap.size) 3 (ints [t, (t + 1)]).toArray from g0.alloc (.cells #[.slice (some ⟨w2.heap.size, 0, none⟩) 2 2] 42))
                  have HNW := Lib.hid (show w2.heap.size ∉ gs from fun hm => by have := (HR.out.mem hm).2; omega)
                  have HWZ := Lib.hid (show w.heap.size ≤ w2.heap.size by have := HB.out.size; omega)
                  clear g0
                  go_wp2_with (at_builtin; refine app_row rfl _ _ rfl w.heap.size _ _ gs _ rfl hr2.out _ _ [t, t + 1] rfl g1 G0.out HWZ.out HNW.out (by omega) (by have := hb2.out.size; omega) ?_; intro v9 w9 hr9 hg9)
                  have HR9 := Lib.hid (show Rows w9 w.heap.size v9 1 (gs ++ [w2.heap.size]) (prs [(t, t + 1)]) from hr9)
                  have HB9 := Lib.hid (hb2.out.grown hg9 (by have := hb2.out.size; omega) (fun g hg => (hr2.out.own.lt g hg).1))
                  clear hr9 hg9
                  go_wp2_with fail
                  go_roundw
                  case rel => exact ⟨t + 1, _, by omega, by omega, rfl, by rw [HST2.out]; exact HR9.out, HB9.out⟩
                  case measure => simp [intOf]; omega
                · obtain ⟨x, y⟩ := p
                  rw [List.concat_eq_append] at hL
                  subst hL
                  have hm := prs_last L' x y
                  obtain ⟨m, em⟩ : ∃ m, L'.length = m := ⟨_, rfl⟩
                  obtain rfl : N = m + 1 := by rw [← eN, List.length_append, em]; rfl
                  rw [em] at hm
                  have EM := Lib.hid em
                  have m0 : (0 : Int) < ((m + 1 : Nat) : Int) := by omega
                  have m1 : ((m + 1 : Nat) : Int) - 1 = (m : Int) := by omega
                  have m2 : (m : Int) < ((m + 1 : Nat) : Int) := by omega
                  have m3 : (0 : Int) ≤ (m : Int) := by omega
                  have m4 : (0 : Int) < (m : Int) + 1 := by omega
                  have m5 : (m : Int) + 1 - 1 = (m : Int) := by omega
                  have m6 : (m : Int) < (m : Int) + 1 := by omega
                  have HHM := Lib.hid hm
                  clear em eN hm
                  go_wp2_with fail
                  refine (HA.out _ HB0.out).mono ?_
                  rintro e w2 ⟨rfl, hh⟩
                  have hr := HR0.out.below hh (Nat.le_refl _)
                  have HR := Lib.hid hr
                  have HB := Lib.hid (below_on HB0.out hh)
                  clear hh HR0 HB0
                  obtain ⟨b', cp, g, r, e1, k0, hg, hrr, -, hkb, hlo⟩ := hr.at (j := m) (by omega)
                  rw [HHM.out] at hrr
                  cases hrr
                  simp only [Value.slice.injEq, true_and] at e1
                  obtain ⟨rfl, rfl⟩ := e1
                  have g0 := hkb.cell 0
                  have g1 := hkb.cell 1
                  have gf := hkb.frozen 1
                  simp [ints] at g0 g1
                  unfold rowV at k0
                  by_cases hy : y = t
                  · subst hy
                    have HST2 := Lib.hid (show rI (ownB n xs q) a (y + 1) = L' ++ [(x, y + 1)] by rw [HST.out, rnPut_more])
                    have hput := hr.put (i := 1) (x := y + 1) hg HHM.out (by simp [maxLen])
                    have hset := prs_set L' x y (y + 1)
                    rw [EM.out] at hset
                    rw [hset] at hput
                    have HR9 := Lib.hid hput
                    have HB9 := Lib.hid (HB.out.setCell (p := ⟨g, 1, none⟩) hlo (.int .i64 (y + 1)))
                    have hyy : (y == y) = true := by simp
                    clear hg hkb hlo hr hput hset HST
                    go_wp2_with fail
                    go_roundw
                    case rel => exact ⟨y + 1, _, by omega, by omega, rfl, by rw [HST2.out, show (L' ++ [(x, y + 1)]).length = m + 1 by rw [List.length_append, EM.out]; rfl]; exact HR9.out, HB9.out⟩
                    case measure => simp [intOf]; omega
                  · have HST2 := Lib.hid (show rI (ownB n xs q) a (t + 1) = L' ++ [(x, y)] ++ [(t, t + 1)] by rw [HST.out, rnPut_new hy])
                    have hyy : (y == t) = false := by simp [hy]
                    clear hg hkb hlo hr HST
                    have y0 := g1
                    clear g0 gf
                    have hsz : w2.heap.size = w2.heap.size := rfl
                    have g0 := Blk.new w2 3 #[.int .i64 t, .int .i64 (t + 1)]
                    rw [hsz] at g0
                    have g1 := (Blk.new2 w2 (.cells #[.int .i64 t, .int .i64 (t + 1)] 3) 42 #[.slice (some ⟨w2.heap.size, 0, none⟩) 2 2]).c1
                    rw [hsz] at g1
                    have hr2 := Lib.hid ((HR.out.alloc (.cells #[.int .i64 t, .int .i64 (t + 1)] 3)).alloc (.cells #[.slice (some ⟨w2.heap.size, 0, none⟩) 2 2] 42))
                    have hb2 := Lib.hid (below_new (below_new HB.out (.cells #[.int .i64 t, .int .i64 (t + 1)] 3)) (.cells #[.slice (some ⟨w2.heap.size, 0, none⟩) 2 2] 42))
                    have G0 := Lib.hid (show Blk _ (w2.heap.size) 3 (ints [t, (t + 1)]).toArray from g0.alloc (.cells #[.slice (some ⟨w2.heap.size, 0, none⟩) 2 2] 42))
                    have HNW := Lib.hid (show w2.heap.size ∉ gs from fun hm => by have := (HR.out.mem hm).2; omega)
                    have HWZ := Lib.hid (show w.heap.size ≤ w2.heap.size by have := HB.out.size; omega)
                    clear g0
                    go_wp2_with (at_builtin; refine app_row rfl _ _ rfl w.heap.size _ _ gs _ rfl hr2.out _ _ [t, t + 1] rfl g1 G0.out HWZ.out HNW.out (by omega) (by have := hb2.out.size; omega) ?_; intro v9 w9 hr9 hg9)
                    have HR9 := Lib.hid (show Rows w9 w.heap.size v9 (m + 1 + 1) (gs ++ [w2.heap.size]) (prs (L' ++ [(x, y)] ++ [(t, t + 1)])) by
                      rw [prs_app (L' ++ [(x, y)])]; exact hr9)
                    have HB9 := Lib.hid (hb2.out.grown hg9 (by have := hb2.out.size; omega) (fun g hg => (hr2.out.own.lt g hg).1))
                    clear hr9 hg9
                    go_wp2_with fail
                    go_roundw
                    case rel => exact ⟨t + 1, _, by omega, by omega, rfl, by rw [HST2.out, show (L' ++ [(x, y)] ++ [(t, t + 1)]).length = m + 1 + 1 by rw [List.length_append, List.length_append, EM.out]; rfl]; exact HR9.out, HB9.out⟩
                    case measure => simp [intOf]; omega
            · obtain rfl : t = b := by omega
              have HR := Lib.hid hrw
              have HB := Lib.hid hbw
              clear hrw hbw
              go_wp2_with fail
              go_ret2
              rw [HF.out.1, HF.out.2.1, HF.out.2.2]
              first | exact ⟨_, _, rfl, HR.out, HB.out⟩ | exact ⟨_, rfl, ⟨_, HR.out⟩, HB.out⟩
end Go.Proofs.YtamehlafmfmgmaaDoor
