/- The laws' comparison of two lists of rows, where they are the same. Condition: both are owned. -/
import Derived.Test.YtamehlafmfmgmaaDoorQLists
import Derived.Test.YtamehlafmfmgmaaDoorRowsMem
import Derived.Test.YtamehlafmfmgmaaDoorRowsSmall
import Derived.Deep.RegionHeld3
namespace Go.Proofs.YtamehlafmfmgmaaDoor
open Go.RowKit
theorem small_at {rs : List (List Int)} (h : smallRows rs) {j : Nat} {r : List Int} (hr : rs[j]? = some r) : r.length ≤ 1000 := h.2 _ (List.mem_of_getElem? hr)
set_option maxRecDepth 100000 in
set_option maxHeartbeats 1000000 in
theorem qLists_same (v u : Value) (n lo lo2 : Nat) (gs hs : List Nat) (rs : List (List Int)) (w : World) (hv : Rows w lo v n gs rs) (hu : Rows w lo2 u n hs rs) (hr : smallRows rs) :
    Calls Tryd.prog 23 #[v, u] w fun e w' => e = .returned (.bool true) ∧ Below w.heap.size w w' := by
  obtain ⟨A, c, rfl⟩ := hv.form
  obtain ⟨C, d, rfl⟩ := hu.form
  have hlen : n ≤ 1000 := by rw [← hv.lr]; exact hr.1
  have Hv := Lib.hid hv
  have Hu := Lib.hid hu
  have Hr := Lib.hid hr
  have hnn : ((n : Int) != (n : Int)) = false := by simp
  clear hv hu hr
  go_enter Tryd.func23, Tryd.ntmps23
  go_wp2_with fail
  go_loopw [13] (fun i wr => ∃ j : Nat, j ≤ n ∧ i = .int .i64 j ∧ Below w.heap.size w wr) (fun i _ => n - (intOf i).toNat)
  case atStart => exact ⟨0, Nat.zero_le _, rfl, Below.refl _ _⟩
  case round =>
    obtain ⟨j, hj, rfl, hb⟩ := hrel
    by_cases hlt : j < n
    · obtain ⟨b, cp, g, r, e1, c0, hg, hrr, -, hk, -⟩ := Hv.out.at hlt
      obtain ⟨b', cp', g', r', e2, c1, hg', hrr', -, hk', -⟩ := Hu.out.at hlt
      simp only [Value.slice.injEq, true_and] at e1 e2
      obtain ⟨rfl, rfl⟩ := e1
      obtain ⟨rfl, rfl⟩ := e2
      obtain rfl : r = r' := Option.some.inj (hrr.symm.trans hrr')
      have hl := small_at Hr.out hrr
      have P := Lib.hid (fun W (hb : Below w.heap.size w W) => qInts_same (rowV g r) (rowV g' r) r.length w.heap.size r W ((rd_of_blk hk).below hb) ((rd_of_blk hk').below hb) hb.size (by omega))
      replace c0 := cell_on hb c0
      replace c1 := cell_on hb c1
      have j0 : (0 : Int) ≤ (j : Int) := by omega
      have j1 : (j : Int) < (n : Int) := by omega
      unfold rowV at c0 c1 P
      clear hg hrr hk hg' hrr' hk' hl
      go_wp2_with fail
      go_region_held3 (fun W => W.cell? ⟨b, j, none⟩ = some (.slice (some ⟨g, 0, none⟩) r.length r.length) ∧ W.cell? ⟨b', j, none⟩ = some (.slice (some ⟨g', 0, none⟩) r.length r.length) ∧ Below w.heap.size w W)
        (first | exact ⟨c0, c1, hb.drew⟩ | (go_split_ands; exact ⟨cell_on hb2 (by assumption), cell_on hb2 (by assumption), below_on (by assumption) hb2⟩) | go_keep)
        (first | (go_at_call 24; refine (P.out _ (by go_split_ands; assumption)).mono ?_; rintro e w2 ⟨rfl, hb2⟩))
      go_split_ands
      rename_i hb9
      have HB := Lib.hid hb9
      clear c0 c1 hb hb9
      go_wp2_with fail
      go_roundw
      case rel => exact ⟨j + 1, by omega, by go_num, HB.out⟩
      case measure => simp [intOf]; omega
    · go_wp2_with fail
      go_ret
      exact ⟨rfl, hb⟩
end Go.Proofs.YtamehlafmfmgmaaDoor
