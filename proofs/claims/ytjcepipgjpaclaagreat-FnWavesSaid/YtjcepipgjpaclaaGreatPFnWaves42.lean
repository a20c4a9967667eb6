/- Contracts of the laws' own comparisons and questions on lists of numbers, rows and moves, of TransitionMoves on both sides, and of the program's StayApart. Conditions: the lists can be read. -/
import Derived.Test.YtjcepipgjpaclaaGreatPFnWaves41
import Derived.Test.YtjcepipgjpaclaaGreatPFnWaves03
import Derived.Test.YtjcepipgjpaclaaGreatPFnWaves23
import Derived.Test.YtjcepipgjpaclaaGreatPFnWaves35
import Derived.Test.YtjcepipgjpaclaaGreatPFnWaves12
import Derived.Deep.RegionHeld3
namespace Go.Proofs.YtjcepipgjpaclaaGreat
open Go.RowKit

theorem small_at2 {rs : List (List Int)} (h : smallRows rs) {j : Nat} {r : List Int} (hr : rs[j]? = some r) : r.length ≤ 1000 := h.2 _ (List.mem_of_getElem? hr)
set_option maxRecDepth 100000 in
set_option maxHeartbeats 1000000 in
theorem sameLists_same (v u : Value) (n lo lo2 : Nat) (gs hs : List Nat) (rs : List (List Int)) (w : World) (hv : Rows w lo v n gs rs) (hu : Rows w lo2 u n hs rs) (hr : smallRows rs) :
    Calls Tryz.prog 15 #[v, u] w fun e w' => e = .returned (.bool true) ∧ Below w.heap.size w w' := by
  obtain ⟨A, c, rfl⟩ := hv.form
  obtain ⟨C, d, rfl⟩ := hu.form
  have hlen : n ≤ 1000 := by rw [← hv.lr]; exact hr.1
  have Hv := Lib.hid hv
  have Hu := Lib.hid hu
  have Hr := Lib.hid hr
  have hnn : ((n : Int) != (n : Int)) = false := by simp
  clear hv hu hr
  go_enter Tryz.func15, Tryz.ntmps15
  go_wp2_with fail
  go_loopw [13] (fun i wr => ∃ j : Nat, j ≤ n ∧ i = .int .i64 j ∧ Below w.heap.size w wr) (fun i _ => n - (intOf i).toNat)
  case atStart => exact ⟨0, Nat.zero_le _, rfl, Below.refl _ _⟩
  case round =>
    obtain ⟨j, hj, rfl, hb⟩ := hrel
    by_cases hlt : j < n
    · obtain ⟨b, cp, g, r, e1, c0, hg, hrr, -, hk, -⟩ := Hv.out.at hlt
      obtain ⟨b', cp', g', r', e2, c1, hg', hrr', -, hk', -⟩ := Hu.out.at hlt
      simp only [Value.slice.injEq, true_and] at e1 e2
      obtain ⟨rfl, rfl⟩ := e1
      obtain ⟨rfl, rfl⟩ := e2
      obtain rfl : r = r' := Option.some.inj (hrr.symm.trans hrr')
      have hl := small_at2 Hr.out hrr
      have P := Lib.hid (fun W (hb : Below w.heap.size w W) => sameInts_same (rowV g r) (rowV g' r) r.length w.heap.size r W ((rd_of_blk hk).below hb) ((rd_of_blk hk').below hb) hb.size (by omega))
      replace c0 := cell_on hb c0
      replace c1 := cell_on hb c1
      have j0 : (0 : Int) ≤ (j : Int) := by omega
      have j1 : (j : Int) < (n : Int) := by omega
      unfold rowV at c0 c1 P
      clear hg hrr hk hg' hrr' hk' hl
      go_wp2_with fail
      go_region_held3 (fun W => W.cell? ⟨b, j, none⟩ = some (.slice (some ⟨g, 0, none⟩) r.length r.length) ∧ W.cell? ⟨b', j, none⟩ = some (.slice (some ⟨g', 0, none⟩) r.length r.length) ∧ Below w.heap.size w W)
        (first | exact ⟨c0, c1, hb.drew⟩ | (go_split_ands; exact ⟨cell_on hb2 (by assumption), cell_on hb2 (by assumption), below_on (by assumption) hb2⟩) | go_keep)
        (first | (go_at_call 14; refine (P.out _ (by go_split_ands; assumption)).mono ?_; rintro e w2 ⟨rfl, hb2⟩))
      go_split_ands
      rename_i hb9
      have HB := Lib.hid hb9
      clear c0 c1 hb hb9
      go_wp2_with fail
      go_roundw
      case rel => exact ⟨j + 1, by omega, by go_num, HB.out⟩
      case measure => simp [intOf]; omega
    · go_wp2_with fail
      go_ret
      exact ⟨rfl, hb⟩
set_option maxHeartbeats 1000000 in
theorem pIn_any (v : Value) (n B : Nat) (xs : List Int) (x : Int) (w : World) (hv : RdP w B 1 v n xs) (hB : B ≤ w.heap.size) (hn : n ≤ 1099511627776) :
    Calls Tryz.prog 16 #[v, .int .i64 x] w fun e w' => e = .returned (.bool (hasI xs n x)) ∧ w = w' := by
  obtain ⟨A, c, rfl, hA⟩ := hv
  go_enter Tryz.func16, Tryz.ntmps16
  go_wp2_with fail
  go_loop [9] (fun i => ∃ k : Nat, k ≤ n ∧ i = .int .i64 k ∧ (∀ j, j < k → ¬ xs.getD j 0 = x)) (fun i => n - (intOf i).toNat)
  case atStart => exact ⟨0, Nat.zero_le _, rfl, fun j h => absurd h (by omega)⟩
  case round =>
    obtain ⟨k, hk, rfl, hno⟩ := hrel
    have HN := Lib.hid hno
    clear hno
    by_cases hlt : k < n
    · obtain ⟨b, off, rfl, hbB, hc⟩ := hA (by omega)
      have hc0 := hc k (by omega)
      obtain ⟨p, ep⟩ : ∃ p, xs.getD k 0 = p := ⟨_, rfl⟩
      rw [ep] at hc0
      have EP := Lib.hid ep
      clear hc hA ep
      by_cases heq : p = x
      · have HY := Lib.hid (hasI_yes (xs := xs) (n := n) (x := x) hlt (EP.out.trans heq))
        subst heq
        go_wp2_with fail
        go_ret
        exact ⟨by rw [HY.out]; rfl, rfl⟩
      · go_wp2_with fail
        go_round
        case rel =>
          refine ⟨k + 1, by omega, by go_num, fun j hj => ?_⟩
          rcases Nat.lt_succ_iff_lt_or_eq.1 hj with h | rfl
          · exact HN.out j h
          · rw [EP.out]; assumption
        case measure => simp [intOf]; omega
    · obtain rfl : k = n := by omega
      have HY := Lib.hid (hasI_no HN.out)
      clear hA
      go_wp2_with fail
      go_ret
      exact ⟨by rw [HY.out]; rfl, rfl⟩
end Go.Proofs.YtjcepipgjpaclaaGreat
