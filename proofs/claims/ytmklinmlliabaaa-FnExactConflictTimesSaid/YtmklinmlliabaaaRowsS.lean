/- The laws' helpers on slices of slices of whole numbers: eqIntSS says true of two that hold the same rows, markIntSS writes k, k + 1 and so on, heldIntSS finds them again. Conditions: at most 1000 rows of at most 1000 numbers each, that the call owns. -/
import Derived.Test.YtmklinmlliabaaaRowsMem
import Derived.Deep.RegionHeld3
import Derived.Test.YtmklinmlliabaaaTransFn
namespace Go.Proofs.Ytmklinmlliabaaa
open Go.RowKit

/-- How many numbers the first j rows have. -/
def offs (rs : List (List Int)) : Nat → Nat
  | 0 => 0
  | j + 1 => offs rs j + (rs.getD j []).length
def markRs (rs : List (List Int)) (k : Int) : List (List Int) := (List.range rs.length).map fun j => marks (rs.getD j []).length (k + (offs rs j : Int))
/-- The first j rows marked. -/
def mkdRs (rs : List (List Int)) (k : Int) (j : Nat) : List (List Int) := (markRs rs k).take j ++ rs.drop j
theorem small_get {rs : List (List Int)} (h : smallRows rs) (j : Nat) : (rs.getD j []).length ≤ 1000 := by
  rw [List.getD_eq_getElem?_getD]
  by_cases hj : j < rs.length
  · rw [List.getElem?_eq_getElem hj]; exact h.2 _ (List.getElem_mem hj)
  · rw [List.getElem?_eq_none (by omega)]; simp
theorem offs_le {rs : List (List Int)} (h : smallRows rs) : ∀ j, offs rs j ≤ j * 1000
  | 0 => by simp [offs]
  | j + 1 => by have := offs_le h j; have := small_get h j; simp only [offs]; omega
theorem markRs_length (rs : List (List Int)) (k : Int) : (markRs rs k).length = rs.length := by simp [markRs]
theorem markRs_get (rs : List (List Int)) (k : Int) (j : Nat) (h : j < rs.length) : (markRs rs k)[j]? = some (marks (rs.getD j []).length (k + (offs rs j : Int))) := by
  simp [markRs, h]
theorem mkd_zero (rs : List (List Int)) (k : Int) : mkdRs rs k 0 = rs := by simp [mkdRs]
theorem mkd_all (rs : List (List Int)) (k : Int) : mkdRs rs k rs.length = markRs rs k := by
  have := markRs_length rs k
  rw [mkdRs, List.drop_length, List.append_nil, List.take_of_length_le (by omega)]
theorem mkd_get (rs : List (List Int)) (k : Int) (j i : Nat) (hi : i < rs.length) : (mkdRs rs k j)[i]? = if i < j then (markRs rs k)[i]? else rs[i]? := by
  simp only [mkdRs, List.getElem?_append, List.length_take, markRs_length, List.getElem?_take, List.getElem?_drop]
  by_cases h : i < j
  · rw [if_pos (by omega), if_pos h, if_pos h]
  · rw [if_neg (by omega), if_neg h]
    congr 1
    omega
theorem mkd_length (rs : List (List Int)) (k : Int) (j : Nat) : (mkdRs rs k j).length = rs.length := by
  simp only [mkdRs, List.length_append, List.length_take, markRs_length, List.length_drop]; omega
theorem mark_lens (rs : List (List Int)) (k : Int) (j i : Nat) (r : List Int) (h : (mkdRs rs k j)[i]? = some r) : r.length = (rs.getD i []).length := by
  have hi : i < rs.length := by
    have := (List.getElem?_eq_some_iff.1 h).1
    rwa [mkd_length] at this
  rw [mkd_get rs k j i hi] at h
  split at h
  · rw [markRs_get rs k i hi] at h
    injection h with h
    rw [← h, marks_length]
  · rw [List.getD_eq_getElem?_getD, h]; rfl
theorem rowVs_same {gs : List Nat} {rs ss : List (List Int)} (h : rs.length = ss.length) (hl : ∀ j, (rs.getD j []).length = (ss.getD j []).length) : rowVs gs rs = rowVs gs ss := by
  apply List.ext_getElem?
  intro j
  simp only [rowVs, List.getElem?_zipWith]
  cases hg : gs[j]? with
  | none => simp
  | some g =>
    by_cases hj : j < rs.length
    · have := hl j
      rw [List.getD_eq_getElem?_getD, List.getD_eq_getElem?_getD, List.getElem?_eq_getElem hj, List.getElem?_eq_getElem (by omega)] at this
      rw [List.getElem?_eq_getElem hj, List.getElem?_eq_getElem (by omega)]
      simp only [Option.getD_some] at this
      simp [rowV, this]
    · rw [List.getElem?_eq_none (by omega), List.getElem?_eq_none (by omega)]
/-- A row's block written anew with as many numbers. -/
theorem Rows.marked {w w' : World} {lo n : Nat} {v : Value} {gs : List Nat} {rs : List (List Int)} {k : Int} {j g : Nat} {r : List Int} (h : Rows w lo v n gs (mkdRs rs k j)) (hn : rs.length = n) (hj : j < n)
    (hg : gs[j]? = some g) (hr : r.length = (rs.getD j []).length) (ho : w'.ownsRow lo 3 1 (rowV g r) r.length (ints (marks r.length (k + (offs rs j : Int))))) (hgr : w.grownBy w' (some g)) : Rows w' lo v n gs (mkdRs rs k (j + 1)) := by
  have hlen : ∀ i, ((mkdRs rs k j).getD i []).length = ((mkdRs rs k (j + 1)).getD i []).length := by
    intro i
    rw [List.getD_eq_getElem?_getD, List.getD_eq_getElem?_getD]
    by_cases hi : i < rs.length
    · have a1 := List.getElem?_eq_getElem (show i < (mkdRs rs k j).length by rw [mkd_length]; exact hi)
      have a2 := List.getElem?_eq_getElem (show i < (mkdRs rs k (j + 1)).length by rw [mkd_length]; exact hi)
      rw [a1, a2]
      exact (mark_lens rs k j i _ a1).trans (mark_lens rs k (j + 1) i _ a2).symm
    · rw [List.getElem?_eq_none (by rw [mkd_length]; omega), List.getElem?_eq_none (by rw [mkd_length]; omega)]
  have hb : Blk w' g 3 (ints (marks r.length (k + (offs rs j : Int)))).toArray := blk_of_own ho (marks_length _ _)
  have hrj : j < (mkdRs rs k j).length := by rw [mkd_length]; omega
  have hgj := (h.row j g _ hg (List.getElem?_eq_getElem hrj))
  refine ⟨h.lg, by rw [mkd_length]; exact hn, ?_, h.nod, fun i g' r' hg' hr' => ?_⟩
  · rw [← rowVs_same (by rw [mkd_length, mkd_length]) hlen]
    refine h.own.kept hgr ?_
    have := own_blk_ne h.own hgj.2 (by decide)
    exact .inr this
  · have hi : i < rs.length := by
      have := (List.getElem?_eq_some_iff.1 hr').1
      rwa [mkd_length] at this
    rw [mkd_get rs k (j + 1) i hi] at hr'
    by_cases hij : i = j
    · subst hij
      rw [if_pos (by omega), markRs_get rs k i hi, ← hr] at hr'
      rw [hg] at hg'
      injection hg' with hg'
      injection hr' with hr'
      subst hg' hr'
      exact ⟨hgj.1, hb⟩
    · have hne : g' ≠ g := by
        intro e
        subst e
        have l1 := (List.getElem?_eq_some_iff.1 hg)
        have l2 := (List.getElem?_eq_some_iff.1 hg')
        exact hij ((List.getElem_inj h.nod).1 (l2.2.trans l1.2.symm))
      have : (mkdRs rs k j)[i]? = some r' := by
        rw [mkd_get rs k j i hi, ← hr']
        by_cases h1 : i < j
        · rw [if_pos h1, if_pos (by omega)]
        · rw [if_neg h1, if_neg (by omega)]
      have := h.row i g' r' hg' this
      exact ⟨this.1, this.2.grown hgr (fun e => hne (Option.some.inj e))⟩

set_option maxRecDepth 100000 in
set_option maxHeartbeats 1000000 in
theorem eqIntSS_same (v u : Value) (n lo lo2 : Nat) (gs hs : List Nat) (rs : List (List Int)) (w : World) (hv : Rows w lo v n gs rs) (hu : Rows w lo2 u n hs rs) (hr : smallRows rs) :
    Calls Try.prog 14 #[v, u] w fun e w' => e = .returned (.bool true) ∧ Below w.heap.size w w' := by
  obtain ⟨A, c, rfl⟩ := hv.form
  obtain ⟨C, d, rfl⟩ := hu.form
  have hlen : n ≤ 1000 := by rw [← hv.lr]; exact hr.1
  have Hv := Lib.hid hv
  have Hu := Lib.hid hu
  have Hr := Lib.hid hr
  have hnn : ((n : Int) != (n : Int)) = false := by simp
  clear hv hu hr
  go_enter Try.func14, Try.ntmps14
  go_wp2_with fail
  go_loopw [5] (fun i wr => ∃ j : Nat, j ≤ n ∧ i = .int .i64 j ∧ Below w.heap.size w wr) (fun i _ => n - (intOf i).toNat)
  case atStart => exact ⟨0, Nat.zero_le _, rfl, Below.refl _ _⟩
  case round =>
    obtain ⟨j, hj, rfl, hb⟩ := hrel
    by_cases hlt : j < n
    · obtain ⟨b, cp, g, r, e1, c0, hg, hrr, -, hk, -⟩ := Hv.out.at hlt
      obtain ⟨b', cp', g', r', e2, c1, hg', hrr', -, hk', -⟩ := Hu.out.at hlt
      simp only [Value.slice.injEq, true_and] at e1 e2
      obtain ⟨rfl, rfl⟩ := e1
      obtain ⟨rfl, rfl⟩ := e2
      obtain rfl : r = r' := Option.some.inj (hrr.symm.trans hrr')
      have hl := small_get Hr.out j
      rw [List.getD_eq_getElem?_getD, hrr, Option.getD_some] at hl
      have P := Lib.hid (fun W (hb : Below w.heap.size w W) => eqIntS_same (rowV g r) (rowV g' r) r.length w.heap.size r W ((rd_of_blk hk).below hb) ((rd_of_blk hk').below hb) hb.size (by omega))
      replace c0 := cell_on hb c0
      replace c1 := cell_on hb c1
      have j0 : (0 : Int) ≤ (j : Int) := by omega
      have j1 : (j : Int) < (n : Int) := by omega
      unfold rowV at c0 c1 P
      clear hg hrr hk hg' hrr' hk' hl
      go_wp2_with fail
      go_region_held3 (fun W => W.cell? ⟨b, j, none⟩ = some (.slice (some ⟨g, 0, none⟩) r.length r.length) ∧ W.cell? ⟨b', j, none⟩ = some (.slice (some ⟨g', 0, none⟩) r.length r.length) ∧ Below w.heap.size w W)
        (first | exact ⟨c0, c1, hb.drew⟩ | (go_split_ands; exact ⟨cell_on hb2 (by assumption), cell_on hb2 (by assumption), below_on (by assumption) hb2⟩) | go_keep)
        (first | (go_at_call 21; refine (P.out _ (by go_split_ands; assumption)).mono ?_; rintro e w2 ⟨rfl, hb2⟩))
      go_split_ands
      rename_i hb9
      have HB := Lib.hid hb9
      clear c0 c1 hb hb9
      go_wp2_with fail
      go_roundw
      case rel => exact ⟨j + 1, by omega, by go_num, HB.out⟩
      case measure => simp [intOf]; omega
    · go_wp2_with fail
      go_ret
      exact ⟨rfl, hb⟩
set_option maxRecDepth 100000 in
set_option maxHeartbeats 1000000 in
theorem markIntSS_any (v : Value) (n lo hi : Nat) (gs : List Nat) (rs : List (List Int)) (k : Int) (w : World) (hv : RowsIn w lo hi v n gs rs) (hr : smallRows rs) (hk0 : 0 ≤ k) (hk : k ≤ 1000) :
    Calls Try.prog 17 #[v, .int .i64 k] w fun e w' => e = .returned (.int .i64 (k + (offs rs n : Int))) ∧ RowsIn w' lo hi v n gs (markRs rs k) ∧ Only lo hi w w' := by
  obtain ⟨A, c, rfl⟩ := hv.1.form
  have hlr := hv.1.lr
  have hlen : n ≤ 1000 := by rw [← hlr]; exact hr.1
  have Hi := Lib.hid hv.2
  have Hv := Lib.hid hv.1
  have Hr := Lib.hid hr
  clear hv hr
  go_enter Try.func17, Try.ntmps17
  go_wp2_with fail
  go_loopw [1, 5] (fun q i wr => ∃ j : Nat, j ≤ n ∧ i = .int .i64 j ∧ q = .int .i64 (k + (offs rs j : Int)) ∧ Rows wr lo (.slice A n c) n gs (mkdRs rs k j) ∧ Only lo hi w wr) (fun _ i _ => n - (intOf i).toNat)
  case atStart => exact ⟨0, Nat.zero_le _, rfl, by simp [offs], by rw [mkd_zero]; exact Hv.out, Only.refl _ _ _⟩
  case round =>
    obtain ⟨j, hj, rfl, rfl, ho, hon⟩ := hrel
    have HO := Lib.hid ho
    have HN := Lib.hid hon
    clear ho hon
    by_cases hlt : j < n
    · obtain ⟨b, cp, g, r, e1, c0, hg, hrr, -, hkb, hlo⟩ := HO.out.at hlt
      simp only [Value.slice.injEq, true_and] at e1
      obtain ⟨rfl, rfl⟩ := e1
      have hl := small_get Hr.out j
      have hrl := mark_lens rs k j j r hrr
      have hof := offs_le Hr.out j
      have hs : (offs rs (j + 1) : Int) = (offs rs j : Int) + (r.length : Int) := by rw [hrl]; simp [offs]
      obtain ⟨q, eq⟩ : ∃ q, k + (offs rs j : Int) = q := ⟨_, rfl⟩
      have hq0 : 0 ≤ q ∧ q ≤ 1099511627776 := by omega
      have P := markIntS_any (rowV g r) r.length lo (ints r) q wr (own_of_blk hkb hlo (by unfold maxLen; omega)) hq0.1 hq0.2 (by omega)
      have HE := Lib.hid (show k + (offs rs (j + 1) : Int) = q + (r.length : Int) by rw [hs]; omega)
      have HG := Lib.hid hg
      have HL := Lib.hid hrl
      have EQ := Lib.hid eq
      have hgi : g < hi := Hi.out g (.inr (List.mem_of_getElem? hg))
      have hlo2 : lo ≤ g := hlo
      have HP := Lib.hid P
      rw [eq]
      unfold rowV at c0 HP
      have j0 : (0 : Int) ≤ (j : Int) := by omega
      have j1 : (j : Int) < (n : Int) := by omega
      clear hg hrr hkb hlo hl hrl hof hs eq hq0 P
      go_wp2_with fail
      refine HP.out.mono ?_
      rintro e w2 ⟨rfl, o2, g2⟩
      have HO2 := Lib.hid (HO.out.marked (by omega) hlt HG.out HL.out (by rw [EQ.out]; exact o2) g2)
      have HN2 := Lib.hid (HN.out.trans (Only.of_grown g2 (fun x hx => by simp only [Value.ownBlock, Option.some.injEq] at hx; subst hx; exact ⟨hlo2, hgi⟩)))
      clear o2 g2 c0 HP
      go_wp2_with fail
      go_roundw
      case rel => exact ⟨j + 1, by omega, by go_num, by rw [HE.out], HO2.out, HN2.out⟩
      case measure => simp [intOf]; omega
    · obtain rfl : j = n := by omega
      have HO2 := Lib.hid (show Rows wr lo (.slice A j c) j gs (markRs rs k) by have := HO.out; rw [← hlr, mkd_all] at this; rw [← hlr]; exact this)
      go_wp2_with fail
      go_ret
      exact ⟨rfl, ⟨HO2.out, Hi.out⟩, HN.out⟩
set_option maxRecDepth 100000 in
set_option maxHeartbeats 1000000 in
theorem heldIntSS_marks (v : Value) (n lo : Nat) (gs : List Nat) (rs : List (List Int)) (k : Int) (w : World) (hv : Rows w lo v n gs (markRs rs k)) (hr : smallRows rs) (hk0 : 0 ≤ k) (hk : k ≤ 1000) :
    Calls Try.prog 18 #[v, .int .i64 k] w fun e w' => e = .returned (.int .i64 (k + (offs rs n : Int))) ∧ w = w' := by
  obtain ⟨A, c, rfl⟩ := hv.form
  have hlr := hv.lr
  rw [markRs_length] at hlr
  have hlen : n ≤ 1000 := by rw [← hlr]; exact hr.1
  have Hv := Lib.hid hv
  have Hr := Lib.hid hr
  clear hv hr
  go_enter Try.func18, Try.ntmps18
  go_wp2_with fail
  go_loop [1, 5] (fun q i => ∃ j : Nat, j ≤ n ∧ i = .int .i64 j ∧ q = .int .i64 (k + (offs rs j : Int))) (fun _ i => n - (intOf i).toNat)
  case atStart => exact ⟨0, Nat.zero_le _, rfl, by simp [offs]⟩
  case round =>
    obtain ⟨j, hj, rfl, rfl⟩ := hrel
    by_cases hlt : j < n
    · obtain ⟨b, cp, g, r, e1, c0, hg, hrr, -, hkb, hlo⟩ := Hv.out.at hlt
      simp only [Value.slice.injEq, true_and] at e1
      obtain ⟨rfl, rfl⟩ := e1
      have hl := small_get Hr.out j
      have hof := offs_le Hr.out j
      rw [markRs_get rs k j (by omega)] at hrr
      injection hrr with hrr
      obtain ⟨m, em⟩ : ∃ m, (rs.getD j []).length = m := ⟨_, rfl⟩
      have hs : (offs rs (j + 1) : Int) = (offs rs j : Int) + (m : Int) := by rw [← em]; simp [offs]
      rw [em] at hrr hl
      obtain ⟨q, eq⟩ : ∃ q, k + (offs rs j : Int) = q := ⟨_, rfl⟩
      rw [eq] at hrr
      have hq0 : 0 ≤ q ∧ q ≤ 1099511627776 := by omega
      have hrd := rd_of_blk hkb
      have hrl : r.length = m := by rw [← hrr, marks_length]
      rw [hrl, ← hrr] at hrd
      have P := heldIntS_marks (rowV g (marks m q)) m w.heap.size q w hrd hq0.1 hq0.2 (by omega)
      have HE := Lib.hid (show k + (offs rs (j + 1) : Int) = q + (m : Int) by rw [hs]; omega)
      rw [← hrr] at c0
      unfold rowV at c0 P
      rw [marks_length] at c0 P
      have HP := Lib.hid P
      have j0 : (0 : Int) ≤ (j : Int) := by omega
      have j1 : (j : Int) < (n : Int) := by omega
      have hneg : ¬ q + (m : Int) < 0 := by omega
      rw [eq]
      clear hg hrr hkb hlo hl hof hs eq hrd hrl P
      go_wp2_with fail
      refine HP.out.mono ?_
      rintro e w2 ⟨rfl, rfl⟩
      go_wp2_with fail
      go_round
      case rel => exact ⟨j + 1, by omega, by go_num, by rw [HE.out]⟩
      case measure => simp [intOf]; omega
    · obtain rfl : j = n := by omega
      go_wp2_with fail
      go_ret
      exact ⟨rfl, rfl⟩
end Go.Proofs.Ytmklinmlliabaaa
