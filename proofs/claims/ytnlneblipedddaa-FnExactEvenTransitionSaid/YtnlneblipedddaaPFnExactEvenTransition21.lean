/- A contract of the reference's table of least sums over sets of columns. Conditions: at most twelve rows of as many costs, each between 0 and 2100000, in memory that can be read. A contract of the reference's squares of all ways between two charts. Conditions: at most twelve spots each, all on the field, in memory that can be read. A contract of the reference's first least matching. Conditions: at most twelve rows of as many costs, each between 0 and 2100000, in memory that can be read. A contract of the reference's matching with no cost above a bound. Conditions: at most twelve rows of as many costs, each between 0 and 2100000, in memory that can be read; the bound is no less than 0. The least bound that a search over the sorted costs finds, and the matching within it: plain laws. Condition: costs between 0 and 2100000, at most twelve columns. Contracts of the checks of costs on both sides, where they are valid. Conditions: at most twelve rows of as many costs, each between 0 and 2100000, in memory that can be read. Sums, farthest moves and swaps of transitions: plain laws. Condition: a good transition. A contract of the program's squares of all ways between two charts. Conditions: at most twelve spots each, all on the field, in memory that can be read. -/
import Derived.Test.YtnlneblipedddaaPFnExactEvenTransition03
import Derived.Test.YtnlneblipedddaaPFnExactEvenTransition04
import Derived.Test.YtnlneblipedddaaPFnExactEvenTransition20
import Derived.StillTailTactics
import Derived.Test.YtnlneblipedddaaPFnExactEvenTransition01
import Derived.Test.YtnlneblipedddaaPFnExactEvenTransition02
import Derived.BigQuiet
import Derived.Deep.QuietTactic
import Derived.Test.YtnlneblipedddaaPFnExactEvenTransition19
namespace Go.Proofs.Ytnlneblipedddaa
open Go.RowKit

/-- The cost of row i and column k. -/
def cst (rs : List (List Int)) (i k : Nat) : Int := (rs.getD i []).getD k 0
/-- As many rows as columns. -/
def Sq (n : Nat) (rs : List (List Int)) : Prop := ∀ j, j < n → (rs.getD j []).length = n
theorem pop_step (s k : Nat) : (popc s k : Int) + bitI s k = (popc s (k + 1) : Int) := by
  rw [popc, bitI]
  cases s.testBit k <;> simp
theorem i64_u64 (k : Nat) (h : k ≤ 20) : IntKind.u64.wrap (k : Int) = (k : Int) := by
  simp [IntKind.wrap, IntKind.bits, IntKind.signed]
  omega
theorem flip_q {P : Program} {f : FuncId} {args : Array Value} {w : World} {v : Value} (h : Calls P f args w fun e w' => e = .returned v ∧ w = w') :
    Calls P f args w fun e w' => e = .returned v ∧ w' = w := h.mono fun _ _ ⟨he, hm⟩ => ⟨he, hm.symm⟩
theorem set_next {s M : Nat} (h : s < M) (hM : M ≤ 4096) : IntKind.i64.wrap ((s : Int) + 1) = (s : Int) + 1 := IntWalk.i64_in _ (by omega)
theorem one_shl3 (k : Nat) (hk : k ≤ 20) : IntKind.i64.wrap (2 ^ k) = (2 : Int) ^ k := by
  have := one_shl2 k hk
  rw [IntKind.wrap_i64]
  unfold wrap64 at this
  exact this
set_option maxRecDepth 100000 in
set_option maxHeartbeats 4000000 in
theorem maTable_any (B n : Nat) (v : Value) (rs : List (List Int)) (w : World) (h : RdR w B v n rs) (hB : B ≤ w.heap.size) (hn0 : 1 ≤ n) (hn : n ≤ 12) (hr : Sq n rs) (hC : CostOk (cst rs)) :
    Calls Try.prog 69 #[v] w fun e w' => ∃ u, e = .returned u ∧ w'.ownsRow w.heap.size 3 1 u (2 ^ n) (ints (tbL (cst rs) n (2 ^ n))) ∧ Below w.heap.size w w' := by
  obtain ⟨A, c, rfl⟩ := h.form
  have H := Lib.hid h
  have HSQ := Lib.hid hr
  have HC := Lib.hid hC
  obtain ⟨M, eM⟩ : ∃ M : Nat, 2 ^ n = M := ⟨_, rfl⟩
  have hM1 : 1 ≤ M := by rw [← eM]; exact Nat.two_pow_pos n
  have hM2 : M ≤ 4096 := by rw [← eM]; exact Nat.pow_le_pow_right (by decide) hn
  have sh : wrap64 (2 ^ n) = (M : Int) := by rw [one_shl2 n (by omega), ← eM]; exact_mod_cast rfl
  have cv := i64_u64 n (by omega)
  have EM := Lib.hid eM
  rw [eM]
  clear h hr hC eM
  obtain ⟨i0, hi, hz0, hz1, hz2⟩ := info_parts intInfo
  have hz2' : i0.bytes * M ≤ 281474976710656 := by rw [hz2]; omega
  go_enter Try.func69, Try.ntmps69
  go_wp2_with (at_make; rw [sh]; refine wpList_make_full _ rfl (.tmp 14) (.tmp 14) 27 rfl w.heap.size 3 i0 (.int .i64 0) 1 Try.underlying27 hi hz0 hz1 .i64 .i64 M M M rfl rfl rfl rfl hz2' (by unfold maxLen; omega) (by first | exact Nat.le_refl _ | simp) ?_; intro w3 hown1 hg1)
  rw [Nat.mul_one, madeInts] at hown1
  have HO3 := Lib.hid (show w3.ownsRow w.heap.size 3 1 (.slice (some ⟨w.heap.size, 0, none⟩) M M) M (ints (tbL (cst rs) n 1)) by rw [tbL_one, EM.out]; exact hown1)
  have HB3 := Lib.hid ((Below.refl w.heap.size w).grown hg1 (Nat.le_refl _) (by simp))
  clear hown1 hg1 hi hz0 hz1 hz2 hz2'
  go_loopw [5] (fun i wr => ∃ s : Nat, 1 ≤ s ∧ s ≤ M ∧ i = .int .i64 s ∧ wr.ownsRow w.heap.size 3 1 (.slice (some ⟨w.heap.size, 0, none⟩) M M) M (ints (tbL (cst rs) n s)) ∧ Below w.heap.size w wr) (fun i _ => M - (intOf i).toNat)
  case atStart => exact ⟨1, by omega, hM1, rfl, HO3.out, HB3.out⟩
  case round =>
    clear HO3 HB3
    obtain ⟨s, hs1, hs2, rfl, hown, hb⟩ := hrel
    have HO := Lib.hid hown
    have HB := Lib.hid hb
    clear hown hb
    by_cases hlt : s < M
    · have hs20 : s < 2 ^ 62 := by omega
      obtain ⟨wo, ewo⟩ : ∃ wo, wr = wo := ⟨_, rfl⟩
      rw [ewo] at HO HB ⊢
      clear ewo
      go_wp2_with fail
      rw [sh]
      go_loopw [6, 7] (fun z i wr => ∃ k : Nat, k ≤ n ∧ i = .int .i64 k ∧ z = .int .i64 (popc s k) ∧ wr = wo) (fun _ i _ => n - (intOf i).toNat)
      case atStart => exact ⟨0, by omega, rfl, rfl, rfl⟩
      case round =>
        obtain ⟨k, hk, rfl, rfl, rfl⟩ := hrel
        by_cases hlk : k < n
        · have c1 := i64_u64 k (by omega)
          have b1 := bit_at2 s k hs20
          have p1 := pop_step s k
          have p2 := popc_le s (k + 1)
          obtain ⟨z, ez⟩ : ∃ z, popc s k = z := ⟨_, rfl⟩
          obtain ⟨y, ey⟩ : ∃ y, popc s (k + 1) = y := ⟨_, rfl⟩
          rw [ez, ey] at p1
          rw [ey] at p2
          rw [ez]
          have i1 := IntWalk.i64_in (y : Int) (by omega)
          have EY := Lib.hid ey
          clear ez ey
          go_wp2_with fail
          go_roundw
          case rel => exact ⟨k + 1, by omega, by go_num, by rw [EY.out], trivial⟩
          case measure => simp [intOf]; omega
        · obtain rfl : k = n := by omega
          have hsne : s ≠ 0 := by omega
          have hsn : s < 2 ^ k := by rw [EM.out]; exact hlt
          have z1 : 1 ≤ popc s k := by
            obtain ⟨j, hj, hb⟩ := bit_some hsne hsn
            exact popc_pos hb hj
          have z2 := popc_le s k
          have HTB := Lib.hid (tb_pos (cst rs) k hsne)
          have HBD := Lib.hid (tb_bound HC.out k)
          obtain ⟨z, ez⟩ : ∃ z, popc s k = z := ⟨_, rfl⟩
          rw [ez] at z1 z2 HTB ⊢
          obtain ⟨q, hq⟩ : ∃ q : Nat, k - z = q := ⟨_, rfl⟩
          have hqk : q < k := by omega
          rw [hq] at HTB
          have q1 : (k : Int) - (z : Int) = (q : Int) := by omega
          have q2 := IntWalk.i64_in (q : Int) (by omega)
          have q3 : (0 : Int) ≤ (q : Int) := by omega
          have q4 : (q : Int) < (k : Int) := by omega
          obtain ⟨A', c', ev, hrr⟩ := H.out
          simp only [Value.slice.injEq, true_and] at ev
          obtain ⟨rfl, rfl⟩ := ev
          obtain ⟨b, off, rfl, hbB, hrow⟩ := hrr (by omega)
          obtain ⟨sv, k0, -, A2, c2, rfl, hx⟩ := hrow q hqk
          rw [HSQ.out q hqk] at hx k0
          obtain ⟨g, o2, rfl, hgB, hx⟩ := hx (by omega)
          have hbw : b < w.heap.size := by omega
          have HX := Lib.hid hx
          have HGW := Lib.hid (show g < w.heap.size by omega)
          have HRC := Lib.hid (show ∀ j, (rs.getD q []).getD j 0 = cst rs q j from fun j => rfl)
          have r0 := (HB.out.cell (p := ⟨b, off + q, none⟩) hbw).trans k0
          have hll := tbL_length (cst rs) k s
          rw [EM.out] at hll
          have s1 : (0 : Int) ≤ (s : Int) := by omega
          have s2 : (s : Int) < (M : Int) := by omega
          have f0 := HO.out.frozenAt s
          have x0 := (HO.out.cellAt s (by omega)).trans (ints_get _ s (by omega))
          have hst := (HO.out.stored s (.int .i64 1000000000)).1
          rw [ints_set] at hst
          have HO1 := Lib.hid hst
          have HB1 := Lib.hid (HB.out.setCell (p := ⟨w.heap.size, s, none⟩) (Nat.le_refl _) (.int .i64 1000000000))
          have HLT := Lib.hid (fun j (hj : j < s) => tbL_get (C := cst rs) (n := k) hj (by rw [EM.out]; omega))
          obtain ⟨L, eL⟩ : ∃ L, tbL (cst rs) k s = L := ⟨_, rfl⟩
          have EL := Lib.hid eL
          rw [eL] at hll HO1 HLT
          have ES := Lib.hid hq
          clear hst ez hq k0 eL H hrr hrow hx
          go_wp2_with fail
          have HZ0 := Lib.hid (show tbK 1000000000 (cst rs) (tb (cst rs) k) q s 0 = 1000000000 from rfl)
          clear r0 f0 x0
          go_loopw [45] (fun i wr => ∃ m : Nat, m ≤ k ∧ i = .int .i64 m ∧ wr.ownsRow w.heap.size 3 1 (.slice (some ⟨w.heap.size, 0, none⟩) M M) M (ints (L.set s (tbK 1000000000 (cst rs) (tb (cst rs) k) q s m))) ∧ Below w.heap.size w wr) (fun i _ => k - (intOf i).toNat)
          case atStart => exact ⟨0, by omega, rfl, by rw [HZ0.out]; exact HO1.out, HB1.out⟩
          case round =>
            clear HO HB HO1 HB1
            obtain ⟨m, hm, rfl, hown, hb⟩ := hrel
            have HO := Lib.hid hown
            have HB := Lib.hid hb
            clear hown hb
            by_cases hlm : m < k
            · have x1 := HX.out m (by omega)
              rw [HRC.out] at x1
              have x0 := (HB.out.cell (p := ⟨g, o2 + m, none⟩) HGW.out).trans x1
              have xb := HC.out q m
              have tkl := tbK_le (D := 1000000000) (C := cst rs) (T := tb (cst rs) k) (r := q) (s := s) m
              have tkn := tbK_nonneg (D := 1000000000) (C := cst rs) (T := tb (cst rs) k) (r := q) (s := s) (by omega) (fun j => (HC.out q j).1) (fun j _ => (HBD.out j).1) m
              have tks := (show tbK 1000000000 (cst rs) (tb (cst rs) k) q s (m + 1) = if s.testBit m then min (tbK 1000000000 (cst rs) (tb (cst rs) k) q s m) (cst rs q m + tb (cst rs) k (s ^^^ 2 ^ m)) else tbK 1000000000 (cst rs) (tb (cst rs) k) q s m from rfl)
              have tyb := HBD.out (s ^^^ 2 ^ m)
              have hcell : s.testBit m = true → wr.cell? ⟨w.heap.size, s ^^^ 2 ^ m, none⟩ = some (.int .i64 (tb (cst rs) k (s ^^^ 2 ^ m))) := by
                intro hbit
                have hx := xor_lt hbit
                have := (HO.out.cellAt (s ^^^ 2 ^ m) (by omega)).trans (ints_get _ _ (by rw [List.length_set, hll]; omega))
                rw [this]
                congr 2
                rw [← HLT.out _ hx]
                simp only [List.getD_eq_getElem?_getD, List.getElem?_set]
                rw [if_neg (by omega)]
              obtain ⟨x, ex⟩ : ∃ x, cst rs q m = x := ⟨_, rfl⟩
              obtain ⟨t, et⟩ : ∃ x, tbK 1000000000 (cst rs) (tb (cst rs) k) q s m = x := ⟨_, rfl⟩
              obtain ⟨y, ey⟩ : ∃ x, tb (cst rs) k (s ^^^ 2 ^ m) = x := ⟨_, rfl⟩
              rw [ex] at x0 xb tks
              rw [et] at tkl tkn tks HO
              rw [ey] at tyb tks hcell
              have m0 : (0 : Int) ≤ (m : Int) := by omega
              have m1 : (m : Int) < (k : Int) := by omega
              have c1 := i64_u64 m (by omega)
              have b1 := bit_at2 s m hs20
              have HS := Lib.hid tks
              have HCL := Lib.hid hcell
              clear x1 ex et ey tks hcell
              cases hbit : s.testBit m with
              | false =>
                have b2 : bitI s m = 0 := by simp [bitI, hbit]
                rw [b2] at b1
                have HS2 := Lib.hid (show tbK 1000000000 (cst rs) (tb (cst rs) k) q s (m + 1) = t by rw [HS.out, hbit]; rfl)
                clear hbit b2
                go_wp2_with fail
                go_roundw
                case rel => exact ⟨m + 1, by omega, by go_num, by rw [HS2.out]; exact HO.out, HB.out⟩
                case measure => simp [intOf]; omega
              | true =>
                have b2 : bitI s m = 1 := by simp [bitI, hbit]
                rw [b2] at b1
                have HS2 := Lib.hid (show tbK 1000000000 (cst rs) (tb (cst rs) k) q s (m + 1) = min t (x + y) by rw [HS.out, hbit]; rfl)
                have c2 := HCL.out hbit
                have sh1 := one_shl3 m (by omega)
                have fl := bit_flip s m (by omega) (by omega)
                have hxl := xor_lt hbit
                obtain ⟨u, eu⟩ : ∃ u, s ^^^ 2 ^ m = u := ⟨_, rfl⟩
                rw [eu] at c2 fl hxl
                have u0 : (0 : Int) ≤ (u : Int) := by omega
                have u1 : (u : Int) < (M : Int) := by omega
                have i1 := IntWalk.i64_in (x + y) (by omega)
                have f0 := HO.out.frozenAt s
                have t0 := (HO.out.cellAt s (by omega)).trans (ints_get _ s (by rw [List.length_set, hll]; exact hlt))
                have e0 : (L.set s t).getD s 0 = t := by
                  simp only [List.getD_eq_getElem?_getD, List.getElem?_set]
                  simp [show s < L.length by omega]
                rw [e0] at t0
                have hst := (HO.out.stored s (.int .i64 (min t (x + y)))).1
                rw [ints_set, List.set_set] at hst
                have HO2 := Lib.hid hst
                have HB2 := Lib.hid (HB.out.setCell (p := ⟨w.heap.size, s, none⟩) (Nat.le_refl _) (.int .i64 (min t (x + y))))
                clear hbit b2 e0 eu hst
                go_wp2_with fail
                refine wp_region_still_tail 18 (by kernel_rfl) (by kernel_rfl) ?_
                simp only [List.take_succ_cons, List.take_zero, List.drop_succ_cons, List.drop_zero]
                repeat (first | still_step | still_call (flip_q (l1Least_any _ _ _)))
                try refine wpStill_nil ?_
                go_wp2_with fail
                go_roundw
                case rel => exact ⟨m + 1, by omega, by go_num, by rw [HS2.out]; exact HO2.out, HB2.out.drew⟩
                case measure => simp [intOf]; omega
            · obtain rfl : m = k := by omega
              have HO2 := Lib.hid (show wr.ownsRow w.heap.size 3 1 (.slice (some ⟨w.heap.size, 0, none⟩) M M) M (ints (tbL (cst rs) m (s + 1))) by
                rw [← tbL_set (C := cst rs) (n := m) (by rw [EM.out]; exact hlt), EL.out, HTB.out]; exact HO.out)
              have i1 := set_next hlt hM2
              clear hs20 hsn
              go_wp2_with fail
              go_roundw
              case rel => exact ⟨s + 1, Nat.le_add_left 1 s, hlt, by go_num, HO2.out, HB.out⟩
              case measure => simp [intOf]; exact Nat.sub_lt_sub_left hlt (Nat.lt_succ_self s)
    · obtain rfl : s = M := by omega
      go_wp2_with fail
      go_ret
      exact ⟨_, rfl, HO.out, HB.out⟩
end Go.Proofs.Ytnlneblipedddaa

namespace Go.Proofs.Ytnlneblipedddaa
open Go.RowKit

/-- The squares of the ways from spot i to the first k spots; the rows of the first i spots. -/
def coRow (xs ys : List Int) (i : Nat) : Nat → List Int
  | 0 => []
  | k + 1 => coRow xs ys i k ++ [sqL (X xs i) (Y xs i) (X ys k) (Y ys k)]
def coRs (xs ys : List Int) (m : Nat) : Nat → List (List Int)
  | 0 => []
  | i + 1 => coRs xs ys m i ++ [coRow xs ys i m]
theorem coRow_length (xs ys : List Int) (i : Nat) : ∀ k, (coRow xs ys i k).length = k
  | 0 => rfl
  | k + 1 => by simp [coRow, coRow_length xs ys i k]
theorem coRs_length (xs ys : List Int) (m : Nat) : ∀ i, (coRs xs ys m i).length = i
  | 0 => rfl
  | i + 1 => by simp [coRs, coRs_length xs ys m i]
theorem coRow_get (xs ys : List Int) (i : Nat) : ∀ {k j}, j < k → (coRow xs ys i k).getD j 0 = sqL (X xs i) (Y xs i) (X ys j) (Y ys j)
  | k + 1, j, h => by
    have hl := coRow_length xs ys i k
    rw [coRow, List.getD_eq_getElem?_getD]
    by_cases e : j = k
    · subst e
      rw [List.getElem?_append_right (by omega), hl, Nat.sub_self]
      rfl
    · rw [List.getElem?_append_left (by omega), ← List.getD_eq_getElem?_getD]
      exact coRow_get xs ys i (by omega)
theorem coRs_get (xs ys : List Int) (m : Nat) : ∀ {k j}, j < k → (coRs xs ys m k).getD j [] = coRow xs ys j m
  | k + 1, j, h => by
    have hl := coRs_length xs ys m k
    rw [coRs, List.getD_eq_getElem?_getD]
    by_cases e : j = k
    · subst e
      rw [List.getElem?_append_right (by omega), hl, Nat.sub_self]
      rfl
    · rw [List.getElem?_append_left (by omega), ← List.getD_eq_getElem?_getD]
      exact coRs_get xs ys m (by omega)
theorem co_sq (xs ys : List Int) (n : Nat) : Sq n (coRs xs ys n n) := fun j hj => by rw [coRs_get xs ys n hj, coRow_length]
theorem co_cst {xs ys : List Int} {n i k : Nat} (hi : i < n) (hk : k < n) : cst (coRs xs ys n n) i k = sqL (X xs i) (Y xs i) (X ys k) (Y ys k) := by
  unfold cst
  rw [coRs_get xs ys n hi, coRow_get xs ys i hk]
theorem sq_in {x y z u : Int} (h : spotB x y = true) (k : spotB z u = true) : 0 ≤ sqL x y z u ∧ sqL x y z u ≤ 2100000 := by
  have h1 := spotB_yes h
  have h2 := spotB_yes k
  have a := mul_wide (x := x - z) (y := x - z) (a := 1280) (b := 1280) (by omega) (by omega) (by omega) (by omega)
  have b := mul_wide (x := y - u) (y := y - u) (a := 672) (b := 672) (by omega) (by omega) (by omega) (by omega)
  have c : 0 ≤ (x - z) * (x - z) := sq0 _
  have d : 0 ≤ (y - u) * (y - u) := sq0 _
  unfold sqL
  omega
theorem co_ok {xs ys : List Int} {n : Nat} (hx : ∀ i, i < n → spotB (X xs i) (Y xs i) = true) (hy : ∀ i, i < n → spotB (X ys i) (Y ys i) = true) : CostOk (cst (coRs xs ys n n)) := by
  intro i k
  by_cases hi : i < n
  · by_cases hk : k < n
    · rw [co_cst hi hk]; exact sq_in (hx i hi) (hy k hk)
    · unfold cst
      rw [coRs_get xs ys n hi, List.getD_eq_getElem?_getD, List.getElem?_eq_none (by rw [coRow_length]; omega)]
      simp
  · unfold cst
    rw [show (coRs xs ys n n).getD i [] = [] by rw [List.getD_eq_getElem?_getD, List.getElem?_eq_none (by rw [coRs_length]; omega)]; rfl]
    simp
set_option maxRecDepth 100000 in
set_option maxHeartbeats 4000000 in
theorem asCosts_any (v u : Value) (n m B : Nat) (xs ys : List Int) (w : World) (hv : Rd w B 2 v n xs) (hu : Rd w B 2 u m ys) (hB : B ≤ w.heap.size) (hn : n ≤ 12) (hm : m ≤ 12)
    (hx : ∀ i, i < n → spotB (X xs i) (Y xs i) = true) (hy : ∀ i, i < m → spotB (X ys i) (Y ys i) = true) :
    Calls Try.prog 39 #[v, u] w fun e w' => ∃ r vs, e = .returned r ∧ Grid w' w.heap.size r n vs (coRs xs ys m n) ∧ Below w.heap.size w w' := by
  obtain ⟨A, c, rfl⟩ := hv.form
  obtain ⟨A', c', rfl⟩ := hu.form
  have HV := Lib.hid hv
  have HU := Lib.hid hu
  have HX := Lib.hid hx
  have HY := Lib.hid hy
  clear hv hu hx hy
  go_enter Try.func39, Try.ntmps39
  go_wp2_with fail
  go_loopw [5, 13] (fun o i wr => ∃ (k : Nat) (vs : List Value), k ≤ n ∧ i = .int .i64 k ∧ Grid wr w.heap.size o k vs (coRs xs ys m k) ∧ Below w.heap.size w wr) (fun _ i _ => n - (intOf i).toNat)
  case atStart => exact ⟨0, [], by omega, rfl, Grid.nil _ _, Below.refl _ _⟩
  case round =>
    obtain ⟨i, vs, hi, rfl, hgrid, hb⟩ := hrel
    obtain ⟨Ao, co, rfl⟩ := hgrid.rd.form
    have HG := Lib.hid hgrid
    have HB := Lib.hid hb
    clear hgrid hb
    by_cases hlt : i < n
    · obtain ⟨bA, oA, rfl, hbA, hcA⟩ := HV.out.spot (by omega)
      obtain ⟨c0, c1⟩ := hcA i hlt
      replace c0 := (HB.out.cell (p := ⟨bA, oA + i * 2, none⟩) (Nat.lt_of_lt_of_le hbA hB)).trans c0
      replace c1 := (HB.out.cell (p := ⟨bA, oA + i * 2 + 1, none⟩) (Nat.lt_of_lt_of_le hbA hB)).trans c1
      have hsx := HX.out i hlt
      have hrow := (show ∀ k, coRow xs ys i (k + 1) = coRow xs ys i k ++ [sqL (X xs i) (Y xs i) (X ys k) (Y ys k)] from fun k => rfl)
      have hro0 : coRow xs ys i 0 = [] := rfl
      have hrl := coRow_length xs ys i
      obtain ⟨x, ex⟩ : ∃ x, X xs i = x := ⟨_, rfl⟩
      obtain ⟨y, ey⟩ : ∃ x, Y xs i = x := ⟨_, rfl⟩
      rw [ex] at c0 hsx hrow
      rw [ey] at c1 hsx hrow
      have hnx := (show coRs xs ys m (i + 1) = coRs xs ys m i ++ [coRow xs ys i m] from rfl)
      obtain ⟨R, eR⟩ : ∃ R, coRow xs ys i = R := ⟨_, rfl⟩
      rw [eR] at hrow hnx hro0 hrl
      have HROW := Lib.hid hrow
      have HNX := Lib.hid hnx
      have HRL := Lib.hid hrl
      have i0 : (0 : Int) ≤ (i : Int) := by omega
      have i1 : (i : Int) < (n : Int) := by omega
      have K0 := Lib.hid (Blk.new wr 75 #[.int .i64 x, .int .i64 y])
      have HB1 := Lib.hid ((Below.refl wr.heap.size wr).alloc (Nat.le_refl _) (.cells #[.int .i64 x, .int .i64 y] 75))
      have E0 := Lib.hid hro0
      have HSX := Lib.hid hsx
      clear ex ey eR hcA hro0 hrow hnx hrl hsx
      obtain ⟨wo, ewo⟩ : ∃ wo, wr = wo := ⟨_, rfl⟩
      rw [ewo] at HB1 HG K0 HB c0 c1 ⊢
      clear ewo
      go_wp2_with fail
      go_loopw [8, 19] (fun o k wq => ∃ k' : Nat, k' ≤ m ∧ k = .int .i64 k' ∧ wq.ownsRow wo.heap.size 3 1 o k' (ints (R k')) ∧ Blk wq wo.heap.size 75 #[.int .i64 x, .int .i64 y] ∧ Below wo.heap.size wo wq) (fun _ k _ => m - (intOf k).toNat)
      case atStart => exact ⟨0, by omega, rfl, by rw [E0.out]; exact World.ownsRow_nil _ _ _ _, K0.out, HB1.out⟩
      case round =>
        clear c0 c1 K0 HB1
        obtain ⟨k, hk, rfl, hown, hkx, hbq⟩ := hrel
        have HO := Lib.hid hown
        have HBQ := Lib.hid hbq
        have HK := Lib.hid hkx
        clear hown hbq hkx
        by_cases hlk : k < m
        · obtain ⟨bC, oC, rfl, hbC, hcC⟩ := HU.out.spot (by omega)
          obtain ⟨d0, d1⟩ := hcC k hlk
          have HBB := Lib.hid (below_on HB.out HBQ.out)
          replace d0 := (HBB.out.cell (p := ⟨bC, oC + k * 2, none⟩) (Nat.lt_of_lt_of_le hbC hB)).trans d0
          replace d1 := (HBB.out.cell (p := ⟨bC, oC + k * 2 + 1, none⟩) (Nat.lt_of_lt_of_le hbC hB)).trans d1
          have hsy := HY.out k hlk
          have hnr := HROW.out k
          obtain ⟨z, ez⟩ : ∃ x, X ys k = x := ⟨_, rfl⟩
          obtain ⟨u, eu⟩ : ∃ x, Y ys k = x := ⟨_, rfl⟩
          rw [ez] at d0 hsy hnr
          rw [eu] at d1 hsy hnr
          have h1 := spotB_yes HSX.out
          have h2 := spotB_yes hsy
          have HP := Lib.hid (fun W => stSquare_any x y z u W (by omega) (by omega) (by omega) (by omega))
          obtain ⟨q, eq⟩ : ∃ q, sqL x y z u = q := ⟨_, rfl⟩
          rw [eq] at HP hnr
          have HNR := Lib.hid hnr
          have k0 : (0 : Int) ≤ (k : Int) := by omega
          have k1 : (k : Int) < (m : Int) := by omega
          obtain ⟨a0, a1⟩ := HK.out.c2
          have SY := Lib.hid (Blk.new wr 75 #[.int .i64 z, .int .i64 u])
          obtain ⟨b0, b1⟩ := SY.out.c2
          have a2 := cell_new a0 (.cells #[.int .i64 z, .int .i64 u] 75)
          have a3 := cell_new a1 (.cells #[.int .i64 z, .int .i64 u] 75)
          have HO1 := Lib.hid (HO.out.alloc (.cells #[.int .i64 z, .int .i64 u] 75))
          have HK1 := Lib.hid (HK.out.alloc (.cells #[.int .i64 z, .int .i64 u] 75))
          have HB1 := Lib.hid (below_new HBQ.out (.cells #[.int .i64 z, .int .i64 u] 75))
          clear ez eu eq hcC hsy h1 h2 hnr HO HK HBQ HBB
          go_wp2_with fail
          refine (HP.out _).mono ?_
          rintro e w2 ⟨rfl, hb2⟩
          have HO2 := Lib.hid ((own_below HO1.out hb2 (Nat.le_refl _)).alloc (.cells #[.int .i64 q] 3))
          have HK2 := Lib.hid ((HK1.out.on hb2).alloc (.cells #[.int .i64 q] 3))
          have hb3 := below_on HB1.out hb2
          have hsz := hb3.size
          have HB2 := Lib.hid (below_new hb3 (.cells #[.int .i64 q] 3))
          have n0 := (Blk.new w2 3 #[.int .i64 q]).c1
          clear hb2 hb3 HO1 HK1 HB1 SY a0 a1 a2 a3 b0 b1 d0 d1
          go_wp2_with (at_builtin; refine app_int rfl _ _ rfl wo.heap.size _ k (R k) rfl HO2.out w2.heap.size q rfl n0 (by omega) (by simp; omega) ?_; intro v' w9 ho9 hg9)
          have HO9 := Lib.hid (show w9.ownsRow wo.heap.size 3 1 v' (k + 1) (ints (R (k + 1))) by rw [HNR.out]; exact ho9)
          have HK9 := Lib.hid (HK2.out.grown hg9 (fun e => own_blk_ne HO2.out HK2.out (by decide) e.symm))
          have HB9 := Lib.hid (HB2.out.grown hg9 (by simp; omega) (fun g hg => (HO2.out.lt g hg).1))
          clear ho9 hg9 n0 HO2 HK2 HB2
          go_wp2_with fail
          go_roundw
          case rel => exact ⟨k + 1, by omega, by go_num, HO9.out, HK9.out, HB9.out⟩
          case measure => simp [intOf]; omega
        · obtain rfl : k = m := by omega
          obtain ⟨Ar, cr, rfl⟩ := (Rd.of_own HO.out).form
          have HGX := Lib.hid ((HG.out.below HBQ.out (Nat.le_refl _)).below ((Below.refl wr.heap.size wr).alloc (Nat.le_refl _) (.cells #[.slice Ar k cr] 27)) (Nat.le_refl _))
          have hrw := own_base (HO.out.alloc (.cells #[.slice Ar k cr] 27)) HB.out.size
          have hbx := below_new (below_on HB.out HBQ.out) (.cells #[.slice Ar k cr] 27)
          have hsz := hbx.size
          have HRX := Lib.hid (show (wr.alloc (.cells #[.slice Ar k cr] 27)).ownsRow w.heap.size 3 1 (.slice Ar k cr) (R k).length (ints (R k)) by rw [HRL.out]; exact hrw)
          have HBX := Lib.hid hbx
          have n0 := (Blk.new wr 27 #[.slice Ar k cr]).c1
          clear hrw hbx
          go_wp2_with (at_builtin; refine app_grid rfl _ _ rfl w.heap.size _ i vs _ rfl HGX.out wr.heap.size _ _ rfl n0 HRX.out (by omega) hsz ?_; intro v' w9 ho9 hg9)
          have HG9 := Lib.hid (show Grid w9 w.heap.size v' (i + 1) (vs ++ [.slice Ar k cr]) (coRs xs ys k (i + 1)) by rw [HNX.out]; exact ho9)
          have HB9 := Lib.hid (HBX.out.grown hg9 hsz (fun g hg => (HGX.out.own.lt g hg).1))
          clear ho9 hg9 n0 HGX HRX HBX
          go_wp2_with fail
          go_roundw
          case rel => exact ⟨i + 1, _, by omega, by go_num, HG9.out, HB9.out⟩
          case measure => simp [intOf]; omega
    · obtain rfl : i = n := by omega
      go_wp2_with fail
      go_ret
      exact ⟨_, _, rfl, HG.out, HB.out⟩
end Go.Proofs.Ytnlneblipedddaa

namespace Go.Proofs.Ytnlneblipedddaa
open Go.RowKit

theorem own_head {w : World} {base sz n : Nat} {e : TypeId} {v : Value} {vs : List Value} (h : w.ownsRow base e sz v n vs) (hn : 0 < n) : ∃ b c, v = .slice (some ⟨b, 0, none⟩) n c ∧ base ≤ b ∧ b < w.heap.size := by
  have hl := h.lt
  rcases h.2 with ⟨rfl, h0⟩ | ⟨g, cap, cur, rfl, _⟩
  · have := h.1
    rw [h0] at this
    simp at this
    omega
  · exact ⟨g, cap, rfl, hl g rfl⟩
set_option maxRecDepth 100000 in
set_option maxHeartbeats 4000000 in
theorem maLeast_any (B n : Nat) (v : Value) (rs : List (List Int)) (w : World) (h : RdR w B v n rs) (hB : B ≤ w.heap.size) (hn0 : 1 ≤ n) (hn : n ≤ 12) (hr : Sq n rs) (hC : CostOk (cst rs)) :
    Calls Try.prog 38 #[v] w fun e w' => ∃ u, e = .returned (.tuple #[u, .int .i64 (tb (cst rs) n (2 ^ n - 1))]) ∧ w'.ownsRow w.heap.size 3 1 u n (ints (mlL (cst rs) (tb (cst rs) n) n n)) ∧ Below w.heap.size w w' := by
  have P := maTable_any B n v rs w h hB hn0 hn hr hC
  obtain ⟨A, c, rfl⟩ := h.form
  have hM0 := Nat.two_pow_pos n
  have hM2 : 2 ^ n ≤ 4096 := Nat.pow_le_pow_right (by decide) hn
  have HML := Lib.hid (mlS_ok hC hn)
  have HTB := Lib.hid (tb_bound hC n)
  have HG := Lib.hid (fun j (hj : j < 2 ^ n) => tbL_get (C := cst rs) (n := n) (m := 2 ^ n) hj hj)
  have HLL := Lib.hid (tbL_length (cst rs) n (2 ^ n))
  have hml0 : mlS (cst rs) (tb (cst rs) n) n 0 = 2 ^ n - 1 := rfl
  have H := Lib.hid h
  have HSQ := Lib.hid hr
  have HC := Lib.hid hC
  have HP := Lib.hid P
  have HT := Lib.hid (fun k => (rfl : tb (cst rs) n k = tb (cst rs) n k))
  obtain ⟨M, eM⟩ : ∃ M : Nat, 2 ^ n = M := ⟨_, rfl⟩
  rw [eM] at HP HG HLL hM0 hM2 hml0 HML
  rw [eM]
  clear eM HT h hr hC P
  go_enter Try.func38, Try.ntmps38
  go_wp2_with fail
  refine HP.out.mono ?_
  rintro e w1 ⟨u, rfl, ho, hb⟩
  obtain ⟨tg, tc, rfl, ht1, ht2⟩ := own_head ho hM0
  have s1 : (M : Int) - 1 = ((M - 1 : Nat) : Int) := by omega
  obtain ⟨S0, eS0⟩ : ∃ S, M - 1 = S := ⟨_, rfl⟩
  rw [eS0] at s1 hml0
  have s2 := IntWalk.i64_in (S0 : Int) (by omega)
  have s3 : (0 : Int) ≤ (S0 : Int) := by omega
  have s4 : (S0 : Int) < (M : Int) := by omega
  have HS0 := Lib.hid hml0
  have HBW := Lib.hid hb
  have HTC := Lib.hid (fun j (hj : j < M) => (by rw [← HG.out j hj]; exact (ho.cellAt j (by omega)).trans (ints_get _ j (by rw [HLL.out]; exact hj)) : w1.cell? ⟨tg, j, none⟩ = some (.int .i64 (tb (cst rs) n j))))
  clear ho hb HP hml0
  have ES0 := Lib.hid eS0
  clear eS0
  go_wp2_with fail
  go_loopw [5, 6, 19] (fun s o i wr => ∃ k : Nat, k ≤ n ∧ i = .int .i64 k ∧ s = .int .i64 (mlS (cst rs) (tb (cst rs) n) n k) ∧ wr.ownsRow w1.heap.size 3 1 o k (ints (mlL (cst rs) (tb (cst rs) n) n k)) ∧ Below w1.heap.size w1 wr) (fun _ _ i _ => n - (intOf i).toNat)
  case atStart => exact ⟨0, by omega, rfl, by rw [HS0.out], World.ownsRow_nil _ _ _ _, Below.refl _ _⟩
  case round =>
    obtain ⟨i, hi, rfl, rfl, hown, hb⟩ := hrel
    have HO := Lib.hid hown
    have HB := Lib.hid hb
    clear hown hb
    by_cases hlt : i < n
    · obtain ⟨m1, m2, m3⟩ := HML.out i hi
      obtain ⟨m4, m5, m6⟩ := m3 hlt
      have hnx : mlS (cst rs) (tb (cst rs) n) n (i + 1) = mlS (cst rs) (tb (cst rs) n) n i ^^^ 2 ^ (fst (mlP (cst rs) (tb (cst rs) n) i (mlS (cst rs) (tb (cst rs) n) n i)) n).toNat := rfl
      have hnl : mlL (cst rs) (tb (cst rs) n) n (i + 1) = mlL (cst rs) (tb (cst rs) n) n i ++ [fst (mlP (cst rs) (tb (cst rs) n) i (mlS (cst rs) (tb (cst rs) n) n i)) n] := rfl
      obtain ⟨S, eS⟩ : ∃ S, mlS (cst rs) (tb (cst rs) n) n i = S := ⟨_, rfl⟩
      rw [eS] at m1 m4 m5 m6 hnx hnl ⊢
      obtain ⟨A', c', ev, hrr⟩ := H.out
      simp only [Value.slice.injEq, true_and] at ev
      obtain ⟨rfl, rfl⟩ := ev
      obtain ⟨b, off, rfl, hbB, hrow⟩ := hrr (by omega)
      obtain ⟨sv, k0, -, A2, c2, rfl, hx⟩ := hrow i hlt
      rw [HSQ.out i hlt] at hx k0
      obtain ⟨g, o2, rfl, hgB, hx⟩ := hx (by omega)
      have hbw : b < w.heap.size := by omega
      have HX := Lib.hid hx
      have HGW := Lib.hid (show g < w.heap.size by omega)
      have HRC := Lib.hid (show ∀ j, (rs.getD i []).getD j 0 = cst rs i j from fun j => rfl)
      have HBA := Lib.hid (below_on HBW.out HB.out)
      have r0 := (HBA.out.cell (p := ⟨b, off + i, none⟩) hbw).trans k0
      have i0 : (0 : Int) ≤ (i : Int) := by omega
      have i1 : (i : Int) < (n : Int) := by omega
      have HM6 := Lib.hid m6
      have HNX := Lib.hid hnx
      have HNL := Lib.hid hnl
      obtain ⟨P, eP⟩ : ∃ P, mlP (cst rs) (tb (cst rs) n) i S = P := ⟨_, rfl⟩
      have HPD := Lib.hid (show ∀ k, P k = (S.testBit k && cst rs i k + tb (cst rs) n (S ^^^ 2 ^ k) == tb (cst rs) n S) from fun k => by rw [← eP]; rfl)
      rw [eP] at m4 m5 HM6 HNX HNL
      have HM4 := Lib.hid m4
      have HM5 := Lib.hid m5
      obtain ⟨wo, ewo⟩ : ∃ wo, wr = wo := ⟨_, rfl⟩
      rw [ewo] at HO HB HBA r0 ⊢
      clear ewo eP k0 hrr hrow hx m2 m3 m4 m5 m6 hnx hnl H eS
      go_wp2_with fail
      go_loopw [9, 25] (fun x s wr => ∃ k : Nat, k ≤ n ∧ s = .int .i64 k ∧ x = .int .i64 (fst P k) ∧ Below wo.heap.size wo wr) (fun _ s _ => n - (intOf s).toNat)
      case atStart => exact ⟨0, by omega, rfl, rfl, Below.refl _ _⟩
      case round =>
        obtain ⟨k, hk, rfl, rfl, hbd⟩ := hrel
        have HBD := Lib.hid hbd
        have HBV := Lib.hid (below_on HBA.out hbd)
        have HBX := Lib.hid (below_on HB.out hbd)
        have HOX := Lib.hid (own_below HO.out hbd (Nat.le_refl _))
        clear hbd
        by_cases hlk : k < n
        · have x1 := HX.out k (by omega)
          rw [HRC.out] at x1
          have x0 := (HBV.out.cell (p := ⟨g, o2 + k, none⟩) HGW.out).trans x1
          have xb := HC.out i k
          have tb1 := HTB.out (S ^^^ 2 ^ k)
          have hst : fst P (k + 1) = if fst P k < 0 && P k then (k : Int) else fst P k := rfl
          have hpd := HPD.out k
          have tS := (HBX.out.cell (p := ⟨tg, S, none⟩) ht2).trans (HTC.out S m1)
          have tR : S.testBit k = true → wr.cell? ⟨tg, S ^^^ 2 ^ k, none⟩ = some (.int .i64 (tb (cst rs) n (S ^^^ 2 ^ k))) := fun hb => (HBX.out.cell (p := ⟨tg, S ^^^ 2 ^ k, none⟩) ht2).trans (HTC.out _ (Nat.lt_trans (xor_lt hb) m1))
          obtain ⟨x, ex⟩ : ∃ x, cst rs i k = x := ⟨_, rfl⟩
          obtain ⟨y, ey⟩ : ∃ x, tb (cst rs) n (S ^^^ 2 ^ k) = x := ⟨_, rfl⟩
          obtain ⟨q, eq⟩ : ∃ x, tb (cst rs) n S = x := ⟨_, rfl⟩
          obtain ⟨f, ef⟩ : ∃ f, fst P k = f := ⟨_, rfl⟩
          rw [ex] at x0 xb hpd
          rw [ey] at tb1 hpd tR
          rw [eq] at hpd tS
          rw [ef] at hst ⊢
          have HST := Lib.hid hst
          have HPK := Lib.hid hpd
          have HTR := Lib.hid tR
          have k0 : (0 : Int) ≤ (k : Int) := by omega
          have k1 : (k : Int) < (n : Int) := by omega
          have S0' : (0 : Int) ≤ (S : Int) := by omega
          have S1' : (S : Int) < (M : Int) := by omega
          have c1 := i64_u64 k (by omega)
          have b1 := bit_at2 S k (by omega)
          clear x1 hst hpd tR ex ey eq ef
          by_cases hf : f < 0
          · cases hbit : S.testBit k with
            | false =>
              have b2 : bitI S k = 0 := by simp [bitI, hbit]
              rw [b2] at b1
              have HS2 := Lib.hid (show fst P (k + 1) = f by rw [HST.out, HPK.out, hbit]; simp)
              clear hbit b2
              go_wp2_with fail
              go_quiet (fail)
              go_wp2_with fail
              go_roundw
              case rel => exact ⟨k + 1, by omega, by go_num, by rw [HS2.out], below_drewN HBD.out _⟩
              case measure => simp [intOf]; omega
            | true =>
              have b2 : bitI S k = 1 := by simp [bitI, hbit]
              rw [b2] at b1
              have tR := HTR.out hbit
              have sh1 := one_shl3 k (by omega)
              have sh2 := one_shl2 k (by omega)
              have fl := bit_flip S k (by omega) (by omega)
              have hxl := xor_lt hbit
              have HHB := Lib.hid hbit
              obtain ⟨z, ez⟩ : ∃ z, S ^^^ 2 ^ k = z := ⟨_, rfl⟩
              rw [ez] at tR fl hxl
              have z0 : (0 : Int) ≤ (z : Int) := by omega
              have z1 : (z : Int) < (M : Int) := by omega
              have i2 := IntWalk.i64_in (x + y) (by omega)
              clear hbit b2 ez
              by_cases heq : x + y = q
              · have HS2 := Lib.hid (show fst P (k + 1) = k by rw [HST.out, HPK.out, HHB.out]; simp [hf, heq])
                have e1 : (x + y == q) = true := by simp [heq]
                clear heq
                go_wp2_with fail
                go_quiet (fail)
                go_wp2_with fail
                go_roundw
                case rel => exact ⟨k + 1, by omega, by go_num, by rw [HS2.out], below_drewN HBD.out _⟩
                case measure => simp [intOf]; omega
              · have HS2 := Lib.hid (show fst P (k + 1) = f by rw [HST.out, HPK.out, HHB.out]; simp [heq])
                have e1 : (x + y == q) = false := by simp [heq]
                clear heq
                go_wp2_with fail
                go_quiet (fail)
                go_wp2_with fail
                go_roundw
                case rel => exact ⟨k + 1, by omega, by go_num, by rw [HS2.out], below_drewN HBD.out _⟩
                case measure => simp [intOf]; omega
          · have HS2 := Lib.hid (show fst P (k + 1) = f by rw [HST.out]; simp [hf])
            have hf2 : decide (f < 0) = false := by simp; omega
            go_wp2_with fail
            go_quiet (fail)
            go_wp2_with fail
            go_roundw
            case rel => exact ⟨k + 1, by omega, by go_num, by rw [HS2.out], below_drewN HBD.out _⟩
            case measure => simp [intOf]; omega
        · obtain rfl : k = n := by omega
          obtain ⟨j, ej⟩ : ∃ j : Nat, fst P k = (j : Int) := Int.eq_ofNat_of_zero_le HM4.out
          have hm5 := HM5.out
          have hnx := HNX.out
          have hnl := HNL.out
          rw [ej] at hm5 hnx hnl ⊢
          rw [Int.toNat_natCast] at hnx
          have hj : j < k := by omega
          have HNX2 := Lib.hid hnx
          have HNL2 := Lib.hid hnl
          have c1 := i64_u64 j (by omega)
          have sh1 := one_shl3 j (by omega)
          have sh2 := one_shl2 j (by omega)
          have fl := bit_flip S j (by omega) (by omega)
          have n0 := (Blk.new wr 3 #[.int .i64 (j : Int)]).c1
          have HO2 := Lib.hid (HOX.out.alloc (.cells #[.int .i64 (j : Int)] 3))
          have HB2 := Lib.hid (below_new HBX.out (.cells #[.int .i64 (j : Int)] 3))
          have hsz := HBX.out.size
          clear hm5 hnx hnl ej
          go_wp2_with (at_builtin; refine app_int rfl _ _ rfl w1.heap.size _ _ _ rfl HO2.out wr.heap.size (j : Int) rfl n0 (by omega) (by simp; omega) ?_; intro v' w9 ho9 hg9)
          have HB9 := Lib.hid (HB2.out.grown hg9 (by simp; omega) (fun g hg => (HO2.out.lt g hg).1))
          have HO9 := Lib.hid (show w9.ownsRow w1.heap.size 3 1 v' (i + 1) (ints (mlL (cst rs) (tb (cst rs) k) k (i + 1))) by rw [HNL2.out]; exact ho9)
          clear ho9 hg9 n0 HO2 HB2
          go_wp2_with fail
          go_roundw
          case rel => exact ⟨i + 1, by omega, by go_num, by rw [HNX2.out], HO9.out, HB9.out⟩
          case measure => simp [intOf]; omega
    · obtain rfl : i = n := by omega
      have HBA := Lib.hid (below_on HBW.out HB.out)
      have tS := (HB.out.cell (p := ⟨tg, S0, none⟩) ht2).trans (HTC.out S0 (by omega))
      have HE := Lib.hid (ES0.out)
      have HO2 := Lib.hid (own_base HO.out HBW.out.size)
      go_wp2_with fail
      go_quiet (fail)
      go_wp2_with fail
      go_ret2
      rw [HE.out]
      exact ⟨_, rfl, own_drewN HO2.out _, below_drewN HBA.out _⟩
end Go.Proofs.Ytnlneblipedddaa

namespace Go.Proofs.Ytnlneblipedddaa
open Go.RowKit

/-- The marks of row i's first k columns; of the first i rows. -/
def mkRow (C : Nat → Nat → Int) (m : Int) (i : Nat) : Nat → List Int
  | 0 => []
  | k + 1 => mkRow C m i k ++ [mark C m i k]
def mkRs (C : Nat → Nat → Int) (m : Int) (n : Nat) : Nat → List (List Int)
  | 0 => []
  | i + 1 => mkRs C m n i ++ [mkRow C m i n]
section
variable {C : Nat → Nat → Int} {m : Int} {i n : Nat}
theorem mkRow_length : ∀ k, (mkRow C m i k).length = k
  | 0 => rfl
  | k + 1 => by simp [mkRow, mkRow_length k]
theorem mkRs_length : ∀ i, (mkRs C m n i).length = i
  | 0 => rfl
  | i + 1 => by simp [mkRs, mkRs_length i]
theorem mkRow_get : ∀ {k j}, j < k → (mkRow C m i k).getD j 0 = mark C m i j
  | k + 1, j, h => by
    have hl := mkRow_length (C := C) (m := m) (i := i) k
    rw [mkRow, List.getD_eq_getElem?_getD]
    by_cases e : j = k
    · subst e
      rw [List.getElem?_append_right (by omega), hl, Nat.sub_self]
      rfl
    · rw [List.getElem?_append_left (by omega), ← List.getD_eq_getElem?_getD]
      exact mkRow_get (by omega)
theorem mkRs_get : ∀ {k j}, j < k → (mkRs C m n k).getD j [] = mkRow C m j n
  | k + 1, j, h => by
    have hl := mkRs_length (C := C) (m := m) (n := n) k
    rw [mkRs, List.getD_eq_getElem?_getD]
    by_cases e : j = k
    · subst e
      rw [List.getElem?_append_right (by omega), hl, Nat.sub_self]
      rfl
    · rw [List.getElem?_append_left (by omega), ← List.getD_eq_getElem?_getD]
      exact mkRs_get (by omega)
theorem mk_sq (C : Nat → Nat → Int) (m : Int) (n : Nat) : Sq n (mkRs C m n n) := fun j hj => by rw [mkRs_get hj, mkRow_length]
end
theorem mk_cst {rs : List (List Int)} {m : Int} {n : Nat} (hl : rs.length = n) (hs : Sq n rs) (hm : 0 ≤ m) : cst (mkRs (cst rs) m n n) = mark (cst rs) m := by
  have h0 : ∀ i k, ¬ (i < n ∧ k < n) → cst rs i k = 0 := by
    intro i k h
    unfold cst
    by_cases hi : i < n
    · rw [List.getD_eq_getElem?_getD, List.getElem?_eq_none (by rw [hs i hi]; omega)]; rfl
    · rw [show rs.getD i [] = [] by rw [List.getD_eq_getElem?_getD, List.getElem?_eq_none (by omega)]; rfl]; rfl
  funext i k
  by_cases h : i < n ∧ k < n
  · show ((mkRs (cst rs) m n n).getD i []).getD k 0 = _
    rw [mkRs_get h.1, mkRow_get h.2]
  · have e : mark (cst rs) m i k = 0 := by unfold mark; rw [h0 i k h, if_pos hm]
    rw [e]
    show ((mkRs (cst rs) m n n).getD i []).getD k 0 = 0
    by_cases hi : i < n
    · rw [mkRs_get hi, List.getD_eq_getElem?_getD, List.getElem?_eq_none (by rw [mkRow_length]; omega)]; rfl
    · rw [show (mkRs (cst rs) m n n).getD i [] = [] by rw [List.getD_eq_getElem?_getD, List.getElem?_eq_none (by rw [mkRs_length]; omega)]; rfl]; rfl
/-- What is handed back. -/
def wnB (C : Nat → Nat → Int) (m : Int) (n : Nat) : Bool := decide (tb (mark C m) n (2 ^ n - 1) = 0)
def wnN (C : Nat → Nat → Int) (m : Int) (n : Nat) : Nat := if wnB C m n = true then n else 0
def wnL (C : Nat → Nat → Int) (m : Int) (n : Nat) : List Int := if wnB C m n = true then mlL (mark C m) (tb (mark C m) n) n n else []
set_option maxRecDepth 100000 in
set_option maxHeartbeats 4000000 in
theorem maWithin_any (B n : Nat) (v : Value) (rs : List (List Int)) (m : Int) (w : World) (h : RdR w B v n rs) (hB : B ≤ w.heap.size) (hn0 : 1 ≤ n) (hn : n ≤ 12) (hl : rs.length = n) (hr : Sq n rs) (hm : 0 ≤ m) :
    Calls Try.prog 77 #[v, .int .i64 m] w fun e w' => ∃ u, e = .returned u ∧ w'.ownsRow w.heap.size 3 1 u (wnN (cst rs) m n) (ints (wnL (cst rs) m n)) ∧ Below w.heap.size w w' := by
  have hmk := mk_cst hl hr hm
  have PL := fun (W : World) (C : Nat) (q : Value) (h : RdR W C q n (mkRs (cst rs) m n n)) (hB : C ≤ W.heap.size) => maLeast_any C n q _ W h hB hn0 hn (mk_sq (cst rs) m n) (by rw [hmk]; exact mark_ok _ _)
  rw [hmk] at PL
  have HPL := Lib.hid PL
  have htb := (tb_bound (mark_ok (cst rs) m) n (2 ^ n - 1)).1
  have hwb : wnB (cst rs) m n = decide (tb (mark (cst rs) m) n (2 ^ n - 1) = 0) := rfl
  have hwn : wnN (cst rs) m n = if wnB (cst rs) m n = true then n else 0 := rfl
  have hwl : wnL (cst rs) m n = if wnB (cst rs) m n = true then mlL (mark (cst rs) m) (tb (mark (cst rs) m) n) n n else [] := rfl
  have HWB := Lib.hid hwb
  have HWN := Lib.hid hwn
  have HWL := Lib.hid hwl
  have HSQ := Lib.hid hr
  obtain ⟨A, c, rfl, hrr⟩ := h
  obtain ⟨b, off, rfl, hbB, hrow⟩ := hrr (by omega)
  have HROWS := Lib.hid hrow
  clear hrr hrow hr hmk PL hwb hwn hwl hl
  go_enter Try.func77, Try.ntmps77
  go_wp2_with fail
  go_loopw [5, 15] (fun o i wr => ∃ (k : Nat) (vs : List Value), k ≤ n ∧ i = .int .i64 k ∧ Grid wr w.heap.size o k vs (mkRs (cst rs) m n k) ∧ Below w.heap.size w wr) (fun _ i _ => n - (intOf i).toNat)
  case atStart => exact ⟨0, [], by omega, rfl, Grid.nil _ _, Below.refl _ _⟩
  case round =>
    obtain ⟨i, vs, hi, rfl, hgrid, hb⟩ := hrel
    obtain ⟨Ao, co, rfl⟩ := hgrid.rd.form
    have HG := Lib.hid hgrid
    have HB := Lib.hid hb
    clear hgrid hb
    by_cases hlt : i < n
    · obtain ⟨sv, k0, -, A2, c2, rfl, hx⟩ := HROWS.out i hlt
      rw [HSQ.out i hlt] at k0 hx
      obtain ⟨g, o2, rfl, hgB, hx⟩ := hx (by omega)
      have HX := Lib.hid hx
      have hbw : b < w.heap.size := by omega
      have HGW := Lib.hid (show g < w.heap.size by omega)
      have HRC := Lib.hid (show ∀ j, (rs.getD i []).getD j 0 = cst rs i j from fun j => rfl)
      have r0 := (HB.out.cell (p := ⟨b, off + i, none⟩) hbw).trans k0
      have hrow := (show ∀ k, mkRow (cst rs) m i (k + 1) = mkRow (cst rs) m i k ++ [mark (cst rs) m i k] from fun k => rfl)
      have hro0 : mkRow (cst rs) m i 0 = [] := rfl
      have hrl := mkRow_length (C := cst rs) (m := m) (i := i)
      have hnx := (show mkRs (cst rs) m n (i + 1) = mkRs (cst rs) m n i ++ [mkRow (cst rs) m i n] from rfl)
      have HMK := Lib.hid (show ∀ k, mark (cst rs) m i k = if cst rs i k ≤ m then 0 else 1 from fun k => rfl)
      obtain ⟨R, eR⟩ : ∃ R, mkRow (cst rs) m i = R := ⟨_, rfl⟩
      rw [eR] at hrow hnx hro0 hrl
      have HROW := Lib.hid hrow
      have HNX := Lib.hid hnx
      have HRL := Lib.hid hrl
      have E0 := Lib.hid hro0
      have i0 : (0 : Int) ≤ (i : Int) := by omega
      have i1 : (i : Int) < (n : Int) := by omega
      clear eR hro0 hrow hnx hrl hx k0
      obtain ⟨wo, ewo⟩ : ∃ wo, wr = wo := ⟨_, rfl⟩
      rw [ewo] at HG HB r0 ⊢
      clear ewo
      go_wp2_with fail
      go_loopw [8, 21] (fun o k wq => ∃ k' : Nat, k' ≤ n ∧ k = .int .i64 k' ∧ wq.ownsRow wo.heap.size 3 1 o k' (ints (R k')) ∧ Below wo.heap.size wo wq) (fun _ k _ => n - (intOf k).toNat)
      case atStart => exact ⟨0, by omega, rfl, by rw [E0.out]; exact World.ownsRow_nil _ _ _ _, Below.refl _ _⟩
      case round =>
        clear r0
        obtain ⟨k, hk, rfl, hown, hbq⟩ := hrel
        have HO := Lib.hid hown
        have HBQ := Lib.hid hbq
        clear hown hbq
        by_cases hlk : k < n
        · have x1 := HX.out k (by omega)
          rw [HRC.out] at x1
          replace x1 := ((below_on HB.out HBQ.out).cell (p := ⟨g, o2 + k, none⟩) HGW.out).trans x1
          have hmk := HMK.out k
          obtain ⟨x, ex⟩ : ∃ x, cst rs i k = x := ⟨_, rfl⟩
          have EX := Lib.hid ex
          rw [ex] at x1
          clear ex hmk
          have k0 : (0 : Int) ≤ (k : Int) := by omega
          have k1 : (k : Int) < (n : Int) := by omega
          by_cases hxm : x ≤ m
          · have hle : cst rs i k ≤ m := by rw [EX.out]; exact hxm
            have dm : decide (x ≤ m) = true := by simpa using hxm
            have n0 := (Blk.new wr 3 #[.int .i64 0]).c1
            have HO2 := Lib.hid (HO.out.alloc (.cells #[.int .i64 0] 3))
            have HB2 := Lib.hid (below_new HBQ.out (.cells #[.int .i64 0] 3))
            have hsz := HBQ.out.size
            have HNR := Lib.hid (show R (k + 1) = R k ++ [0] by rw [HROW.out, HMK.out, if_pos hle])
            clear HO HBQ
            go_wp2_with (at_builtin; refine app_int rfl _ _ rfl wo.heap.size _ k (R k) rfl HO2.out wr.heap.size 0 rfl n0 (by omega) (by simp; omega) ?_; intro v' w9 ho9 hg9)
            have HO9 := Lib.hid (show w9.ownsRow wo.heap.size 3 1 v' (k + 1) (ints (R (k + 1))) by rw [HNR.out]; exact ho9)
            have HB9 := Lib.hid (HB2.out.grown hg9 (by simp; omega) (fun g hg => (HO2.out.lt g hg).1))
            clear ho9 hg9 n0 HO2 HB2
            go_wp2_with fail
            go_roundw
            case rel => exact ⟨k + 1, by omega, by go_num, HO9.out, HB9.out⟩
            case measure => simp [intOf]; omega
          · have hle : ¬ cst rs i k ≤ m := by rw [EX.out]; exact hxm
            have dm : decide (x ≤ m) = false := by simpa using hxm
            have n0 := (Blk.new wr 3 #[.int .i64 1]).c1
            have HO2 := Lib.hid (HO.out.alloc (.cells #[.int .i64 1] 3))
            have HB2 := Lib.hid (below_new HBQ.out (.cells #[.int .i64 1] 3))
            have hsz := HBQ.out.size
            have HNR := Lib.hid (show R (k + 1) = R k ++ [1] by rw [HROW.out, HMK.out, if_neg hle])
            clear HO HBQ
            go_wp2_with (at_builtin; refine app_int rfl _ _ rfl wo.heap.size _ k (R k) rfl HO2.out wr.heap.size 1 rfl n0 (by omega) (by simp; omega) ?_; intro v' w9 ho9 hg9)
            have HO9 := Lib.hid (show w9.ownsRow wo.heap.size 3 1 v' (k + 1) (ints (R (k + 1))) by rw [HNR.out]; exact ho9)
            have HB9 := Lib.hid (HB2.out.grown hg9 (by simp; omega) (fun g hg => (HO2.out.lt g hg).1))
            clear ho9 hg9 n0 HO2 HB2
            go_wp2_with fail
            go_roundw
            case rel => exact ⟨k + 1, by omega, by go_num, HO9.out, HB9.out⟩
            case measure => simp [intOf]; omega
        · obtain rfl : k = n := by omega
          obtain ⟨Ar, cr, rfl⟩ := (Rd.of_own HO.out).form
          have HGX := Lib.hid ((HG.out.below HBQ.out (Nat.le_refl _)).below ((Below.refl wr.heap.size wr).alloc (Nat.le_refl _) (.cells #[.slice Ar k cr] 27)) (Nat.le_refl _))
          have hrw := own_base (HO.out.alloc (.cells #[.slice Ar k cr] 27)) HB.out.size
          have hbx := below_new (below_on HB.out HBQ.out) (.cells #[.slice Ar k cr] 27)
          have hsz := hbx.size
          have HRX := Lib.hid (show (wr.alloc (.cells #[.slice Ar k cr] 27)).ownsRow w.heap.size 3 1 (.slice Ar k cr) (R k).length (ints (R k)) by rw [HRL.out]; exact hrw)
          have HBX := Lib.hid hbx
          have n0 := (Blk.new wr 27 #[.slice Ar k cr]).c1
          clear hrw hbx
          go_wp2_with (at_builtin; refine app_grid rfl _ _ rfl w.heap.size _ i vs _ rfl HGX.out wr.heap.size _ _ rfl n0 HRX.out (by omega) hsz ?_; intro v' w9 ho9 hg9)
          have HG9 := Lib.hid (show Grid w9 w.heap.size v' (i + 1) (vs ++ [.slice Ar k cr]) (mkRs (cst rs) m k (i + 1)) by rw [HNX.out]; exact ho9)
          have HB9 := Lib.hid (HBX.out.grown hg9 hsz (fun g hg => (HGX.out.own.lt g hg).1))
          clear ho9 hg9 n0 HGX HRX HBX
          go_wp2_with fail
          go_roundw
          case rel => exact ⟨i + 1, _, by omega, by go_num, HG9.out, HB9.out⟩
          case measure => simp [intOf]; omega
    · obtain rfl : i = n := by omega
      have HR := Lib.hid HG.out.rd
      obtain ⟨T, eT⟩ : ∃ T, tb (mark (cst rs) m) i (2 ^ i - 1) = T := ⟨_, rfl⟩
      rw [eT] at HPL HWB htb
      clear eT
      go_wp2_with fail
      refine (HPL.out _ _ _ HR.out (Nat.le_refl _)).mono ?_
      rintro e w2 ⟨u, rfl, ho, hb⟩
      have HB2 := Lib.hid (below_on HB.out hb)
      obtain ⟨Au, cu, rfl⟩ := (Rd.of_own ho).form
      have HO := Lib.hid (own_base (base' := w.heap.size) ho HB.out.size)
      clear ho hb HG HR HB
      by_cases hT : T = 0
      · have HE := Lib.hid (show wnB (cst rs) m i = true by rw [HWB.out]; simpa using hT)
        have d0 : decide (0 < T) = false := by simp; omega
        clear hT
        go_wp2_with fail
        go_ret
        refine ⟨_, rfl, ?_, HB2.out⟩
        rw [HWN.out, HWL.out, HE.out, if_pos rfl, if_pos rfl]
        exact HO.out
      · have HE := Lib.hid (show wnB (cst rs) m i = false by rw [HWB.out]; simpa using hT)
        have d0 : decide (0 < T) = true := by simp; omega
        clear hT
        go_wp2_with fail
        go_ret
        refine ⟨_, rfl, ?_, HB2.out⟩
        rw [HWN.out, HWL.out, HE.out]
        exact World.ownsRow_nil _ _ _ _
end Go.Proofs.Ytnlneblipedddaa

namespace Go.Proofs.Ytnlneblipedddaa

/-- The least greatest cost of a matching, and the first matching that keeps within it. -/
def evM (C : Nat → Nat → Int) (n : Nat) : Int := mx C n (2 ^ n - 1)
def evL (C : Nat → Nat → Int) (n : Nat) : List Int := mxL C (mx C n) (evM C n) n n
section
variable {C : Nat → Nat → Int} {n : Nat} {L : List Int}
theorem evL_length : (evL C n).length = n := mxL_length _ _ _ _ _
theorem ev_bound (hC : CostOk C) (n : Nat) : 0 ≤ evM C n ∧ evM C n ≤ 2100000 := by
  have := Nat.two_pow_pos n
  exact mx_bound hC n _ (by omega)
theorem wn_iff (hC : CostOk C) (hn : n ≤ 12) {m : Int} (hm : 0 ≤ m) : wnB C m n = decide (evM C n ≤ m) := by
  have := Nat.two_pow_pos n
  unfold wnB evM
  rw [decide_eq_decide]
  exact tb_mark hC hn hm _ (by omega)
theorem wn_end (hC : CostOk C) (hn : n ≤ 12) : wnN C (evM C n) n = n ∧ wnL C (evM C n) n = evL C n := by
  have hb := wn_iff hC hn (ev_bound hC n).1
  have h1 : wnB C (evM C n) n = true := by rw [hb]; simp
  refine ⟨by simp [wnN, h1], ?_⟩
  rw [wnL, if_pos h1]
  exact ((mx_same hC hn (ev_bound hC n).1 (Int.le_refl _) n (Nat.le_refl _)).2.1).symm
theorem seen_all (hC : CostOk C) (hn0 : 1 ≤ n) (h : Seen C n n 0 L) : ∃ p, p < L.length ∧ L.getD p 0 = evM C n := by
  have h2 : 2 ^ 1 ≤ 2 ^ n := Nat.pow_le_pow_right (by decide) hn0
  rw [Nat.pow_one] at h2
  obtain ⟨i, j, hi, hj, e⟩ := mx_is (n := n) hC (2 ^ n - 1) (by omega) (by omega)
  exact in_get ((h.2 _).2 ⟨i, j, hj, .inl hi, e⟩)
theorem seen_ok (hC : CostOk C) {i k j : Nat} (h : Seen C n i k L) (hj : j < L.length) : 0 ≤ L.getD j 0 ∧ L.getD j 0 ≤ 2100000 := by
  obtain ⟨a, b, _, _, e⟩ := (h.2 _).1 (get_in hj)
  rw [e]
  exact hC a b
theorem seen_mid (hC : CostOk C) (hn : n ≤ 12) {i k p j : Nat} (h : Seen C n i k L) (hp : p < L.length) (he : L.getD p 0 = evM C n) (hj : j < L.length) : wnB C (L.getD j 0) n = decide (p ≤ j) := by
  rw [wn_iff hC hn (seen_ok hC h hj).1, ← he, decide_eq_decide]
  exact srt_le h.1 hp hj
end
end Go.Proofs.Ytnlneblipedddaa

namespace Go.Proofs.Ytnlneblipedddaa
open Go.RowKit

theorem in_yes {x a b : Int} (h1 : a ≤ x) (h2 : x ≤ b) : inB x a b = true := by simp [inB]; omega
set_option maxHeartbeats 2000000 in
theorem maGood_yes (B n : Nat) (v : Value) (rs : List (List Int)) (w : World) (h : RdR w B v n rs) (hn0 : 1 ≤ n) (hn : n ≤ 12) (hr : Sq n rs) (hC : CostOk (cst rs)) :
    Calls Try.prog 75 #[v] w fun e w' => e = .returned (.bool true) ∧ w = w' := by
  obtain ⟨A, c, rfl, hrr⟩ := h
  obtain ⟨b, off, rfl, hbB, hrow⟩ := hrr (by omega)
  have HROW := Lib.hid hrow
  have HSQ := Lib.hid hr
  have HN := Lib.hid (in_yes (x := (n : Int)) (a := 1) (b := 12) (by omega) (by omega))
  have HC := Lib.hid (fun i k => in_yes (hC i k).1 (hC i k).2)
  clear hrr hrow hr hC
  have HALL := Lib.hid (fun i (hi : i < n) => okAll_mk (lo := 0) (hi := 2100000) (xs := rs.getD i []) (fun k _ => inB_yes (HC.out i k)))
  go_enter Try.func75, Try.ntmps75
  go_wp2_with fail
  go_loopw [7] (fun i wr => ∃ k : Nat, k ≤ n ∧ i = .int .i64 k ∧ w = wr) (fun i _ => n - (intOf i).toNat)
  case atStart => exact ⟨0, by omega, rfl, rfl⟩
  case round =>
    obtain ⟨i, hi, rfl, rfl⟩ := hrel
    by_cases hlt : i < n
    · obtain ⟨sv, k0, hrd⟩ := HROW.out i hlt
      rw [HSQ.out i hlt] at hrd
      have HP := Lib.hid (fun (W : World) (h : Rd W B 1 sv n (rs.getD i [])) => l1All_any sv n B (rs.getD i []) 0 2100000 W h (by omega))
      rw [HALL.out i hlt] at HP
      have HRD := Lib.hid hrd
      obtain ⟨-, A2, c2, rfl, -⟩ := id hrd
      have i0 : (0 : Int) ≤ (i : Int) := by omega
      have i1 : (i : Int) < (n : Int) := by omega
      have nn : ((n : Int) != (n : Int)) = false := by simp
      clear hrd
      go_wp2_with fail
      refine (HP.out _ HRD.out).mono ?_
      rintro e w' ⟨rfl, rfl⟩
      go_wp2_with fail
      go_roundw
      case rel => exact ⟨i + 1, by omega, by go_num, by trivial⟩
      case measure => simp [intOf]; omega
    · obtain rfl : i = n := by omega
      go_wp2_with fail
      refine (l1In_any _ 1 12 _).mono ?_
      rintro e w' ⟨rfl, rfl⟩
      rw [HN.out]
      go_wp2_with fail
      go_ret
      exact ⟨rfl, rfl⟩
set_option maxHeartbeats 2000000 in
theorem AreCosts_yes (B n : Nat) (v : Value) (rs : List (List Int)) (w : World) (h : RdR w B v n rs) (hn0 : 1 ≤ n) (hn : n ≤ 12) (hr : Sq n rs) (hC : CostOk (cst rs)) :
    Calls Try.prog 73 #[v] w fun e w' => e = .returned (.bool true) ∧ w = w' := by
  obtain ⟨A, c, rfl, hrr⟩ := h
  obtain ⟨b, off, rfl, hbB, hrow⟩ := hrr (by omega)
  have HROW := Lib.hid hrow
  have HSQ := Lib.hid hr
  have HN := Lib.hid (in_yes (x := (n : Int)) (a := 1) (b := 12) (by omega) (by omega))
  have HC := Lib.hid (fun i k => in_yes (hC i k).1 (hC i k).2)
  clear hrr hrow hr hC
  go_enter Try.func73, Try.ntmps73
  go_wp2_with fail
  refine (within_any _ 1 12 _).mono ?_
  rintro e w' ⟨rfl, rfl⟩
  rw [HN.out]
  go_wp2_with fail
  go_loopw [15] (fun i wr => ∃ k : Nat, k ≤ n ∧ i = .int .i64 k ∧ w = wr) (fun i _ => n - (intOf i).toNat)
  case atStart => exact ⟨0, by omega, rfl, rfl⟩
  case round =>
    obtain ⟨i, hi, rfl, rfl⟩ := hrel
    by_cases hlt : i < n
    · obtain ⟨sv, k0, -, A2, c2, rfl, hx⟩ := HROW.out i hlt
      rw [HSQ.out i hlt] at k0 hx
      obtain ⟨g, o2, rfl, hgB, hx⟩ := hx (by omega)
      have HX := Lib.hid hx
      have HRC := Lib.hid (show ∀ j, (rs.getD i []).getD j 0 = cst rs i j from fun j => rfl)
      have i0 : (0 : Int) ≤ (i : Int) := by omega
      have i1 : (i : Int) < (n : Int) := by omega
      have nn : ((n : Int) != (n : Int)) = false := by simp
      clear hx
      go_wp2_with fail
      go_loopw [25] (fun s wr => ∃ k : Nat, k ≤ n ∧ s = .int .i64 k ∧ w = wr) (fun s _ => n - (intOf s).toNat)
      case atStart => exact ⟨0, by omega, rfl, rfl⟩
      case round =>
        obtain ⟨k, hk, rfl, rfl⟩ := hrel
        by_cases hlk : k < n
        · have x1 := HX.out k (by omega)
          rw [HRC.out] at x1
          have hin := HC.out i k
          obtain ⟨x, ex⟩ : ∃ x, cst rs i k = x := ⟨_, rfl⟩
          rw [ex] at x1 hin
          have HIN := Lib.hid hin
          have k0 : (0 : Int) ≤ (k : Int) := by omega
          have k1 : (k : Int) < (n : Int) := by omega
          clear hin ex
          go_wp2_with fail
          refine (within_any x 0 2100000 _).mono ?_
          rintro e w' ⟨rfl, rfl⟩
          rw [HIN.out]
          go_wp2_with fail
          go_roundw
          case rel => exact ⟨k + 1, by omega, by go_num, by trivial⟩
          case measure => simp [intOf]; omega
        · obtain rfl : k = n := by omega
          go_wp2_with fail
          go_roundw
          case rel => exact ⟨i + 1, by omega, by go_num, by trivial⟩
          case measure => simp [intOf]; omega
    · obtain rfl : i = n := by omega
      go_wp2_with fail
      go_ret
      exact ⟨rfl, rfl⟩
end Go.Proofs.Ytnlneblipedddaa

namespace Go.Proofs.Ytnlneblipedddaa
open Go.RowKit

/-- The square of performer i's way. -/
def mSq (t : TrN) (i : Nat) : Int := sqL (X t.xs i) (Y t.xs i) (X t.ys (plc t i)) (Y t.ys (plc t i))
def suT (t : TrN) : Nat → Int
  | 0 => 0
  | i + 1 => suT t i + mSq t i
/-- The first of the farthest among the first i. -/
def faT (t : TrN) : Nat → Nat
  | 0 => 0
  | i + 1 => if mSq t (faT t i) < mSq t i then i else faT t i
theorem mSq_in {t : TrN} (h : TrOk t) {i : Nat} (hi : i < t.n) : 0 ≤ mSq t i ∧ mSq t i ≤ 2100000 := sq_in (h.from_ i hi) (h.to_ _ (h.place i hi).2)
theorem suT_in {t : TrN} (h : TrOk t) : ∀ k, k ≤ t.n → 0 ≤ suT t k ∧ suT t k ≤ 2100000 * (k : Int)
  | 0, _ => by simp [suT]
  | k + 1, hk => by
    have h1 := suT_in h k (by omega)
    have h2 := mSq_in h (show k < t.n by omega)
    rw [suT]
    omega
theorem faT_is {t : TrN} : ∀ k, (faT t k < k ∨ faT t k = 0) ∧ (∀ j, j < k → mSq t j ≤ mSq t (faT t k)) ∧ ∀ j, j < faT t k → mSq t j < mSq t (faT t k)
  | 0 => ⟨.inr rfl, fun j hj => absurd hj (by omega), fun j hj => absurd hj (by simp [faT])⟩
  | k + 1 => by
    obtain ⟨h1, h2, h3⟩ := faT_is (t := t) k
    rw [faT]
    split
    · rename_i hlt
      refine ⟨.inl (by omega), fun j hj => ?_, fun j hj => ?_⟩
      · rcases Nat.lt_succ_iff_lt_or_eq.1 hj with h | rfl
        · have := h2 j h; omega
        · exact Int.le_refl _
      · have := h2 j hj; omega
    · rename_i hge
      refine ⟨by rcases h1 with h | h; exact .inl (by omega); exact .inr h, fun j hj => ?_, h3⟩
      rcases Nat.lt_succ_iff_lt_or_eq.1 hj with h | rfl
      · exact h2 j h
      · omega
theorem faT_lt {t : TrN} {k : Nat} (hk : 1 ≤ k) : faT t k < k := by
  rcases (faT_is (t := t) k).1 with h | h
  · exact h
  · omega
/-- Two performers have each other's place. -/
def swT (t : TrN) (i k : Nat) : TrN := ⟨t.n, t.xs, t.m, t.ys, t.c, t.p, (t.ps.set i (t.ps.getD k 0)).set k (t.ps.getD i 0)⟩
theorem sw_get (ps : List Int) (i k j : Nat) (hi : i < ps.length) (hk : k < ps.length) : ((ps.set i (ps.getD k 0)).set k (ps.getD i 0)).getD j 0 = if j = k then ps.getD i 0 else if j = i then ps.getD k 0 else ps.getD j 0 := by
  simp only [List.getD_eq_getElem?_getD, List.getElem?_set, List.length_set]
  by_cases e1 : j = k
  · subst e1; simp [hk]
  · rw [if_neg (Ne.symm e1), if_neg e1]
    by_cases e2 : j = i
    · subst e2; simp [hi]
    · rw [if_neg (Ne.symm e2), if_neg e2]
/-- A swap done twice leaves the list as it was. -/
theorem sw_twice (ps : List Int) (i k : Nat) (hi : i < ps.length) (hk : k < ps.length) : ((((ps.set i (ps.getD k 0)).set k (ps.getD i 0)).set i (((ps.set i (ps.getD k 0)).set k (ps.getD i 0)).getD k 0)).set k (((ps.set i (ps.getD k 0)).set k (ps.getD i 0)).getD i 0)) = ps := by
  have hl : ((ps.set i (ps.getD k 0)).set k (ps.getD i 0)).length = ps.length := by simp
  refine List.ext_getElem? fun j => ?_
  have e : ∀ l : List Int, l.length = ps.length → l.getD j 0 = ps.getD j 0 → l[j]? = ps[j]? := by
    intro l h1 h2
    by_cases hj : j < ps.length
    · simp only [List.getD_eq_getElem?_getD, List.getElem?_eq_getElem hj, List.getElem?_eq_getElem (show j < l.length by omega), Option.getD_some] at h2
      rw [List.getElem?_eq_getElem hj, List.getElem?_eq_getElem (show j < l.length by omega), h2]
    · rw [List.getElem?_eq_none (by omega), List.getElem?_eq_none (by omega)]
  refine e _ (by simp) ?_
  rw [sw_get _ i k j (by rw [hl]; exact hi) (by rw [hl]; exact hk), sw_get ps i k i hi hk, sw_get ps i k k hi hk, sw_get ps i k j hi hk]
  by_cases e1 : j = k
  · subst e1
    rw [if_pos rfl]
    by_cases e2 : i = j
    · rw [if_pos e2, e2]
    · rw [if_neg e2, if_pos rfl]
  · rw [if_neg e1, if_neg e1]
    by_cases e2 : j = i
    · subst e2; simp
    · rw [if_neg e2, if_neg e2]
def swJ (i k j : Nat) : Nat := if j = k then i else if j = i then k else j
theorem swJ_lt {i k j n : Nat} (hi : i < n) (hk : k < n) (hj : j < n) : swJ i k j < n := by unfold swJ; split <;> (try split) <;> omega
theorem swJ_inj {i k a b : Nat} (h : swJ i k a = swJ i k b) : a = b := by
  unfold swJ at h
  split at h <;> split at h <;> (try split at h) <;> (try split at h) <;> omega
theorem sw_getJ {ps : List Int} {i k : Nat} (j : Nat) (hi : i < ps.length) (hk : k < ps.length) : ((ps.set i (ps.getD k 0)).set k (ps.getD i 0)).getD j 0 = ps.getD (swJ i k j) 0 := by
  rw [sw_get ps i k j hi hk]
  unfold swJ
  split
  · rfl
  · split <;> rfl
/-- A list is a matching if and only if its numbers are different ones below m. -/
theorem ma_iff {m p : Nat} {ps : List Int} : maB m p ps = true ↔ p = m ∧ (∀ i, i < p → 0 ≤ ps.getD i 0 ∧ ps.getD i 0 < (m : Int)) ∧ ∀ i j, i < p → j < p → ps.getD i 0 = ps.getD j 0 → i = j := by
  simp only [maB, Bool.and_eq_true, List.all_eq_true, List.mem_range, beq_iff_eq, maOk, Bool.not_eq_true', List.any_eq_false]
  constructor
  · rintro ⟨h1, h2⟩
    refine ⟨h2, fun i hi => ?_, fun i j hi hj he => ?_⟩
    · have := inB_yes (h1 i hi).1
      omega
    · rcases Nat.lt_trichotomy i j with h | h | h
      · exact absurd he ((h1 j hj).2 i h)
      · exact h
      · exact absurd he.symm ((h1 i hi).2 j h)
  · rintro ⟨h1, h2, h3⟩
    refine ⟨fun i hi => ⟨inB_mk (h2 i hi).1 (by have := (h2 i hi).2; omega), fun j hj he => ?_⟩, h1⟩
    have := h3 j i (by omega) hi he
    omega
theorem sw_ma {m : Nat} {ps : List Int} {i k : Nat} (hl : ps.length = m) (hi : i < m) (hk : k < m) (h : maB m m ps = true) : maB m m ((ps.set i (ps.getD k 0)).set k (ps.getD i 0)) = true := by
  obtain ⟨-, h2, h3⟩ := ma_iff.1 h
  refine ma_iff.2 ⟨rfl, fun j hj => ?_, fun a b ha hb he => ?_⟩
  · rw [sw_getJ j (by omega) (by omega)]
    exact h2 _ (swJ_lt hi hk hj)
  · rw [sw_getJ a (by omega) (by omega), sw_getJ b (by omega) (by omega)] at he
    exact swJ_inj (h3 _ _ (swJ_lt hi hk ha) (swJ_lt hi hk hb) he)
theorem sw_good {t : TrN} {i k : Nat} (h : trB t = true) (hl : t.ps.length = t.p) (hi : i < t.n) (hk : k < t.n) : trB (swT t i k) = true := by
  have hok := tr_ok h
  simp only [trB, Bool.and_eq_true] at h ⊢
  obtain ⟨h1, h2, h3, h4, h5⟩ := h
  refine ⟨h1, h2, h3, h4, ?_⟩
  have hp := hok.p
  show maB t.n t.p _ = true
  rw [hp] at h5 ⊢
  exact sw_ma (by omega) hi hk h5
/-- By how much a swap lowers the sum. -/
def gaT (t : TrN) (i k : Nat) : Int := suT t t.n - suT (swT t i k) t.n
theorem gaT_in {t : TrN} (h : trB t = true) (hl : t.ps.length = t.p) {i k : Nat} (hi : i < t.n) (hk : k < t.n) : -25200000 ≤ gaT t i k ∧ gaT t i k ≤ 25200000 := by
  have hok := tr_ok h
  have hok2 := tr_ok (sw_good h hl hi hk)
  have a := suT_in hok t.n (Nat.le_refl _)
  have b := suT_in hok2 t.n (Nat.le_refl _)
  have := hok.n1
  unfold gaT
  omega
def bsIn (t : TrN) (i : Nat) (s : Nat × Nat × Int) : Nat → Nat × Nat × Int
  | 0 => s
  | d + 1 => if i < d ∧ (bsIn t i s d).2.2 < gaT t i d then (i, d, gaT t i d) else bsIn t i s d
def bsOut (t : TrN) (n : Nat) : Nat → Nat × Nat × Int
  | 0 => (0, 0, 0)
  | a + 1 => bsIn t a (bsOut t n a) n
theorem bsIn_first (t : TrN) (i : Nat) (s : Nat × Nat × Int) : ∀ d, d ≤ i + 1 → bsIn t i s d = s
  | 0, _ => rfl
  | d + 1, h => by rw [bsIn, bsIn_first t i s d (by omega), if_neg (by omega)]
theorem bsIn_yes {t : TrN} {i d : Nat} {s : Nat × Nat × Int} (h : i < d) (hp : (bsIn t i s d).2.2 < gaT t i d) : bsIn t i s (d + 1) = (i, d, gaT t i d) := by rw [bsIn, if_pos ⟨h, hp⟩]
theorem bsIn_no {t : TrN} {i d : Nat} {s : Nat × Nat × Int} (hp : ¬ (bsIn t i s d).2.2 < gaT t i d) : bsIn t i s (d + 1) = bsIn t i s d := by rw [bsIn, if_neg (by omega)]
/-- The triple names a swap and its gain, or says that there is none. -/
def bsOk (t : TrN) (s : Nat × Nat × Int) : Prop := 0 ≤ s.2.2 ∧ s.2.2 ≤ 25200000 ∧ (s = (0, 0, 0) ∨ (1 ≤ s.2.2 ∧ s.1 < s.2.1 ∧ s.2.1 < t.n ∧ s.2.2 = gaT t s.1 s.2.1))
theorem bsIn_ok {t : TrN} (h : trB t = true) (hl : t.ps.length = t.p) {i : Nat} {s : Nat × Nat × Int} (hi : i < t.n) (hs : bsOk t s) : ∀ d, d ≤ t.n → bsOk t (bsIn t i s d)
  | 0, _ => hs
  | d + 1, hd => by
    have ih := bsIn_ok h hl hi hs d (by omega)
    rw [bsIn]
    split
    · rename_i hc
      have hg := gaT_in h hl hi (show d < t.n by omega)
      have h0 := ih.1
      exact ⟨by show 0 ≤ gaT t i d; omega, hg.2, .inr ⟨by show 1 ≤ gaT t i d; omega, hc.1, by show d < t.n; omega, rfl⟩⟩
    · exact ih
theorem bsOut_ok {t : TrN} (h : trB t = true) (hl : t.ps.length = t.p) : ∀ a, a ≤ t.n → bsOk t (bsOut t t.n a)
  | 0, _ => ⟨by simp [bsOut], by simp [bsOut], .inl rfl⟩
  | a + 1, ha => by
    rw [bsOut]
    exact bsIn_ok h hl (by omega) (bsOut_ok h hl a (by omega)) t.n (Nat.le_refl _)
/-! ### What BestSwap returns -/
def bsV (t : TrN) : Nat × Nat × Int := if trB t = true then bsOut t t.n t.n else (0, 0, 0)
def bsB (t : TrN) : Bool := trB t && !(bsV t).2.2 == 0
end Go.Proofs.Ytnlneblipedddaa

namespace Go.Proofs.Ytnlneblipedddaa
open Go.RowKit

theorem own_empty2 (w : World) (o : Obj) (e : TypeId) (sz : Nat) : ((w.alloc o).alloc (.cells #[] e)).ownsRow w.heap.size e sz (.slice (some ⟨w.heap.size + 1, 0, none⟩) 0 0) 0 (ints []) := by
  have he := own_empty (w.alloc o) e sz
  have hsz : (w.alloc o).heap.size = w.heap.size + 1 := by simp
  rw [hsz] at he
  exact own_base he (by omega)
set_option maxRecDepth 100000 in
set_option maxHeartbeats 4000000 in
theorem squaresOf_any (v u : Value) (n m B : Nat) (xs ys : List Int) (w : World) (hv : Rd w B 2 v n xs) (hu : Rd w B 2 u m ys) (hB : B ≤ w.heap.size) (hn : n ≤ 12) (hm : m ≤ 12)
    (hx : ∀ i, i < n → spotB (X xs i) (Y xs i) = true) (hy : ∀ i, i < m → spotB (X ys i) (Y ys i) = true) :
    Calls Try.prog 36 #[v, u] w fun e w' => ∃ r vs, e = .returned r ∧ Grid w' w.heap.size r n vs (coRs xs ys m n) ∧ Below w.heap.size w w' := by
  obtain ⟨A, c, rfl⟩ := hv.form
  obtain ⟨A', c', rfl⟩ := hu.form
  have HV := Lib.hid hv
  have HU := Lib.hid hu
  have HX := Lib.hid hx
  have HY := Lib.hid hy
  clear hv hu hx hy
  go_enter Try.func36, Try.ntmps36
  go_wp2_with fail
  go_loopw [5, 14] (fun o i wr => ∃ (k : Nat) (vs : List Value), k ≤ n ∧ i = .int .i64 k ∧ Grid wr w.heap.size o k vs (coRs xs ys m k) ∧ Below w.heap.size w wr) (fun _ i _ => n - (intOf i).toNat)
  case atStart => exact ⟨0, [], by omega, rfl, Grid.empty w, below_new (Below.refl _ _) (.cells #[] 27)⟩
  case round =>
    obtain ⟨i, vs, hi, rfl, hgrid, hb⟩ := hrel
    obtain ⟨Ao, co, rfl⟩ := hgrid.rd.form
    have HG := Lib.hid hgrid
    have HB := Lib.hid hb
    clear hgrid hb
    by_cases hlt : i < n
    · obtain ⟨bA, oA, rfl, hbA, hcA⟩ := HV.out.spot (by omega)
      obtain ⟨c0, c1⟩ := hcA i hlt
      replace c0 := (HB.out.cell (p := ⟨bA, oA + i * 2, none⟩) (Nat.lt_of_lt_of_le hbA hB)).trans c0
      replace c1 := (HB.out.cell (p := ⟨bA, oA + i * 2 + 1, none⟩) (Nat.lt_of_lt_of_le hbA hB)).trans c1
      have hsx := HX.out i hlt
      have hrow := (show ∀ k, coRow xs ys i (k + 1) = coRow xs ys i k ++ [sqL (X xs i) (Y xs i) (X ys k) (Y ys k)] from fun k => rfl)
      have hro0 : coRow xs ys i 0 = [] := rfl
      have hrl := coRow_length xs ys i
      obtain ⟨x, ex⟩ : ∃ x, X xs i = x := ⟨_, rfl⟩
      obtain ⟨y, ey⟩ : ∃ x, Y xs i = x := ⟨_, rfl⟩
      rw [ex] at c0 hsx hrow
      rw [ey] at c1 hsx hrow
      have hnx := (show coRs xs ys m (i + 1) = coRs xs ys m i ++ [coRow xs ys i m] from rfl)
      obtain ⟨R, eR⟩ : ∃ R, coRow xs ys i = R := ⟨_, rfl⟩
      rw [eR] at hrow hnx hro0 hrl
      have HROW := Lib.hid hrow
      have HNX := Lib.hid hnx
      have HRL := Lib.hid hrl
      have i0 : (0 : Int) ≤ (i : Int) := by omega
      have i1 : (i : Int) < (n : Int) := by omega
      have K0 := Lib.hid (Blk.new wr 75 #[.int .i64 x, .int .i64 y])
      have HB1 := Lib.hid ((Below.refl wr.heap.size wr).alloc (Nat.le_refl _) (.cells #[.int .i64 x, .int .i64 y] 75))
      have E0 := Lib.hid hro0
      have HSX := Lib.hid hsx
      clear ex ey eR hcA hro0 hrow hnx hrl hsx
      obtain ⟨wo, ewo⟩ : ∃ wo, wr = wo := ⟨_, rfl⟩
      rw [ewo] at HB1 HG K0 HB c0 c1 ⊢
      clear ewo
      go_wp2_with fail
      go_loopw [8, 21] (fun o k wq => ∃ k' : Nat, k' ≤ m ∧ k = .int .i64 k' ∧ wq.ownsRow wo.heap.size 3 1 o k' (ints (R k')) ∧ Blk wq wo.heap.size 75 #[.int .i64 x, .int .i64 y] ∧ Below wo.heap.size wo wq) (fun _ k _ => m - (intOf k).toNat)
      case atStart => exact ⟨0, by omega, rfl, by rw [E0.out]; exact own_empty2 wo (.cells #[.int .i64 x, .int .i64 y] 75) 3 1, K0.out.alloc (.cells #[] 3), below_new HB1.out (.cells #[] 3)⟩
      case round =>
        clear c0 c1 K0 HB1
        obtain ⟨k, hk, rfl, hown, hkx, hbq⟩ := hrel
        have HO := Lib.hid hown
        have HBQ := Lib.hid hbq
        have HK := Lib.hid hkx
        clear hown hbq hkx
        by_cases hlk : k < m
        · obtain ⟨bC, oC, rfl, hbC, hcC⟩ := HU.out.spot (by omega)
          obtain ⟨d0, d1⟩ := hcC k hlk
          have HBB := Lib.hid (below_on HB.out HBQ.out)
          replace d0 := (HBB.out.cell (p := ⟨bC, oC + k * 2, none⟩) (Nat.lt_of_lt_of_le hbC hB)).trans d0
          replace d1 := (HBB.out.cell (p := ⟨bC, oC + k * 2 + 1, none⟩) (Nat.lt_of_lt_of_le hbC hB)).trans d1
          have hsy := HY.out k hlk
          have hnr := HROW.out k
          obtain ⟨z, ez⟩ : ∃ x, X ys k = x := ⟨_, rfl⟩
          obtain ⟨u, eu⟩ : ∃ x, Y ys k = x := ⟨_, rfl⟩
          rw [ez] at d0 hsy hnr
          rw [eu] at d1 hsy hnr
          have h1 := spotB_yes HSX.out
          have h2 := spotB_yes hsy
          have HP := Lib.hid (fun W => squareOf_any x y z u W (by omega) (by omega) (by omega) (by omega))
          obtain ⟨q, eq⟩ : ∃ q, sqL x y z u = q := ⟨_, rfl⟩
          rw [eq] at HP hnr
          have HNR := Lib.hid hnr
          have k0 : (0 : Int) ≤ (k : Int) := by omega
          have k1 : (k : Int) < (m : Int) := by omega
          obtain ⟨a0, a1⟩ := HK.out.c2
          have SY := Lib.hid (Blk.new wr 75 #[.int .i64 z, .int .i64 u])
          obtain ⟨b0, b1⟩ := SY.out.c2
          have a2 := cell_new a0 (.cells #[.int .i64 z, .int .i64 u] 75)
          have a3 := cell_new a1 (.cells #[.int .i64 z, .int .i64 u] 75)
          have HO1 := Lib.hid (HO.out.alloc (.cells #[.int .i64 z, .int .i64 u] 75))
          have HK1 := Lib.hid (HK.out.alloc (.cells #[.int .i64 z, .int .i64 u] 75))
          have HB1 := Lib.hid (below_new HBQ.out (.cells #[.int .i64 z, .int .i64 u] 75))
          clear ez eu eq hcC hsy h1 h2 hnr HO HK HBQ HBB
          go_wp2_with fail
          refine (HP.out _).mono ?_
          rintro e w2 ⟨rfl, hb2⟩
          have HO2 := Lib.hid ((own_below HO1.out hb2 (Nat.le_refl _)).alloc (.cells #[.int .i64 q] 3))
          have HK2 := Lib.hid ((HK1.out.on hb2).alloc (.cells #[.int .i64 q] 3))
          have hb3 := below_on HB1.out hb2
          have hsz := hb3.size
          have HB2 := Lib.hid (below_new hb3 (.cells #[.int .i64 q] 3))
          have n0 := (Blk.new w2 3 #[.int .i64 q]).c1
          clear hb2 hb3 HO1 HK1 HB1 SY a0 a1 a2 a3 b0 b1 d0 d1
          go_wp2_with (at_builtin; refine app_int rfl _ _ rfl wo.heap.size _ k (R k) rfl HO2.out w2.heap.size q rfl n0 (by omega) (by simp; omega) ?_; intro v' w9 ho9 hg9)
          have HO9 := Lib.hid (show w9.ownsRow wo.heap.size 3 1 v' (k + 1) (ints (R (k + 1))) by rw [HNR.out]; exact ho9)
          have HK9 := Lib.hid (HK2.out.grown hg9 (fun e => own_blk_ne HO2.out HK2.out (by decide) e.symm))
          have HB9 := Lib.hid (HB2.out.grown hg9 (by simp; omega) (fun g hg => (HO2.out.lt g hg).1))
          clear ho9 hg9 n0 HO2 HK2 HB2
          go_wp2_with fail
          go_roundw
          case rel => exact ⟨k + 1, by omega, by go_num, HO9.out, HK9.out, HB9.out⟩
          case measure => simp [intOf]; omega
        · obtain rfl : k = m := by omega
          obtain ⟨Ar, cr, rfl⟩ := (Rd.of_own HO.out).form
          have HGX := Lib.hid ((HG.out.below HBQ.out (Nat.le_refl _)).below ((Below.refl wr.heap.size wr).alloc (Nat.le_refl _) (.cells #[.slice Ar k cr] 27)) (Nat.le_refl _))
          have hrw := own_base (HO.out.alloc (.cells #[.slice Ar k cr] 27)) HB.out.size
          have hbx := below_new (below_on HB.out HBQ.out) (.cells #[.slice Ar k cr] 27)
          have hsz := hbx.size
          have HRX := Lib.hid (show (wr.alloc (.cells #[.slice Ar k cr] 27)).ownsRow w.heap.size 3 1 (.slice Ar k cr) (R k).length (ints (R k)) by rw [HRL.out]; exact hrw)
          have HBX := Lib.hid hbx
          have n0 := (Blk.new wr 27 #[.slice Ar k cr]).c1
          clear hrw hbx
          go_wp2_with (at_builtin; refine app_grid rfl _ _ rfl w.heap.size _ i vs _ rfl HGX.out wr.heap.size _ _ rfl n0 HRX.out (by omega) hsz ?_; intro v' w9 ho9 hg9)
          have HG9 := Lib.hid (show Grid w9 w.heap.size v' (i + 1) (vs ++ [.slice Ar k cr]) (coRs xs ys k (i + 1)) by rw [HNX.out]; exact ho9)
          have HB9 := Lib.hid (HBX.out.grown hg9 hsz (fun g hg => (HGX.out.own.lt g hg).1))
          clear ho9 hg9 n0 HGX HRX HBX
          go_wp2_with fail
          go_roundw
          case rel => exact ⟨i + 1, _, by omega, by go_num, HG9.out, HB9.out⟩
          case measure => simp [intOf]; omega
    · obtain rfl : i = n := by omega
      go_wp2_with fail
      go_ret
      exact ⟨_, _, rfl, HG.out, HB.out⟩
end Go.Proofs.Ytnlneblipedddaa
