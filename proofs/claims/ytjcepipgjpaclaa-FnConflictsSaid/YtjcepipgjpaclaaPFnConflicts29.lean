/- Contracts of the laws' own comparisons and questions on lists of numbers, rows and moves, of TransitionMoves on both sides, and of the program's StayApart. Conditions: the lists can be read. Contracts of the two FreePerformers. Conditions: the transition's slices can be read, and are short. -/
import Derived.Test.YtjcepipgjpaclaaPFnConflicts11
import Derived.Test.YtjcepipgjpaclaaPFnConflicts03
import Derived.Test.YtjcepipgjpaclaaPFnConflicts27
import Derived.Test.YtjcepipgjpaclaaPFnConflicts28
import Derived.Test.YtjcepipgjpaclaaPFnConflicts14
import Derived.Deep.RegionHeld3
namespace Go.Proofs.Ytjcepipgjpaclaa
open Go.RowKit

theorem small_at2 {rs : List (List Int)} (h : smallRows rs) {j : Nat} {r : List Int} (hr : rs[j]? = some r) : r.length ≤ 1000 := h.2 _ (List.mem_of_getElem? hr)
set_option maxRecDepth 100000 in
set_option maxHeartbeats 1000000 in
theorem sameLists_same (v u : Value) (n lo lo2 : Nat) (gs hs : List Nat) (rs : List (List Int)) (w : World) (hv : Rows w lo v n gs rs) (hu : Rows w lo2 u n hs rs) (hr : smallRows rs) :
    Calls Try.prog 21 #[v, u] w fun e w' => e = .returned (.bool true) ∧ Below w.heap.size w w' := by
  obtain ⟨A, c, rfl⟩ := hv.form
  obtain ⟨C, d, rfl⟩ := hu.form
  have hlen : n ≤ 1000 := by rw [← hv.lr]; exact hr.1
  have Hv := Lib.hid hv
  have Hu := Lib.hid hu
  have Hr := Lib.hid hr
  have hnn : ((n : Int) != (n : Int)) = false := by simp
  clear hv hu hr
  go_enter Try.func21, Try.ntmps21
  go_wp2_with fail
  go_loopw [13] (fun i wr => ∃ j : Nat, j ≤ n ∧ i = .int .i64 j ∧ Below w.heap.size w wr) (fun i _ => n - (intOf i).toNat)
  case atStart => exact ⟨0, Nat.zero_le _, rfl, Below.refl _ _⟩
  case round =>
    obtain ⟨j, hj, rfl, hb⟩ := hrel
    by_cases hlt : j < n
    · obtain ⟨b, cp, g, r, e1, c0, hg, hrr, -, hk, -⟩ := Hv.out.at hlt
      obtain ⟨b', cp', g', r', e2, c1, hg', hrr', -, hk', -⟩ := Hu.out.at hlt
      simp only [Value.slice.injEq, true_and] at e1 e2
      obtain ⟨rfl, rfl⟩ := e1
      obtain ⟨rfl, rfl⟩ := e2
      obtain rfl : r = r' := Option.some.inj (hrr.symm.trans hrr')
      have hl := small_at2 Hr.out hrr
      have P := Lib.hid (fun W (hb : Below w.heap.size w W) => sameInts_same (rowV g r) (rowV g' r) r.length w.heap.size r W ((rd_of_blk hk).below hb) ((rd_of_blk hk').below hb) hb.size (by omega))
      replace c0 := cell_on hb c0
      replace c1 := cell_on hb c1
      have j0 : (0 : Int) ≤ (j : Int) := by omega
      have j1 : (j : Int) < (n : Int) := by omega
      unfold rowV at c0 c1 P
      clear hg hrr hk hg' hrr' hk' hl
      go_wp2_with fail
      go_region_held3 (fun W => W.cell? ⟨b, j, none⟩ = some (.slice (some ⟨g, 0, none⟩) r.length r.length) ∧ W.cell? ⟨b', j, none⟩ = some (.slice (some ⟨g', 0, none⟩) r.length r.length) ∧ Below w.heap.size w W)
        (first | exact ⟨c0, c1, hb.drew⟩ | (go_split_ands; exact ⟨cell_on hb2 (by assumption), cell_on hb2 (by assumption), below_on (by assumption) hb2⟩) | go_keep)
        (first | (go_at_call 22; refine (P.out _ (by go_split_ands; assumption)).mono ?_; rintro e w2 ⟨rfl, hb2⟩))
      go_split_ands
      rename_i hb9
      have HB := Lib.hid hb9
      clear c0 c1 hb hb9
      go_wp2_with fail
      go_roundw
      case rel => exact ⟨j + 1, by omega, by go_num, HB.out⟩
      case measure => simp [intOf]; omega
    · go_wp2_with fail
      go_ret
      exact ⟨rfl, hb⟩
set_option maxRecDepth 100000 in
set_option maxHeartbeats 4000000 in
theorem pSameMoves_same (v u : Value) (n B : Nat) (xs : List Int) (w : World) (hv : Rd w B 5 v n xs) (hu : Rd w B 5 u n xs) (hB : B ≤ w.heap.size) (hn : n ≤ 1099511627776) :
    Calls Try.prog 25 #[v, u] w fun e w' => e = .returned (.bool true) ∧ Below w.heap.size w w' := by
  obtain ⟨_, A, c, rfl, hA⟩ := hv
  obtain ⟨_, C, d, rfl, hC⟩ := hu
  have hnn : ((n : Int) != (n : Int)) = false := by simp
  go_enter Try.func25, Try.ntmps25
  go_wp2_with fail
  go_loopw [13] (fun i wr => ∃ k : Nat, k ≤ n ∧ i = .int .i64 k ∧ Below w.heap.size w wr) (fun i _ => n - (intOf i).toNat)
  case atStart => exact ⟨0, Nat.zero_le _, rfl, Below.refl _ _⟩
  case round =>
    obtain ⟨k, hk, rfl, hb⟩ := hrel
    by_cases hlt : k < n
    · obtain ⟨b, off, rfl, hbB, hc⟩ := hA (by omega)
      obtain ⟨b', off', rfl, hbB', hc'⟩ := hC (by omega)
      have c0 := (hb.cell (p := ⟨b, off + k * 5, none⟩) (Nat.lt_of_lt_of_le hbB hB)).trans (hc (k * 5) (by omega))
      have d0 := (hb.cell (p := ⟨b', off' + k * 5, none⟩) (Nat.lt_of_lt_of_le hbB' hB)).trans (hc' (k * 5) (by omega))
      have c1 := (hb.cell (p := ⟨b, off + (k * 5 + 1), none⟩) (Nat.lt_of_lt_of_le hbB hB)).trans (hc (k * 5 + 1) (by omega))
      have d1 := (hb.cell (p := ⟨b', off' + (k * 5 + 1), none⟩) (Nat.lt_of_lt_of_le hbB' hB)).trans (hc' (k * 5 + 1) (by omega))
      have c2 := (hb.cell (p := ⟨b, off + (k * 5 + 2), none⟩) (Nat.lt_of_lt_of_le hbB hB)).trans (hc (k * 5 + 2) (by omega))
      have d2 := (hb.cell (p := ⟨b', off' + (k * 5 + 2), none⟩) (Nat.lt_of_lt_of_le hbB' hB)).trans (hc' (k * 5 + 2) (by omega))
      have c3 := (hb.cell (p := ⟨b, off + (k * 5 + 3), none⟩) (Nat.lt_of_lt_of_le hbB hB)).trans (hc (k * 5 + 3) (by omega))
      have d3 := (hb.cell (p := ⟨b', off' + (k * 5 + 3), none⟩) (Nat.lt_of_lt_of_le hbB' hB)).trans (hc' (k * 5 + 3) (by omega))
      have c4 := (hb.cell (p := ⟨b, off + (k * 5 + 4), none⟩) (Nat.lt_of_lt_of_le hbB hB)).trans (hc (k * 5 + 4) (by omega))
      have d4 := (hb.cell (p := ⟨b', off' + (k * 5 + 4), none⟩) (Nat.lt_of_lt_of_le hbB' hB)).trans (hc' (k * 5 + 4) (by omega))
      rw [← Nat.add_assoc] at c1 d1 c2 d2 c3 d3 c4 d4
      obtain ⟨x, ex⟩ : ∃ a, xs.getD (k * 5) 0 = a := ⟨_, rfl⟩
      rw [ex] at c0 d0
      obtain ⟨y, ey⟩ : ∃ a, xs.getD (k * 5 + 1) 0 = a := ⟨_, rfl⟩
      rw [ey] at c1 d1
      obtain ⟨z, ez⟩ : ∃ a, xs.getD (k * 5 + 2) 0 = a := ⟨_, rfl⟩
      rw [ez] at c2 d2
      obtain ⟨u, eu⟩ : ∃ a, xs.getD (k * 5 + 3) 0 = a := ⟨_, rfl⟩
      rw [eu] at c3 d3
      obtain ⟨v, ev⟩ : ∃ a, xs.getD (k * 5 + 4) 0 = a := ⟨_, rfl⟩
      rw [ev] at c4 d4
      have hk0 : (0 : Int) ≤ (k : Int) := by omega
      have hk1 : (k : Int) < (n : Int) := by omega
      have q0 : (x != x) = false := by simp
      have q1 : (y != y) = false := by simp
      have q2 : (z != z) = false := by simp
      have q3 : (u != u) = false := by simp
      have q4 : (v != v) = false := by simp
      have HB := Lib.hid hb
      clear hc hc' hA hC ex ey ez eu ev hb
      go_wp2_with fail
      go_quiet (fail)
      go_wp2_with fail
      go_roundw
      case rel => exact ⟨k + 1, by omega, by go_num, below_drewN HB.out _⟩
      case measure => simp [intOf]; omega
    · have HB := Lib.hid hb
      clear hb hA hC
      go_wp2_with fail
      go_ret
      exact ⟨rfl, HB.out⟩
set_option maxHeartbeats 1000000 in
theorem pIn_any (v : Value) (n B : Nat) (xs : List Int) (x : Int) (w : World) (hv : RdP w B 1 v n xs) (hB : B ≤ w.heap.size) (hn : n ≤ 1099511627776) :
    Calls Try.prog 27 #[v, .int .i64 x] w fun e w' => e = .returned (.bool (hasI xs n x)) ∧ w = w' := by
  obtain ⟨A, c, rfl, hA⟩ := hv
  go_enter Try.func27, Try.ntmps27
  go_wp2_with fail
  go_loop [9] (fun i => ∃ k : Nat, k ≤ n ∧ i = .int .i64 k ∧ (∀ j, j < k → ¬ xs.getD j 0 = x)) (fun i => n - (intOf i).toNat)
  case atStart => exact ⟨0, Nat.zero_le _, rfl, fun j h => absurd h (by omega)⟩
  case round =>
    obtain ⟨k, hk, rfl, hno⟩ := hrel
    have HN := Lib.hid hno
    clear hno
    by_cases hlt : k < n
    · obtain ⟨b, off, rfl, hbB, hc⟩ := hA (by omega)
      have hc0 := hc k (by omega)
      obtain ⟨p, ep⟩ : ∃ p, xs.getD k 0 = p := ⟨_, rfl⟩
      rw [ep] at hc0
      have EP := Lib.hid ep
      clear hc hA ep
      by_cases heq : p = x
      · have HY := Lib.hid (hasI_yes (xs := xs) (n := n) (x := x) hlt (EP.out.trans heq))
        subst heq
        go_wp2_with fail
        go_ret
        exact ⟨by rw [HY.out]; rfl, rfl⟩
      · go_wp2_with fail
        go_round
        case rel =>
          refine ⟨k + 1, by omega, by go_num, fun j hj => ?_⟩
          rcases Nat.lt_succ_iff_lt_or_eq.1 hj with h | rfl
          · exact HN.out j h
          · rw [EP.out]; assumption
        case measure => simp [intOf]; omega
    · obtain rfl : k = n := by omega
      have HY := Lib.hid (hasI_no HN.out)
      clear hA
      go_wp2_with fail
      go_ret
      exact ⟨by rw [HY.out]; rfl, rfl⟩
set_option maxHeartbeats 1000000 in
theorem pSum_any (v : Value) (n B : Nat) (xs : List Int) (w : World) (hv : Rd w B 1 v n xs) (hB : B ≤ w.heap.size) (hn : n ≤ 1000) (hs : ∀ k, k ≤ n → -1000000000 ≤ sumTo xs k ∧ sumTo xs k ≤ 1000000000) :
    Calls Try.prog 26 #[v] w fun e w' => e = .returned (.int .i64 (sumTo xs n)) ∧ w = w' := by
  obtain ⟨_, A, c, rfl, hA⟩ := hv
  have HS := Lib.hid hs
  clear hs
  go_enter Try.func26, Try.ntmps26
  go_wp2_with fail
  go_loop [3, 8] (fun s i => ∃ k : Nat, k ≤ n ∧ i = .int .i64 k ∧ s = .int .i64 (sumTo xs k)) (fun _ i => n - (intOf i).toNat)
  case atStart => exact ⟨0, Nat.zero_le _, rfl, rfl⟩
  case round =>
    obtain ⟨k, hk, rfl, rfl⟩ := hrel
    by_cases hlt : k < n
    · obtain ⟨b, off, rfl, hbB, hc⟩ := hA (by omega)
      have c0 := hc k (by omega)
      have h0 := HS.out k (by omega)
      have h1 := HS.out (k + 1) (by omega)
      have h2 : sumTo xs (k + 1) = sumTo xs k + xs.getD k 0 := rfl
      obtain ⟨x, ex⟩ : ∃ x, xs.getD k 0 = x := ⟨_, rfl⟩
      obtain ⟨s, es⟩ : ∃ x, sumTo xs k = x := ⟨_, rfl⟩
      rw [ex] at c0 h2
      rw [es] at h2 h0 ⊢
      have i1 := IntWalk.i64_in (s + x) (by omega)
      have k0 : (0 : Int) ≤ (k : Int) := by omega
      have k1 : (k : Int) < (n : Int) := by omega
      have H2 := Lib.hid h2
      clear ex es h2 hc hA
      go_wp2_with fail
      go_round
      case rel => exact ⟨k + 1, by omega, by go_num, by rw [H2.out]⟩
      case measure => simp [intOf]; omega
    · obtain rfl : k = n := by omega
      go_wp2_with fail
      go_ret
      exact ⟨rfl, rfl⟩
set_option maxHeartbeats 2000000 in
theorem TransitionMoves_any (v : Value) (B : Nat) (t : TrN) (w : World) (hcp : CapT v) (hv : RdT w B v t) (hB : B ≤ w.heap.size) (hs : t.small) (hg : trB t = true) :
    Calls Try.prog 23 #[v] w fun e w' => ∃ u, e = .returned (.tuple #[u, .bool true]) ∧ w'.ownsRow w.heap.size 47 5 u t.n (ints (mvTo t t.n)) ∧ Below w.heap.size w w' := by
  have P := Lib.hid (fun W (hb : Below w.heap.size w W) => IsTransition_any v B t W hcp (hv.below' hb hB) (Nat.le_trans hB hb.size) hs)
  have Q := Lib.hid (fun W (hb : Below w.heap.size w W) => movesOf_any v B t W (hv.below' hb hB) (Nat.le_trans hB hb.size) (tr_ok hg))
  obtain ⟨A, ca, C, cb, D, cc, rfl, -, -, -⟩ := hv.form
  have HG := Lib.hid hg
  have K0 := Lib.hid (Blk.new w 27 #[.slice A t.n ca, .slice C t.m cb, .int .i64 t.c, .slice D t.p cc])
  have HB0 := Lib.hid (below_new (Below.refl w.heap.size w) (.cells #[.slice A t.n ca, .slice C t.m cb, .int .i64 t.c, .slice D t.p cc] 27))
  obtain ⟨a0, a1, a2, a3⟩ := K0.out.c4
  clear hv hg hcp hs
  go_enter Try.func23, Try.ntmps23
  go_wp2_with fail
  refine (P.out _ HB0.out).mono ?_
  rintro e w2 ⟨rfl, hb⟩
  rw [HG.out]
  have K1 := Lib.hid (K0.out.on hb)
  have HB1 := Lib.hid (below_on HB0.out hb)
  obtain ⟨b0, b1, b2, b3⟩ := K1.out.c4
  clear hb a0 a1 a2 a3 K0 HB0
  go_wp2_with fail
  refine (Q.out _ HB1.out).mono ?_
  rintro e w3 ⟨u, rfl, ho, hb⟩
  have HO := Lib.hid (own_base (base' := w.heap.size) ho HB1.out.size)
  have HB2 := Lib.hid (below_on HB1.out hb)
  clear hb ho b0 b1 b2 b3
  go_wp2_with fail
  go_ret2
  exact ⟨_, rfl, HO.out, HB2.out⟩
set_option maxHeartbeats 2000000 in
theorem specTransitionMoves_any (v : Value) (B : Nat) (t : TrN) (w : World) (hcp : CapT v) (hv : RdT w B v t) (hB : B ≤ w.heap.size) (hs : t.small) (hg : trB t = true) :
    Calls Try.prog 24 #[v] w fun e w' => ∃ u, e = .returned (.tuple #[u, .bool true]) ∧ w'.ownsRow w.heap.size 47 5 u t.n (ints (mvTo t t.n)) ∧ Below w.heap.size w w' := by
  have P := Lib.hid (fun W (hb : Below w.heap.size w W) => asGood_any v B t W hcp (hv.below' hb hB) (Nat.le_trans hB hb.size) hs)
  have Q := Lib.hid (fun W (hb : Below w.heap.size w W) => asMoves_any v B t W (hv.below' hb hB) (Nat.le_trans hB hb.size) (tr_ok hg))
  obtain ⟨A, ca, C, cb, D, cc, rfl, -, -, -⟩ := hv.form
  have HG := Lib.hid hg
  have K0 := Lib.hid (Blk.new w 27 #[.slice A t.n ca, .slice C t.m cb, .int .i64 t.c, .slice D t.p cc])
  have HB0 := Lib.hid (below_new (Below.refl w.heap.size w) (.cells #[.slice A t.n ca, .slice C t.m cb, .int .i64 t.c, .slice D t.p cc] 27))
  obtain ⟨a0, a1, a2, a3⟩ := K0.out.c4
  clear hv hg hcp hs
  go_enter Try.func24, Try.ntmps24
  go_wp2_with fail
  refine (P.out _ HB0.out).mono ?_
  rintro e w2 ⟨rfl, hb⟩
  rw [HG.out]
  have K1 := Lib.hid (K0.out.on hb)
  have HB1 := Lib.hid (below_on HB0.out hb)
  obtain ⟨b0, b1, b2, b3⟩ := K1.out.c4
  clear hb a0 a1 a2 a3 K0 HB0
  go_wp2_with fail
  refine (Q.out _ HB1.out).mono ?_
  rintro e w3 ⟨u, rfl, ho, hb⟩
  have HO := Lib.hid (own_base (base' := w.heap.size) ho HB1.out.size)
  have HB2 := Lib.hid (below_on HB1.out hb)
  clear hb ho b0 b1 b2 b3
  go_wp2_with fail
  go_ret2
  exact ⟨_, rfl, HO.out, HB2.out⟩
set_option maxHeartbeats 2000000 in
theorem StayApart_any (a1 a2 a3 a4 b1 b2 b3 b4 c L : Int) (w : World) (ha : mvB a1 a2 a3 a4 c = true) (hb : mvB b1 b2 b3 b4 c = true) (hL0 : 0 ≤ L) (hL : L ≤ 80) :
    Calls Try.prog 28 #[(Value.agg #[Value.int .i64 a1, Value.int .i64 a2, Value.int .i64 a3, Value.int .i64 a4, Value.int .i64 c]), (Value.agg #[Value.int .i64 b1, Value.int .i64 b2, Value.int .i64 b3, Value.int .i64 b4, Value.int .i64 c]), .int .i64 L] w fun e w' => e = .returned (.tuple #[.bool (saB a1 a2 a3 a4 b1 b2 b3 b4 L), .bool true]) ∧ Below w.heap.size w w' := by
  have P := Lib.hid (fun W => goTogether_any a1 a2 a3 a4 b1 b2 b3 b4 c W ha hb)
  have Q := Lib.hid (fun W => stayApart_any a1 a2 a3 a4 c b1 b2 b3 b4 c L W (ok_of ha).1 (ok_of hb).1 hL0 hL)
  have K0 := Lib.hid ((Blk.new w 47 #[.int .i64 a1, .int .i64 a2, .int .i64 a3, .int .i64 a4, .int .i64 c]).alloc (.cells #[.int .i64 b1, .int .i64 b2, .int .i64 b3, .int .i64 b4, .int .i64 c] 47))
  have K1 := Lib.hid (show Blk ((w.alloc (.cells #[.int .i64 a1, .int .i64 a2, .int .i64 a3, .int .i64 a4, .int .i64 c] 47)).alloc (.cells #[.int .i64 b1, .int .i64 b2, .int .i64 b3, .int .i64 b4, .int .i64 c] 47)) (w.heap.size + 1) 47 #[.int .i64 b1, .int .i64 b2, .int .i64 b3, .int .i64 b4, .int .i64 c] by
    simpa using Blk.new (w.alloc (.cells #[.int .i64 a1, .int .i64 a2, .int .i64 a3, .int .i64 a4, .int .i64 c] 47)) 47 #[.int .i64 b1, .int .i64 b2, .int .i64 b3, .int .i64 b4, .int .i64 c])
  have HB0 := Lib.hid (below_new (below_new (Below.refl w.heap.size w) (.cells #[.int .i64 a1, .int .i64 a2, .int .i64 a3, .int .i64 a4, .int .i64 c] 47)) (.cells #[.int .i64 b1, .int .i64 b2, .int .i64 b3, .int .i64 b4, .int .i64 c] 47))
  have HI := Lib.hid (inB_mk hL0 hL)
  obtain ⟨s, es⟩ : ∃ s, saB a1 a2 a3 a4 b1 b2 b3 b4 L = s := ⟨_, rfl⟩
  rw [es] at Q
  rw [es]
  clear es
  have p0 := K0.out.cell 0
  have p1 := K0.out.cell 1
  have p2 := K0.out.cell 2
  have p3 := K0.out.cell 3
  have p4 := K0.out.cell 4
  have q0 := K1.out.cell 0
  have q1 := K1.out.cell 1
  have q2 := K1.out.cell 2
  have q3 := K1.out.cell 3
  have q4 := K1.out.cell 4
  simp at p0 p1 p2 p3 p4 q0 q1 q2 q3 q4
  go_enter Try.func28, Try.ntmps28
  go_wp2_with fail
  refine (P.out _).mono ?_
  rintro e w2 ⟨rfl, hb2⟩
  have K2 := Lib.hid (K0.out.on hb2)
  have K3 := Lib.hid (K1.out.on hb2)
  have HB1 := Lib.hid (below_on HB0.out hb2)
  clear hb2 p0 p1 p2 p3 p4 q0 q1 q2 q3 q4 K0 K1 HB0
  have p0 := K2.out.cell 0
  have p1 := K2.out.cell 1
  have p2 := K2.out.cell 2
  have p3 := K2.out.cell 3
  have p4 := K2.out.cell 4
  have q0 := K3.out.cell 0
  have q1 := K3.out.cell 1
  have q2 := K3.out.cell 2
  have q3 := K3.out.cell 3
  have q4 := K3.out.cell 4
  simp at p0 p1 p2 p3 p4 q0 q1 q2 q3 q4
  go_wp2_with fail
  refine (within_any L 0 80 _).mono ?_
  rintro e w' ⟨rfl, rfl⟩
  rw [HI.out]
  go_wp2_with fail
  refine (Q.out _).mono ?_
  rintro e w3 ⟨rfl, hb3⟩
  have HB2 := Lib.hid (below_on HB1.out hb3)
  clear hb3
  go_wp2_with fail
  go_ret2
  exact ⟨rfl, HB2.out⟩
end Go.Proofs.Ytjcepipgjpaclaa

namespace Go.Proofs.Ytjcepipgjpaclaa
open Go.RowKit

set_option maxRecDepth 100000 in
set_option maxHeartbeats 2000000 in
theorem FreePerformers_any (v : Value) (B : Nat) (t : TrN) (L : Int) (w : World) (hcp : CapT v) (hv : RdT w B v t) (hB : B ≤ w.heap.size) (hs : t.small) :
    Calls Try.prog 13 #[v, .int .i64 L] w fun e w' => ∃ u, e = .returned (.tuple #[u, .bool (fpB t L)]) ∧ w'.ownsRow w.heap.size 3 1 u (fpN t L) (ints (fpL t L)) ∧ Below w.heap.size w w' := by
  obtain ⟨A, ca, C, cb, D, cc, rfl, _, _, _⟩ := hv.form
  have hb0 : Below w.heap.size w (w.alloc (.cells #[.slice A t.n ca, .slice C t.m cb, .int .i64 t.c, .slice D t.p cc] 27)) := below_new (Below.refl _ _) _
  have k0 := Blk.new w 27 #[.slice A t.n ca, .slice C t.m cb, .int .i64 t.c, .slice D t.p cc]
  have Hv := Lib.hid (fun W (hb : Below w.heap.size w W) => hv.below' hb hB)
  have Hc := Lib.hid hcp
  have HB0 := Lib.hid hb0
  have K0 := Lib.hid k0
  obtain ⟨a0, a1, a2, a3⟩ := k0.c4
  clear hv hcp hb0 k0
  have P := ConflictCounts_any _ B t L _ Hc.out (Hv.out _ HB0.out) (Nat.le_trans hB HB0.out.size) hs
  cases b1 : cpB t L with
  | false =>
    have HT := Lib.hid (fp_no b1)
    rw [show ccB t L = false from b1] at P
    have HP := Lib.hid P
    clear P b1
    go_enter Try.func13, Try.ntmps13
    go_wp2_with fail
    refine HP.out.mono ?_
    rintro e w2 ⟨u, rfl, ho, h2⟩
    have HB := Lib.hid (HB0.out.trans (h2.mono HB0.out.size))
    clear ho h2
    go_wp2_with fail
    go_ret2
    rw [HT.out.1, HT.out.2.1, HT.out.2.2]
    exact ⟨_, rfl, World.ownsRow_nil _ _ _ _, HB.out⟩
  | true =>
    have hfy := fp_yes b1
    have hcn := (cc_yes b1).2.2
    have hle := cc_le t L
    rw [show ccB t L = true from b1, hcn] at P
    rw [hcn] at hle
    obtain ⟨cs, ecs⟩ : ∃ l, ccL t L = l := ⟨_, rfl⟩
    rw [ecs] at P hfy
    obtain ⟨m, em⟩ : ∃ m, t.n = m := ⟨_, rfl⟩
    have HT := Lib.hid (em ▸ hfy)
    have EM := Lib.hid em
    have HP := Lib.hid P
    clear P b1 hfy hcn ecs em
    go_enter Try.func13, Try.ntmps13
    go_wp2_with fail
    refine HP.out.mono ?_
    rintro e w1 ⟨u, rfl, ho, h2⟩
    have HBW := Lib.hid (HB0.out.trans (h2.mono HB0.out.size))
    obtain ⟨_, U, cu, rfl, hA⟩ := Rd.of_own ho
    rw [EM.out] at hA hle ⊢
    clear ho h2 HP a0 a1 a2 a3
    go_wp2_with fail
    go_loopw [8, 22] (fun o s wr => ∃ j : Nat, j ≤ m ∧ s = .int .i64 j ∧ wr.ownsRow w1.heap.size 3 1 o (fpTo cs j).length (ints (fpTo cs j)) ∧ Below w1.heap.size w1 wr) (fun _ s _ => m - (intOf s).toNat)
    case atStart => exact ⟨0, Nat.zero_le _, rfl, own_empty _ _ _, below_new (Below.refl _ _) _⟩
    case round =>
      obtain ⟨j, hj, rfl, hown, hb⟩ := hrel
      by_cases hlt : j < m
      · obtain ⟨b, off, rfl, hbB, hc⟩ := hA (by omega)
        have c0 := (hb.cell (p := ⟨b, off + j, none⟩) hbB).trans (hc j (by omega))
        obtain ⟨x, ex⟩ : ∃ x, cs.getD j 0 = x := ⟨_, rfl⟩
        rw [ex] at c0
        have hfl := fpTo_len cs j
        have hyes := fpTo_yes (cs := cs) (i := j)
        have hno := fpTo_no (cs := cs) (i := j)
        rw [ex] at hyes hno
        have i0 : (0 : Int) ≤ (j : Int) := by omega
        have i1 : (j : Int) < (m : Int) := by omega
        have HFL := Lib.hid hfl
        clear hc hA ex hfl
        by_cases hx : x = 0
        · have HS := Lib.hid (hyes hx)
          subst hx
          have HB := Lib.hid (below_new hb (.cells #[.int .i64 (j : Int)] 3))
          have HO := Lib.hid (hown.alloc (.cells #[.int .i64 (j : Int)] 3))
          have n0 := (Blk.new wr 3 #[.int .i64 (j : Int)]).c1
          have hsz := hb.size
          clear hyes hno hown hb
          go_wp2_with (at_builtin; refine app_int rfl _ _ rfl w1.heap.size _ _ _ rfl HO.out wr.heap.size (j : Int) rfl n0 (by have := HFL.out; omega) (by simp; omega) ?_; intro v' w9 ho9 hg9)
          have hb9 : Below w1.heap.size w1 w9 := HB.out.grown hg9 (by simp; omega) (fun g hg => (HO.out.lt g hg).1)
          have HO9 := Lib.hid (show w9.ownsRow w1.heap.size 3 1 v' (fpTo cs (j + 1)).length (ints (fpTo cs (j + 1))) by rw [HS.out, List.length_append]; exact ho9)
          have HB9 := Lib.hid hb9
          clear ho9 hb9 hg9 n0 HO HB
          go_wp2_with fail
          go_roundw
          case rel => exact ⟨j + 1, by omega, by go_num, HO9.out, HB9.out⟩
          case measure => simp [intOf]; omega
        · have HS := Lib.hid (hno hx)
          have hxe : (x == 0) = false := by simp [hx]
          have HB := Lib.hid hb
          have HO := Lib.hid hown
          clear hyes hno hown hb
          go_wp2_with fail
          go_roundw
          case rel => exact ⟨j + 1, by omega, by go_num, by rw [HS.out]; exact HO.out, HB.out⟩
          case measure => simp [intOf]; omega
      · obtain rfl : j = m := by omega
        have HB := Lib.hid hb
        have HO := Lib.hid hown
        clear hown hb hA
        go_wp2_with fail
        go_ret2
        rw [HT.out.1, HT.out.2.1, HT.out.2.2]
        exact ⟨_, rfl, own_base HO.out HBW.out.size, HBW.out.trans (HB.out.mono HBW.out.size)⟩
set_option maxRecDepth 100000 in
set_option maxHeartbeats 2000000 in
theorem specFreePerformers_any (v : Value) (B : Nat) (t : TrN) (L : Int) (w : World) (hcp : CapT v) (hv : RdT w B v t) (hB : B ≤ w.heap.size) (hs : t.small) :
    Calls Try.prog 14 #[v, .int .i64 L] w fun e w' => ∃ u, e = .returned (.tuple #[u, .bool (fpB t L)]) ∧ w'.ownsRow w.heap.size 3 1 u (fpN t L) (ints (fpL t L)) ∧ Below w.heap.size w w' := by
  obtain ⟨A, ca, C, cb, D, cc, rfl, _, _, _⟩ := hv.form
  have hb0 : Below w.heap.size w (w.alloc (.cells #[.slice A t.n ca, .slice C t.m cb, .int .i64 t.c, .slice D t.p cc] 27)) := below_new (Below.refl _ _) _
  have k0 := Blk.new w 27 #[.slice A t.n ca, .slice C t.m cb, .int .i64 t.c, .slice D t.p cc]
  have Hv := Lib.hid (fun W (hb : Below w.heap.size w W) => hv.below' hb hB)
  have Hc := Lib.hid hcp
  have HB0 := Lib.hid hb0
  have K0 := Lib.hid k0
  obtain ⟨a0, a1, a2, a3⟩ := k0.c4
  clear hv hcp hb0 k0
  have P := cfAsked_any _ B t L _ Hc.out (Hv.out _ HB0.out) (Nat.le_trans hB HB0.out.size) hs
  cases b1 : cpB t L with
  | false =>
    have HT := Lib.hid (fp_no b1)
    rw [b1] at P
    have HP := Lib.hid P
    clear P b1
    go_enter Try.func14, Try.ntmps14
    go_wp2_with fail
    refine HP.out.mono ?_
    rintro e w2 ⟨rfl, h2⟩
    have HB1 := Lib.hid (below_on HB0.out h2)
    have K1 := Lib.hid (K0.out.on h2)
    clear h2 a0 a1 a2 a3 HB0 K0
    have HB0 := HB1
    have K0 := K1
    clear HB1 K1
    obtain ⟨a0, a1, a2, a3⟩ := K0.out.c4
    go_wp2_with fail
    go_ret2
    rw [HT.out.1, HT.out.2.1, HT.out.2.2]
    exact ⟨_, rfl, World.ownsRow_nil _ _ _ _, HB0.out⟩
  | true =>
    have hfy := fp_yes b1
    have hcc := cc_yes b1
    have hcy := cp_yes b1
    rw [hcy.2.1, hcy.2.2] at hcc
    have hle := (tr_ok (cp_in b1).1).n1
    have hci := cp_in b1
    have R := fun W (hb : Below w.heap.size w W) => cfCounts_any _ B t L W (Hv.out W hb) (Nat.le_trans hB hb.size) (tr_ok hci.1) hci.2.1 hci.2.2
    rw [b1] at P
    obtain ⟨cs, ecs⟩ : ∃ l, ccTo (prTo (cfAt t L) t.n t.n) t.n (prTo (cfAt t L) t.n t.n).length = l := ⟨_, rfl⟩
    rw [hcc.2.1, ecs] at hfy
    rw [ecs] at R
    obtain ⟨m, em⟩ : ∃ m, t.n = m := ⟨_, rfl⟩
    have HT := Lib.hid (em ▸ hfy)
    have EM := Lib.hid em
    have HP := Lib.hid P
    have HR := Lib.hid R
    clear P R b1 hfy hcc hcy hci ecs em
    go_enter Try.func14, Try.ntmps14
    go_wp2_with fail
    refine HP.out.mono ?_
    rintro e w2 ⟨rfl, h2⟩
    have HB1 := Lib.hid (below_on HB0.out h2)
    have K1 := Lib.hid (K0.out.on h2)
    clear h2 a0 a1 a2 a3 HB0 K0
    have HB0 := HB1
    have K0 := K1
    clear HB1 K1
    obtain ⟨a0, a1, a2, a3⟩ := K0.out.c4
    go_wp2_with fail
    refine (HR.out _ HB0.out).mono ?_
    rintro e w1 ⟨u, rfl, ho, h2⟩
    have HBW := Lib.hid (HB0.out.trans (h2.mono HB0.out.size))
    obtain ⟨_, U, cu, rfl, hA⟩ := Rd.of_own ho
    rw [EM.out] at hA hle ⊢
    clear ho h2 HP HR a0 a1 a2 a3
    go_wp2_with fail
    go_loopw [6, 17] (fun o s wr => ∃ j : Nat, j ≤ m ∧ s = .int .i64 j ∧ wr.ownsRow w1.heap.size 3 1 o (fpTo cs j).length (ints (fpTo cs j)) ∧ Below w1.heap.size w1 wr) (fun _ s _ => m - (intOf s).toNat)
    case atStart => exact ⟨0, Nat.zero_le _, rfl, World.ownsRow_nil _ _ _ _, Below.refl _ _⟩
    case round =>
      obtain ⟨j, hj, rfl, hown, hb⟩ := hrel
      by_cases hlt : j < m
      · obtain ⟨b, off, rfl, hbB, hc⟩ := hA (by omega)
        have c0 := (hb.cell (p := ⟨b, off + j, none⟩) hbB).trans (hc j (by omega))
        obtain ⟨x, ex⟩ : ∃ x, cs.getD j 0 = x := ⟨_, rfl⟩
        rw [ex] at c0
        have hfl := fpTo_len cs j
        have hyes := fpTo_yes (cs := cs) (i := j)
        have hno := fpTo_no (cs := cs) (i := j)
        rw [ex] at hyes hno
        have i0 : (0 : Int) ≤ (j : Int) := by omega
        have i1 : (j : Int) < (m : Int) := by omega
        have HFL := Lib.hid hfl
        clear hc hA ex hfl
        by_cases hx : x = 0
        · have HS := Lib.hid (hyes hx)
          subst hx
          have HB := Lib.hid (below_new hb (.cells #[.int .i64 (j : Int)] 3))
          have HO := Lib.hid (hown.alloc (.cells #[.int .i64 (j : Int)] 3))
          have n0 := (Blk.new wr 3 #[.int .i64 (j : Int)]).c1
          have hsz := hb.size
          clear hyes hno hown hb
          go_wp2_with (at_builtin; refine app_int rfl _ _ rfl w1.heap.size _ _ _ rfl HO.out wr.heap.size (j : Int) rfl n0 (by have := HFL.out; omega) (by simp; omega) ?_; intro v' w9 ho9 hg9)
          have hb9 : Below w1.heap.size w1 w9 := HB.out.grown hg9 (by simp; omega) (fun g hg => (HO.out.lt g hg).1)
          have HO9 := Lib.hid (show w9.ownsRow w1.heap.size 3 1 v' (fpTo cs (j + 1)).length (ints (fpTo cs (j + 1))) by rw [HS.out, List.length_append]; exact ho9)
          have HB9 := Lib.hid hb9
          clear ho9 hb9 hg9 n0 HO HB
          go_wp2_with fail
          go_roundw
          case rel => exact ⟨j + 1, by omega, by go_num, HO9.out, HB9.out⟩
          case measure => simp [intOf]; omega
        · have HS := Lib.hid (hno hx)
          have hxe : (x == 0) = false := by simp [hx]
          have HB := Lib.hid hb
          have HO := Lib.hid hown
          clear hyes hno hown hb
          go_wp2_with fail
          go_roundw
          case rel => exact ⟨j + 1, by omega, by go_num, by rw [HS.out]; exact HO.out, HB.out⟩
          case measure => simp [intOf]; omega
      · obtain rfl : j = m := by omega
        have HB := Lib.hid hb
        have HO := Lib.hid hown
        clear hown hb hA
        go_wp2_with fail
        go_ret2
        rw [HT.out.1, HT.out.2.1, HT.out.2.2]
        exact ⟨_, rfl, own_base HO.out HBW.out.size, HBW.out.trans (HB.out.mono HBW.out.size)⟩
end Go.Proofs.Ytjcepipgjpaclaa
