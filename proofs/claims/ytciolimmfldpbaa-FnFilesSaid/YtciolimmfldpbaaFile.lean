/- Contracts of the two FileAt: the spots of a file on a way, in memory of its own. Condition: the slice can be read. -/
import Derived.Test.YtciolimmfldpbaaHas
import Derived.Test.YtciolimmfldpbaaSpotS
namespace Go.Proofs.Ytciolimmfldpbaa
open Go.RowKit

/-- The spots of the first j performers. -/
def flTo (n : Nat) (xs : List Int) (g L : Int) : Nat → List Int
  | 0 => []
  | j + 1 => flTo n xs g L j ++ [alX n xs (L - (j : Int) * g), alY n xs (L - (j : Int) * g)]
theorem flTo_length (n : Nat) (xs : List Int) (g L : Int) : ∀ k, (flTo n xs g L k).length = k * 2
  | 0 => rfl
  | k + 1 => by simp [flTo, flTo_length n xs g L k]; omega
def fiB (n : Nat) (xs : List Int) (m g L : Int) : Bool := slB n xs L && inB m 1 12 && inB g 1 200 && decide ((m - 1) * g ≤ L)
def fiL (n : Nat) (xs : List Int) (m g L : Int) : List Int := if fiB n xs m g L = true then flTo n xs g L m.toNat else []
def fiN (n : Nat) (xs : List Int) (m g L : Int) : Nat := if fiB n xs m g L = true then m.toNat else 0
theorem fi_no {n : Nat} {xs : List Int} {m g L : Int} (h : fiB n xs m g L = false) : fiB n xs m g L = false ∧ fiL n xs m g L = [] ∧ fiN n xs m g L = 0 := by simp [fiL, fiN, h]
theorem fi_yes {n : Nat} {xs : List Int} {m g L : Int} (h : fiB n xs m g L = true) : fiB n xs m g L = true ∧ fiL n xs m g L = flTo n xs g L m.toNat ∧ fiN n xs m g L = m.toNat := by simp [fiL, fiN, h]
theorem fiN_le (n : Nat) (xs : List Int) (m g L : Int) : fiN n xs m g L ≤ 12 := by
  cases h : fiB n xs m g L with
  | false => rw [(fi_no h).2.2]; omega
  | true =>
    rw [(fi_yes h).2.2]
    simp only [fiB, Bool.and_eq_true] at h
    have := inB_yes h.1.1.2
    omega
theorem gap_in {k m : Nat} {g L : Int} (h : k < m) (hg0 : 1 ≤ g) (hg : ((m : Int) - 1) * g ≤ L) : 0 ≤ (k : Int) * g ∧ (k : Int) * g ≤ L := by
  have h1 : (k : Int) * g ≤ ((m : Int) - 1) * g := Int.mul_le_mul_of_nonneg_right (by omega) (by omega)
  have h2 : 0 ≤ (k : Int) * g := Int.mul_nonneg (by omega) (by omega)
  omega

/-! The loop that appends the spots: $1 the contract of the spot at a length, $2 the loop's slots, $3 how the list begins, $4 the end -/
theorem len_in {n : Nat} {xs : List Int} {L : Int} (h : wayB n xs = true ∧ 0 ≤ L ∧ L ≤ lenTo xs (n - 1)) : L ≤ 30000 := by
  have hw := wayB_yes h.1
  have := (lenTo_in hw.2.1 (n - 1) (by omega)).2
  omega

set_option maxHeartbeats 1000000 in
theorem foFile_any (v : Value) (n B : Nat) (xs : List Int) (M : Nat) (g L : Int) (w : World) (hv : Rd w B 2 v n xs) (hB : B ≤ w.heap.size) (hw : wayB n xs = true ∧ 0 ≤ L ∧ L ≤ lenTo xs (n - 1)) (hM : M ≤ 12) (g1 : 1 ≤ g) (g2 : g ≤ 200) (hgL : ((M : Int) - 1) * g ≤ L) :
    Calls Try.prog 55 #[v, .int .i64 (M : Int), .int .i64 g, .int .i64 L] w fun e w' => ∃ u, e = .returned u ∧ w'.ownsRow w.heap.size 29 2 u M (ints (flTo n xs g L M)) ∧ Below w.heap.size w w' := by
  obtain ⟨A, c, rfl⟩ := hv.form
  have Hv := Lib.hid hv
  have HW := Lib.hid hw
  have HLb := Lib.hid (len_in hw)
  clear hv hw
  go_enter Try.func55, Try.ntmps55
  go_wp2_with fail
  go_loopw [9, 10] (fun o i wr => ∃ k : Nat, k ≤ M ∧ i = .int .i64 k ∧ wr.ownsRow w.heap.size 29 2 o k (ints (flTo n xs g L k)) ∧ Below w.heap.size w wr) (fun _ i _ => M - (intOf i).toNat)
  case atStart => exact ⟨0, Nat.zero_le _, rfl, World.ownsRow_nil _ _ _ _, Below.refl _ _⟩
  case round =>
    obtain ⟨k, hk, rfl, hown, hb⟩ := hrel
    by_cases hlt : k < M
    · obtain ⟨p1, p2⟩ := gap_in hlt g1 hgL
      have hs : flTo n xs g L (k + 1) = flTo n xs g L k ++ [alX n xs (L - (k : Int) * g), alY n xs (L - (k : Int) * g)] := rfl
      obtain ⟨x, ex⟩ : ∃ x, alX n xs (L - (k : Int) * g) = x := ⟨_, rfl⟩
      obtain ⟨y, ey⟩ : ∃ y, alY n xs (L - (k : Int) * g) = y := ⟨_, rfl⟩
      have hP := fun (W : World) (h : Rd W B 2 (.slice A n c) n xs) (hB : B ≤ W.heap.size) => foAt_any (.slice A n c) n B xs (L - (k : Int) * g) W h hB HW.out.1 (by omega) (by have := HW.out.2.2; omega)
      rw [ex, ey] at hs hP
      have HS := Lib.hid hs
      have HP := Lib.hid hP
      have HB := Lib.hid hb
      have HO := Lib.hid hown
      have hLL : L ≤ 30000 := HLb.out
      clear hs hP ex ey hown hb
      go_wp2_with fail
      refine (HP.out _ (Hv.out.below' HB.out hB) (Nat.le_trans hB HB.out.size)).mono ?_
      rintro e w2 ⟨rfl, hb2⟩
      have HB2 := Lib.hid (below_on HB.out hb2)
      have HO2 := Lib.hid ((own_below HO.out hb2 (Nat.le_refl _)).alloc (.cells #[.int .i64 x, .int .i64 y] 29))
      have n0 := (Blk.new w2 29 #[.int .i64 x, .int .i64 y]).c2
      have hsz := HB2.out.size
      obtain ⟨n0, n1⟩ := n0
      clear hb2
      go_wp2_with (at_builtin; refine app_spot rfl _ _ rfl w.heap.size _ k _ rfl HO2.out w2.heap.size x y rfl n0 n1 (by omega) (by simp; omega) ?_; intro v' w3 ho3 hg3)
      have hb3 : Below w.heap.size w w3 := (HB2.out.alloc hsz _).grown hg3 (by simp; omega) (fun g hg => (HO2.out.lt g hg).1)
      rw [← HS.out] at ho3
      have HO3 := Lib.hid ho3
      have HB3 := Lib.hid hb3
      clear ho3 hb3 hg3 n0 n1
      go_wp2_with fail
      go_roundw
      case rel => exact ⟨k + 1, by omega, by go_num, HO3.out, HB3.out⟩
      case measure => simp [intOf]; omega
    · obtain rfl : k = M := by omega
      have HB := Lib.hid hb
      have HO := Lib.hid hown
      clear hb hown
      go_wp2_with fail
      go_ret; exact ⟨_, rfl, HO.out, HB.out⟩

theorem foAsked_any (v : Value) (n B : Nat) (xs : List Int) (m g L : Int) (w : World) (hv : Rd w B 2 v n xs) (hB : B ≤ w.heap.size) (hn : n ≤ 1099511627776) :
    Calls Try.prog 54 #[v, .int .i64 m, .int .i64 g, .int .i64 L] w fun e w' => e = .returned (.bool (fiB n xs m g L)) ∧ Below w.heap.size w w' := by
  obtain ⟨A, c, rfl⟩ := hv.form
  have Hv := Lib.hid hv
  clear hv
  cases h1 : slB n xs L with
  | false =>
    have hf := Lib.hid (fi_no (m := m) (g := g) (show fiB n xs m g L = false by simp [fiB, h1]))
    go_enter Try.func54, Try.ntmps54
    go_wp2_with fail
    refine (foHas_any _ n B xs _ _ Hv.out hB hn).mono ?_
    rintro e w1 ⟨rfl, hb1⟩
    go_wp2_with fail; go_ret; exact ⟨by rw [hf.out.1]; rfl, hb1⟩
  | true =>
    cases h2 : inB m 1 12 with
    | false =>
      have hf := Lib.hid (fi_no (m := m) (g := g) (show fiB n xs m g L = false by simp [fiB, h2]))
      go_enter Try.func54, Try.ntmps54
      go_wp2_with fail
      refine (foHas_any _ n B xs _ _ Hv.out hB hn).mono ?_
      rintro e w1 ⟨rfl, hb1⟩
      go_wp2_with fail
      refine (l1In_any _ _ _ _).mono ?_
      rintro e w' ⟨rfl, rfl⟩
      go_wp2_with fail; go_ret; exact ⟨by rw [hf.out.1]; rfl, hb1⟩
    | true =>
      cases h3 : inB g 1 200 with
      | false =>
        have hf := Lib.hid (fi_no (m := m) (g := g) (show fiB n xs m g L = false by simp [fiB, h3]))
        go_enter Try.func54, Try.ntmps54
        go_wp2_with fail
        refine (foHas_any _ n B xs _ _ Hv.out hB hn).mono ?_
        rintro e w1 ⟨rfl, hb1⟩
        go_wp2_with fail
        refine (l1In_any _ _ _ _).mono ?_
        rintro e w' ⟨rfl, rfl⟩
        go_wp2_with fail
        refine (l1In_any _ _ _ _).mono ?_
        rintro e w' ⟨rfl, rfl⟩
        go_wp2_with fail; go_ret; exact ⟨by rw [hf.out.1]; rfl, hb1⟩
      | true =>
        have hs1 := inB_yes h2
        have hs2 := inB_yes h3
        obtain ⟨m1, m2⟩ := hs1
        obtain ⟨g1, g2⟩ := hs2
        obtain ⟨M, rfl⟩ := Int.eq_ofNat_of_zero_le (show 0 ≤ m by omega)
        have hm := mul_in (x := (M : Int) - 1) (y := g) (a := 12) (b := 200) (by omega) (by omega) (by omega) (by omega)
        obtain ⟨hm1, hm2⟩ := hm
        by_cases hgL : ((M : Int) - 1) * g ≤ L
        · have hf := Lib.hid (fi_yes (m := (M : Int)) (g := g) (show fiB n xs (M : Int) g L = true by simp only [fiB, h1, h2, h3, Bool.true_and]; simpa using hgL))
          have hgD : decide (((M : Int) - 1) * g ≤ L) = true := by simpa using hgL
          have hy := slB_yes h1
          have HW := Lib.hid hy
          have HLb := Lib.hid (len_in hy)
          clear hy
          go_enter Try.func54, Try.ntmps54
          go_wp2_with fail
          refine (foHas_any _ n B xs _ _ Hv.out hB hn).mono ?_
          rintro e w1 ⟨rfl, hb1⟩
          go_wp2_with fail
          refine (l1In_any _ _ _ _).mono ?_
          rintro e w' ⟨rfl, rfl⟩
          go_wp2_with fail
          refine (l1In_any _ _ _ _).mono ?_
          rintro e w' ⟨rfl, rfl⟩
          go_wp2_with fail
          go_ret
          exact ⟨by rw [hf.out.1]; rfl, hb1⟩
        · have hf := Lib.hid (fi_no (m := (M : Int)) (g := g) (show fiB n xs (M : Int) g L = false by simp only [fiB, h1, h2, h3, Bool.true_and]; simpa using hgL))
          have hgD : decide (((M : Int) - 1) * g ≤ L) = false := by simpa using hgL
          go_enter Try.func54, Try.ntmps54
          go_wp2_with fail
          refine (foHas_any _ n B xs _ _ Hv.out hB hn).mono ?_
          rintro e w1 ⟨rfl, hb1⟩
          go_wp2_with fail
          refine (l1In_any _ _ _ _).mono ?_
          rintro e w' ⟨rfl, rfl⟩
          go_wp2_with fail
          refine (l1In_any _ _ _ _).mono ?_
          rintro e w' ⟨rfl, rfl⟩
          go_wp2_with fail; go_ret; exact ⟨by rw [hf.out.1]; rfl, hb1⟩

set_option maxHeartbeats 1000000 in
theorem FileAt_any (v : Value) (n B : Nat) (xs : List Int) (m g L : Int) (w : World) (hv : Rd w B 2 v n xs) (hB : B ≤ w.heap.size) (hn : n ≤ 1099511627776) :
    Calls Try.prog 22 #[v, .int .i64 m, .int .i64 g, .int .i64 L] w fun e w' => ∃ u, e = .returned (.tuple #[u, .bool (fiB n xs m g L)]) ∧ w'.ownsRow w.heap.size 29 2 u (fiN n xs m g L) (ints (fiL n xs m g L)) ∧ Below w.heap.size w w' := by
  obtain ⟨A, c, rfl⟩ := hv.form
  have Hv := Lib.hid hv
  clear hv
  cases h1 : slB n xs L with
  | false =>
    have hf := Lib.hid (fi_no (m := m) (g := g) (show fiB n xs m g L = false by simp [fiB, h1]))
    go_enter Try.func22, Try.ntmps22
    go_wp2_with fail
    refine (isLength_any _ n B xs _ _ Hv.out hB hn).mono ?_
    rintro e w1 ⟨rfl, hb1⟩
    go_wp2_with fail; go_ret2; rw [hf.out.1, hf.out.2.1, hf.out.2.2]; exact ⟨_, rfl, World.ownsRow_nil _ _ _ _, hb1⟩
  | true =>
    cases h2 : inB m 1 12 with
    | false =>
      have hf := Lib.hid (fi_no (m := m) (g := g) (show fiB n xs m g L = false by simp [fiB, h2]))
      go_enter Try.func22, Try.ntmps22
      go_wp2_with fail
      refine (isLength_any _ n B xs _ _ Hv.out hB hn).mono ?_
      rintro e w1 ⟨rfl, hb1⟩
      go_wp2_with fail
      refine (within_any _ _ _ _).mono ?_
      rintro e w' ⟨rfl, rfl⟩
      go_wp2_with fail; go_ret2; rw [hf.out.1, hf.out.2.1, hf.out.2.2]; exact ⟨_, rfl, World.ownsRow_nil _ _ _ _, hb1⟩
    | true =>
      cases h3 : inB g 1 200 with
      | false =>
        have hf := Lib.hid (fi_no (m := m) (g := g) (show fiB n xs m g L = false by simp [fiB, h3]))
        go_enter Try.func22, Try.ntmps22
        go_wp2_with fail
        refine (isLength_any _ n B xs _ _ Hv.out hB hn).mono ?_
        rintro e w1 ⟨rfl, hb1⟩
        go_wp2_with fail
        refine (within_any _ _ _ _).mono ?_
        rintro e w' ⟨rfl, rfl⟩
        go_wp2_with fail
        refine (within_any _ _ _ _).mono ?_
        rintro e w' ⟨rfl, rfl⟩
        go_wp2_with fail; go_ret2; rw [hf.out.1, hf.out.2.1, hf.out.2.2]; exact ⟨_, rfl, World.ownsRow_nil _ _ _ _, hb1⟩
      | true =>
        have hs1 := inB_yes h2
        have hs2 := inB_yes h3
        obtain ⟨m1, m2⟩ := hs1
        obtain ⟨g1, g2⟩ := hs2
        obtain ⟨M, rfl⟩ := Int.eq_ofNat_of_zero_le (show 0 ≤ m by omega)
        have hm := mul_in (x := (M : Int) - 1) (y := g) (a := 12) (b := 200) (by omega) (by omega) (by omega) (by omega)
        obtain ⟨hm1, hm2⟩ := hm
        by_cases hgL : ((M : Int) - 1) * g ≤ L
        · have hf := Lib.hid (fi_yes (m := (M : Int)) (g := g) (show fiB n xs (M : Int) g L = true by simp only [fiB, h1, h2, h3, Bool.true_and]; simpa using hgL))
          have hgD : decide (((M : Int) - 1) * g ≤ L) = true := by simpa using hgL
          have hy := slB_yes h1
          have HW := Lib.hid hy
          have HLb := Lib.hid (len_in hy)
          clear hy
          go_enter Try.func22, Try.ntmps22
          go_wp2_with fail
          refine (isLength_any _ n B xs _ _ Hv.out hB hn).mono ?_
          rintro e w1 ⟨rfl, hb1⟩
          go_wp2_with fail
          refine (within_any _ _ _ _).mono ?_
          rintro e w' ⟨rfl, rfl⟩
          go_wp2_with fail
          refine (within_any _ _ _ _).mono ?_
          rintro e w' ⟨rfl, rfl⟩
          go_wp2_with fail
          rw [Int.toNat_natCast] at hf
          go_loopw [10, 11] (fun o i wr => ∃ k : Nat, k ≤ M ∧ i = .int .i64 k ∧ wr.ownsRow w.heap.size 29 2 o k (ints (flTo n xs g L k)) ∧ Below w.heap.size w wr) (fun _ i _ => M - (intOf i).toNat)
          case atStart => exact ⟨0, Nat.zero_le _, rfl, own_base (own_empty _ _ _) (by simp [hb1.size]), below_new hb1 _⟩
          case round =>
            obtain ⟨k, hk, rfl, hown, hb⟩ := hrel
            by_cases hlt : k < M
            · obtain ⟨p1, p2⟩ := gap_in hlt g1 hgL
              have hs : flTo n xs g L (k + 1) = flTo n xs g L k ++ [alX n xs (L - (k : Int) * g), alY n xs (L - (k : Int) * g)] := rfl
              obtain ⟨x, ex⟩ : ∃ x, alX n xs (L - (k : Int) * g) = x := ⟨_, rfl⟩
              obtain ⟨y, ey⟩ : ∃ y, alY n xs (L - (k : Int) * g) = y := ⟨_, rfl⟩
              have hP := fun (W : World) (h : Rd W B 2 (.slice A n c) n xs) (hB : B ≤ W.heap.size) => spotAlong_any (.slice A n c) n B xs (L - (k : Int) * g) W h hB HW.out.1 (by omega) (by have := HW.out.2.2; omega)
              rw [ex, ey] at hs hP
              have HS := Lib.hid hs
              have HP := Lib.hid hP
              have HB := Lib.hid hb
              have HO := Lib.hid hown
              have hLL : L ≤ 30000 := HLb.out
              clear hs hP ex ey hown hb
              go_wp2_with fail
              refine (HP.out _ (Hv.out.below' HB.out hB) (Nat.le_trans hB HB.out.size)).mono ?_
              rintro e w2 ⟨rfl, hb2⟩
              have HB2 := Lib.hid (below_on HB.out hb2)
              have HO2 := Lib.hid ((own_below HO.out hb2 (Nat.le_refl _)).alloc (.cells #[.int .i64 x, .int .i64 y] 29))
              have n0 := (Blk.new w2 29 #[.int .i64 x, .int .i64 y]).c2
              have hsz := HB2.out.size
              obtain ⟨n0, n1⟩ := n0
              clear hb2
              go_wp2_with (at_builtin; refine app_spot rfl _ _ rfl w.heap.size _ k _ rfl HO2.out w2.heap.size x y rfl n0 n1 (by omega) (by simp; omega) ?_; intro v' w3 ho3 hg3)
              have hb3 : Below w.heap.size w w3 := (HB2.out.alloc hsz _).grown hg3 (by simp; omega) (fun g hg => (HO2.out.lt g hg).1)
              rw [← HS.out] at ho3
              have HO3 := Lib.hid ho3
              have HB3 := Lib.hid hb3
              clear ho3 hb3 hg3 n0 n1
              go_wp2_with fail
              go_roundw
              case rel => exact ⟨k + 1, by omega, by go_num, HO3.out, HB3.out⟩
              case measure => simp [intOf]; omega
            · obtain rfl : k = M := by omega
              have HB := Lib.hid hb
              have HO := Lib.hid hown
              clear hb hown
              go_wp2_with fail
              go_ret2; rw [hf.out.1, hf.out.2.1, hf.out.2.2]; exact ⟨_, rfl, HO.out, HB.out⟩
        · have hf := Lib.hid (fi_no (m := (M : Int)) (g := g) (show fiB n xs (M : Int) g L = false by simp only [fiB, h1, h2, h3, Bool.true_and]; simpa using hgL))
          have hgD : decide (((M : Int) - 1) * g ≤ L) = false := by simpa using hgL
          go_enter Try.func22, Try.ntmps22
          go_wp2_with fail
          refine (isLength_any _ n B xs _ _ Hv.out hB hn).mono ?_
          rintro e w1 ⟨rfl, hb1⟩
          go_wp2_with fail
          refine (within_any _ _ _ _).mono ?_
          rintro e w' ⟨rfl, rfl⟩
          go_wp2_with fail
          refine (within_any _ _ _ _).mono ?_
          rintro e w' ⟨rfl, rfl⟩
          go_wp2_with fail; go_ret2; rw [hf.out.1, hf.out.2.1, hf.out.2.2]; exact ⟨_, rfl, World.ownsRow_nil _ _ _ _, hb1⟩
set_option maxHeartbeats 1000000 in
theorem specFileAt_any (v : Value) (n B : Nat) (xs : List Int) (m g L : Int) (w : World) (hv : Rd w B 2 v n xs) (hB : B ≤ w.heap.size) (hn : n ≤ 1099511627776) :
    Calls Try.prog 23 #[v, .int .i64 m, .int .i64 g, .int .i64 L] w fun e w' => ∃ u, e = .returned (.tuple #[u, .bool (fiB n xs m g L)]) ∧ w'.ownsRow w.heap.size 29 2 u (fiN n xs m g L) (ints (fiL n xs m g L)) ∧ Below w.heap.size w w' := by
  obtain ⟨A, c, rfl⟩ := hv.form
  have Hv := Lib.hid hv
  clear hv
  cases h1 : fiB n xs m g L with
  | false =>
    have hf := Lib.hid (fi_no h1)
    go_enter Try.func23, Try.ntmps23
    go_wp2_with fail
    refine (foAsked_any _ n B xs _ _ _ _ Hv.out hB hn).mono ?_
    rintro e w1 ⟨rfl, hb1⟩
    go_wp2_with fail
    go_ret2
    rw [hf.out.2.1, hf.out.2.2]
    exact ⟨_, rfl, World.ownsRow_nil _ _ _ _, hb1⟩
  | true =>
    have hf := Lib.hid (fi_yes h1)
    have hd := h1
    simp only [fiB, Bool.and_eq_true, decide_eq_true_eq] at hd
    obtain ⟨⟨⟨d1, d2⟩, d3⟩, d4⟩ := hd
    obtain ⟨m1, m2⟩ := inB_yes d2
    obtain ⟨g1, g2⟩ := inB_yes d3
    obtain ⟨M, rfl⟩ := Int.eq_ofNat_of_zero_le (show 0 ≤ m by omega)
    have HW := Lib.hid (slB_yes d1)
    have D4 := Lib.hid d4
    rw [Int.toNat_natCast] at hf
    clear d1 d2 d3 d4
    go_enter Try.func23, Try.ntmps23
    go_wp2_with fail
    refine (foAsked_any _ n B xs _ _ _ _ Hv.out hB hn).mono ?_
    rintro e w1 ⟨rfl, hb1⟩
    have HB := Lib.hid hb1
    clear hb1
    go_wp2_with fail
    refine (foFile_any _ n B xs M g L _ (Hv.out.below' HB.out hB) (Nat.le_trans hB HB.out.size) HW.out (by omega) g1 g2 D4.out).mono ?_
    rintro e w2 ⟨u, rfl, ho2, hb2⟩
    have HO2 := Lib.hid (own_base ho2 HB.out.size)
    have HB2 := Lib.hid (below_on HB.out hb2)
    clear ho2 hb2
    go_wp2_with fail
    go_ret2
    rw [hf.out.2.1, hf.out.2.2]
    exact ⟨_, rfl, HO2.out, HB2.out⟩
end Go.Proofs.Ytciolimmfldpbaa
