/- Contracts of where a move with a delay is, in the program and in the reference, and of the two PlaceDelayed. Without conditions, or: moves on the field. -/
import Derived.Test.YtpikhkdgohapeaaMove
import Derived.Test.YtpikhkdgohapeaaNear
namespace Go.Proofs.Ytpikhkdgohapeaa
open Go.RowKit

def shB (x y z u c : Int) : Bool := mvB x y z u c && decide (c ≤ 16)
theorem shB_yes {x y z u c : Int} (h : shB x y z u c = true) : mvB x y z u c = true ∧ 1 ≤ c ∧ c ≤ 16 ∧ okM x y z u := by
  simp only [shB, Bool.and_eq_true, decide_eq_true_eq] at h
  have := mvB_yes h.1
  exact ⟨h.1, by omega, h.2, ⟨by omega, by omega⟩, ⟨by omega, by omega⟩, ⟨by omega, by omega⟩, by omega, by omega⟩
set_option maxHeartbeats 1000000 in
theorem isShortMove_any (x y z u c : Int) (w : World) : Calls Try.prog 34 #[(Value.agg #[Value.int .i64 x, Value.int .i64 y, Value.int .i64 z, Value.int .i64 u, Value.int .i64 c])] w fun e w' => e = .returned (.bool (shB x y z u c)) ∧ Below w.heap.size w w' := by
  have P := fun W => IsMove_any x y z u c W
  obtain ⟨b, eb⟩ : ∃ b, mvB x y z u c = b := ⟨_, rfl⟩
  have hT : shB x y z u c = (mvB x y z u c && decide (c ≤ 16)) := rfl
  rw [eb] at P hT
  have HP := Lib.hid P
  have k0 := Blk.new w 30 #[.int .i64 x, .int .i64 y, .int .i64 z, .int .i64 u, .int .i64 c]
  have HB0 := Lib.hid (below_new (Below.refl w.heap.size w) (.cells #[.int .i64 x, .int .i64 y, .int .i64 z, .int .i64 u, .int .i64 c] 30))
  have K0 := Lib.hid k0
  clear P eb k0
  cases b with
  | false =>
    have hf := Lib.hid (show shB x y z u c = false by rw [hT]; rfl)
    clear hT
    go_enter Try.func34, Try.ntmps34
    go_wp2_with fail
    refine (HP.out _).mono ?_
    rintro e w1 ⟨rfl, h1⟩
    have HB1 := Lib.hid (HB0.out.trans (h1.mono HB0.out.size))
    clear h1
    go_wp2_with fail
    go_ret
    exact ⟨by rw [hf.out]; rfl, HB1.out⟩
  | true =>
    by_cases hc : c ≤ 16
    · have hf := Lib.hid (show shB x y z u c = true by rw [hT, decide_eq_true hc]; rfl)
      clear hT
      have hd16 : decide (c ≤ 16) = true := decide_eq_true hc
      go_enter Try.func34, Try.ntmps34
      go_wp2_with fail
      refine (HP.out _).mono ?_
      rintro e w1 ⟨rfl, h1⟩
      have HB1 := Lib.hid (HB0.out.trans (h1.mono HB0.out.size))
      obtain ⟨c0, c1, c2, c3, c4⟩ := (K0.out.on h1).c5
      clear h1
      go_wp2_with fail
      go_ret
      exact ⟨by rw [hf.out]; rfl, HB1.out⟩
    · have hf := Lib.hid (show shB x y z u c = false by rw [hT, decide_eq_false hc]; rfl)
      clear hT
      have hd16 : decide (c ≤ 16) = false := decide_eq_false hc
      go_enter Try.func34, Try.ntmps34
      go_wp2_with fail
      refine (HP.out _).mono ?_
      rintro e w1 ⟨rfl, h1⟩
      have HB1 := Lib.hid (HB0.out.trans (h1.mono HB0.out.size))
      obtain ⟨c0, c1, c2, c3, c4⟩ := (K0.out.on h1).c5
      clear h1
      go_wp2_with fail
      go_ret
      exact ⟨by rw [hf.out]; rfl, HB1.out⟩
set_option maxHeartbeats 1000000 in
theorem rpMove_any (x y z u c : Int) (w : World) : Calls Try.prog 29 #[(Value.agg #[Value.int .i64 x, Value.int .i64 y, Value.int .i64 z, Value.int .i64 u, Value.int .i64 c])] w fun e w' => e = .returned (.bool (shB x y z u c)) ∧ Below w.heap.size w w' := by
  have P := fun W => mvGood_any x y z u c W
  obtain ⟨b, eb⟩ : ∃ b, mvB x y z u c = b := ⟨_, rfl⟩
  have hT : shB x y z u c = (mvB x y z u c && decide (c ≤ 16)) := rfl
  rw [eb] at P hT
  have HP := Lib.hid P
  have k0 := Blk.new w 30 #[.int .i64 x, .int .i64 y, .int .i64 z, .int .i64 u, .int .i64 c]
  have HB0 := Lib.hid (below_new (Below.refl w.heap.size w) (.cells #[.int .i64 x, .int .i64 y, .int .i64 z, .int .i64 u, .int .i64 c] 30))
  have K0 := Lib.hid k0
  clear P eb k0
  cases b with
  | false =>
    have hf := Lib.hid (show shB x y z u c = false by rw [hT]; rfl)
    clear hT
    go_enter Try.func29, Try.ntmps29
    go_wp2_with fail
    refine (HP.out _).mono ?_
    rintro e w1 ⟨rfl, h1⟩
    have HB1 := Lib.hid (HB0.out.trans (h1.mono HB0.out.size))
    clear h1
    go_wp2_with fail
    go_ret
    exact ⟨by rw [hf.out]; rfl, HB1.out⟩
  | true =>
    by_cases hc : c ≤ 16
    · have hf := Lib.hid (show shB x y z u c = true by rw [hT, decide_eq_true hc]; rfl)
      clear hT
      have hd16 : decide (c ≤ 16) = true := decide_eq_true hc
      go_enter Try.func29, Try.ntmps29
      go_wp2_with fail
      refine (HP.out _).mono ?_
      rintro e w1 ⟨rfl, h1⟩
      have HB1 := Lib.hid (HB0.out.trans (h1.mono HB0.out.size))
      obtain ⟨c0, c1, c2, c3, c4⟩ := (K0.out.on h1).c5
      clear h1
      go_wp2_with fail
      go_ret
      exact ⟨by rw [hf.out]; rfl, HB1.out⟩
    · have hf := Lib.hid (show shB x y z u c = false by rw [hT, decide_eq_false hc]; rfl)
      clear hT
      have hd16 : decide (c ≤ 16) = false := decide_eq_false hc
      go_enter Try.func29, Try.ntmps29
      go_wp2_with fail
      refine (HP.out _).mono ?_
      rintro e w1 ⟨rfl, h1⟩
      have HB1 := Lib.hid (HB0.out.trans (h1.mono HB0.out.size))
      obtain ⟨c0, c1, c2, c3, c4⟩ := (K0.out.on h1).c5
      clear h1
      go_wp2_with fail
      go_ret
      exact ⟨by rw [hf.out]; rfl, HB1.out⟩
theorem isDelay_any (d : Int) (w : World) : Calls Try.prog 35 #[.int .i64 d] w fun e w' => e = .returned (.bool (inB d 0 4)) ∧ w = w' := by
  go_enter Try.func35, Try.ntmps35
  go_wp2_with fail
  refine (within_any _ _ _ _).mono ?_
  rintro e w' ⟨rfl, rfl⟩
  go_wp2_with fail
  go_ret
  exact ⟨rfl, rfl⟩
theorem rpDelay_any (d : Int) (w : World) : Calls Try.prog 30 #[.int .i64 d] w fun e w' => e = .returned (.bool (inB d 0 4)) ∧ w = w' := by
  go_enter Try.func30, Try.ntmps30
  go_wp2_with fail
  refine (l1In_any _ _ _ _).mono ?_
  rintro e w' ⟨rfl, rfl⟩
  go_wp2_with fail
  go_ret
  exact ⟨rfl, rfl⟩
theorem l1Most_any (a b : Int) (w : World) : Calls Try.prog 55 #[.int .i64 a, .int .i64 b] w fun e w' => e = .returned (.int .i64 (max a b)) ∧ w = w' := by
  by_cases h : b < a
  · have hf := Lib.hid (show max a b = a by omega)
    go_enter Try.func55, Try.ntmps55
    go_wp2_with fail
    go_ret
    exact ⟨by rw [hf.out]; rfl, rfl⟩
  · have hf := Lib.hid (show max a b = b by omega)
    go_enter Try.func55, Try.ntmps55
    go_wp2_with fail
    go_ret
    exact ⟨by rw [hf.out]; rfl, rfl⟩
/-- Where a move is after a count, times the counts. -/
def paX (x z c k : Int) : Int := x * c + k * (z - x)
set_option maxRecDepth 100000 in
set_option maxHeartbeats 2000000 in
theorem placeAt_any (x y z u c k : Int) (w : World) (ha : okM x y z u) (hc0 : 0 ≤ c) (hc : c ≤ 64) (hk0 : 0 ≤ k) (hk : k ≤ 64) :
    Calls Try.prog 68 #[(Value.agg #[Value.int .i64 x, Value.int .i64 y, Value.int .i64 z, Value.int .i64 u, Value.int .i64 c]), .int .i64 k] w fun e w' => e = .returned (.tuple #[.int .i64 (paX x z c k), .int .i64 (paX y u c k)]) ∧ Below w.heap.size w w' := by
  obtain ⟨⟨h1, h2⟩, ⟨h3, h4⟩, ⟨h5, h6⟩, h7, h8⟩ := ha
  have m1 := mul_wide (x := x) (y := c) (a := 1280) (b := 64) (by omega) (by omega) (by omega) (by omega)
  have m2 := mul_wide (x := k) (y := (z - x)) (a := 64) (b := 1280) (by omega) (by omega) (by omega) (by omega)
  have m3 := mul_wide (x := y) (y := c) (a := 1280) (b := 64) (by omega) (by omega) (by omega) (by omega)
  have m4 := mul_wide (x := k) (y := (u - y)) (a := 64) (b := 1280) (by omega) (by omega) (by omega) (by omega)
  have HX := Lib.hid (show paX x z c k = x * c + k * (z - x) by rfl)
  have HY := Lib.hid (show paX y u c k = y * c + k * (u - y) by rfl)
  obtain ⟨c0, c1, c2, c3, c4⟩ := (Blk.new w 30 #[.int .i64 x, .int .i64 y, .int .i64 z, .int .i64 u, .int .i64 c]).c5
  have HB0 := Lib.hid (below_new (Below.refl w.heap.size w) (.cells #[.int .i64 x, .int .i64 y, .int .i64 z, .int .i64 u, .int .i64 c] 30))
  go_enter Try.func68, Try.ntmps68
  go_wp2_with fail
  go_quiet (fail)
  go_wp2_with fail
  go_ret2
  exact ⟨by rw [HX.out, HY.out]; rfl, below_drewN HB0.out _⟩
set_option maxRecDepth 100000 in
set_option maxHeartbeats 2000000 in
theorem mvAt_any (x y z u c k : Int) (w : World) (ha : okM x y z u) (hc0 : 0 ≤ c) (hc : c ≤ 64) (hk0 : 0 ≤ k) (hk : k ≤ 64) :
    Calls Try.prog 65 #[(Value.agg #[Value.int .i64 x, Value.int .i64 y, Value.int .i64 z, Value.int .i64 u, Value.int .i64 c]), .int .i64 k] w fun e w' => e = .returned (.tuple #[.int .i64 (paX x z c k), .int .i64 (paX y u c k)]) ∧ Below w.heap.size w w' := by
  obtain ⟨⟨h1, h2⟩, ⟨h3, h4⟩, ⟨h5, h6⟩, h7, h8⟩ := ha
  have m1 := mul_wide (x := x) (y := c) (a := 1280) (b := 64) (by omega) (by omega) (by omega) (by omega)
  have m2 := mul_wide (x := (z - x)) (y := k) (a := 1280) (b := 64) (by omega) (by omega) (by omega) (by omega)
  have m3 := mul_wide (x := y) (y := c) (a := 1280) (b := 64) (by omega) (by omega) (by omega) (by omega)
  have m4 := mul_wide (x := (u - y)) (y := k) (a := 1280) (b := 64) (by omega) (by omega) (by omega) (by omega)
  have HX := Lib.hid (show paX x z c k = x * c + (z - x) * k by (unfold paX; rw [Int.mul_comm k]))
  have HY := Lib.hid (show paX y u c k = y * c + (u - y) * k by (unfold paX; rw [Int.mul_comm k]))
  obtain ⟨c0, c1, c2, c3, c4⟩ := (Blk.new w 30 #[.int .i64 x, .int .i64 y, .int .i64 z, .int .i64 u, .int .i64 c]).c5
  have HB0 := Lib.hid (below_new (Below.refl w.heap.size w) (.cells #[.int .i64 x, .int .i64 y, .int .i64 z, .int .i64 u, .int .i64 c] 30))
  go_enter Try.func65, Try.ntmps65
  go_wp2_with fail
  go_quiet (fail)
  go_wp2_with fail
  go_ret2
  exact ⟨by rw [HX.out, HY.out]; rfl, below_drewN HB0.out _⟩
/-- The count at which a move with a delay is. -/
def dlK (c d k : Int) : Int := min (max (k - d) 0) c
set_option maxHeartbeats 2000000 in
theorem placeDelayed_any (x y z u c d k : Int) (w : World) (ha : okM x y z u) (hc0 : 0 ≤ c) (hc : c ≤ 64) (hd0 : 0 ≤ d) (hd : d ≤ 4) (hk0 : 0 ≤ k) (hk : k ≤ 100) :
    Calls Try.prog 37 #[(Value.agg #[Value.int .i64 x, Value.int .i64 y, Value.int .i64 z, Value.int .i64 u, Value.int .i64 c]), .int .i64 d, .int .i64 k] w fun e w' => e = .returned (.tuple #[.int .i64 (paX x z c (dlK c d k)), .int .i64 (paX y u c (dlK c d k))]) ∧ Below w.heap.size w w' := by
  have hq : 0 ≤ dlK c d k ∧ dlK c d k ≤ 64 := by unfold dlK; omega
  have P := fun W => placeAt_any x y z u c (dlK c d k) W ha hc0 hc hq.1 hq.2
  have HE := Lib.hid (show dlK c d k = min (max (k - d) 0) c from rfl)
  obtain ⟨q, eq⟩ : ∃ q, dlK c d k = q := ⟨_, rfl⟩
  rw [eq] at P HE
  rw [eq]
  have he := HE.out
  have HP := Lib.hid P
  have HB0 := Lib.hid (below_new (Below.refl w.heap.size w) (.cells #[.int .i64 x, .int .i64 y, .int .i64 z, .int .i64 u, .int .i64 c] 30))
  have e1 : min (max (k - d) 0) c = q := he.symm
  clear P eq hq he
  go_enter Try.func37, Try.ntmps37
  go_wp2_with fail
  refine (HP.out _).mono ?_
  rintro e w1 ⟨rfl, h1⟩
  have HB1 := Lib.hid (HB0.out.trans (h1.mono HB0.out.size))
  clear h1
  go_wp2_with fail
  go_ret2
  exact ⟨rfl, HB1.out⟩
set_option maxRecDepth 100000 in
set_option maxHeartbeats 2000000 in
theorem rpAt_any (x y z u c d k : Int) (w : World) (ha : okM x y z u) (hc0 : 0 ≤ c) (hc : c ≤ 64) (hd0 : 0 ≤ d) (hd : d ≤ 4) (hk0 : 0 ≤ k) (hk : k ≤ 100) :
    Calls Try.prog 32 #[(Value.agg #[Value.int .i64 x, Value.int .i64 y, Value.int .i64 z, Value.int .i64 u, Value.int .i64 c]), .int .i64 d, .int .i64 k] w fun e w' => e = .returned (.tuple #[.int .i64 (paX x z c (dlK c d k)), .int .i64 (paX y u c (dlK c d k))]) ∧ Below w.heap.size w w' := by
  have hq : 0 ≤ dlK c d k ∧ dlK c d k ≤ 64 := by unfold dlK; omega
  have P := fun W => mvAt_any x y z u c (dlK c d k) W ha hc0 hc hq.1 hq.2
  have HE := Lib.hid (show max 0 (min c (k - d)) = dlK c d k by unfold dlK; omega)
  obtain ⟨q, eq⟩ : ∃ q, dlK c d k = q := ⟨_, rfl⟩
  rw [eq] at P HE
  rw [eq]
  have P1 := fun W => l1Least_any c (k - d) W
  have P2 := fun W => l1Most_any 0 (min c (k - d)) W
  rw [HE.out] at P2
  obtain ⟨r, er⟩ : ∃ r, min c (k - d) = r := ⟨_, rfl⟩
  rw [er] at P1 P2
  have HP := Lib.hid P
  have HP1 := Lib.hid P1
  have HP2 := Lib.hid P2
  obtain ⟨c0, c1, c2, c3, c4⟩ := (Blk.new w 30 #[.int .i64 x, .int .i64 y, .int .i64 z, .int .i64 u, .int .i64 c]).c5
  have HB0 := Lib.hid (below_new (Below.refl w.heap.size w) (.cells #[.int .i64 x, .int .i64 y, .int .i64 z, .int .i64 u, .int .i64 c] 30))
  have ew := IntWalk.i64_in (k - d) (by omega)
  clear P P1 P2 eq hq er HE
  go_enter Try.func32, Try.ntmps32
  go_wp2_with fail
  go_region_held3 (fun W => W.cell? ⟨w.heap.size, 0, none⟩ = some (.int .i64 x) ∧ W.cell? ⟨w.heap.size, 1, none⟩ = some (.int .i64 y) ∧ W.cell? ⟨w.heap.size, 2, none⟩ = some (.int .i64 z) ∧ W.cell? ⟨w.heap.size, 3, none⟩ = some (.int .i64 u) ∧ W.cell? ⟨w.heap.size, 4, none⟩ = some (.int .i64 c) ∧ Below w.heap.size w W)
    (first | exact ⟨c0, c1, c2, c3, c4, HB0.out.drew⟩ | (go_split_ands; exact ⟨cell_on hb2 (by assumption), cell_on hb2 (by assumption), cell_on hb2 (by assumption), cell_on hb2 (by assumption), cell_on hb2 (by assumption), below_on (by assumption) hb2⟩) | go_keep)
    (first | (go_at_call 66; refine (HP1.out _).mono ?_; rintro e w2 ⟨rfl, rfl⟩) | (go_at_call 55; refine (HP2.out _).mono ?_; rintro e w2 ⟨rfl, rfl⟩) | (go_at_call 65; refine (HP.out _).mono ?_; rintro e w2 ⟨rfl, hb2⟩))
  all_goals
    go_split_ands
    go_wp2_with fail
    go_ret2
    exact ⟨rfl, by assumption⟩

def pdB (x y z u c d k : Int) : Bool := shB x y z u c && (inB d 0 4 && inB k 0 100)
def pdX (x y z u c d k : Int) : Int := if pdB x y z u c d k = true then paX x z c (dlK c d k) else 0
def pdY (x y z u c d k : Int) : Int := if pdB x y z u c d k = true then paX y u c (dlK c d k) else 0
theorem pd_no {x y z u c d k : Int} (h : pdB x y z u c d k = false) : pdB x y z u c d k = false ∧ pdX x y z u c d k = 0 ∧ pdY x y z u c d k = 0 := by simp [pdX, pdY, h]
theorem pd_yes {x y z u c d k : Int} (h : pdB x y z u c d k = true) : pdB x y z u c d k = true ∧ pdX x y z u c d k = paX x z c (dlK c d k) ∧ pdY x y z u c d k = paX y u c (dlK c d k) := by simp [pdX, pdY, h]
set_option maxHeartbeats 2000000 in
theorem PlaceDelayed_any (x y z u c d k : Int) (w : World) : Calls Try.prog 11 #[(Value.agg #[Value.int .i64 x, Value.int .i64 y, Value.int .i64 z, Value.int .i64 u, Value.int .i64 c]), .int .i64 d, .int .i64 k] w fun e w' =>
    e = .returned (.tuple #[.int .i64 (pdX x y z u c d k), .int .i64 (pdY x y z u c d k), .bool (pdB x y z u c d k)]) ∧ Below w.heap.size w w' := by
  have P := fun W => isShortMove_any x y z u c W
  have Q := fun W => isDelay_any d W
  have R := fun W => within_any k 0 100 W
  have hT : pdB x y z u c d k = (shB x y z u c && (inB d 0 4 && inB k 0 100)) := rfl
  have hsh := shB_yes (x := x) (y := y) (z := z) (u := u) (c := c)
  obtain ⟨b1, e1⟩ : ∃ b, shB x y z u c = b := ⟨_, rfl⟩
  obtain ⟨b2, e2⟩ : ∃ b, inB d 0 4 = b := ⟨_, rfl⟩
  obtain ⟨b3, e3⟩ : ∃ b, inB k 0 100 = b := ⟨_, rfl⟩
  rw [e1] at P hT hsh
  rw [e2] at Q hT
  rw [e3] at R hT
  have HP := Lib.hid P
  have HQ := Lib.hid Q
  have HR := Lib.hid R
  have k0 := Blk.new w 30 #[.int .i64 x, .int .i64 y, .int .i64 z, .int .i64 u, .int .i64 c]
  have HB0 := Lib.hid (below_new (Below.refl w.heap.size w) (.cells #[.int .i64 x, .int .i64 y, .int .i64 z, .int .i64 u, .int .i64 c] 30))
  have K0 := Lib.hid k0
  clear P Q R e1 k0
  cases b1 with
  | false =>
    have hf := Lib.hid (pd_no (show pdB x y z u c d k = false by rw [hT]; rfl))
    clear hT hsh e2 e3
    go_enter Try.func11, Try.ntmps11
    go_wp2_with fail
    refine (HP.out _).mono ?_
    rintro e w1 ⟨rfl, h1⟩
    have HB1 := Lib.hid (HB0.out.trans (h1.mono HB0.out.size))
    clear h1
    go_wp2_with fail
    exact bodyPost_ret (v := .tuple #[.int .i64 0, .int .i64 0, .bool false]) (by simp [results, Try.results11, go_sem]) rfl ⟨by rw [hf.out.1, hf.out.2.1, hf.out.2.2], HB1.out⟩
  | true =>
    cases b2 with
    | false =>
      have hf := Lib.hid (pd_no (show pdB x y z u c d k = false by rw [hT]; rfl))
      clear hT hsh e2 e3
      go_enter Try.func11, Try.ntmps11
      go_wp2_with fail
      refine (HP.out _).mono ?_
      rintro e w1 ⟨rfl, h1⟩
      have HB1 := Lib.hid (HB0.out.trans (h1.mono HB0.out.size))
      clear h1
      go_wp2_with fail
      refine (HQ.out _).mono ?_
      rintro e w2 ⟨rfl, rfl⟩
      go_wp2_with fail
      exact bodyPost_ret (v := .tuple #[.int .i64 0, .int .i64 0, .bool false]) (by simp [results, Try.results11, go_sem]) rfl ⟨by rw [hf.out.1, hf.out.2.1, hf.out.2.2], HB1.out⟩
    | true =>
      cases b3 with
      | false =>
        have hf := Lib.hid (pd_no (show pdB x y z u c d k = false by rw [hT]; rfl))
        clear hT hsh e2 e3
        go_enter Try.func11, Try.ntmps11
        go_wp2_with fail
        refine (HP.out _).mono ?_
        rintro e w1 ⟨rfl, h1⟩
        have HB1 := Lib.hid (HB0.out.trans (h1.mono HB0.out.size))
        clear h1
        go_wp2_with fail
        refine (HQ.out _).mono ?_
        rintro e w2 ⟨rfl, rfl⟩
        go_wp2_with fail
        refine (HR.out _).mono ?_
        rintro e w2 ⟨rfl, rfl⟩
        go_wp2_with fail
        exact bodyPost_ret (v := .tuple #[.int .i64 0, .int .i64 0, .bool false]) (by simp [results, Try.results11, go_sem]) rfl ⟨by rw [hf.out.1, hf.out.2.1, hf.out.2.2], HB1.out⟩
      | true =>
        have hf := pd_yes (show pdB x y z u c d k = true by rw [hT]; rfl)
        have hs := hsh rfl
        have hd := inB_yes e2
        have hk := inB_yes e3
        have S := fun W => placeDelayed_any x y z u c d k W hs.2.2.2 (by omega) (by omega) hd.1 hd.2 hk.1 hk.2
        obtain ⟨X, eX⟩ : ∃ q, paX x z c (dlK c d k) = q := ⟨_, rfl⟩
        obtain ⟨Y, eY⟩ : ∃ q, paX y u c (dlK c d k) = q := ⟨_, rfl⟩
        rw [eX, eY] at S hf
        have HS := Lib.hid S
        replace hf := Lib.hid hf
        clear hT hsh e2 e3 S eX eY hs hd hk
        go_enter Try.func11, Try.ntmps11
        go_wp2_with fail
        refine (HP.out _).mono ?_
        rintro e w1 ⟨rfl, h1⟩
        have HB1 := Lib.hid (HB0.out.trans (h1.mono HB0.out.size))
        obtain ⟨c0, c1, c2, c3, c4⟩ := (K0.out.on h1).c5
        clear h1
        go_wp2_with fail
        refine (HQ.out _).mono ?_
        rintro e w2 ⟨rfl, rfl⟩
        go_wp2_with fail
        refine (HR.out _).mono ?_
        rintro e w2 ⟨rfl, rfl⟩
        go_wp2_with fail
        refine (HS.out _).mono ?_
        rintro e w3 ⟨rfl, h3⟩
        have HB3 := Lib.hid (below_on HB1.out h3)
        clear h3
        go_wp2_with fail
        exact bodyPost_ret (v := .tuple #[.int .i64 X, .int .i64 Y, .bool true]) (by simp [results, Try.results11, go_sem]) rfl ⟨by rw [hf.out.1, hf.out.2.1, hf.out.2.2], HB3.out⟩
set_option maxHeartbeats 2000000 in
theorem specPlaceDelayed_any (x y z u c d k : Int) (w : World) : Calls Try.prog 9 #[(Value.agg #[Value.int .i64 x, Value.int .i64 y, Value.int .i64 z, Value.int .i64 u, Value.int .i64 c]), .int .i64 d, .int .i64 k] w fun e w' =>
    e = .returned (.tuple #[.int .i64 (pdX x y z u c d k), .int .i64 (pdY x y z u c d k), .bool (pdB x y z u c d k)]) ∧ Below w.heap.size w w' := by
  have P := fun W => rpMove_any x y z u c W
  have Q := fun W => rpDelay_any d W
  have R := fun W => l1In_any k 0 100 W
  have hT : pdB x y z u c d k = (shB x y z u c && (inB d 0 4 && inB k 0 100)) := rfl
  have hsh := shB_yes (x := x) (y := y) (z := z) (u := u) (c := c)
  obtain ⟨b1, e1⟩ : ∃ b, shB x y z u c = b := ⟨_, rfl⟩
  obtain ⟨b2, e2⟩ : ∃ b, inB d 0 4 = b := ⟨_, rfl⟩
  obtain ⟨b3, e3⟩ : ∃ b, inB k 0 100 = b := ⟨_, rfl⟩
  rw [e1] at P hT hsh
  rw [e2] at Q hT
  rw [e3] at R hT
  have HP := Lib.hid P
  have HQ := Lib.hid Q
  have HR := Lib.hid R
  have k0 := Blk.new w 30 #[.int .i64 x, .int .i64 y, .int .i64 z, .int .i64 u, .int .i64 c]
  have HB0 := Lib.hid (below_new (Below.refl w.heap.size w) (.cells #[.int .i64 x, .int .i64 y, .int .i64 z, .int .i64 u, .int .i64 c] 30))
  have K0 := Lib.hid k0
  clear P Q R e1 k0
  cases b1 with
  | false =>
    have hf := Lib.hid (pd_no (show pdB x y z u c d k = false by rw [hT]; rfl))
    clear hT hsh e2 e3
    go_enter Try.func9, Try.ntmps9
    go_wp2_with fail
    refine (HP.out _).mono ?_
    rintro e w1 ⟨rfl, h1⟩
    have HB1 := Lib.hid (HB0.out.trans (h1.mono HB0.out.size))
    clear h1
    go_wp2_with fail
    exact bodyPost_ret (v := .tuple #[.int .i64 0, .int .i64 0, .bool false]) (by simp [results, Try.results9, go_sem]) rfl ⟨by rw [hf.out.1, hf.out.2.1, hf.out.2.2], HB1.out⟩
  | true =>
    cases b2 with
    | false =>
      have hf := Lib.hid (pd_no (show pdB x y z u c d k = false by rw [hT]; rfl))
      clear hT hsh e2 e3
      go_enter Try.func9, Try.ntmps9
      go_wp2_with fail
      refine (HP.out _).mono ?_
      rintro e w1 ⟨rfl, h1⟩
      have HB1 := Lib.hid (HB0.out.trans (h1.mono HB0.out.size))
      clear h1
      go_wp2_with fail
      refine (HQ.out _).mono ?_
      rintro e w2 ⟨rfl, rfl⟩
      go_wp2_with fail
      exact bodyPost_ret (v := .tuple #[.int .i64 0, .int .i64 0, .bool false]) (by simp [results, Try.results9, go_sem]) rfl ⟨by rw [hf.out.1, hf.out.2.1, hf.out.2.2], HB1.out⟩
    | true =>
      cases b3 with
      | false =>
        have hf := Lib.hid (pd_no (show pdB x y z u c d k = false by rw [hT]; rfl))
        clear hT hsh e2 e3
        go_enter Try.func9, Try.ntmps9
        go_wp2_with fail
        refine (HP.out _).mono ?_
        rintro e w1 ⟨rfl, h1⟩
        have HB1 := Lib.hid (HB0.out.trans (h1.mono HB0.out.size))
        clear h1
        go_wp2_with fail
        refine (HQ.out _).mono ?_
        rintro e w2 ⟨rfl, rfl⟩
        go_wp2_with fail
        refine (HR.out _).mono ?_
        rintro e w2 ⟨rfl, rfl⟩
        go_wp2_with fail
        exact bodyPost_ret (v := .tuple #[.int .i64 0, .int .i64 0, .bool false]) (by simp [results, Try.results9, go_sem]) rfl ⟨by rw [hf.out.1, hf.out.2.1, hf.out.2.2], HB1.out⟩
      | true =>
        have hf := pd_yes (show pdB x y z u c d k = true by rw [hT]; rfl)
        have hs := hsh rfl
        have hd := inB_yes e2
        have hk := inB_yes e3
        have S := fun W => rpAt_any x y z u c d k W hs.2.2.2 (by omega) (by omega) hd.1 hd.2 hk.1 hk.2
        obtain ⟨X, eX⟩ : ∃ q, paX x z c (dlK c d k) = q := ⟨_, rfl⟩
        obtain ⟨Y, eY⟩ : ∃ q, paX y u c (dlK c d k) = q := ⟨_, rfl⟩
        rw [eX, eY] at S hf
        have HS := Lib.hid S
        replace hf := Lib.hid hf
        clear hT hsh e2 e3 S eX eY hs hd hk
        go_enter Try.func9, Try.ntmps9
        go_wp2_with fail
        refine (HP.out _).mono ?_
        rintro e w1 ⟨rfl, h1⟩
        have HB1 := Lib.hid (HB0.out.trans (h1.mono HB0.out.size))
        obtain ⟨c0, c1, c2, c3, c4⟩ := (K0.out.on h1).c5
        clear h1
        go_wp2_with fail
        refine (HQ.out _).mono ?_
        rintro e w2 ⟨rfl, rfl⟩
        go_wp2_with fail
        refine (HR.out _).mono ?_
        rintro e w2 ⟨rfl, rfl⟩
        go_wp2_with fail
        refine (HS.out _).mono ?_
        rintro e w3 ⟨rfl, h3⟩
        have HB3 := Lib.hid (below_on HB1.out h3)
        clear h3
        go_wp2_with fail
        exact bodyPost_ret (v := .tuple #[.int .i64 X, .int .i64 Y, .bool true]) (by simp [results, Try.results9, go_sem]) rfl ⟨by rw [hf.out.1, hf.out.2.1, hf.out.2.2], HB3.out⟩
end Go.Proofs.Ytpikhkdgohapeaa
