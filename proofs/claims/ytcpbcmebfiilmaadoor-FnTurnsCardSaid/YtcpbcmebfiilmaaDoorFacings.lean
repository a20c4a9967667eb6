/- Contracts of the two FacingsAfter: each returns the facings after the turns, in memory of its own. Conditions: the slice can be read. -/
import Derived.Test.YtcpbcmebfiilmaaDoorIntS
import Derived.Test.YtcpbcmebfiilmaaDoorFacingIn
namespace Go.Proofs.YtcpbcmebfiilmaaDoor
open Go.RowKit

/-- The facing after the first k turns. -/
def faAt (f : Int) (xs : List Int) : Nat → Int
  | 0 => f
  | k + 1 => (faAt f xs k + xs.getD k 0) % 8
/-- The facings after the first k turns, one by one. -/
def faOut (f : Int) (xs : List Int) (k : Nat) : List Int := (List.range k).map fun i => faAt f xs (i + 1)
theorem faOut_length (f : Int) (xs : List Int) (k : Nat) : (faOut f xs k).length = k := by simp [faOut]
theorem faOut_succ (f : Int) (xs : List Int) (k : Nat) : faOut f xs (k + 1) = faOut f xs k ++ [(faAt f xs k + xs.getD k 0) % 8] := by
  simp [faOut, List.range_succ, faAt]
theorem faAt_in (f : Int) (xs : List Int) (h0 : 0 ≤ f) (h7 : f ≤ 7) : ∀ k, 0 ≤ faAt f xs k ∧ faAt f xs k ≤ 7
  | 0 => ⟨h0, h7⟩
  | k + 1 => by unfold faAt; omega
/-- The first k turns are of at most eight eighths. -/
def okTo (lo hi : Int) (xs : List Int) (k : Nat) : Prop := ∀ i, i < k → lo ≤ xs.getD i 0 ∧ xs.getD i 0 ≤ hi
def okAll (lo hi : Int) (xs : List Int) : Bool := xs.all fun x => inB x lo hi
theorem okAll_yes {lo hi : Int} {xs : List Int} (h : okAll lo hi xs = true) : okTo lo hi xs xs.length := by
  intro i hi'
  simp only [okAll, List.all_eq_true] at h
  have := h _ (List.getElem_mem hi')
  simpa [List.getD, hi'] using inB_yes this
theorem okAll_mk {lo hi : Int} {xs : List Int} (h : okTo lo hi xs xs.length) : okAll lo hi xs = true := by
  simp only [okAll, List.all_eq_true]
  intro x hx
  obtain ⟨i, hi', rfl⟩ := List.getElem_of_mem hx
  have := h i hi'
  simp only [List.getD, List.getElem?_eq_getElem hi', Option.getD_some] at this
  exact inB_mk this.1 this.2
theorem okAll_no {lo hi : Int} {xs : List Int} {i : Nat} (hi' : i < xs.length) (h : xs.getD i 0 < lo ∨ hi < xs.getD i 0) : okAll lo hi xs = false := by
  cases hh : okAll lo hi xs with
  | false => rfl
  | true => have := okAll_yes hh i hi'; omega

set_option maxHeartbeats 400000 in
theorem l1All_any (v : Value) (n B : Nat) (xs : List Int) (lo hi : Int) (w : World) (hv : Rd w B 1 v n xs) (hn : n ≤ 1099511627776) :
    Calls Tryd.prog 38 #[v, .int .i64 lo, .int .i64 hi] w fun e w' => e = .returned (.bool (okAll lo hi xs)) ∧ w = w' := by
  obtain ⟨hl, A, c, rfl, hA⟩ := hv
  rw [Nat.mul_one] at hl
  have Hl := Lib.hid hl
  clear hl
  go_enter Tryd.func38, Tryd.ntmps38
  go_wp2
  go_loop [11] (fun i => ∃ k : Nat, k ≤ n ∧ i = .int .i64 k ∧ okTo lo hi xs k) (fun i => n - (intOf i).toNat)
  case atStart => exact ⟨0, Nat.zero_le _, rfl, fun i h => absurd h (by omega)⟩
  case round =>
    obtain ⟨k, hk, rfl, hok⟩ := hrel
    have HK := Lib.hid hok
    clear hok
    by_cases hlt : k < n
    · obtain ⟨b, off, rfl, hbB, hc⟩ := hA (by omega)
      have hcell := hc k (by omega)
      obtain ⟨x, hx⟩ : ∃ x, xs.getD k 0 = x := ⟨_, rfl⟩
      rw [hx] at hcell
      have Hx := Lib.hid hx
      clear hc hA hx
      cases hin : inB x lo hi with
      | true =>
        have Hin := Lib.hid hin
        go_wp2_with (go_at_call 34; refine (l1In_any _ _ _ _).mono ?_; rintro e w' ⟨rfl, rfl⟩)
        go_round
        case rel =>
          refine ⟨k + 1, by omega, by go_num, fun i hi' => ?_⟩
          rcases Nat.lt_succ_iff_lt_or_eq.1 hi' with h | rfl
          · exact HK.out i h
          · rw [Hx.out]; exact inB_yes Hin.out
        case measure => simp [intOf]; omega
      | false =>
        have HF := Lib.hid (okAll_no (lo := lo) (hi := hi) (xs := xs) (i := k) (by rw [Hl.out]; exact hlt) (by rw [Hx.out]; exact inB_no hin))
        go_wp2_with (go_at_call 34; refine (l1In_any _ _ _ _).mono ?_; rintro e w' ⟨rfl, rfl⟩)
        go_ret
        exact ⟨by rw [HF.out]; rfl, rfl⟩
    · have HF := Lib.hid (okAll_mk (lo := lo) (hi := hi) (xs := xs) (by rw [Hl.out]; have : k = n := by omega
                                                                        rw [← this]; exact HK.out))
      clear hA
      go_wp2
      go_ret
      exact ⟨by rw [HF.out]; rfl, rfl⟩

/-- What both return. -/
def faB (f : Int) (xs : List Int) : Bool := inB f 0 7 && decide (xs.length ≤ 40) && okAll (-8) 8 xs
def faL (f : Int) (xs : List Int) : List Int := if faB f xs = true then faOut f xs xs.length else []

set_option maxHeartbeats 1000000 in
theorem spec_facings (f : Int) (v : Value) (n B : Nat) (xs : List Int) (w : World) (hv : Rd w B 1 v n xs) (hB : B ≤ w.heap.size) (hn : n ≤ 1099511627776) :
    Calls Tryd.prog 17 #[.int .i64 f, v] w fun e w' => ∃ u, e = .returned (.tuple #[u, .bool (faB f xs)]) ∧ w'.ownsRow w.heap.size 3 1 u (faL f xs).length (ints (faL f xs)) ∧ Below w.heap.size w w' := by
  have hv0 := hv
  obtain ⟨hl, A, c, rfl, hA⟩ := hv
  rw [Nat.mul_one] at hl
  cases h1 : inB f 0 7 with
  | false =>
    have hF : faB f xs = false := by simp [faB, h1]
    have hFL : faL f xs = [] := by simp [faL, hF]
    rw [hF, hFL]
    clear hv0 hA hF hFL hl
    go_enter Tryd.func17, Tryd.ntmps17
    go_wp2_with (first | (go_at_call 30; refine (tuGood_any _ _).mono ?_; rintro e w' ⟨rfl, rfl⟩) | go_in)
    go_ret2
    exact ⟨_, rfl, World.ownsRow_nil _ _ _ _, Below.refl _ _⟩
  | true =>
    have hf := inB_yes h1
    by_cases h2 : n ≤ 40
    · cases h3 : okAll (-8) 8 xs with
      | false =>
        have hF : faB f xs = false := by simp [faB, h3]
        have hFL : faL f xs = [] := by simp [faL, hF]
        rw [hF, hFL]
        have Hv := Lib.hid hv0
        clear hv0 hA hF hFL hl
        go_enter Tryd.func17, Tryd.ntmps17
        go_wp2_with (first | (go_at_call 30; refine (tuGood_any _ _).mono ?_; rintro e w' ⟨rfl, rfl⟩) | (go_at_call 38; refine (l1All_any _ _ _ _ _ _ _ Hv.out hn).mono ?_; rintro e w' ⟨rfl, rfl⟩) | go_in)
        go_ret2
        exact ⟨_, rfl, World.ownsRow_nil _ _ _ _, Below.refl _ _⟩
      | true =>
        have hF : faB f xs = true := by simp [faB, h1, h3, hl, h2]
        have hFL : faL f xs = faOut f xs n := by simp [faL, hF, hl]
        have hall : okTo (-8) 8 xs n := by rw [← hl]; exact okAll_yes h3
        rw [hF, hFL, faOut_length]
        have Hv := Lib.hid hv0
        have Hl := Lib.hid hl
        have Ho := Lib.hid hall
        clear hv0 hF hFL hl hall
        obtain ⟨i0, hi, hz0, hz1, hz2⟩ := info_parts intInfo
        go_enter Tryd.func17, Tryd.ntmps17
        go_wp2_with (first | (go_at_call 30; refine (tuGood_any _ _).mono ?_; rintro e w' ⟨rfl, rfl⟩) | (go_at_call 38; refine (l1All_any _ _ _ _ _ _ _ Hv.out hn).mono ?_; rintro e w' ⟨rfl, rfl⟩) | go_in)
        go_loopw [0, 6, 24] (fun q o i wr => ∃ k : Nat, k ≤ n ∧ i = .int .i64 k ∧ q = .int .i64 (faAt f xs k) ∧ wr.ownsRow w.heap.size 3 1 o k (ints (faOut f xs k)) ∧ Below w.heap.size w wr) (fun _ _ i _ => n - (intOf i).toNat)
        case atStart => exact ⟨0, Nat.zero_le _, rfl, rfl, World.ownsRow_nil _ _ _ _, Below.refl _ _⟩
        case round =>
          obtain ⟨k, hk, rfl, rfl, hown, hb⟩ := hrel
          by_cases hlt : k < n
          · obtain ⟨b, off, rfl, hbB, hc⟩ := hA (by omega)
            have hcell : wr.cell? ⟨b, off + k, none⟩ = some (.int .i64 (xs.getD k 0)) := (hb.cell (p := ⟨b, off + k, none⟩) (Nat.lt_of_lt_of_le hbB hB)).trans (hc k (by omega))
            have hx := Ho.out k hlt
            have hq := faAt_in f xs hf.1 hf.2 k
            have hs := faOut_succ f xs k
            obtain ⟨x, ex⟩ : ∃ x, xs.getD k 0 = x := ⟨_, rfl⟩
            obtain ⟨q, eq⟩ : ∃ q, faAt f xs k = q := ⟨_, rfl⟩
            have hq1 : faAt f xs (k + 1) = (q + x) % 8 := by rw [← ex, ← eq]; rfl
            rw [ex] at hcell hx
            rw [ex, eq] at hs
            rw [eq] at hq
            rw [eq]
            have Hs := Lib.hid hs
            have Hq := Lib.hid hq1
            have hsz := hb.size
            obtain ⟨hx1, hx2⟩ := hx
            obtain ⟨hq2, hq3⟩ := hq
            clear hc hA ex eq hs hq1
            go_wp2_with (first | (at_builtin; refine wpList_append_own _ rfl _ _ 35 rfl w.heap.size 3 i0 (.int .i64 0) 1 8 Tryd.underlying35 hi hz0 hz1 hz2 rfl (by decide) _ _ _ rfl (hown.alloc _) ⟨wr.heap.size, 0, none⟩ 1 1 [.int .i64 ((q + x) % 8)] rfl rfl ?c1 ?c2 ?c3 ?c4 ?c5 ?_) | go_in)
            case c1 =>
              intro j u hj
              match j, hj with
              | 0, hj => simp at hj; subst hj; simp [Addr.add]
            case c2 => intro u hu; simp at hu; subst hu; rfl
            case c3 => unfold maxLen; omega
            case c4 => omega
            case c5 => simp; omega
            · intro v' w1 hown' hgrow _
              have hb2 : Below w.heap.size w w1 := (hb.alloc hsz _).grown hgrow (by simp; omega) (fun g hg => (hown.lt g hg).1)
              have hown2 : w1.ownsRow w.heap.size 3 1 v' (k + 1) (ints (faOut f xs (k + 1))) := by
                rw [Hs.out, ints_append]; exact hown'
              clear hown' hgrow hown
              have HO := Lib.hid hown2
              clear hown2
              go_wp2
              go_roundw
              case rel => exact ⟨k + 1, by omega, by go_num, by rw [Hq.out], HO.out, hb2⟩
              case measure => simp [intOf]; omega
          · obtain rfl : k = n := by omega
            clear hA
            go_wp2
            go_ret2
            exact ⟨_, rfl, hown, hb⟩
    · have hF : faB f xs = false := by simp [faB, hl, h2]
      have hFL : faL f xs = [] := by simp [faL, hF]
      rw [hF, hFL]
      clear hv0 hA hF hFL hl
      go_enter Tryd.func17, Tryd.ntmps17
      go_wp2_with (first | (go_at_call 30; refine (tuGood_any _ _).mono ?_; rintro e w' ⟨rfl, rfl⟩) | go_in)
      go_ret2
      exact ⟨_, rfl, World.ownsRow_nil _ _ _ _, Below.refl _ _⟩

theorem faB_no {f : Int} {xs : List Int} {i : Nat} (hi : i < xs.length) (h : inB (xs.getD i 0) (-8) 8 = false) : faB f xs = false := by
  simp [faB, okAll_no hi (inB_no h)]

set_option maxHeartbeats 400000 in
theorem turnBy_yes (f t : Int) (w : World) (h1 : 0 ≤ f) (h2 : f ≤ 7) (h3 : -8 ≤ t) (h4 : t ≤ 8) : Calls Tryd.prog 8 #[.int .i64 f, .int .i64 t] w fun e w' => e = .returned (.tuple #[.int .i64 ((f + t) % 8), .bool true]) ∧ w = w' := by
  have i1 := inB_mk h1 h2
  have i2 := inB_mk h3 h4
  go_enter Tryd.func8, Tryd.ntmps8
  go_wp2_with (first | (go_at_call 32; refine (within_any _ _ _ _).mono ?_; rintro e w' ⟨rfl, rfl⟩) | (go_at_call 28; refine (isFacing_any _ _).mono ?_; rintro e w' ⟨rfl, rfl⟩))
  go_ret2
  exact ⟨by simp, rfl⟩
set_option maxHeartbeats 400000 in
theorem turnBy_no (f t : Int) (w : World) (h : inB f 0 7 = false ∨ inB f 0 7 = true ∧ inB t (-8) 8 = false) : Calls Tryd.prog 8 #[.int .i64 f, .int .i64 t] w fun e w' => e = .returned (.tuple #[.int .i64 0, .bool false]) ∧ w = w' := by
  rcases h with i1 | ⟨i1, i2⟩
  · go_enter Tryd.func8, Tryd.ntmps8
    go_wp2_with (first | (go_at_call 32; refine (within_any _ _ _ _).mono ?_; rintro e w' ⟨rfl, rfl⟩) | (go_at_call 28; refine (isFacing_any _ _).mono ?_; rintro e w' ⟨rfl, rfl⟩))
    go_ret2
    exact ⟨rfl, rfl⟩
  · go_enter Tryd.func8, Tryd.ntmps8
    go_wp2_with (first | (go_at_call 32; refine (within_any _ _ _ _).mono ?_; rintro e w' ⟨rfl, rfl⟩) | (go_at_call 28; refine (isFacing_any _ _).mono ?_; rintro e w' ⟨rfl, rfl⟩))
    go_ret2
    exact ⟨rfl, rfl⟩

set_option maxHeartbeats 1000000 in
theorem impl_facings (f : Int) (v : Value) (n B : Nat) (xs : List Int) (w : World) (hv : Rd w B 1 v n xs) (hB : B ≤ w.heap.size) (hn : n ≤ 1099511627776) :
    Calls Tryd.prog 16 #[.int .i64 f, v] w fun e w' => ∃ u, e = .returned (.tuple #[u, .bool (faB f xs)]) ∧ w'.ownsRow w.heap.size 3 1 u (faL f xs).length (ints (faL f xs)) ∧ Below w.heap.size w w' := by
  have hv0 := hv
  obtain ⟨hl, A, c, rfl, hA⟩ := hv
  rw [Nat.mul_one] at hl
  cases h1 : inB f 0 7 with
  | false =>
    have hF : faB f xs = false := by simp [faB, h1]
    have hFL : faL f xs = [] := by simp [faL, hF]
    rw [hF, hFL]
    clear hv0 hA hF hFL hl
    go_enter Tryd.func16, Tryd.ntmps16
    go_wp2_with (first | (go_at_call 32; refine (within_any _ _ _ _).mono ?_; rintro e w' ⟨rfl, rfl⟩) | (go_at_call 28; refine (isFacing_any _ _).mono ?_; rintro e w' ⟨rfl, rfl⟩))
    go_ret2
    exact ⟨_, rfl, World.ownsRow_nil _ _ _ _, Below.refl _ _⟩
  | true =>
    have hf := inB_yes h1
    by_cases h2 : n ≤ 40
    · have hF : ∀ h3 : okAll (-8) 8 xs = true, faB f xs = true := by intro h3; simp [faB, h1, h3, hl, h2]
      have hFL : ∀ h3 : okAll (-8) 8 xs = true, faL f xs = faOut f xs n := by intro h3; simp [faL, hF h3, hl]
      have Hl := Lib.hid hl
      have HF := Lib.hid hF
      have HFL := Lib.hid hFL
      clear hv0 hF hFL hl
      have hd : decide ((40 : Int) < (n : Int)) = false := by simp; omega
      obtain ⟨i0, hi, hz0, hz1, hz2⟩ := info_parts intInfo
      go_enter Tryd.func16, Tryd.ntmps16
      go_wp2_with (first | (go_at_call 32; refine (within_any _ _ _ _).mono ?_; rintro e w' ⟨rfl, rfl⟩) | (go_at_call 28; refine (isFacing_any _ _).mono ?_; rintro e w' ⟨rfl, rfl⟩))
      go_loopw [0, 6, 22] (fun q o i wr => ∃ k : Nat, k ≤ n ∧ i = .int .i64 k ∧ q = .int .i64 (faAt f xs k) ∧ okTo (-8) 8 xs k ∧ wr.ownsRow w.heap.size 3 1 o k (ints (faOut f xs k)) ∧ Below w.heap.size w wr) (fun _ _ i _ => n - (intOf i).toNat)
      case atStart => exact ⟨0, Nat.zero_le _, rfl, rfl, fun i h => absurd h (by omega), own_empty _ _ _, (Below.refl _ _).alloc (Nat.le_refl _) _⟩
      case round =>
        obtain ⟨k, hk, rfl, rfl, hok, hown, hb⟩ := hrel
        have HK := Lib.hid hok
        clear hok
        by_cases hlt : k < n
        · obtain ⟨b, off, rfl, hbB, hc⟩ := hA (by omega)
          have hcell : wr.cell? ⟨b, off + k, none⟩ = some (.int .i64 (xs.getD k 0)) := (hb.cell (p := ⟨b, off + k, none⟩) (Nat.lt_of_lt_of_le hbB hB)).trans (hc k (by omega))
          have hq := faAt_in f xs hf.1 hf.2 k
          have hs := faOut_succ f xs k
          obtain ⟨x, ex⟩ : ∃ x, xs.getD k 0 = x := ⟨_, rfl⟩
          obtain ⟨q, eq⟩ : ∃ q, faAt f xs k = q := ⟨_, rfl⟩
          have hq1 : faAt f xs (k + 1) = (q + x) % 8 := by rw [← ex, ← eq]; rfl
          rw [ex] at hcell
          rw [ex, eq] at hs
          rw [eq] at hq
          rw [eq]
          have Hs := Lib.hid hs
          have Hq := Lib.hid hq1
          have Hx := Lib.hid ex
          have hsz := hb.size
          obtain ⟨hq2, hq3⟩ := hq
          have h1' := Lib.hid h1
          clear hc hA ex eq hs hq1 h1
          cases h3 : inB x (-8) 8 with
          | false =>
            have hno : faB f xs = false := faB_no (i := k) (by rw [Hl.out]; exact hlt) (by rw [Hx.out]; exact h3)
            have hnl : faL f xs = [] := by simp [faL, hno]
            have Hno := Lib.hid hno
            have Hnl := Lib.hid hnl
            have hqn : inB q 0 7 = false ∨ inB q 0 7 = true ∧ inB x (-8) 8 = false := .inr ⟨inB_mk hq2 hq3, h3⟩
            have Hqn := Lib.hid hqn
            clear hno hnl hqn h3
            go_wp2_with (go_at_call 8; refine (turnBy_no _ _ _ Hqn.out).mono ?_; rintro e w' ⟨rfl, rfl⟩)
            go_ret2
            rw [Hno.out, Hnl.out]
            exact ⟨_, rfl, World.ownsRow_nil _ _ _ _, hb⟩
          | true =>
            obtain ⟨hx1, hx2⟩ := inB_yes h3
            clear h3
            go_wp2_with (first | (go_at_call 8; refine (turnBy_yes _ _ _ hq2 hq3 hx1 hx2).mono ?_; rintro e w' ⟨rfl, rfl⟩) | (at_builtin; refine wpList_append_own _ rfl _ _ 35 rfl w.heap.size 3 i0 (.int .i64 0) 1 8 Tryd.underlying35 hi hz0 hz1 hz2 rfl (by decide) _ _ _ rfl (hown.alloc _) ⟨wr.heap.size, 0, none⟩ 1 1 [.int .i64 ((q + x) % 8)] rfl rfl ?c1 ?c2 ?c3 ?c4 ?c5 ?_))
            case c1 =>
              intro j u hj
              match j, hj with
              | 0, hj => simp at hj; subst hj; simp [Addr.add]
            case c2 => intro u hu; simp at hu; subst hu; rfl
            case c3 => unfold maxLen; omega
            case c4 => omega
            case c5 => simp; omega
            · intro v' w1 hown' hgrow _
              have hb2 : Below w.heap.size w w1 := (hb.alloc hsz _).grown hgrow (by simp; omega) (fun g hg => (hown.lt g hg).1)
              have hown2 : w1.ownsRow w.heap.size 3 1 v' (k + 1) (ints (faOut f xs (k + 1))) := by
                rw [Hs.out, ints_append]; exact hown'
              clear hown' hgrow hown
              have HO := Lib.hid hown2
              clear hown2
              go_wp2
              go_roundw
              case rel =>
                refine ⟨k + 1, by omega, by go_num, by rw [Hq.out], fun i hi' => ?_, HO.out, hb2⟩
                rcases Nat.lt_succ_iff_lt_or_eq.1 hi' with h | rfl
                · exact HK.out i h
                · rw [Hx.out]; exact ⟨hx1, hx2⟩
              case measure => simp [intOf]; omega
        · obtain rfl : k = n := by omega
          have hall : okAll (-8) 8 xs = true := okAll_mk (by rw [Hl.out]; exact HK.out)
          have Ha := Lib.hid hall
          clear hA hall
          go_wp2
          go_ret2
          rw [HF.out Ha.out, HFL.out Ha.out, faOut_length]
          exact ⟨_, rfl, hown, hb⟩
    · have hF : faB f xs = false := by simp [faB, hl, h2]
      have hFL : faL f xs = [] := by simp [faL, hF]
      rw [hF, hFL]
      clear hv0 hA hF hFL hl
      go_enter Tryd.func16, Tryd.ntmps16
      go_wp2_with (first | (go_at_call 32; refine (within_any _ _ _ _).mono ?_; rintro e w' ⟨rfl, rfl⟩) | (go_at_call 28; refine (isFacing_any _ _).mono ?_; rintro e w' ⟨rfl, rfl⟩))
      go_ret2
      exact ⟨_, rfl, World.ownsRow_nil _ _ _ _, Below.refl _ _⟩

end Go.Proofs.YtcpbcmebfiilmaaDoor
