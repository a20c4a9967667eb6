/- Contracts of FacingName and FacingOf, in the program (over its table of names) and in the reference. Condition: the table's cells hold the eight names. -/
import Derived.Test.YtcpbcmebfiilmaaDoorFacingIn
namespace Go.Proofs.YtcpbcmebfiilmaaDoor
open Go.RowKit

/-- The names of the facings. -/
def nameA : Nat → ByteArray | 0 => ⟨#[110]⟩ | 1 => ⟨#[110, 101]⟩ | 2 => ⟨#[101]⟩ | 3 => ⟨#[115, 101]⟩ | 4 => ⟨#[115]⟩ | 5 => ⟨#[115, 119]⟩ | 6 => ⟨#[119]⟩ | 7 => ⟨#[110, 119]⟩ | _ => ⟨#[]⟩
def namesV : Array Value := #[.string ⟨#[110]⟩, .string ⟨#[110, 101]⟩, .string ⟨#[101]⟩, .string ⟨#[115, 101]⟩, .string ⟨#[115]⟩, .string ⟨#[115, 119]⟩, .string ⟨#[119]⟩, .string ⟨#[110, 119]⟩]
theorem namesV_get {k : Nat} (h : k < 8) : namesV[k]? = some (.string (nameA k)) := by
  match k, h with
  | 0, _ => rfl
  | 1, _ => rfl
  | 2, _ => rfl
  | 3, _ => rfl
  | 4, _ => rfl
  | 5, _ => rfl
  | 6, _ => rfl
  | 7, _ => rfl
/-- The table is laid. -/
def Tab (w : World) : Prop := ∀ k, k < 8 → w.cell? ⟨0, k, none⟩ = some (.string (nameA k))
theorem Tab.keep {w w' : World} (h : Tab w) (hb : Below w.heap.size w w') : Tab w' := fun k hk => (hb.cell (block_lt_of_cell (h k hk))).trans (h k hk)

theorem tuNames_any (w : World) : Calls Tryd.prog 41 #[] w fun e w' => e = .returned (.slice (some ⟨w.heap.size, 0, none⟩) 8 8) ∧ w' = w.alloc (.cells namesV 9) := by
  go_enter Tryd.func41, Tryd.ntmps41
  go_wp2
  go_ret
  exact ⟨rfl, rfl⟩

def nmB (s : ByteArray) (k : Nat) : Bool := (nameA k).toList == s.toList
def facK (s : ByteArray) : Option Nat := (List.range 8).find? (nmB s)
theorem facK_at {s : ByteArray} {k : Nat} (hk : k < 8) (h : nmB s k = true) (hn : ∀ j, j < k → nmB s j = false) : facK s = some k := by
  unfold facK
  rw [List.find?_range_eq_some]
  exact ⟨h, by simpa using hk, fun j hj => by simp [hn j hj]⟩
theorem facK_none {s : ByteArray} (hn : ∀ j, j < 8 → nmB s j = false) : facK s = none := by
  unfold facK
  rw [List.find?_range_eq_none]
  exact fun j hj => by simp [hn j hj]
def facB (s : ByteArray) : Bool := (facK s).isSome
def facV (s : ByteArray) : Int := match facK s with | some k => (k : Int) | none => 0
theorem fac_some {s : ByteArray} {k : Nat} (h : facK s = some k) : facB s = true ∧ facV s = k := by simp [facB, facV, h]
theorem fac_none {s : ByteArray} (h : facK s = none) : facB s = false ∧ facV s = 0 := by simp [facB, facV, h]

theorem impl_FacingOf (s : ByteArray) (w : World) (ht : Tab w) :
    Calls Tryd.prog 10 #[.string s] w fun e w' => e = .returned (.tuple #[.int .i64 (facV s), .bool (facB s)]) ∧ w = w' := by
  go_enter Tryd.func10, Tryd.ntmps10
  go_wp2_with fail
  go_loop [5] (fun i => ∃ k : Nat, k ≤ 8 ∧ i = .int .i64 k ∧ ∀ j, j < k → nmB s j = false) (fun i => 8 - (intOf i).toNat)
  case atStart => exact ⟨0, Nat.zero_le _, rfl, fun j h => absurd h (by omega)⟩
  case round =>
    obtain ⟨k, hk, rfl, hno⟩ := hrel
    have HO := Lib.hid hno
    clear hno
    by_cases hlt : k < 8
    · have hc := ht k hlt
      clear ht
      cases hfit : nmB s k with
      | true =>
        have hq : ((nameA k).toList == s.toList) = true := hfit
        have HF := Lib.hid (fac_some (facK_at hlt hfit HO.out))
        clear hfit
        go_wp2_with fail
        go_ret2
        exact ⟨by rw [HF.out.1, HF.out.2]; rfl, rfl⟩
      | false =>
        have hq : ((nameA k).toList == s.toList) = false := hfit
        have HF := Lib.hid hfit
        clear hfit
        go_wp2_with fail
        go_round
        case rel =>
          refine ⟨k + 1, by omega, by go_num, fun j hj => ?_⟩
          rcases Nat.lt_succ_iff_lt_or_eq.1 hj with h | rfl
          · exact HO.out j h
          · exact HF.out
        case measure => simp [intOf]; omega
    · obtain rfl : k = 8 := by omega
      have HF := Lib.hid (fac_none (facK_none HO.out))
      go_wp2_with fail
      go_ret2
      exact ⟨by rw [HF.out.1, HF.out.2]; rfl, rfl⟩

theorem spec_FacingOf (s : ByteArray) (w : World) :
    Calls Tryd.prog 24 #[.string s] w fun e w' => e = .returned (.tuple #[.int .i64 (facV s), .bool (facB s)]) ∧ Below w.heap.size w w' := by
  have hB : Below w.heap.size w (w.alloc (.cells namesV 9)) := (Below.refl _ _).alloc (Nat.le_refl _) _
  have HB := Lib.hid hB
  clear hB
  have hK := Blk.new w 9 namesV
  obtain ⟨W, hW⟩ : ∃ W, W = w.alloc (.cells namesV 9) := ⟨_, rfl⟩
  rw [← hW] at hK HB
  have HW := Lib.hid hW
  clear hW
  go_enter Tryd.func24, Tryd.ntmps24
  go_wp2_with fail
  refine (tuNames_any _).mono ?_
  rw [← HW.out]
  rintro e w' ⟨rfl, rfl⟩
  go_wp2_with fail
  go_loop [8] (fun i => ∃ k : Nat, k ≤ 8 ∧ i = .int .i64 k ∧ ∀ j, j < k → nmB s j = false) (fun i => 8 - (intOf i).toNat)
  case atStart => exact ⟨0, Nat.zero_le _, rfl, fun j h => absurd h (by omega)⟩
  case round =>
    obtain ⟨k, hk, rfl, hno⟩ := hrel
    have HO := Lib.hid hno
    clear hno
    by_cases hlt : k < 8
    · have hc := (hK.cell k).trans (namesV_get hlt)
      clear hK
      cases hfit : nmB s k with
      | true =>
        have hq : ((nameA k).toList == s.toList) = true := hfit
        have HF := Lib.hid (fac_some (facK_at hlt hfit HO.out))
        clear hfit
        go_wp2_with fail
        go_ret2
        exact ⟨by rw [HF.out.1, HF.out.2]; rfl, HB.out⟩
      | false =>
        have hq : ((nameA k).toList == s.toList) = false := hfit
        have HF := Lib.hid hfit
        clear hfit
        go_wp2_with fail
        go_round
        case rel =>
          refine ⟨k + 1, by omega, by go_num, fun j hj => ?_⟩
          rcases Nat.lt_succ_iff_lt_or_eq.1 hj with h | rfl
          · exact HO.out j h
          · exact HF.out
        case measure => simp [intOf]; omega
    · obtain rfl : k = 8 := by omega
      have HF := Lib.hid (fac_none (facK_none HO.out))
      go_wp2_with fail
      go_ret2
      exact ⟨by rw [HF.out.1, HF.out.2]; rfl, HB.out⟩

/-- What FacingName returns. -/
def nmV (f : Int) : ByteArray := if inB f 0 7 = true then nameA f.toNat else ⟨#[]⟩
theorem impl_FacingName (f : Int) (w : World) (ht : Tab w) :
    Calls Tryd.prog 9 #[.int .i64 f] w fun e w' => e = .returned (.tuple #[.string (nmV f), .bool (inB f 0 7)]) ∧ w = w' := by
  cases h1 : inB f 0 7 with
  | false =>
    have hf := Lib.hid (show nmV f = ⟨#[]⟩ by simp [nmV, h1])
    clear ht
    go_enter Tryd.func9, Tryd.ntmps9
    go_wp2_with fail
    refine (isFacing_any _ _).mono ?_
    rintro e w' ⟨rfl, rfl⟩
    go_wp2_with fail
    go_ret2
    exact ⟨by rw [hf.out]; rfl, rfl⟩
  | true =>
    have hb := inB_yes h1
    obtain ⟨k, rfl⟩ := Int.eq_ofNat_of_zero_le hb.1
    have hf := Lib.hid (show nmV (k : Int) = nameA k by simp [nmV, h1])
    have hk : k < 8 := by omega
    have hc := ht k hk
    clear ht hb
    go_enter Tryd.func9, Tryd.ntmps9
    go_wp2_with fail
    refine (isFacing_any _ _).mono ?_
    rintro e w' ⟨rfl, rfl⟩
    go_wp2_with fail
    go_ret2
    exact ⟨by rw [hf.out]; rfl, rfl⟩
theorem spec_FacingName (f : Int) (w : World) :
    Calls Tryd.prog 22 #[.int .i64 f] w fun e w' => e = .returned (.tuple #[.string (nmV f), .bool (inB f 0 7)]) ∧ Below w.heap.size w w' := by
  cases h1 : inB f 0 7 with
  | false =>
    have hf := Lib.hid (show nmV f = ⟨#[]⟩ by simp [nmV, h1])
    go_enter Tryd.func22, Tryd.ntmps22
    go_wp2_with fail
    refine (tuGood_any _ _).mono ?_
    rintro e w' ⟨rfl, rfl⟩
    go_wp2_with fail
    go_ret2
    exact ⟨by rw [hf.out]; rfl, Below.refl _ _⟩
  | true =>
    have hb := inB_yes h1
    obtain ⟨k, rfl⟩ := Int.eq_ofNat_of_zero_le hb.1
    have hf := Lib.hid (show nmV (k : Int) = nameA k by simp [nmV, h1])
    have hk : k < 8 := by omega
    have hc := ((Blk.new w 9 namesV).cell k).trans (namesV_get hk)
    have hB : Below w.heap.size w (w.alloc (.cells namesV 9)) := (Below.refl _ _).alloc (Nat.le_refl _) _
    obtain ⟨W, hW⟩ : ∃ W, W = w.alloc (.cells namesV 9) := ⟨_, rfl⟩
    rw [← hW] at hc hB
    have HW := Lib.hid hW
    have HB := Lib.hid hB
    clear hb hW hB
    go_enter Tryd.func22, Tryd.ntmps22
    go_wp2_with fail
    refine (tuGood_any _ _).mono ?_
    rintro e w' ⟨rfl, rfl⟩
    go_wp2_with fail
    refine (tuNames_any _).mono ?_
    rw [← HW.out]
    rintro e w' ⟨rfl, rfl⟩
    go_wp2_with fail
    go_ret2
    exact ⟨by rw [hf.out]; rfl, HB.out⟩
end Go.Proofs.YtcpbcmebfiilmaaDoor
