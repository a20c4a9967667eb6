/- Contract of the library's stable sort of carries. Conditions: the carries are valid, there is at least one and at most a million of them. -/
import Derived.Test.YtamehlafmfmgmaaSym
namespace Go.Proofs.Ytamehlafmfmgmaa
open Go.RowKit

def BlocksOf (s : Nat) (B : List (List Car)) : Prop := ∀ x ∈ B, x.length = s ∧ Weak x
theorem blocks_nil (s : Nat) : BlocksOf s [] := fun x hx => by cases hx
theorem blocks_snoc {s : Nat} {B : List (List Car)} {x : List Car} (h : BlocksOf s B) (hl : x.length = s) (hw : Weak x) : BlocksOf s (B ++ [x]) := by
  intro y hy
  rcases List.mem_append.1 hy with hy | hy
  · exact h y hy
  · rw [List.mem_singleton.1 hy]; exact ⟨hl, hw⟩
theorem blocks_tail {s : Nat} {x : List Car} {B : List (List Car)} (h : BlocksOf s (x :: B)) : BlocksOf s B := fun y hy => h y (List.mem_cons_of_mem _ hy)
theorem flatten_snoc (B : List (List Car)) (x : List Car) : (B ++ [x]).flatten = B.flatten ++ x := by simp
/-- How the list lies while blocks are merged in pairs. -/
structure Half (s : Nat) (B1 B2 : List (List Car)) (R l : List Car) : Prop where
  one : BlocksOf (2 * s) B1
  two : BlocksOf s B2
  weak : Weak R
  short : R.length < s
  perm : (B1.flatten ++ (B2.flatten ++ R)).Perm l
theorem half_two {s n : Nat} {B1 B2 : List (List Car)} {R l : List Car} (h : Half s B1 B2 R l) (hl : (B1.flatten ++ (B2.flatten ++ R)).length = n) (hb : B1.flatten.length + 2 * s ≤ n) : ∃ x y B3, B2 = x :: y :: B3 := by
  have hs := h.short
  match B2, h with
  | [], _ => rw [List.length_append, List.length_append] at hl; simp only [List.flatten_nil, List.length_nil] at hl; omega
  | [x], h =>
    have := (h.two x (by simp)).1
    rw [List.length_append, List.length_append] at hl
    simp only [List.flatten_cons, List.flatten_nil, List.append_nil] at hl
    omega
  | x :: y :: B3, _ => exact ⟨x, y, B3, rfl⟩
theorem half_last {s n : Nat} {B1 B2 : List (List Car)} {R l : List Car} (h : Half s B1 B2 R l) (hl : (B1.flatten ++ (B2.flatten ++ R)).length = n) (hb : n < B1.flatten.length + 2 * s) : B2 = [] ∨ ∃ x, B2 = [x] := by
  match B2, h with
  | [], _ => exact .inl rfl
  | [x], _ => exact .inr ⟨x, rfl⟩
  | x :: y :: B3, h =>
    exfalso
    have h1 := (h.two x (by simp)).1
    have h2 := (h.two y (by simp)).1
    rw [List.length_append, List.length_append] at hl
    simp only [List.flatten_cons, List.length_append] at hl
    omega
theorem half_next {s : Nat} {B1 B3 : List (List Car)} {x y R l Z : List Car} (h : Half s B1 (x :: y :: B3) R l) (hp : Z.Perm (x ++ y)) (hw : Weak Z) : Half s (B1 ++ [Z]) B3 R l := by
  have h1 := (h.two x (by simp)).1
  have h2 := (h.two y (by simp)).1
  refine ⟨blocks_snoc h.one (by rw [hp.length_eq, List.length_append]; omega) hw, blocks_tail (blocks_tail h.two), h.weak, h.short, ?_⟩
  refine List.Perm.trans ?_ h.perm
  rw [flatten_snoc, List.append_assoc]
  refine List.Perm.append_left _ ?_
  simp only [List.flatten_cons]
  rw [List.append_assoc, List.append_assoc]
  rw [show x ++ (y ++ (B3.flatten ++ R)) = (x ++ y) ++ (B3.flatten ++ R) by simp]
  exact List.Perm.append_right _ hp
theorem whole {s n : Nat} {B : List (List Car)} {R : List Car} (hB : BlocksOf s B) (hw : Weak R) (hl : (B.flatten ++ R).length = n) (hs : n ≤ s) (h0 : 0 < s) : Weak (B.flatten ++ R) := by
  match B, hB with
  | [], _ => exact hw
  | x :: B2, hB =>
    have hx := hB x (by simp)
    have : (B2.flatten ++ R) = [] := by
      apply List.length_eq_zero_iff.1
      simp only [List.flatten_cons, List.length_append] at hl ⊢
      omega
    rw [List.flatten_cons, List.append_assoc, this, List.append_nil]
    exact hx.2
set_option maxHeartbeats 1000000 in
theorem insertion_none (lo g cap n a : Nat) (l : List Car) (w : World) (h : Cs w w lo g cap n l) (ha : a ≤ 1000000) :
    Calls Try.prog 56 #[.slice (some ⟨g, 0, none⟩) n cap, .int .i64 a, .int .i64 a, cmpF] w fun e w' => e = .returned (.tuple #[]) ∧ Cs w w' lo g cap n l := by
  have H := Lib.hid h
  clear h
  go_enter Try.func56, Try.ntmps56
  go_wp2_with fail
  go_loopw [8] (fun vi wr => vi = .int .i64 ((a : Int) + 1) ∧ Cs w wr lo g cap n l) (fun _ _ => 0)
  case atStart => exact ⟨rfl, H.out⟩
  case round =>
    obtain ⟨rfl, hc⟩ := hrel
    have hd : decide ((a : Int) + 1 < (a : Int)) = false := by simp; omega
    go_wp2_with fail
    go_end0
    exact ⟨rfl, hc⟩
theorem insertion_all (lo g cap n a b : Nat) (P X S : List Car) (w : World) (ha : P.length = a) (hb : a + X.length = b) (h : Cs w w lo g cap n (P ++ (X ++ S))) (hn : n ≤ 1000000) :
    Calls Try.prog 56 #[.slice (some ⟨g, 0, none⟩) n cap, .int .i64 a, .int .i64 b, cmpF] w fun e w' => e = .returned (.tuple #[]) ∧ ∃ Z, Z.Perm X ∧ Weak Z ∧ Cs w w' lo g cap n (P ++ (Z ++ S)) := by
  by_cases hx : 0 < X.length
  · exact insertion_any lo g cap n a b P X S _ w rfl ha hb hx h hn
  · obtain rfl : X = [] := List.length_eq_zero_iff.1 (by omega)
    obtain rfl : a = b := by simpa using hb
    refine (insertion_none lo g cap n a _ w h (by have := h.len; simp at this; omega)).mono ?_
    rintro e w' ⟨rfl, hc⟩
    exact ⟨rfl, [], List.Perm.refl _, weak_nil, hc⟩
set_option maxRecDepth 100000 in
set_option maxHeartbeats 4000000 in
theorem stable_any (lo g cap n : Nat) (l : List Car) (w : World) (h : Cs w w lo g cap n l) (hn0 : 0 < n) (hn : n ≤ 1000000) :
    Calls Try.prog 53 #[.slice (some ⟨g, 0, none⟩) n cap, .int .i64 n, cmpF] w fun e w' => e = .returned (.tuple #[]) ∧ ∃ Z, Z.Perm l ∧ Weak Z ∧ Cs w w' lo g cap n Z := by
  have H := Lib.hid h
  have HS := Lib.hid (sym_all lo g cap n hn)
  clear h
  go_enter Try.func53, Try.ntmps53
  go_wp2_with fail
  go_loopw [7, 8] (fun va vb wr => ∃ (a b : Nat) (B : List (List Car)) (R : List Car), va = .int .i64 a ∧ vb = .int .i64 b ∧ B.flatten.length = a ∧ a + 20 = b ∧ a ≤ n ∧ BlocksOf 20 B ∧ (B.flatten ++ R).Perm l ∧ Cs w wr lo g cap n (B.flatten ++ R)) (fun va _ _ => n - (intOf va).toNat)
  case atStart => exact ⟨0, 20, [], l, rfl, rfl, rfl, rfl, Nat.zero_le _, blocks_nil 20, List.Perm.refl _, H.out⟩
  case round =>
    obtain ⟨a, b, B, R, rfl, rfl, hBl, hab, han, hB, hp, hc⟩ := hrel
    have HBL := Lib.hid hBl
    have HAB := Lib.hid hab
    have HB := Lib.hid hB
    have HP := Lib.hid hp
    have HC := Lib.hid hc
    have hab2 : b ≤ 1000020 := by omega
    clear hBl hab hB hp hc
    by_cases hlt : b ≤ n
    · obtain ⟨X, S, eR, hX⟩ := part_two (l := R) (k := 20) (by have := HC.out.len; rw [List.length_append] at this; have := HBL.out; have := HAB.out; omega)
      have ER := Lib.hid eR
      have HX := Lib.hid hX
      clear eR hX
      go_wp2_with fail
      refine (insertion_all lo g cap n a b B.flatten X S _ HBL.out (by rw [HX.out]; exact HAB.out) (by have := Cs.start HC.out.len HC.out.ok HC.out.own; rw [ER.out] at this; exact this) hn).mono ?_
      rintro e w2 ⟨rfl, Z, hz, hw, hc2⟩
      have HZ := Lib.hid hz
      have HW := Lib.hid hw
      have HC2 := Lib.hid (HC.out.next hc2)
      clear hz hw hc2
      go_wp2_with fail
      go_roundw
      case rel =>
        refine ⟨b, b + 20, B ++ [Z], S, rfl, by go_num, ?_, rfl, hlt, blocks_snoc HB.out (by rw [HZ.out.length_eq]; exact HX.out) HW.out, ?_, ?_⟩
        · rw [flatten_snoc, List.length_append, HBL.out, HZ.out.length_eq, HX.out]; exact HAB.out
        · have := HP.out
          rw [ER.out] at this
          rw [flatten_snoc, List.append_assoc]
          exact (List.Perm.append_left _ (List.Perm.append_right _ HZ.out)).trans this
        · rw [flatten_snoc, List.append_assoc]; exact HC2.out
      case measure => have := HAB.out; simp [intOf]; omega
    · go_wp2_with fail
      refine (insertion_all lo g cap n a n B.flatten R [] _ HBL.out (by have := HC.out.len; rw [List.length_append] at this; have := HBL.out; omega) (by have := Cs.start HC.out.len HC.out.ok HC.out.own; rw [List.append_nil]; exact this) hn).mono ?_
      rintro e w2 ⟨rfl, Z, hz, hw, hc2⟩
      have HZ := Lib.hid hz
      have HW := Lib.hid hw
      have HC2 := Lib.hid (HC.out.next hc2)
      have HR := Lib.hid (show R.length < 20 by have := HC.out.len; rw [List.length_append] at this; have := HBL.out; have := HAB.out; omega)
      clear hz hw hc2
      go_wp2_with fail
      go_loopw [6] (fun vs wr => ∃ (s : Nat) (B : List (List Car)) (R : List Car), vs = .int .i64 s ∧ 0 < s ∧ s ≤ 2000040 ∧ BlocksOf s B ∧ Weak R ∧ R.length < s ∧ (B.flatten ++ R).Perm l ∧ Cs w wr lo g cap n (B.flatten ++ R)) (fun vs _ => n - (intOf vs).toNat)
      case atStart =>
        refine ⟨20, B, Z, rfl, by omega, by omega, HB.out, HW.out, by rw [HZ.out.length_eq]; exact HR.out, (List.Perm.append_left _ HZ.out).trans HP.out, ?_⟩
        have := HC2.out
        rw [List.append_nil] at this
        exact this
      case round =>
        clear HC2 HR HZ HW HP HB HBL HAB HC hlt
        obtain ⟨s, B1, R1, rfl, hs0, hs1, hB1, hw1, hr1, hp1, hc1⟩ := hrel
        have HB := Lib.hid hB1
        have HW := Lib.hid hw1
        have HR := Lib.hid hr1
        have HP := Lib.hid hp1
        have HC := Lib.hid hc1
        clear hB1 hw1 hr1 hp1 hc1
        by_cases hsn : s < n
        · obtain ⟨s2, es2⟩ : ∃ q, 2 * s = q := ⟨_, rfl⟩
          have e1 : (2 : Int) * (s : Int) = (s2 : Int) := by omega
          have e2 : (s : Int) * 2 = (s2 : Int) := by omega
          have hs2 : s2 ≤ 2000000 := by omega
          have ES := Lib.hid es2
          have HH := Lib.hid (show Half s [] B1 R1 l from ⟨blocks_nil _, HB.out, HW.out, HR.out, HP.out⟩)
          clear es2
          obtain ⟨wo, rfl⟩ : ∃ wo : World, wo = wr := ⟨_, rfl⟩
          go_wp2_with fail
          go_loopw [7, 8] (fun va vb wr => ∃ (a b : Nat) (B1 B2 : List (List Car)) (R : List Car), va = .int .i64 a ∧ vb = .int .i64 b ∧ B1.flatten.length = a ∧ a + s2 = b ∧ a ≤ n ∧ Half s B1 B2 R l ∧ Cs w wr lo g cap n (B1.flatten ++ (B2.flatten ++ R))) (fun va _ _ => n - (intOf va).toNat)
          case atStart => exact ⟨0, s2, [], B1, R1, rfl, rfl, rfl, by omega, Nat.zero_le _, HH.out, HC.out⟩
          case round =>
            clear HH HC HB HW HR HP
            obtain ⟨a, b, B1, B2, R, rfl, rfl, hBl, hab, han, hh, hc⟩ := hrel
            have HBL := Lib.hid hBl
            have HAB := Lib.hid hab
            have HH := Lib.hid hh
            have HC := Lib.hid hc
            have hb2 : b ≤ 4000000 := by omega
            have hla := Lib.hid hc.len
            clear hBl hab hh hc
            obtain ⟨m, em⟩ : ∃ q, a + s = q := ⟨_, rfl⟩
            have e3 : (a : Int) + (s : Int) = (m : Int) := by omega
            have EM := Lib.hid em
            clear em
            by_cases hlt : b ≤ n
            · obtain ⟨x, y, B3, eB⟩ := half_two HH.out hla.out (by rw [HBL.out, ES.out, HAB.out]; exact hlt)
              subst eB
              have hx := (HH.out.two x (by simp)).1
              have hy := (HH.out.two y (by simp)).1
              have HX := Lib.hid hx
              have HY := Lib.hid hy
              clear hx hy
              go_wp2_with fail
              refine (HS.out (x.length + y.length) B1.flatten x y (B3.flatten ++ R) a m b _ HBL.out (by rw [HX.out]; exact EM.out) (by rw [HY.out]; have := EM.out; have := HAB.out; have := ES.out; omega) (by rw [HX.out]; exact hs0) (by rw [HY.out]; exact hs0) (Nat.le_refl _) (HH.out.two x (by simp)).2 (HH.out.two y (by simp)).2
                (by have := Cs.start HC.out.len HC.out.ok HC.out.own; simpa using this)).mono ?_
              rintro e w2 ⟨rfl, Z, hz, hw, hc2⟩
              have HN := Lib.hid (half_next HH.out hz hw)
              have HZ := Lib.hid hz
              have HC2 := Lib.hid (HC.out.next hc2)
              clear hz hw hc2
              go_wp2_with fail
              go_roundw
              case rel =>
                refine ⟨b, b + s2, B1 ++ [Z], B3, R, rfl, by go_num, ?_, rfl, hlt, HN.out, ?_⟩
                · rw [flatten_snoc, List.length_append, HBL.out, HZ.out.length_eq, List.length_append, HX.out, HY.out]; have := HAB.out; have := ES.out; omega
                · rw [flatten_snoc, List.append_assoc]; exact HC2.out
              case measure => have := HAB.out; have := ES.out; simp [intOf]; omega
            · rcases half_last HH.out hla.out (by rw [HBL.out, ES.out, HAB.out]; omega) with eB | ⟨x, eB⟩
              · subst eB
                have hd : ¬ m < n := by have h1 := hla.out; rw [List.length_append, List.length_append, HBL.out] at h1; simp only [List.flatten_nil, List.length_nil] at h1; have := HH.out.short; have := EM.out; omega
                go_wp2_with fail
                go_roundw
                case rel =>
                  refine ⟨s2, B1, R, by go_num, by have := ES.out; omega, by omega, by have := HH.out.one; rw [ES.out] at this; exact this, HH.out.weak, by have := HH.out.short; have := ES.out; omega, by have := HH.out.perm; simpa using this, by have := HC.out; simpa using this⟩
                case measure => have := ES.out; simp [intOf]; omega
              · subst eB
                have hx := (HH.out.two x (by simp)).1
                have HX := Lib.hid hx
                have hrn := Lib.hid (show m + R.length = n by have h1 := hla.out; rw [List.length_append, List.length_append, HBL.out] at h1; simp only [List.flatten_cons, List.flatten_nil, List.append_nil] at h1; have := EM.out; omega)
                clear hx
                by_cases hmn : m < n
                · go_wp2_with fail
                  refine (HS.out (x.length + R.length) B1.flatten x R [] a m n _ HBL.out (by rw [HX.out]; exact EM.out) hrn.out (by rw [HX.out]; exact hs0) (by have := hrn.out; omega) (Nat.le_refl _) (HH.out.two x (by simp)).2 HH.out.weak
                    (by have := Cs.start HC.out.len HC.out.ok HC.out.own; simpa using this)).mono ?_
                  rintro e w2 ⟨rfl, Z, hz, hw, hc2⟩
                  have HZ := Lib.hid hz
                  have HW := Lib.hid hw
                  have HC2 := Lib.hid (HC.out.next hc2)
                  clear hz hw hc2
                  go_wp2_with fail
                  go_roundw
                  case rel =>
                    refine ⟨s2, B1, Z, by go_num, by have := ES.out; omega, by omega, by have := HH.out.one; rw [ES.out] at this; exact this, HW.out, ?_, ?_, ?_⟩
                    · rw [HZ.out.length_eq, List.length_append, HX.out]; have := HH.out.short; have := ES.out; omega
                    · have := HH.out.perm
                      simp only [List.flatten_cons, List.flatten_nil, List.append_nil] at this
                      exact (List.Perm.append_left _ HZ.out).trans this
                    · have := HC2.out
                      simpa using this
                  case measure => have := ES.out; simp [intOf]; omega
                · have hR : R = [] := List.length_eq_zero_iff.1 (by have := hrn.out; omega)
                  subst hR
                  go_wp2_with fail
                  go_roundw
                  case rel =>
                    refine ⟨s2, B1, x, by go_num, by have := ES.out; omega, by omega, by have := HH.out.one; rw [ES.out] at this; exact this, (HH.out.two x (by simp)).2, ?_, ?_, ?_⟩
                    · rw [HX.out]; have := ES.out; omega
                    · have := HH.out.perm
                      simpa using this
                    · have := HC.out
                      simpa using this
                  case measure => have := ES.out; simp [intOf]; omega
        · have HF := Lib.hid (whole HB.out HW.out HC.out.len (by omega) hs0)
          go_wp2_with fail
          go_end0
          exact ⟨rfl, _, HP.out, HF.out, HC.out⟩
set_option maxHeartbeats 1000000 in
theorem sortStable_any (lo g cap n : Nat) (l : List Car) (w : World) (h : Cs w w lo g cap n l) (hn0 : 0 < n) (hn : n ≤ 1000000) :
    Calls Try.prog 37 #[.slice (some ⟨g, 0, none⟩) n cap, cmpF] w fun e w' => e = .returned (.tuple #[]) ∧ ∃ Z, Z.Perm l ∧ Weak Z ∧ Cs w w' lo g cap n Z := by
  have H := Lib.hid h
  clear h
  go_enter Try.func37, Try.ntmps37
  go_wp2_with fail
  refine (stable_any lo g cap n l _ H.out hn0 hn).mono ?_
  rintro e w2 ⟨rfl, Z, hz, hw, hc2⟩
  have HX := Lib.hid (show ∃ Z : List Car, Z.Perm l ∧ Weak Z ∧ Cs w w2 lo g cap n Z from ⟨Z, hz, hw, hc2⟩)
  clear hz hw hc2
  go_wp2_with fail
  go_end0
  exact ⟨rfl, HX.out⟩
end Go.Proofs.Ytamehlafmfmgmaa
