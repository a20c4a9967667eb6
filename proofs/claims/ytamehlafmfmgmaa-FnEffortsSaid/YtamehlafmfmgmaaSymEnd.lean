/- The merge of two neighbouring parts of a slice of carries (of the library's stable sort), behind its search. Conditions: the parts are in order and lie within the slice. -/
import Derived.Test.YtamehlafmfmgmaaSymLast
import Derived.Test.YtamehlafmfmgmaaCutFn2
import Derived.Test.YtamehlafmfmgmaaRot
namespace Go.Proofs.Ytamehlafmfmgmaa
open Go.RowKit

noncomputable def symBody : Code := (Try.f57.body).getD .skip
/-- What a merge leaves: the parts XY, in order, between P and S. -/
def SymR (w : World) (lo g cap n : Nat) (P XY S : List Car) (e : Ending) (w' : World) : Prop := e = .returned (.tuple #[]) ∧ ∃ Z, Z.Perm XY ∧ Weak Z ∧ Cs w w' lo g cap n (P ++ (Z ++ S))
/-- The merge does what it ought to on parts of at most N elements together. -/
def SymOk (lo g cap n N : Nat) : Prop := ∀ (P X Y S : List Car) (a m b : Nat) (w : World), P.length = a → a + X.length = m → m + Y.length = b → 0 < X.length → 0 < Y.length → X.length + Y.length ≤ N → Weak X → Weak Y → Cs w w lo g cap n (P ++ (X ++ (Y ++ S))) →
    Calls Try.prog 57 #[.slice (some ⟨g, 0, none⟩) n cap, .int .i64 a, .int .i64 m, .int .i64 b, cmpF] w (SymR w lo g cap n P (X ++ Y) S)
set_option maxRecDepth 100000 in
set_option maxHeartbeats 4000000 in
theorem sym_c (lo g cap n N a m b md en : Nat) (P Z1 B D S XY : List Car) (w W : World) (hrec : SymOk lo g cap n N) (hp : P.length + Z1.length = md) (hB : md + B.length = en) (hD : en + D.length = b) (hlen : B.length + D.length ≤ N) (wB : Weak B) (wD : Weak D)
    (hfin : ∀ Z2 : List Car, Z2.Perm (B ++ D) → Weak Z2 → Weak (Z1 ++ Z2) ∧ (Z1 ++ Z2).Perm XY) (h : Cs w W lo g cap n (P ++ (Z1 ++ (B ++ (D ++ S))))) (f : Nat → Value) :
    Code.wp Try.prog (tailOf 11 symBody) (bodyPost Try.prog Try.f57 (SymR w lo g cap n P XY S)) ⟨#[.slice (some ⟨g, 0, none⟩) n cap, .int .i64 a, .int .i64 m, .int .i64 b, cmpF, f 5, f 6, f 7, f 8, f 9, f 10, f 11, f 12, f 13, f 14, f 15, f 16, f 17, .int .i64 md, f 19, f 20, f 21, f 22, f 23, .int .i64 en, f 25, f 26, f 27, f 28, f 29, f 30, f 31, f 32, f 33, f 34, f 35, f 36, f 37, f 38, f 39, f 40, f 41, f 42, f 43, f 44, f 45, f 46, f 47, f 48, f 49, f 50, f 51, f 52, f 53, f 54, f 55, f 56, f 57, f 58, f 59, f 60, f 61, f 62, f 63, f 64, f 65, f 66, f 67, f 68, f 69, f 70, f 71, f 72, f 73, f 74, f 75, f 76, f 77, f 78, f 79, f 80, f 81, f 82, f 83, f 84, f 85, f 86, f 87, f 88, f 89, f 90, f 91, f 92, f 93, f 94, f 95, f 96, f 97, f 98, f 99, f 100, f 101, f 102, f 103, f 104, f 105, f 106, f 107, f 108, f 109, f 110, f 111, f 112, f 113, f 114, f 115, f 116, f 117, f 118, f 119, f 120, f 121, f 122, f 123, f 124, f 125, f 126, f 127, f 128, f 129, f 130, f 131, f 132, f 133, f 134, f 135, f 136, f 137, f 138, f 139, f 140, f 141, f 142, f 143, f 144, f 145, f 146, f 147, f 148, f 149, f 150, f 151, f 152, f 153, f 154, f 155, f 156, f 157, f 158, f 159, f 160, f 161, f 162, f 163, f 164, f 165, f 166, f 167, f 168, f 169, f 170, f 171, f 172, f 173, f 174, f 175, f 176, f 177, f 178, f 179, f 180, f 181, f 182, f 183, f 184, f 185, f 186, f 187, f 188, f 189, f 190, f 191, f 192, f 193, f 194, f 195, f 196, f 197, f 198, f 199, f 200, f 201, f 202, f 203, f 204, f 205, f 206, f 207, f 208, f 209, f 210, f 211, f 212, f 213, f 214, f 215, f 216, f 217, f 218, f 219], []⟩ W := by
  have H := Lib.hid h
  have HR := Lib.hid hrec
  have HB := Lib.hid hB
  have HD := Lib.hid hD
  have HP := Lib.hid hp
  have HF := Lib.hid hfin
  have h1 : md ≤ en := by omega
  have h2 : en ≤ b := by omega
  clear h hrec hB hD hp hfin
  conv => arg 2; whnf
  by_cases t1 : md < en
  · have d1 : decide ((md : Int) < (en : Int)) = true := by simp; omega
    by_cases t2 : en < b
    · have d2 : decide ((en : Int) < (b : Int)) = true := by simp; omega
      go_wp2_with fail
      refine (HR.out (P ++ Z1) B D S md en b _ (by rw [List.length_append]; exact HP.out) HB.out HD.out (by have := HB.out; omega) (by have := HD.out; omega) hlen wB wD (by have := Cs.start H.out.len H.out.ok H.out.own; rw [List.append_assoc]; exact this)).mono ?_
      rintro e w2 ⟨rfl, Z2, hz, hw, hc2⟩
      have HC := Lib.hid (H.out.next hc2)
      have HZ := Lib.hid hz
      have HW := Lib.hid hw
      clear hz hw hc2
      go_wp2_with fail
      go_end0
      refine ⟨rfl, Z1 ++ Z2, (HF.out Z2 HZ.out HW.out).2, (HF.out Z2 HZ.out HW.out).1, ?_⟩
      have := HC.out
      simpa using this
    · have d2 : decide ((en : Int) < (b : Int)) = false := by simp; omega
      have hD0 : D = [] := List.length_eq_zero_iff.1 (by have := HD.out; omega)
      go_wp2_with fail
      go_end0
      subst hD0
      have hq := HF.out (B ++ []) (List.Perm.refl _) (by rw [List.append_nil]; exact wB)
      refine ⟨rfl, _, hq.2, hq.1, ?_⟩
      have := H.out
      simpa using this
  · have d1 : decide ((md : Int) < (en : Int)) = false := by simp; omega
    have hB0 : B = [] := List.length_eq_zero_iff.1 (by have := HB.out; omega)
    go_wp2_with fail
    go_end0
    subst hB0
    have hq := HF.out ([] ++ D) (List.Perm.refl _) wD
    refine ⟨rfl, _, hq.2, hq.1, ?_⟩
    have := H.out
    simpa using this
set_option maxRecDepth 100000 in
set_option maxHeartbeats 4000000 in
theorem sym_b (lo g cap n N a m b md st en : Nat) (P A B C D S XY : List Car) (w W : World) (hrec : SymOk lo g cap n N) (hP : P.length = a) (hA : a + A.length = st) (hC : st + C.length = md) (hB : md + B.length = en) (hD : en + D.length = b) (hl1 : A.length + C.length ≤ N) (hl2 : B.length + D.length ≤ N)
    (wA : Weak A) (wB : Weak B) (wC : Weak C) (wD : Weak D)
    (hfin : ∀ Z1 Z2 : List Car, Z1.Perm (A ++ C) → Weak Z1 → Z2.Perm (B ++ D) → Weak Z2 → Weak (Z1 ++ Z2) ∧ (Z1 ++ Z2).Perm XY) (h : Cs w W lo g cap n (P ++ (A ++ (C ++ (B ++ (D ++ S)))))) (f : Nat → Value) :
    Code.wp Try.prog (tailOf 10 symBody) (bodyPost Try.prog Try.f57 (SymR w lo g cap n P XY S)) ⟨#[.slice (some ⟨g, 0, none⟩) n cap, .int .i64 a, .int .i64 m, .int .i64 b, cmpF, f 5, f 6, f 7, f 8, f 9, f 10, f 11, f 12, f 13, f 14, f 15, f 16, f 17, .int .i64 md, f 19, .int .i64 st, f 21, f 22, f 23, .int .i64 en, f 25, f 26, f 27, f 28, f 29, f 30, f 31, f 32, f 33, f 34, f 35, f 36, f 37, f 38, f 39, f 40, f 41, f 42, f 43, f 44, f 45, f 46, f 47, f 48, f 49, f 50, f 51, f 52, f 53, f 54, f 55, f 56, f 57, f 58, f 59, f 60, f 61, f 62, f 63, f 64, f 65, f 66, f 67, f 68, f 69, f 70, f 71, f 72, f 73, f 74, f 75, f 76, f 77, f 78, f 79, f 80, f 81, f 82, f 83, f 84, f 85, f 86, f 87, f 88, f 89, f 90, f 91, f 92, f 93, f 94, f 95, f 96, f 97, f 98, f 99, f 100, f 101, f 102, f 103, f 104, f 105, f 106, f 107, f 108, f 109, f 110, f 111, f 112, f 113, f 114, f 115, f 116, f 117, f 118, f 119, f 120, f 121, f 122, f 123, f 124, f 125, f 126, f 127, f 128, f 129, f 130, f 131, f 132, f 133, f 134, f 135, f 136, f 137, f 138, f 139, f 140, f 141, f 142, f 143, f 144, f 145, f 146, f 147, f 148, f 149, f 150, f 151, f 152, f 153, f 154, f 155, f 156, f 157, f 158, f 159, f 160, f 161, f 162, f 163, f 164, f 165, f 166, f 167, f 168, f 169, f 170, f 171, f 172, f 173, f 174, f 175, f 176, f 177, f 178, f 179, f 180, f 181, f 182, f 183, f 184, f 185, f 186, f 187, f 188, f 189, f 190, f 191, f 192, f 193, f 194, f 195, f 196, f 197, f 198, f 199, f 200, f 201, f 202, f 203, f 204, f 205, f 206, f 207, f 208, f 209, f 210, f 211, f 212, f 213, f 214, f 215, f 216, f 217, f 218, f 219], []⟩ W := by
  have H := Lib.hid h
  have HR := Lib.hid hrec
  have HA := Lib.hid hA
  have HC := Lib.hid hC
  have HBD := Lib.hid (And.intro hB hD)
  have HP := Lib.hid hP
  have HF := Lib.hid hfin
  have h1 : a ≤ st := by omega
  have h2 : st ≤ md := by omega
  clear h hrec hB hD hP hfin hA hC
  conv => arg 2; whnf
  go_step
  refine wp_cut (fun a' wk => ∃ f : Nat → Value, (∃ Z1 : List Car, Z1.Perm (A ++ C) ∧ Weak Z1 ∧ Cs w wk lo g cap n (P ++ (Z1 ++ (B ++ (D ++ S))))) ∧ a' = ⟨#[.slice (some ⟨g, 0, none⟩) n cap, .int .i64 a, .int .i64 m, .int .i64 b, cmpF, f 5, f 6, f 7, f 8, f 9, f 10, f 11, f 12, f 13, f 14, f 15, f 16, f 17, .int .i64 md, f 19, f 20, f 21, f 22, f 23, .int .i64 en, f 25, f 26, f 27, f 28, f 29, f 30, f 31, f 32, f 33, f 34, f 35, f 36, f 37, f 38, f 39, f 40, f 41, f 42, f 43, f 44, f 45, f 46, f 47, f 48, f 49, f 50, f 51, f 52, f 53, f 54, f 55, f 56, f 57, f 58, f 59, f 60, f 61, f 62, f 63, f 64, f 65, f 66, f 67, f 68, f 69, f 70, f 71, f 72, f 73, f 74, f 75, f 76, f 77, f 78, f 79, f 80, f 81, f 82, f 83, f 84, f 85, f 86, f 87, f 88, f 89, f 90, f 91, f 92, f 93, f 94, f 95, f 96, f 97, f 98, f 99, f 100, f 101, f 102, f 103, f 104, f 105, f 106, f 107, f 108, f 109, f 110, f 111, f 112, f 113, f 114, f 115, f 116, f 117, f 118, f 119, f 120, f 121, f 122, f 123, f 124, f 125, f 126, f 127, f 128, f 129, f 130, f 131, f 132, f 133, f 134, f 135, f 136, f 137, f 138, f 139, f 140, f 141, f 142, f 143, f 144, f 145, f 146, f 147, f 148, f 149, f 150, f 151, f 152, f 153, f 154, f 155, f 156, f 157, f 158, f 159, f 160, f 161, f 162, f 163, f 164, f 165, f 166, f 167, f 168, f 169, f 170, f 171, f 172, f 173, f 174, f 175, f 176, f 177, f 178, f 179, f 180, f 181, f 182, f 183, f 184, f 185, f 186, f 187, f 188, f 189, f 190, f 191, f 192, f 193, f 194, f 195, f 196, f 197, f 198, f 199, f 200, f 201, f 202, f 203, f 204, f 205, f 206, f 207, f 208, f 209, f 210, f 211, f 212, f 213, f 214, f 215, f 216, f 217, f 218, f 219], []⟩) ?rest ?first
  case rest =>
    rintro _ wc ⟨f, ⟨Z1, hz, hw, hc⟩, rfl⟩
    go_step
    exact sym_c lo g cap n N a m b md en P Z1 B D S XY w wc HR.out (by have := hz.length_eq; rw [List.length_append] at this; have := HP.out; have := HA.out; have := HC.out; omega) HBD.out.1 HBD.out.2 hl2 wB wD (fun Z2 p2 w2 => HF.out Z1 Z2 hz hw p2 w2) hc f
  case first =>
  intro _ _ _ _
  by_cases t1 : a < st
  · have d1 : decide ((a : Int) < (st : Int)) = true := by simp; omega
    by_cases t2 : st < md
    · have d2 : decide ((st : Int) < (md : Int)) = true := by simp; omega
      go_wp2_with fail
      refine (HR.out P A C (B ++ (D ++ S)) a st md _ HP.out HA.out HC.out (by have := HA.out; omega) (by have := HC.out; omega) hl1 wA wC (Cs.start H.out.len H.out.ok H.out.own)).mono ?_
      rintro e w2 ⟨rfl, Z1, hz, hw, hc2⟩
      have HX := Lib.hid (show ∃ Z1 : List Car, Z1.Perm (A ++ C) ∧ Weak Z1 ∧ Cs w w2 lo g cap n (P ++ (Z1 ++ (B ++ (D ++ S)))) from ⟨Z1, hz, hw, H.out.next hc2⟩)
      clear hz hw hc2
      go_wp2_with fail
      refine Met.intro ?_
      go_step
      exact meet_at HX.out (by kernel_rfl)
    · have d2 : decide ((st : Int) < (md : Int)) = false := by simp; omega
      have hC0 : C = [] := List.length_eq_zero_iff.1 (by have := HC.out; omega)
      have HX := Lib.hid (show ∃ Z1 : List Car, Z1.Perm (A ++ C) ∧ Weak Z1 ∧ Cs w W lo g cap n (P ++ (Z1 ++ (B ++ (D ++ S)))) from ⟨A ++ C, List.Perm.refl _, by rw [hC0, List.append_nil]; exact wA, by have := H.out; rw [List.append_assoc]; exact this⟩)
      clear hC0
      go_wp2_with fail
      refine Met.intro ?_
      go_step
      exact meet_at HX.out (by kernel_rfl)
  · have d1 : decide ((a : Int) < (st : Int)) = false := by simp; omega
    have hA0 : A = [] := List.length_eq_zero_iff.1 (by have := HA.out; omega)
    have HX := Lib.hid (show ∃ Z1 : List Car, Z1.Perm (A ++ C) ∧ Weak Z1 ∧ Cs w W lo g cap n (P ++ (Z1 ++ (B ++ (D ++ S)))) from ⟨A ++ C, List.Perm.refl _, by rw [hA0]; exact wC, by have := H.out; rw [List.append_assoc]; exact this⟩)
    clear hA0
    go_wp2_with fail
    refine Met.intro ?_
    go_step
    exact meet_at HX.out (by kernel_rfl)
set_option maxRecDepth 100000 in
set_option maxHeartbeats 4000000 in
theorem sym_a (lo g cap n N a m b md st en : Nat) (P A B C D S XY : List Car) (w W : World) (hrec : SymOk lo g cap n N) (hn : n ≤ 1000000) (hP : P.length = a) (hA : a + A.length = st) (hB0 : st + B.length = m) (hC0 : m + C.length = en) (hC : st + C.length = md) (hB : md + B.length = en) (hD : en + D.length = b) (hl1 : A.length + C.length ≤ N) (hl2 : B.length + D.length ≤ N)
    (wA : Weak A) (wB : Weak B) (wC : Weak C) (wD : Weak D)
    (hfin : ∀ Z1 Z2 : List Car, Z1.Perm (A ++ C) → Weak Z1 → Z2.Perm (B ++ D) → Weak Z2 → Weak (Z1 ++ Z2) ∧ (Z1 ++ Z2).Perm XY) (h : Cs w W lo g cap n (P ++ (A ++ (B ++ (C ++ (D ++ S)))))) (f : Nat → Value) :
    Code.wp Try.prog (tailOf 9 symBody) (bodyPost Try.prog Try.f57 (SymR w lo g cap n P XY S)) ⟨#[.slice (some ⟨g, 0, none⟩) n cap, .int .i64 a, .int .i64 m, .int .i64 b, cmpF, f 5, f 6, f 7, f 8, f 9, f 10, f 11, f 12, f 13, f 14, f 15, f 16, f 17, .int .i64 md, f 19, .int .i64 st, f 21, f 22, f 23, .int .i64 en, f 25, f 26, f 27, f 28, f 29, f 30, f 31, f 32, f 33, f 34, f 35, f 36, f 37, f 38, f 39, f 40, f 41, f 42, f 43, f 44, f 45, f 46, f 47, f 48, f 49, f 50, f 51, f 52, f 53, f 54, f 55, f 56, f 57, f 58, f 59, f 60, f 61, f 62, f 63, f 64, f 65, f 66, f 67, f 68, f 69, f 70, f 71, f 72, f 73, f 74, f 75, f 76, f 77, f 78, f 79, f 80, f 81, f 82, f 83, f 84, f 85, f 86, f 87, f 88, f 89, f 90, f 91, f 92, f 93, f 94, f 95, f 96, f 97, f 98, f 99, f 100, f 101, f 102, f 103, f 104, f 105, f 106, f 107, f 108, f 109, f 110, f 111, f 112, f 113, f 114, f 115, f 116, f 117, f 118, f 119, f 120, f 121, f 122, f 123, f 124, f 125, f 126, f 127, f 128, f 129, f 130, f 131, f 132, f 133, f 134, f 135, f 136, f 137, f 138, f 139, f 140, f 141, f 142, f 143, f 144, f 145, f 146, f 147, f 148, f 149, f 150, f 151, f 152, f 153, f 154, f 155, f 156, f 157, f 158, f 159, f 160, f 161, f 162, f 163, f 164, f 165, f 166, f 167, f 168, f 169, f 170, f 171, f 172, f 173, f 174, f 175, f 176, f 177, f 178, f 179, f 180, f 181, f 182, f 183, f 184, f 185, f 186, f 187, f 188, f 189, f 190, f 191, f 192, f 193, f 194, f 195, f 196, f 197, f 198, f 199, f 200, f 201, f 202, f 203, f 204, f 205, f 206, f 207, f 208, f 209, f 210, f 211, f 212, f 213, f 214, f 215, f 216, f 217, f 218, f 219], []⟩ W := by
  have H := Lib.hid h
  have HR := Lib.hid hrec
  have HQ := Lib.hid (And.intro hP (And.intro hA (And.intro hC (And.intro hB hD))))
  have HB := Lib.hid hB0
  have HC := Lib.hid hC0
  have HF := Lib.hid hfin
  have hen : en ≤ n := by have := h.len; simp at this; omega
  have h1 : st ≤ m := by omega
  have h2 : m ≤ en := by omega
  clear h hrec hB hD hP hfin hA hC hB0 hC0
  conv => arg 2; whnf
  go_step
  refine wp_cut (fun a' wk => ∃ f : Nat → Value, (Cs w wk lo g cap n (P ++ (A ++ (C ++ (B ++ (D ++ S)))))) ∧ a' = ⟨#[.slice (some ⟨g, 0, none⟩) n cap, .int .i64 a, .int .i64 m, .int .i64 b, cmpF, f 5, f 6, f 7, f 8, f 9, f 10, f 11, f 12, f 13, f 14, f 15, f 16, f 17, .int .i64 md, f 19, .int .i64 st, f 21, f 22, f 23, .int .i64 en, f 25, f 26, f 27, f 28, f 29, f 30, f 31, f 32, f 33, f 34, f 35, f 36, f 37, f 38, f 39, f 40, f 41, f 42, f 43, f 44, f 45, f 46, f 47, f 48, f 49, f 50, f 51, f 52, f 53, f 54, f 55, f 56, f 57, f 58, f 59, f 60, f 61, f 62, f 63, f 64, f 65, f 66, f 67, f 68, f 69, f 70, f 71, f 72, f 73, f 74, f 75, f 76, f 77, f 78, f 79, f 80, f 81, f 82, f 83, f 84, f 85, f 86, f 87, f 88, f 89, f 90, f 91, f 92, f 93, f 94, f 95, f 96, f 97, f 98, f 99, f 100, f 101, f 102, f 103, f 104, f 105, f 106, f 107, f 108, f 109, f 110, f 111, f 112, f 113, f 114, f 115, f 116, f 117, f 118, f 119, f 120, f 121, f 122, f 123, f 124, f 125, f 126, f 127, f 128, f 129, f 130, f 131, f 132, f 133, f 134, f 135, f 136, f 137, f 138, f 139, f 140, f 141, f 142, f 143, f 144, f 145, f 146, f 147, f 148, f 149, f 150, f 151, f 152, f 153, f 154, f 155, f 156, f 157, f 158, f 159, f 160, f 161, f 162, f 163, f 164, f 165, f 166, f 167, f 168, f 169, f 170, f 171, f 172, f 173, f 174, f 175, f 176, f 177, f 178, f 179, f 180, f 181, f 182, f 183, f 184, f 185, f 186, f 187, f 188, f 189, f 190, f 191, f 192, f 193, f 194, f 195, f 196, f 197, f 198, f 199, f 200, f 201, f 202, f 203, f 204, f 205, f 206, f 207, f 208, f 209, f 210, f 211, f 212, f 213, f 214, f 215, f 216, f 217, f 218, f 219], []⟩) ?rest ?first
  case rest =>
    rintro _ wc ⟨f, hc, rfl⟩
    go_step
    exact sym_b lo g cap n N a m b md st en P A B C D S XY w wc HR.out HQ.out.1 HQ.out.2.1 HQ.out.2.2.1 HQ.out.2.2.2.1 HQ.out.2.2.2.2 hl1 hl2 wA wB wC wD HF.out hc f
  case first =>
  intro _ _ _ _
  by_cases t1 : st < m
  · have d1 : decide ((st : Int) < (m : Int)) = true := by simp; omega
    by_cases t2 : m < en
    · have d2 : decide ((m : Int) < (en : Int)) = true := by simp; omega
      go_wp2_with fail
      refine (rotate_any cmpF lo g cap n st m en _ _ (Cs.start H.out.len H.out.ok H.out.own) t1 t2 hen hn).mono ?_
      rintro e w2 ⟨rfl, hc2⟩
      have HX := Lib.hid (show Cs w w2 lo g cap n (P ++ (A ++ (C ++ (B ++ (D ++ S))))) by
        have h3 := H.out.next hc2
        rw [show P ++ (A ++ (B ++ (C ++ (D ++ S)))) = (P ++ A) ++ (B ++ (C ++ (D ++ S))) by simp] at h3
        have hl : (P ++ A).length = st := by rw [List.length_append, HQ.out.1]; exact HQ.out.2.1
        have hr := rotd_parts (P ++ A) B C (D ++ S) (m := m) (e := en) (by rw [hl]; exact HB.out.symm) (by rw [hl]; have := HB.out; have := HC.out; omega)
        rw [hl] at hr
        rw [hr] at h3
        simpa using h3)
      clear hc2
      go_wp2_with fail
      refine Met.intro ?_
      go_step
      exact meet_at HX.out (by kernel_rfl)
    · have d2 : decide ((m : Int) < (en : Int)) = false := by simp; omega
      have hC0 : C = [] := List.length_eq_zero_iff.1 (by have := HC.out; omega)
      have HX := Lib.hid (show Cs w W lo g cap n (P ++ (A ++ (C ++ (B ++ (D ++ S))))) by have := H.out; rw [hC0] at this ⊢; exact this)
      clear hC0
      go_wp2_with fail
      refine Met.intro ?_
      go_step
      exact meet_at HX.out (by kernel_rfl)
  · have d1 : decide ((st : Int) < (m : Int)) = false := by simp; omega
    have hB0 : B = [] := List.length_eq_zero_iff.1 (by have := HB.out; omega)
    have HX := Lib.hid (show Cs w W lo g cap n (P ++ (A ++ (C ++ (B ++ (D ++ S))))) by have := H.out; rw [hB0] at this ⊢; exact this)
    clear hB0
    go_wp2_with fail
    refine Met.intro ?_
    go_step
    exact meet_at HX.out (by kernel_rfl)
end Go.Proofs.Ytamehlafmfmgmaa
