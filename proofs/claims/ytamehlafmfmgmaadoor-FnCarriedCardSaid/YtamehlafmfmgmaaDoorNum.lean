/- Contract of the reference's decimal numerals. Condition: a number from 0 to 100000. -/
import Derived.Test.YtamehlafmfmgmaaDoorMem
import Derived.Test.YtamehlafmfmgmaaDoorProg
import Derived.KernelRfl
import Derived.BigQuiet
import Derived.Deep.QuietTactic
import Derived.Deep.RegionHeld3
import Derived.IntWalk
import Derived.WalkLawsBesides
import Derived.WalkSpells
import Derived.Test.YtamehlafmfmgmaaDoorTake
namespace Go.Proofs.YtamehlafmfmgmaaDoor
open Go.RowKit

/-- A digit's sign. -/
def digS (n : Nat) : UInt8 := UInt8.ofNat (48 + n)
/-- The digits of a number below 10 to the power f. -/
def numF : Nat → Nat → List UInt8
  | 0, _ => []
  | f + 1, n => if n < 10 then [digS n] else numF f (n / 10) ++ [digS (n % 10)]
theorem one_byte (W : World) (g : Nat) (y : Int) (x : Nat) (hg : Blk W g 5 #[.int .u8 y]) (hy : y = (x : Int)) (hx : x < 256) : (convert 30 9 (.slice (some ⟨g, 0, none⟩) 1 1)).run Tryd.prog W = .ok (.string ⟨#[UInt8.ofNat x]⟩) W := by
  refine run_convert_bytes_back (P := Tryd.prog) _ 30 9 5 ⟨g, 0, none⟩ 1 [UInt8.ofNat x] Tryd.underlying30 Tryd.underlying5 Tryd.underlying9 (fun j hj => ?_)
  have hj0 : j = 0 := by simp at hj; exact hj
  subst hj0
  have := hg.cell 0
  rw [show (⟨g, 0, none⟩ : Addr).add 0 = ⟨g, 0, none⟩ by simp [Addr.add], this, hy]
  simp
  omega
set_option maxHeartbeats 1000000 in
theorem l1Num_small (n : Nat) (w : World) (h : n < 10) : Calls Tryd.prog 27 #[.int .i64 n] w fun e w' => e = .returned (.string ⟨#[digS n]⟩) ∧ Below w.heap.size w w' := by
  have hd : decide ((n : Int) < 10) = true := by simp; omega
  have hc : (convert 30 9 (.slice (some ⟨w.heap.size, 0, none⟩) 1 1)).run Tryd.prog (w.alloc (.cells #[.int .u8 (48 + (n : Int))] 5)) = .ok (.string ⟨#[digS n]⟩) _ := one_byte _ _ (48 + (n : Int)) (48 + n) (Blk.new w 5 #[.int .u8 (48 + (n : Int))]) (by omega) (by omega)
  go_enter Tryd.func27, Tryd.ntmps27
  go_wp2_with fail
  go_ret
  exact ⟨rfl, (Below.refl _ _).alloc (Nat.le_refl _) _⟩
theorem bytes_app (a b : List UInt8) : (⟨(a ++ b).toArray⟩ : ByteArray) = ⟨a.toArray⟩ ++ ⟨b.toArray⟩ := by
  apply ByteArray.ext
  simp
set_option maxRecDepth 100000 in
set_option maxHeartbeats 2000000 in
theorem l1Num_step (n q r : Nat) (l : List UInt8) (w : World) (hq : n / 10 = q) (hr : n % 10 = r) (h : ¬ n < 10) (h2 : n ≤ 100000) (hl : l.length ≤ 100) (hrec : ∀ W, Calls Tryd.prog 27 #[.int .i64 q] W fun e w' => e = .returned (.string ⟨l.toArray⟩) ∧ Below W.heap.size W w') :
    Calls Tryd.prog 27 #[.int .i64 n] w fun e w' => e = .returned (.string ⟨(l ++ [digS r]).toArray⟩) ∧ Below w.heap.size w w' := by
  have hd : decide ((n : Int) < 10) = false := by simp; omega
  have q1 : (n : Int).tdiv 10 = (q : Int) := by rw [Int.tdiv_eq_ediv_of_nonneg (by omega)]; omega
  have q2 := IntWalk.i64_in (q : Int) (by omega)
  have q3 : (n : Int).tmod 10 = (r : Int) := by rw [Int.tmod_eq_emod_of_nonneg (by omega)]; omega
  have q4 := IntWalk.i64_in (r : Int) (by omega)
  have q5 := IntWalk.i64_in (48 + (r : Int)) (by omega)
  have hr9 : r < 10 := by omega
  have q6 : IntKind.u8.wrap (48 + (r : Int)) = 48 + (r : Int) := by rw [IntKind.wrap_u8]; omega
  have HR := Lib.hid hrec
  have HE := Lib.hid (bytes_app l [digS r])
  have hl2 : ¬ 9223372036854775807 < l.length + 1 := by omega
  clear hrec hq hr h
  go_enter Tryd.func27, Tryd.ntmps27
  go_wp2_with fail
  refine wp_region_held_drew (S := fun W => Below w.heap.size w W) (by kernel_rfl) ((Below.refl _ _).drew) (fun hHeld => ?_)
  refine take_at (i := 0) (oi := _) 10 (v := .int .i64 (n : Int)) rfl rfl (by kernel_rfl) (by kernel_rfl) (by kernel_rfl) (fun _ _ _ h => h) (Or.inl ⟨by rfl, ?_⟩) hHeld ?_
  · (intro w hSw; (try dsimp only at hSw); go_split_ands; go_simp)
  simp only [List.setIfInBounds_toArray, List.set_cons_zero, List.set_cons_succ]
  refine take_at (i := 1) (oi := _) 11 (v := .int .i64 (q : Int)) rfl rfl (by kernel_rfl) (by kernel_rfl) (by kernel_rfl) (fun _ _ _ h => h) (Or.inl ⟨by rfl, ?_⟩) hHeld ?_
  · (intro w hSw; (try dsimp only at hSw); go_split_ands; go_simp)
  simp only [List.setIfInBounds_toArray, List.set_cons_zero, List.set_cons_succ]
  refine take_at (i := 3) (oi := _) 13 (v := .int .i64 (n : Int)) rfl rfl (by kernel_rfl) (by kernel_rfl) (by kernel_rfl) (fun _ _ _ h => h) (Or.inl ⟨by rfl, ?_⟩) hHeld ?_
  · (intro w hSw; (try dsimp only at hSw); go_split_ands; go_simp)
  simp only [List.setIfInBounds_toArray, List.set_cons_zero, List.set_cons_succ]
  refine take_at (i := 4) (oi := _) 14 (v := .int .i64 (r : Int)) rfl rfl (by kernel_rfl) (by kernel_rfl) (by kernel_rfl) (fun _ _ _ h => h) (Or.inl ⟨by rfl, ?_⟩) hHeld ?_
  · (intro w hSw; (try dsimp only at hSw); go_split_ands; go_simp)
  simp only [List.setIfInBounds_toArray, List.set_cons_zero, List.set_cons_succ]
  refine take_at (i := 5) (oi := _) 15 (v := .int .i64 (48 + (r : Int))) rfl rfl (by kernel_rfl) (by kernel_rfl) (by kernel_rfl) (fun _ _ _ h => h) (Or.inl ⟨by rfl, ?_⟩) hHeld ?_
  · (intro w hSw; (try dsimp only at hSw); go_split_ands; go_simp)
  simp only [List.setIfInBounds_toArray, List.set_cons_zero, List.set_cons_succ]
  refine take_at (i := 6) (oi := _) 16 (v := .int .u8 (48 + (r : Int))) rfl rfl (by kernel_rfl) (by kernel_rfl) (by kernel_rfl) (fun _ _ _ h => h) (Or.inl ⟨by rfl, ?_⟩) hHeld ?_
  · (intro w hSw; (try dsimp only at hSw); go_split_ands; go_simp)
  simp only [List.setIfInBounds_toArray, List.set_cons_zero, List.set_cons_succ]
  clear q1 q2 q3 q4 q5 q6
  refine wpAnyH_ready (rs := [2, 7]) (by kernel_rfl) (by simp) ?_
  refine AllReadyH.cons (o := _) rfl (fun K9 hK => ?_) (AllReadyH.cons (o := _) rfl (fun K9 hK => ?_) AllReadyH.nil)
  · go_simp
    refine (HR.out _).mono ?_
    rintro e w2 ⟨rfl, hb2⟩
    refine hK.out _ _ (below_on hHeld hb2) (fun hHeld => ?_)
    clear hK K9
    clear hb2
    refine wpAnyH_ready (rs := [7]) (by kernel_rfl) (by simp) ?_
    refine AllReadyH.cons (o := _) rfl (fun K9 hK => ?_) AllReadyH.nil
    go_simp
    refine hK.out _ _ (below_new hHeld _) (fun hHeld => ?_)
    clear hK K9
    refine wpAnyH_ready (rs := [8]) (by kernel_rfl) (by simp) ?_
    refine AllReadyH.cons (o := _) rfl (fun K9 hK => ?_) AllReadyH.nil
    have hc : (convert 30 9 (.slice (some ⟨w2.heap.size, 0, none⟩) 1 1)).run Tryd.prog (w2.alloc (.cells #[.int .u8 (48 + (r : Int))] 5)) = .ok (.string ⟨#[digS r]⟩) (w2.alloc (.cells #[.int .u8 (48 + (r : Int))] 5)) := one_byte _ _ (48 + (r : Int)) (48 + r) (Blk.new w2 _ _) (by omega) (by omega)
    go_simp
    refine hK.out _ _ (hHeld) (fun hHeld => ?_)
    clear hK K9
    refine wpAnyH_ready (rs := [9]) (by kernel_rfl) (by simp) ?_
    refine AllReadyH.cons (o := _) rfl (fun K9 hK => ?_) AllReadyH.nil
    go_simp
    refine hK.out _ _ (hHeld) (fun hHeld => ?_)
    clear hK K9
    refine wpAnyH_ready (rs := [10]) (by kernel_rfl) (by simp) ?_
    refine AllReadyH.cons (o := _) rfl (fun K9 hK => ?_) AllReadyH.nil
    go_simp
    refine hK.out _ _ (hHeld) (fun hHeld => ?_)
    clear hK K9
    refine wpAnyH_done (by kernel_rfl) ?_ _
    have HB := Lib.hid hHeld
    clear hHeld
    go_wp2_with fail
    go_ret
    exact ⟨by rw [HE.out]; rfl, HB.out⟩
  · go_simp
    refine hK.out _ _ (below_new hHeld _) (fun hHeld => ?_)
    clear hK K9
    refine wpAnyH_ready (rs := [2, 8]) (by kernel_rfl) (by simp) ?_
    refine AllReadyH.cons (o := _) rfl (fun K9 hK => ?_) (AllReadyH.cons (o := _) rfl (fun K9 hK => ?_) AllReadyH.nil)
    · go_simp
      refine (HR.out _).mono ?_
      rintro e w2 ⟨rfl, hb2⟩
      have hb := Lib.hid ((Blk.new w 5 #[.int .u8 (48 + (r : Int))]).drew.on hb2)
      refine hK.out _ _ (below_on hHeld hb2) (fun hHeld => ?_)
      clear hK K9
      clear hb2
      refine wpAnyH_ready (rs := [8]) (by kernel_rfl) (by simp) ?_
      refine AllReadyH.cons (o := _) rfl (fun K9 hK => ?_) AllReadyH.nil
      have hc : (convert 30 9 (.slice (some ⟨w.heap.size, 0, none⟩) 1 1)).run Tryd.prog (w2) = .ok (.string ⟨#[digS r]⟩) (w2) := one_byte _ _ (48 + (r : Int)) (48 + r) hb.out (by omega) (by omega)
      go_simp
      refine hK.out _ _ (hHeld) (fun hHeld => ?_)
      clear hK K9
      refine wpAnyH_ready (rs := [9]) (by kernel_rfl) (by simp) ?_
      refine AllReadyH.cons (o := _) rfl (fun K9 hK => ?_) AllReadyH.nil
      go_simp
      refine hK.out _ _ (hHeld) (fun hHeld => ?_)
      clear hK K9
      refine wpAnyH_ready (rs := [10]) (by kernel_rfl) (by simp) ?_
      refine AllReadyH.cons (o := _) rfl (fun K9 hK => ?_) AllReadyH.nil
      go_simp
      refine hK.out _ _ (hHeld) (fun hHeld => ?_)
      clear hK K9
      refine wpAnyH_done (by kernel_rfl) ?_ _
      have HB := Lib.hid hHeld
      clear hHeld
      go_wp2_with fail
      go_ret
      exact ⟨by rw [HE.out]; rfl, HB.out⟩
    · have hc : (convert 30 9 (.slice (some ⟨w.heap.size, 0, none⟩) 1 1)).run Tryd.prog ((w.alloc (.cells #[.int .u8 (48 + (r : Int))] 5)).drew) = .ok (.string ⟨#[digS r]⟩) ((w.alloc (.cells #[.int .u8 (48 + (r : Int))] 5)).drew) := one_byte _ _ (48 + (r : Int)) (48 + r) (Blk.new w _ _).drew (by omega) (by omega)
      go_simp
      refine hK.out _ _ (hHeld) (fun hHeld => ?_)
      clear hK K9
      refine wpAnyH_ready (rs := [2]) (by kernel_rfl) (by simp) ?_
      refine AllReadyH.cons (o := _) rfl (fun K9 hK => ?_) AllReadyH.nil
      go_simp
      refine (HR.out _).mono ?_
      rintro e w2 ⟨rfl, hb2⟩
      refine hK.out _ _ (below_on hHeld hb2) (fun hHeld => ?_)
      clear hK K9
      clear hb2
      refine wpAnyH_ready (rs := [9]) (by kernel_rfl) (by simp) ?_
      refine AllReadyH.cons (o := _) rfl (fun K9 hK => ?_) AllReadyH.nil
      go_simp
      refine hK.out _ _ (hHeld) (fun hHeld => ?_)
      clear hK K9
      refine wpAnyH_ready (rs := [10]) (by kernel_rfl) (by simp) ?_
      refine AllReadyH.cons (o := _) rfl (fun K9 hK => ?_) AllReadyH.nil
      go_simp
      refine hK.out _ _ (hHeld) (fun hHeld => ?_)
      clear hK K9
      refine wpAnyH_done (by kernel_rfl) ?_ _
      have HB := Lib.hid hHeld
      clear hHeld
      go_wp2_with fail
      go_ret
      exact ⟨by rw [HE.out]; rfl, HB.out⟩
theorem numF_length : ∀ f n, (numF f n).length ≤ f
  | 0, _ => Nat.le_refl _
  | f + 1, n => by
    rw [numF]
    split
    · simp
    · rw [List.length_append]; have := numF_length f (n / 10); simp; omega
theorem l1Num_any : ∀ (f n : Nat) (w : World), f ≤ 99 → n < 10 ^ f → n ≤ 100000 → 0 < f → Calls Tryd.prog 27 #[.int .i64 n] w fun e w' => e = .returned (.string ⟨(numF f n).toArray⟩) ∧ Below w.heap.size w w'
  | 0, _, _, _, _, _, h => absurd h (by omega)
  | f + 1, n, w, hf, hn, h2, _ => by
    by_cases h : n < 10
    · rw [numF, if_pos h]; exact l1Num_small n w h
    · have hf0 : 0 < f := by
        rcases Nat.eq_zero_or_pos f with rfl | h0
        · simp at hn; omega
        · exact h0
      rw [numF, if_neg h]
      exact l1Num_step n (n / 10) (n % 10) _ w rfl rfl h h2 (by have := numF_length f (n / 10); omega) (fun W => l1Num_any f (n / 10) W (by omega) (by rw [Nat.pow_succ] at hn; omega) (by omega) hf0)
end Go.Proofs.YtamehlafmfmgmaaDoor
