/- A law's argument that is a slice of bytes. Without conditions. -/
import Derived.Test.YtamehlafmfmgmaaFrame
import Derived.Test.YtamehlafmfmgmaaCur
namespace Go.Proofs.Ytamehlafmfmgmaa
open Go.ChangeShapes Go.WideShapes Go.ChangeAt Go.RowKit
section
variable {H : Type} {enc : TypeId × Value → H}
theorem byte_cell {w : World} {base : Nat} {spare : Nat → Bool} {held : Bool} {fuel : Nat} {cs : List Value} {x : DataW H × List MemPlace} (h : DataW.trod enc Try.prog w base spare held fuel 5 cs = some x) : ∃ z : Int, cs = [.int .u8 z] ∧ 0 ≤ z ∧ z ≤ 255 := by
  obtain ⟨n, rfl, _, hw⟩ := DataW.trod_int Try.underlying5 h
  have hmin : IntKind.u8.min = 0 := rfl
  have hmax : IntKind.u8.max = 255 := rfl
  simp only [Lit.wf, Bool.and_eq_true, decide_eq_true_eq, hmin, hmax] at hw
  exact ⟨n, rfl, hw⟩
set_option maxRecDepth 100000 in
theorem bytes_arg {v : Value} {d : DataW H} {ps : List MemPlace} {w : World} {base : Nat} {spare : Nat → Bool} {held : Bool} {r : Reach} {b0 : Nat} (hv : Value.okWide Try.prog w r b0 31 v) (h : DataW.Trod enc Try.prog w base spare held 31 v d ps) :
    ∃ (A : Option Addr) (n c : Nat), v = .slice A n c ∧ RdB w w.heap.size A n ∧ n ≤ maxLen := by
  obtain ⟨A, len, cap, rfl⟩ := okWide_slice Try.underlying31 hv
  obtain ⟨fuel, hf⟩ := h
  have hf' : DataW.trod enc Try.prog w base spare held fuel 31 [.slice A len cap] = some (d, ps) := by simpa [Value.cells] using hf
  rcases Go.Deep.open_slice Try.underlying31 hf' with ⟨hcs, _⟩ | ⟨a, len', cap', m, n, D, Pl, hcs, _, hl, hm, hmm, _, hel⟩
  · simp only [List.cons.injEq, and_true, Value.slice.injEq] at hcs
    obtain ⟨rfl, rfl, rfl⟩ := hcs
    exact ⟨none, 0, 0, rfl, fun h => absurd h (by omega), Nat.zero_le _⟩
  · simp only [List.cons.injEq, and_true, Value.slice.injEq] at hcs
    obtain ⟨rfl, rfl, rfl⟩ := hcs
    have hC : Try.prog.cellsOf 5 = 1 := by kernel_rfl
    rw [hC] at hel
    have hle : len ≤ m := by rw [hmm]; split <;> omega
    have each : ∀ j, j < len → ∃ z : Int, 0 ≤ z ∧ z ≤ 255 ∧ w.cell? (a.add j) = some (.int .u8 z) := by
      intro j hj
      obtain ⟨cs', hc, htr⟩ := hel j (by omega)
      obtain ⟨z, rfl, z0, z1⟩ := byte_cell htr
      obtain ⟨_, _, hat⟩ := World.cells?_some hc
      have h1 := hat 0 (by simp)
      rw [Go.Deep.add_add, Nat.mul_one, Nat.add_zero] at h1
      exact ⟨z, z0, z1, h1⟩
    refine ⟨_, len, cap, rfl, fun hn => ?_, by omega⟩
    obtain ⟨z, _, _, h0⟩ := each 0 hn
    have hadd0 : a.add 0 = a := by simp [Addr.add]
    rw [hadd0] at h0
    have hb := block_lt_of_cell h0
    obtain ⟨b, off, sp⟩ := a
    have hsp : sp = none := by
      cases sp with
      | none => rfl
      | some q =>
        exfalso
        unfold World.cell? at h0
        split at h0 <;> simp at h0
    subst hsp
    refine ⟨b, off, rfl, hb, fun j hj => ?_⟩
    have hadd : (⟨b, off, none⟩ : Addr).add j = ⟨b, off + j, none⟩ := by unfold Addr.add; split <;> simp_all
    obtain ⟨z, z0, z1, h2⟩ := each j hj
    rw [hadd] at h2
    exact ⟨z, z0, z1, h2⟩
end
end Go.Proofs.Ytamehlafmfmgmaa
