/- A facing that is drawn. Condition: the source's bytes can be read. -/
import Derived.Test.YtcpbcmebfiilmaaCurAny
namespace Go.Proofs.Ytcpbcmebfiilmaa
open Go.RowKit

theorem div23 {x : Int} (h0 : 0 ≤ x) (h1 : x ≤ 23) : 0 ≤ x.tdiv 23 ∧ x.tdiv 23 ≤ 1 := by
  rw [Int.tdiv_eq_ediv_of_nonneg h0]; omega
set_option maxHeartbeats 1000000 in
theorem facing_any (B g N : Nat) (w : World) (h : Cur w B g N) (hN : N ≤ 1000000000) : Calls Try.prog 28 #[.pointer (some ⟨g, 0, none⟩)] w (Hands B g (N + 6) (-9) 8 w) := by
  have C0 := Lib.hid h
  have G0 := Lib.hid (World.grownBy.refl w (some g))
  clear h
  go_enter Try.func28, Try.ntmps28
  go_wp2_with fail
  refine (pick_any B g (N + 0) 8 _ C0.out (by omega) (by omega)).mono ?_
  rintro e w1 ⟨x1, x10, x11, rfl, hc, hg⟩
  have C1 := Lib.hid hc
  have G1 := Lib.hid (grow_trans G0.out hg)
  clear hc hg
  simp [pickHi] at x11
  go_wp2_with fail
  refine (pick_any B g (N + 2) 24 _ C1.out (by omega) (by omega)).mono ?_
  rintro e w2 ⟨x2, x20, x21, rfl, hc, hg⟩
  have C2 := Lib.hid hc
  have G2 := Lib.hid (grow_trans G1.out hg)
  clear hc hg
  simp [pickHi] at x21
  have hq := div23 x20 x21
  have Hq := Lib.hid hq
  clear x20 x21
  obtain ⟨q, eq⟩ : ∃ q, x2.tdiv 23 = q := ⟨_, rfl⟩
  rw [eq] at hq
  have q1 := IntWalk.i64_in q (by omega)
  have q2 := IntWalk.i64_in (x1 + q) (by omega)
  clear Hq
  go_wp2_with fail
  refine (pick_any B g (N + 4) 24 _ C2.out (by omega) (by omega)).mono ?_
  rintro e w3 ⟨x3, x30, x31, rfl, hc, hg⟩
  have C3 := Lib.hid hc
  have G3 := Lib.hid (grow_trans G2.out hg)
  clear hc hg
  simp [pickHi] at x31
  have hr := div23 x30 x31
  clear x30 x31
  obtain ⟨r, er⟩ : ∃ q, x3.tdiv 23 = q := ⟨_, rfl⟩
  rw [er] at hr
  have r1 := IntWalk.i64_in r (by omega)
  have r2 := IntWalk.i64_in (r * 9) (by omega)
  have r3 := IntWalk.i64_in (x1 + q - r * 9) (by omega)
  go_wp2_with fail
  go_ret
  exact ⟨x1 + q - r * 9, by omega, by omega, rfl, C3.out, G3.out⟩
end Go.Proofs.Ytcpbcmebfiilmaa
