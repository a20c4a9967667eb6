/- What the laws on turns draw. Condition: the source's bytes can be read. -/
import Derived.Test.YtcpbcmebfiilmaaDoorCurFacing
import Derived.Test.YtcpbcmebfiilmaaDoorCurInts
import Derived.Test.YtcpbcmebfiilmaaDoorCutFn2
import Derived.Test.YtcpbcmebfiilmaaDoorNames
import Derived.Deep.DeepCutAuto
namespace Go.Proofs.YtcpbcmebfiilmaaDoor
open Go.RowKit

def DrawnI (w : World) (e : Ending) (w' : World) : Prop := ∃ x : Int, e = .returned (.int .i64 x) ∧ Below w.heap.size w w'
def DrawnII (w : World) (e : Ending) (w' : World) : Prop := ∃ x y : Int, e = .returned (.tuple #[.int .i64 x, .int .i64 y]) ∧ Below w.heap.size w w'
def DrawnIII (w : World) (e : Ending) (w' : World) : Prop := ∃ x y z : Int, e = .returned (.tuple #[.int .i64 x, .int .i64 y, .int .i64 z]) ∧ Below w.heap.size w w'
def DrawnT (w : World) (e : Ending) (w' : World) : Prop := ∃ s : ByteArray, e = .returned (.string s) ∧ Below w.heap.size w w'
def DrawnIN (w : World) (e : Ending) (w' : World) : Prop := ∃ (x : Int) (u : Value) (n : Nat) (xs : List Int), e = .returned (.tuple #[.int .i64 x, u]) ∧ w'.ownsRow w.heap.size 3 1 u n (ints xs) ∧ n ≤ 41 ∧ Below w.heap.size w w'
section
variable (A : Option Addr) (n c : Nat) (w : World) (h : RdB w w.heap.size A n) (hn : n ≤ 9223372036854775807)
set_option maxHeartbeats 1000000 in
include h hn in
theorem DrawTurnNeeded_any : Calls Tryd.prog 5 #[.slice A n c] w (DrawnII w) := by
  have C0 := Lib.hid (Cur.new w A n c h hn)
  have G0 := Lib.hid (World.grownBy.refl (w.alloc (.cells #[.slice A n c, .int .i64 0, .int .u64 0] 46)) (some w.heap.size))
  clear h
  go_enter Tryd.func5, Tryd.ntmps5
  go_wp2_with fail
  refine (facing_any _ _ (0 + 0) _ C0.out (by omega)).mono ?_
  rintro e w1 ⟨x1, x10, x11, rfl, hc, hg⟩
  have C1 := Lib.hid hc
  have G1 := Lib.hid (grow_trans G0.out hg)
  clear hc hg
  go_wp2_with fail
  refine (facing_any _ _ (0 + 6) _ C1.out (by omega)).mono ?_
  rintro e w2 ⟨x2, x20, x21, rfl, hc, hg⟩
  have C2 := Lib.hid hc
  have G2 := Lib.hid (grow_trans G1.out hg)
  clear hc hg
  go_wp2_with fail
  go_ret2
  exact ⟨x1, x2, rfl, below_cur _ G2.out⟩
set_option maxHeartbeats 1000000 in
include h hn in
theorem DrawCountsToTurn_any : Calls Tryd.prog 12 #[.slice A n c] w (DrawnIII w) := by
  have C0 := Lib.hid (Cur.new w A n c h hn)
  have G0 := Lib.hid (World.grownBy.refl (w.alloc (.cells #[.slice A n c, .int .i64 0, .int .u64 0] 46)) (some w.heap.size))
  clear h
  go_enter Tryd.func12, Tryd.ntmps12
  go_wp2_with fail
  refine (facing_any _ _ (0 + 0) _ C0.out (by omega)).mono ?_
  rintro e w1 ⟨x1, x10, x11, rfl, hc, hg⟩
  have C1 := Lib.hid hc
  have G1 := Lib.hid (grow_trans G0.out hg)
  clear hc hg
  go_wp2_with fail
  refine (facing_any _ _ (0 + 6) _ C1.out (by omega)).mono ?_
  rintro e w2 ⟨x2, x20, x21, rfl, hc, hg⟩
  have C2 := Lib.hid hc
  have G2 := Lib.hid (grow_trans G1.out hg)
  clear hc hg
  have A3 := Lib.hid (Blk.new w2 3 (ints [0, 9]).toArray)
  have C39 := Lib.hid (C2.out.alloc (.cells (ints [0, 9]).toArray 3))
  have G39 := Lib.hid (only_alloc G2.out (.cells (ints [0, 9]).toArray 3))
  go_wp2_with fail
  refine (among_blk _ _ (0 + 12) w2.heap.size _ [0, 9] 0 9 _ C39.out (by omega) C2.out.lt A3.out (by simp) (by simp) (by simp; try omega)).mono ?_
  rintro e w3 ⟨y3, y30, y31, rfl, hc, hg⟩
  have C3 := Lib.hid hc
  have G3 := Lib.hid (grow_trans G39.out hg)
  clear hc hg C39 G39 A3
  have A4 := Lib.hid (Blk.new w3 3 (ints [1, 2, 3, 8, y3]).toArray)
  have C49 := Lib.hid (C3.out.alloc (.cells (ints [1, 2, 3, 8, y3]).toArray 3))
  have G49 := Lib.hid (only_alloc G3.out (.cells (ints [1, 2, 3, 8, y3]).toArray 3))
  go_wp2_with fail
  refine (among_blk _ _ (0 + 14) w3.heap.size _ [1, 2, 3, 8, y3] 0 9 _ C49.out (by omega) C3.out.lt A4.out (by simp) (by simp) (by simp; try omega)).mono ?_
  rintro e w4 ⟨y4, y40, y41, rfl, hc, hg⟩
  have C4 := Lib.hid hc
  have G4 := Lib.hid (grow_trans G49.out hg)
  clear hc hg C49 G49 A4
  go_wp2_with fail
  go_ret3
  exact ⟨x1, x2, y4, rfl, below_cur _ G4.out⟩
set_option maxHeartbeats 1000000 in
include h hn in
theorem DrawTurnBy_any : Calls Tryd.prog 19 #[.slice A n c] w (DrawnII w) := by
  have C0 := Lib.hid (Cur.new w A n c h hn)
  have G0 := Lib.hid (World.grownBy.refl (w.alloc (.cells #[.slice A n c, .int .i64 0, .int .u64 0] 46)) (some w.heap.size))
  clear h
  go_enter Tryd.func19, Tryd.ntmps19
  go_wp2_with fail
  refine (facing_any _ _ (0 + 0) _ C0.out (by omega)).mono ?_
  rintro e w1 ⟨x1, x10, x11, rfl, hc, hg⟩
  have C1 := Lib.hid hc
  have G1 := Lib.hid (grow_trans G0.out hg)
  clear hc hg
  have A2 := Lib.hid (Blk.new w1 3 (ints [9, -9]).toArray)
  have C29 := Lib.hid (C1.out.alloc (.cells (ints [9, -9]).toArray 3))
  have G29 := Lib.hid (only_alloc G1.out (.cells (ints [9, -9]).toArray 3))
  go_wp2_with fail
  refine (among_blk _ _ (0 + 6) w1.heap.size _ [9, -9] (-9) 9 _ C29.out (by omega) C1.out.lt A2.out (by simp) (by simp) (by simp; try omega)).mono ?_
  rintro e w2 ⟨y2, y20, y21, rfl, hc, hg⟩
  have C2 := Lib.hid hc
  have G2 := Lib.hid (grow_trans G29.out hg)
  clear hc hg C29 G29 A2
  have A3 := Lib.hid (Blk.new w2 3 (ints [0, 1, -1, 2, 4, -4, 8, -8, y2]).toArray)
  have C39 := Lib.hid (C2.out.alloc (.cells (ints [0, 1, -1, 2, 4, -4, 8, -8, y2]).toArray 3))
  have G39 := Lib.hid (only_alloc G2.out (.cells (ints [0, 1, -1, 2, 4, -4, 8, -8, y2]).toArray 3))
  go_wp2_with fail
  refine (among_blk _ _ (0 + 8) w2.heap.size _ [0, 1, -1, 2, 4, -4, 8, -8, y2] (-9) 9 _ C39.out (by omega) C2.out.lt A3.out (by simp) (by simp) (by simp; try omega)).mono ?_
  rintro e w3 ⟨y3, y30, y31, rfl, hc, hg⟩
  have C3 := Lib.hid hc
  have G3 := Lib.hid (grow_trans G39.out hg)
  clear hc hg C39 G39 A3
  go_wp2_with fail
  go_ret2
  exact ⟨x1, y3, rfl, below_cur _ G3.out⟩
set_option maxHeartbeats 1000000 in
include h hn in
theorem DrawFacingName_any : Calls Tryd.prog 21 #[.slice A n c] w (DrawnI w) := by
  have C0 := Lib.hid (Cur.new w A n c h hn)
  have G0 := Lib.hid (World.grownBy.refl (w.alloc (.cells #[.slice A n c, .int .i64 0, .int .u64 0] 46)) (some w.heap.size))
  clear h
  go_enter Tryd.func21, Tryd.ntmps21
  go_wp2_with fail
  refine (facing_any _ _ (0 + 0) _ C0.out (by omega)).mono ?_
  rintro e w1 ⟨x1, x10, x11, rfl, hc, hg⟩
  have C1 := Lib.hid hc
  have G1 := Lib.hid (grow_trans G0.out hg)
  clear hc hg
  go_wp2_with fail
  go_ret
  exact ⟨x1, rfl, below_cur _ G1.out⟩
include h hn in
theorem DrawMirrorFacing_any : Calls Tryd.prog 25 #[.slice A n c] w (DrawnI w) := by
  have H := Lib.hid h
  clear h
  go_enter Tryd.func25, Tryd.ntmps25
  go_wp2_with fail
  refine (DrawFacingName_any A n c _ H.out hn).mono ?_
  rintro e w1 ⟨x, rfl, hb⟩
  have HB := Lib.hid hb
  clear hb
  go_wp2_with fail
  go_ret
  exact ⟨x, rfl, HB.out⟩
set_option maxRecDepth 100000 in
set_option maxHeartbeats 4000000 in
include h hn in
theorem DrawFacingsAfter_any : Calls Tryd.prog 15 #[.slice A n c] w (DrawnIN w) := by
  obtain ⟨a, ea⟩ : ∃ a, w.alloc (.cells #[.slice A n c, .int .i64 0, .int .u64 0] 46) = a := ⟨_, rfl⟩
  have EA := Lib.hid ea
  have hlt : w.heap.size < a.heap.size := by rw [← ea]; simp
  have L0 := Lib.hid (Ln.start (a := a) (B := w.heap.size) (g := w.heap.size) (N := 0) (by rw [← ea]; exact Cur.new w A n c h hn))
  clear h
  go_enter Tryd.func15, Tryd.ntmps15
  go_wp2_with fail
  clear ea
  refine (pick_any _ _ 0 8 _ L0.out.cur (by omega) (by omega)).mono ?_
  rintro e w1 ⟨x1, x10, x11, rfl, hc, hg⟩
  simp [pickHi] at x11
  have L1 := Lib.hid (L0.out.ask hlt hc hg)
  clear hc hg L0
  go_wp2_with fail
  refine (one_any _ _ (0 + 2) 20 _ L1.out.cur (by omega) (by omega)).mono ?_
  rintro e w2 ⟨t, rfl, hc, hg⟩
  have L2 := Lib.hid (L1.out.ask hlt hc hg)
  clear hc hg L1
  go_upto_if 13 with (fail)
  go_cut [6] (fun s wc => ∃ m : Nat, m ≤ 41 ∧ s = .int .i64 m ∧ Ln a w.heap.size w.heap.size 6 wc (.slice none 0 0) 0 [])
  case first =>
    cases t with
    | true =>
      go_wp2_with fail
      refine (pick_any _ _ (0 + 2 + 2) 2 _ L2.out.cur (by omega) (by omega)).mono ?_
      rintro e w3 ⟨x3, x30, x31, rfl, hc, hg⟩
      simp [pickHi] at x31
      have L3 := Lib.hid (L2.out.ask hlt hc hg)
      clear hc hg L2
      obtain ⟨x3, rfl⟩ := Int.eq_ofNat_of_zero_le x30
      go_wp2_with fail
      go_meet
      exact ⟨40 + x3, by omega, by go_num, L3.out.le (by omega)⟩
    | false =>
      obtain ⟨x1, rfl⟩ := Int.eq_ofNat_of_zero_le x10
      go_wp2_with fail
      go_meet
      exact ⟨x1, by omega, rfl, L2.out.le (by omega)⟩
  case rest =>
  obtain ⟨m, hm, rfl, hl⟩ := hcut
  have L3 := Lib.hid hl
  clear hl L2 x10 x11
  go_wp2_with fail
  go_loopw [5] (fun u wr => ∃ (k : Nat) (ys : List Int) (A : Option Addr) (c : Nat), u = .slice A k c ∧ k ≤ m ∧ Ln a w.heap.size w.heap.size (6 + 10 * k) wr u k ys) (fun u _ => 41 - (match u with | .slice _ q _ => q | _ => 0))
  case atStart => exact ⟨0, [], _, _, rfl, Nat.zero_le _, L3.out⟩
  case round =>
    clear L3
    obtain ⟨k, ys, A1, c1, rfl, hk, hy⟩ := hrel
    have V := Lib.hid hy
    clear hy
    by_cases hlm : k < m
    · have hlm' : (k : Int) < (m : Int) := by omega
      have A5 := Lib.hid (Blk.new wr 3 (ints [0, 1, -1, 2, 4, -8]).toArray)
      have V5 := Lib.hid (V.out.alloc (.cells (ints [0, 1, -1, 2, 4, -8]).toArray 3))
      go_wp2_with fail
      refine (among_blk _ _ (6 + 10 * k) wr.heap.size _ [0, 1, -1, 2, 4, -8] (-8) 4 _ V5.out.cur (by omega) V.out.cur.lt A5.out (by simp) (by simp) (by simp)).mono ?_
      rintro e w6 ⟨z, z0, z1, rfl, hc, hg⟩
      have V6 := Lib.hid (V5.out.ask hlt hc hg)
      clear hc hg V5 V A5
      have HO := Lib.hid (V6.out.own.alloc (.cells #[.int .i64 z] 3))
      have n0 := (Blk.new w6 3 #[.int .i64 z]).c1
      have hsz := V6.out.only.size
      go_wp2_with (at_builtin; refine app_int rfl _ _ rfl a.heap.size _ k _ rfl HO.out w6.heap.size z rfl n0 (by omega) (by simp; omega) ?_; intro v' w10 ho hg)
      have V7 := Lib.hid ((V6.out.app _ ho hlt hg).le (show 6 + 10 * k + 2 ≤ 6 + 10 * (k + 1) by omega))
      obtain ⟨A7, c7, rfl⟩ := V7.out.form
      clear ho hg n0
      go_wp2_with fail
      go_roundw
      case rel => exact ⟨k + 1, _, _, _, rfl, by omega, V7.out⟩
      case measure => simp; omega
    · obtain rfl : k = m := by omega
      have hlm' : ¬ ((k : Int) < (k : Int)) := by omega
      by_cases h0 : k = 0
      · subst h0
        go_wp2_with fail
        refine (facing_any _ _ (6 + 10 * 0) _ V.out.cur (by omega)).mono ?_
        rintro e w6 ⟨x6, x60, x61, rfl, hc, hg⟩
        have V6 := Lib.hid (V.out.ask hlt hc hg)
        clear hc hg V
        go_wp2_with fail
        go_ret2
        exact ⟨x6, _, 0, ys, rfl, own_base V6.out.own (by omega), by omega, by have := V6.out.only; rw [← EA.out] at this; exact below_cur _ this⟩
      · have h1 : 0 < k := by omega
        have h2 : (0 : Int) < (k : Int) := by omega
        have h3 : decide ((0 : Int) < (k : Int)) = true := decide_eq_true h2
        obtain ⟨g1, rfl, hge⟩ := own_start V.out.own h1
        go_wp2_with fail
        refine (one_any _ _ (6 + 10 * k) 20 _ V.out.cur (by omega) (by omega)).mono ?_
        rintro e w5 ⟨t, rfl, hc, hg⟩
        have V5 := Lib.hid (V.out.ask hlt hc hg)
        clear hc hg V
        cases t with
        | false =>
          go_wp2_with fail
          refine (facing_any _ _ (6 + 10 * k + 2) _ V5.out.cur (by omega)).mono ?_
          rintro e w6 ⟨x6, x60, x61, rfl, hc, hg⟩
          have V6 := Lib.hid (V5.out.ask hlt hc hg)
          clear hc hg V5
          go_wp2_with fail
          go_ret2
          exact ⟨x6, _, k, ys, rfl, own_base V6.out.own (by omega), by omega, by have := V6.out.only; rw [← EA.out] at this; exact below_cur _ this⟩
        | true =>
          have A6 := Lib.hid (Blk.new w5 3 (ints [8, 9, -9]).toArray)
          have V69 := Lib.hid (V5.out.alloc (.cells (ints [8, 9, -9]).toArray 3))
          go_wp2_with fail
          refine (among_blk _ _ (6 + 10 * k + 2) w5.heap.size _ [8, 9, -9] (-9) 9 _ V69.out.cur (by omega) V5.out.cur.lt A6.out (by simp) (by simp) (by simp)).mono ?_
          rintro e w6 ⟨z, z0, z1, rfl, hc, hg⟩
          have V6 := Lib.hid (V69.out.ask hlt hc hg)
          clear hc hg V69 V5 A6
          have hl := V6.out.len
          have s0 := (V6.out.own.cellAt 0 (by omega)).trans (ints_get _ _ (by omega))
          have f0 : w6.frozen? ⟨g1, 0, none⟩ = false := V6.out.own.frozenAt _
          have hown2 := (V6.out.own.stored 0 (.int .i64 z)).1
          rw [ints_set] at hown2
          have V7 := Lib.hid (show Ln a w.heap.size w.heap.size (6 + 10 * k + 2 + 2) (w6.setCell ⟨g1, 0, none⟩ (.int .i64 z)) (.slice (some ⟨g1, 0, none⟩) k c1) k (ys.set 0 z) from
            ⟨hown2, V6.out.cur.setCell (p := ⟨g1, 0, none⟩) (by show w.heap.size < g1; omega) (.int .i64 z), only_set (p := ⟨g1, 0, none⟩) V6.out.only hge (.int .i64 z)⟩)
          clear hown2 V6 hl
          go_wp2_with fail
          refine (facing_any _ _ (6 + 10 * k + 2 + 2) _ V7.out.cur (by omega)).mono ?_
          rintro e w8 ⟨x8, x80, x81, rfl, hc, hg⟩
          have V8 := Lib.hid (V7.out.ask hlt hc hg)
          clear hc hg V7 s0 f0
          go_wp2_with fail
          go_ret2
          exact ⟨x8, _, k, _, rfl, own_base V8.out.own (by omega), by omega, by have := V8.out.only; rw [← EA.out] at this; exact below_cur _ this⟩
end
end Go.Proofs.YtcpbcmebfiilmaaDoor
