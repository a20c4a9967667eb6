/- The contract of the reference's BestFacing. Without conditions. -/
import Derived.Test.YtcpbcmebfiilmaaBest
import Derived.Test.YtcpbcmebfiilmaaEql
import Derived.Test.YtcpbcmebfiilmaaSquare
import Derived.BigQuiet
import Derived.Deep.QuietTactic
namespace Go.Proofs.Ytcpbcmebfiilmaa
open Go.RowKit

def offsA : Array Value := #[.int .i64 0, .int .i64 1, .int .i64 (-1), .int .i64 2, .int .i64 (-2), .int .i64 3, .int .i64 (-3), .int .i64 4]
theorem offsA_get {k : Nat} (h : k < 8) : offsA[k]? = some (.int .i64 (offs k)) := by
  match k, h with
  | 0, _ => rfl
  | 1, _ => rfl
  | 2, _ => rfl
  | 3, _ => rfl
  | 4, _ => rfl
  | 5, _ => rfl
  | 6, _ => rfl
  | 7, _ => rfl

theorem tuBy_any (f t : Int) (w : World) (h1 : 0 ≤ f) (h2 : f ≤ 7) (h3 : -8 ≤ t) (h4 : t ≤ 8) : Calls Try.prog 32 #[.int .i64 f, .int .i64 t] w fun e w' => e = .returned (.int .i64 ((f + t) % 8)) ∧ w = w' := by
  go_enter Try.func32, Try.ntmps32
  go_wp2
  go_ret
  exact ⟨by simp, rfl⟩


/-- The box and the list stay, and nothing older has changed. -/
def Keeps (w : World) (g gs : Nat) (T : TypeId) (cs : Array Value) (W : World) : Prop := Blk W g T cs ∧ Blk W gs 3 offsA ∧ Below w.heap.size w W
theorem Keeps.drew {w : World} {g gs : Nat} {T : TypeId} {cs : Array Value} {W : World} (h : Keeps w g gs T cs W) : Keeps w g gs T cs W.drew := ⟨h.1, h.2.1, h.2.2.drew⟩
theorem Keeps.on {w : World} {g gs : Nat} {T : TypeId} {cs : Array Value} {W W' : World} (h : Keeps w g gs T cs W) (hb : Below W.heap.size W W') : Keeps w g gs T cs W' := ⟨h.1.on hb, h.2.1.on hb, below_on h.2.2 hb⟩

set_option maxHeartbeats 2000000 in
theorem specBestFacing_any (x y z u c f : Int) (w : World) : Calls Try.prog 12 #[(Value.agg #[Value.int .i64 x, Value.int .i64 y, Value.int .i64 z, Value.int .i64 u, Value.int .i64 c]), .int .i64 f] w fun e w' => e = .returned (.tuple #[.int .i64 (bfV x y z u c f), .bool (bfB x y z u c f)]) ∧ Below w.heap.size w w' := by
  cases h1 : mvB x y z u c with
  | false =>
    have hf := Lib.hid (bf_no (f := f) (show ¬ (mvB x y z u c = true ∧ inB f 0 7 = true) by simp [h1]))
    go_enter Try.func12, Try.ntmps12
    go_wp2_with fail
    refine (mvGood_any _ _ _ _ _ _).mono ?_
    rintro e w1 ⟨rfl, hb1⟩
    have k1 := (Blk.new w 27 #[.int .i64 x, .int .i64 y, .int .i64 z, .int .i64 u, .int .i64 c]).on hb1
    obtain ⟨c0, c1, c2, c3, c4⟩ := k1.c5
    replace hb1 := Lib.hid (below_box hb1)
    go_wp2_with fail
    go_ret2
    exact ⟨by rw [hf.out.1, hf.out.2]; rfl, hb1.out⟩
  | true =>
    cases h2 : inB f 0 7 with
    | false =>
      have hf := Lib.hid (bf_no (show ¬ (mvB x y z u c = true ∧ inB f 0 7 = true) by simp [h2]))
      go_enter Try.func12, Try.ntmps12
      go_wp2_with fail
      refine (mvGood_any _ _ _ _ _ _).mono ?_
      rintro e w1 ⟨rfl, hb1⟩
      have k1 := (Blk.new w 27 #[.int .i64 x, .int .i64 y, .int .i64 z, .int .i64 u, .int .i64 c]).on hb1
      obtain ⟨c0, c1, c2, c3, c4⟩ := k1.c5
      replace hb1 := Lib.hid (below_box hb1)
      go_wp2_with fail
      refine (tuGood_any _ _).mono ?_
      rintro e w' ⟨rfl, rfl⟩
      go_wp2_with fail
      go_ret2
      exact ⟨by rw [hf.out.1, hf.out.2]; rfl, hb1.out⟩
    | true =>
      have f1 := inB_yes h2
      obtain ⟨f1, f2⟩ := f1
      by_cases hd : x = z ∧ y = u
      · obtain ⟨rfl, rfl⟩ := hd
        have hf := Lib.hid (bf_same h1 h2)
        have he := eql_spots_yes x y
        go_enter Try.func12, Try.ntmps12
        go_wp2_with fail
        refine (mvGood_any _ _ _ _ _ _).mono ?_
        rintro e w1 ⟨rfl, hb1⟩
        have k1 := (Blk.new w 27 #[.int .i64 x, .int .i64 y, .int .i64 x, .int .i64 y, .int .i64 c]).on hb1
        obtain ⟨c0, c1, c2, c3, c4⟩ := k1.c5
        replace hb1 := Lib.hid (below_box hb1)
        go_wp2_with fail
        refine (tuGood_any _ _).mono ?_
        rintro e w' ⟨rfl, rfl⟩
        go_wp2_with fail
        have hz : w.heap.size < w1.heap.size := k1.lt
        refine wp_loop_rounds 1 ?_
        rw [rounds_succ]
        go_wp2_with fail
        go_quiet (fail)
        go_wp2_with (go_at_call 32; refine (tuBy_any f 0 _ f1 f2 (by omega) (by omega)).mono ?_; rintro e w2 ⟨rfl, rfl⟩)
        go_ret2
        have hff : f % 8 = f := by omega
        refine ⟨?_, ?_⟩
        · rw [hf.out.1, hf.out.2]
          have : (f + 0) % 8 = f := by omega
          simp [hff]
        · exact below_drewN (below_new hb1.out _) _
      · obtain ⟨d, hdd⟩ : ∃ d, dirL (z - x) (u - y) = d := ⟨_, rfl⟩
        have he := eql_spots_no hd
        have HY := Lib.hid (fun k => bf_some (k := k) h1 h2 hd)
        have HN := Lib.hid (bf_none (c := c) (f := f) hd)
        rw [hdd] at HY HN
        have hm := mvB_yes h1
        have hdi := fun W => tuDirection_any x y z u c W (by omega) (by omega) (by omega) (by omega)
        have hdr := dirL_in (z - x) (u - y)
        rw [hdd] at hdi hdr
        have HDi := Lib.hid hdi
        obtain ⟨d1, d2⟩ := hdr
        clear hdi hd hdd hm
        go_enter Try.func12, Try.ntmps12
        go_wp2_with fail
        refine (mvGood_any _ _ _ _ _ _).mono ?_
        rintro e w1 ⟨rfl, hb1⟩
        have k1 := (Blk.new w 27 #[.int .i64 x, .int .i64 y, .int .i64 z, .int .i64 u, .int .i64 c]).on hb1
        obtain ⟨c0, c1, c2, c3, c4⟩ := k1.c5
        replace hb1 := Lib.hid (below_box hb1)
        go_wp2_with fail
        refine (tuGood_any _ _).mono ?_
        rintro e w' ⟨rfl, rfl⟩
        go_wp2_with fail
        obtain ⟨gs, hgs⟩ : ∃ gs, gs = w1.heap.size := ⟨_, rfl⟩
        have hK0 : Keeps w w.heap.size gs 27 #[.int .i64 x, .int .i64 y, .int .i64 z, .int .i64 u, .int .i64 c] (w1.alloc (.cells offsA 3)) := by
          rw [hgs]; exact ⟨k1.alloc _, Blk.new _ _ _, below_new hb1.out _⟩
        rw [← hgs]
        clear c0 c1 c2 c3 c4 h1 h2
        go_loopw [18] (fun i wr => ∃ k : Nat, k ≤ 8 ∧ i = .int .i64 k ∧ (∀ j, j < k → fitsB f d j = false) ∧ Keeps w w.heap.size gs 27 #[.int .i64 x, .int .i64 y, .int .i64 z, .int .i64 u, .int .i64 c] wr) (fun i _ => 8 - (intOf i).toNat)
        case atStart => exact ⟨0, Nat.zero_le _, rfl, fun j h => absurd h (by omega), hK0⟩
        case round =>
          clear k1 hb1 hK0 hgs
          obtain ⟨k, hk, rfl, hno, hB0⟩ := hrel
          have HO := Lib.hid hno
          clear hno
          obtain ⟨c0, c1, c2, c3, c4⟩ := hB0.1.c5
          by_cases hlt : k < 8
          · have hcell : wr.cell? ⟨gs, k, none⟩ = some (.int .i64 (offs k)) := (hB0.2.1.cell k).trans (offsA_get hlt)
            obtain ⟨o1, o2⟩ := offs_in k
            obtain ⟨q, hq⟩ : ∃ q, kindL ((f + offs k) % 8) d = q := ⟨_, rfl⟩
            have HBy := Lib.hid (fun W => tuBy_any f (offs k) W f1 f2 (by omega) (by omega))
            have hki := fun W => tuKind_any ((f + offs k) % 8) d W (by omega) (by omega) d1 d2
            rw [hq] at hki
            have HKi := Lib.hid hki
            clear hki
            cases hfit : fitsB f d k with
            | true =>
              have hq0 : (q == 0) = true := by rw [← hq]; exact hfit
              have HF := Lib.hid (HY.out k (bestK_at hlt hfit HO.out))
              clear hq hfit
              go_wp2_with fail
              go_region_held3 (fun W => W.cell? ⟨w.heap.size, 0, none⟩ = some (.int .i64 x) ∧ W.cell? ⟨w.heap.size, 1, none⟩ = some (.int .i64 y) ∧ W.cell? ⟨w.heap.size, 2, none⟩ = some (.int .i64 z) ∧ W.cell? ⟨w.heap.size, 3, none⟩ = some (.int .i64 u) ∧ W.cell? ⟨w.heap.size, 4, none⟩ = some (.int .i64 c) ∧ Keeps w w.heap.size gs 27 #[.int .i64 x, .int .i64 y, .int .i64 z, .int .i64 u, .int .i64 c] W)
                (first | exact ⟨c0, c1, c2, c3, c4, hB0.drew⟩ | (go_split_ands; exact ⟨cell_on hb2 (by assumption), cell_on hb2 (by assumption), cell_on hb2 (by assumption), cell_on hb2 (by assumption), cell_on hb2 (by assumption), Keeps.on (by assumption) hb2⟩) | go_keep)
                (first | (go_at_call 32; refine (HBy.out _).mono ?_; rintro e w2 ⟨rfl, rfl⟩) | (go_at_call 25; refine (HDi.out _).mono ?_; rintro e w2 ⟨rfl, hb2⟩) | (go_at_call 31; refine (HKi.out _).mono ?_; rintro e w2 ⟨rfl, rfl⟩))
              go_split_ands
              clear c0 c1 c2 c3 c4 hcell hB0 he
              rename_i hB1
              go_wp2_with (go_at_call 32; refine (HBy.out _).mono ?_; rintro e w2 ⟨rfl, rfl⟩)
              go_ret2
              exact ⟨by rw [HF.out.1, HF.out.2]; rfl, hB1.2.2⟩
            | false =>
              have hq0 : (q == 0) = false := by rw [← hq]; exact hfit
              have HF := Lib.hid hfit
              clear hq hfit
              go_wp2_with fail
              go_region_held3 (fun W => W.cell? ⟨w.heap.size, 0, none⟩ = some (.int .i64 x) ∧ W.cell? ⟨w.heap.size, 1, none⟩ = some (.int .i64 y) ∧ W.cell? ⟨w.heap.size, 2, none⟩ = some (.int .i64 z) ∧ W.cell? ⟨w.heap.size, 3, none⟩ = some (.int .i64 u) ∧ W.cell? ⟨w.heap.size, 4, none⟩ = some (.int .i64 c) ∧ Keeps w w.heap.size gs 27 #[.int .i64 x, .int .i64 y, .int .i64 z, .int .i64 u, .int .i64 c] W)
                (first | exact ⟨c0, c1, c2, c3, c4, hB0.drew⟩ | (go_split_ands; exact ⟨cell_on hb2 (by assumption), cell_on hb2 (by assumption), cell_on hb2 (by assumption), cell_on hb2 (by assumption), cell_on hb2 (by assumption), Keeps.on (by assumption) hb2⟩) | go_keep)
                (first | (go_at_call 32; refine (HBy.out _).mono ?_; rintro e w2 ⟨rfl, rfl⟩) | (go_at_call 25; refine (HDi.out _).mono ?_; rintro e w2 ⟨rfl, hb2⟩) | (go_at_call 31; refine (HKi.out _).mono ?_; rintro e w2 ⟨rfl, rfl⟩))
              go_split_ands
              clear c0 c1 c2 c3 c4 hcell hB0 he
              rename_i hB1
              go_wp2_with fail
              go_roundw
              case rel =>
                refine ⟨k + 1, by omega, by go_num, fun j hj => ?_, hB1⟩
                rcases Nat.lt_succ_iff_lt_or_eq.1 hj with h | rfl
                · exact HO.out j h
                · exact HF.out
              case measure => simp [intOf]; omega
          · obtain rfl : k = 8 := by omega
            have HF := Lib.hid (HN.out (bestK_none HO.out))
            go_wp2_with fail
            go_ret2
            exact ⟨by rw [HF.out.1, HF.out.2]; rfl, hB0.2.2⟩
end Go.Proofs.Ytcpbcmebfiilmaa
