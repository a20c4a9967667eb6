/- The contract of the program's BestFacing. Without conditions. -/
import Derived.Test.YtcpbcmebfiilmaaBest
import Derived.Test.YtcpbcmebfiilmaaEql
namespace Go.Proofs.Ytcpbcmebfiilmaa
open Go.RowKit

theorem idx8 {k : Nat} (h : k < 8) : ∀ w, (Instr.index 56 (Value.agg #[Value.int .i64 0, Value.int .i64 1, Value.int .i64 (-1), Value.int .i64 2, Value.int .i64 (-2), Value.int .i64 3, Value.int .i64 (-3), Value.int .i64 4]) (.int .i64 (k : Int))).run Try.prog w = .ok (.int .i64 (offs k)) w := by
  intro w
  match k, h with
  | 0, _ => rfl
  | 1, _ => rfl
  | 2, _ => rfl
  | 3, _ => rfl
  | 4, _ => rfl
  | 5, _ => rfl
  | 6, _ => rfl
  | 7, _ => rfl


set_option maxHeartbeats 2000000 in
theorem BestFacing_any (x y z u c f : Int) (w : World) : Calls Try.prog 11 #[(Value.agg #[Value.int .i64 x, Value.int .i64 y, Value.int .i64 z, Value.int .i64 u, Value.int .i64 c]), .int .i64 f] w fun e w' => e = .returned (.tuple #[.int .i64 (bfV x y z u c f), .bool (bfB x y z u c f)]) ∧ Below w.heap.size w w' := by
  cases h1 : mvB x y z u c with
  | false =>
    have hf := Lib.hid (bf_no (f := f) (show ¬ (mvB x y z u c = true ∧ inB f 0 7 = true) by simp [h1]))
    go_enter Try.func11, Try.ntmps11
    go_wp2_with fail
    refine (IsMove_any _ _ _ _ _ _).mono ?_
    rintro e w1 ⟨rfl, hb1⟩
    have k1 := (Blk.new w 27 #[.int .i64 x, .int .i64 y, .int .i64 z, .int .i64 u, .int .i64 c]).on hb1
    obtain ⟨c0, c1, c2, c3, c4⟩ := k1.c5
    replace hb1 := Lib.hid (below_box hb1)
    go_wp2_with fail
    go_ret2
    exact ⟨by rw [hf.out.1, hf.out.2]; rfl, hb1.out⟩
  | true =>
    cases h2 : inB f 0 7 with
    | false =>
      have hf := Lib.hid (bf_no (show ¬ (mvB x y z u c = true ∧ inB f 0 7 = true) by simp [h2]))
      go_enter Try.func11, Try.ntmps11
      go_wp2_with fail
      refine (IsMove_any _ _ _ _ _ _).mono ?_
      rintro e w1 ⟨rfl, hb1⟩
      have k1 := (Blk.new w 27 #[.int .i64 x, .int .i64 y, .int .i64 z, .int .i64 u, .int .i64 c]).on hb1
      obtain ⟨c0, c1, c2, c3, c4⟩ := k1.c5
      replace hb1 := Lib.hid (below_box hb1)
      go_wp2_with fail
      refine (isFacing_any _ _).mono ?_
      rintro e w' ⟨rfl, rfl⟩
      go_wp2_with fail
      go_ret2
      exact ⟨by rw [hf.out.1, hf.out.2]; rfl, hb1.out⟩
    | true =>
      by_cases hd : x = z ∧ y = u
      · obtain ⟨rfl, rfl⟩ := hd
        have hf := Lib.hid (bf_same h1 h2)
        go_enter Try.func11, Try.ntmps11
        go_wp2_with fail
        refine (IsMove_any _ _ _ _ _ _).mono ?_
        rintro e w1 ⟨rfl, hb1⟩
        have k1 := (Blk.new w 27 #[.int .i64 x, .int .i64 y, .int .i64 x, .int .i64 y, .int .i64 c]).on hb1
        obtain ⟨c0, c1, c2, c3, c4⟩ := k1.c5
        replace hb1 := Lib.hid (below_box hb1)
        go_wp2_with fail
        refine (isFacing_any _ _).mono ?_
        rintro e w' ⟨rfl, rfl⟩
        go_wp2_with fail
        go_ret2
        exact ⟨by rw [hf.out.1, hf.out.2]; rfl, hb1.out⟩
      · obtain ⟨d, hdd⟩ : ∃ d, dirL (z - x) (u - y) = d := ⟨_, rfl⟩
        have he := eql_spots_no hd
        have f1 := inB_yes h2
        have HY := Lib.hid (fun k => bf_some (k := k) h1 h2 hd)
        have HN := Lib.hid (bf_none (c := c) (f := f) hd)
        rw [hdd] at HY HN
        have hsk := fun (g : Int) (W : World) (g1 : 0 ≤ g) (g2 : g ≤ 7) => stepKind_any g x y z u c W g1 g2 h1
        rw [hdd] at hsk
        have HS := Lib.hid hsk
        clear hsk hd hdd
        go_enter Try.func11, Try.ntmps11
        go_wp2_with fail
        refine (IsMove_any _ _ _ _ _ _).mono ?_
        rintro e w1 ⟨rfl, hb1⟩
        have k1 := (Blk.new w 27 #[.int .i64 x, .int .i64 y, .int .i64 z, .int .i64 u, .int .i64 c]).on hb1
        obtain ⟨c0, c1, c2, c3, c4⟩ := k1.c5
        replace hb1 := Lib.hid (below_box hb1)
        go_wp2_with fail
        refine (isFacing_any _ _).mono ?_
        rintro e w' ⟨rfl, rfl⟩
        go_wp2_with fail
        clear he c0 c1 c2 c3 c4 h1 h2
        go_loopw [24] (fun i wr => ∃ k : Nat, k ≤ 8 ∧ i = .int .i64 k ∧ (∀ j, j < k → fitsB f d j = false) ∧ Blk wr w.heap.size 27 #[.int .i64 x, .int .i64 y, .int .i64 z, .int .i64 u, .int .i64 c] ∧ Below w.heap.size w wr) (fun i _ => 8 - (intOf i).toNat)
        case atStart => exact ⟨0, Nat.zero_le _, rfl, fun j h => absurd h (by omega), k1, hb1.out⟩
        case round =>
          clear k1 hb1
          obtain ⟨k, hk, rfl, hno, k1, hb⟩ := hrel
          have HO := Lib.hid hno
          clear hno
          obtain ⟨c0, c1, c2, c3, c4⟩ := k1.c5
          by_cases hlt : k < 8
          · have hix := idx8 hlt
            have ho := offs_in k
            obtain ⟨o1, o2⟩ := ho
            obtain ⟨q, hq⟩ : ∃ q, kindL ((f + offs k) % 8) d = q := ⟨_, rfl⟩
            have hsk := fun (W : World) => HS.out ((f + offs k) % 8) W (by omega) (by omega)
            rw [hq] at hsk
            have HK := Lib.hid hsk
            have HB := Lib.hid hb
            have K1 := Lib.hid k1
            clear hsk hb k1
            cases hfit : fitsB f d k with
            | true =>
              have hq0 : (q == 0) = true := by rw [← hq]; exact hfit
              have HF := Lib.hid (HY.out k (bestK_at hlt hfit HO.out))
              clear hq hfit
              go_wp2_with fail
              refine (HK.out _).mono ?_
              rintro e w2 ⟨rfl, hb2⟩
              replace hb2 := Lib.hid (below_on HB.out hb2)
              go_wp2_with fail
              go_ret2
              exact ⟨by rw [HF.out.1, HF.out.2]; rfl, hb2.out⟩
            | false =>
              have hq0 : (q == 0) = false := by rw [← hq]; exact hfit
              have HF := Lib.hid hfit
              clear hq hfit
              go_wp2_with fail
              refine (HK.out _).mono ?_
              rintro e w2 ⟨rfl, hb2⟩
              have K2 := Lib.hid (K1.out.on hb2)
              replace hb2 := Lib.hid (below_on HB.out hb2)
              go_wp2_with fail
              go_roundw
              case rel =>
                refine ⟨k + 1, by omega, by go_num, fun j hj => ?_, K2.out, hb2.out⟩
                rcases Nat.lt_succ_iff_lt_or_eq.1 hj with h | rfl
                · exact HO.out j h
                · exact HF.out
              case measure => simp [intOf]; omega
          · obtain rfl : k = 8 := by omega
            have HF := Lib.hid (HN.out (bestK_none HO.out))
            go_wp2_with fail
            go_ret2
            exact ⟨by rw [HF.out.1, HF.out.2]; rfl, hb⟩
end Go.Proofs.Ytcpbcmebfiilmaa
