/- The contract of the reference's LeastInFile. Condition: the slice can be read. -/
import Derived.Test.YtciolimmfldpbaaLeastIn
namespace Go.Proofs.Ytciolimmfldpbaa
open Go.RowKit

theorem lstep_yes {m d : Int} (h : m < 0 ∨ d < m) : lstep m d = d := by simp [lstep, h]
theorem lstep_no {m d : Int} (h1 : 0 ≤ m) (h2 : m ≤ d) : lstep m d = m := by
  unfold lstep; rw [if_neg (by omega)]
set_option maxRecDepth 100000 in
set_option maxHeartbeats 2000000 in
theorem specLeastInFile_any (v : Value) (n B : Nat) (xs : List Int) (m g L : Int) (w : World) (hv : Rd w B 2 v n xs) (hB : B ≤ w.heap.size) (hn : n ≤ 1099511627776) :
    Calls Try.prog 25 #[v, .int .i64 m, .int .i64 g, .int .i64 L] w fun e w' => e = .returned (.tuple #[.int .i64 (liV n xs m g L), .bool (liB n xs m g L)]) ∧ Below w.heap.size w w' := by
  obtain ⟨A, c, rfl⟩ := hv.form
  have Hv := Lib.hid hv
  clear hv
  cases h1 : fiB n xs m g L with
  | false =>
    have hf := Lib.hid (li_no (show liB n xs m g L = false by simp [liB, h1]))
    go_enter Try.func25, Try.ntmps25
    go_wp2_with fail
    refine (foAsked_any _ n B xs _ _ _ _ Hv.out hB hn).mono ?_
    rintro e w1 ⟨rfl, hb1⟩
    go_wp2_with fail
    go_ret2
    exact ⟨by rw [hf.out.1, hf.out.2]; rfl, hb1⟩
  | true =>
    have ho := fi_open h1
    obtain ⟨M, rfl, m1, m2, e1, e2, hnear, hw, g1, g2, hgL⟩ := ho
    have HN := Lib.hid hnear
    have HW := Lib.hid hw
    have HG := Lib.hid hgL
    clear hnear hw hgL
    by_cases h2 : 2 ≤ M
    · have hf := Lib.hid (li_yes (show liB n xs (M : Int) g L = true by simp [liB, h1]; omega))
      rw [e1, e2] at hf
      clear e1 e2
      have hd : decide ((M : Int) < 2) = false := by simp; omega
      go_enter Try.func25, Try.ntmps25
      go_wp2_with fail
      refine (foAsked_any _ n B xs _ _ _ _ Hv.out hB hn).mono ?_
      rintro e w1 ⟨rfl, hb1⟩
      have HB1 := Lib.hid hb1
      clear hb1
      go_wp2_with fail
      refine (foFile_any _ n B xs M g L _ (Hv.out.below' HB1.out hB) (Nat.le_trans hB HB1.out.size) HW.out (by omega) g1 g2 HG.out).mono ?_
      rintro e w2 ⟨u, rfl, ho2, hb2⟩
      have hcp := (Own.of ho2).cap
      have ho := Rd.of_own ho2
      have HB2 := Lib.hid (below_on HB1.out hb2)
      clear ho2 hb2
      obtain ⟨ys, ey⟩ : ∃ ys, flTo n xs g L M = ys := ⟨_, rfl⟩
      rw [ey] at ho hf
      rw [ey] at HN
      clear ey
      obtain ⟨A', c', rfl⟩ := ho.form
      obtain ⟨b, off, rfl, hbB, hc⟩ := ho.spot (show 0 < M by omega)
      have hMc : M ≤ c' := hcp _ _ _ rfl
      have HC := Lib.hid hc
      clear hc ho hcp
      go_wp2_with fail
      go_loopw [11, 34] (fun s t wr => ∃ i : Nat, i ≤ M ∧ t = .int .i64 i ∧ s = .int .i64 (lsOut ys i) ∧ Below w2.heap.size w2 wr) (fun _ t _ => M - (intOf t).toNat)
      case atStart => exact ⟨0, Nat.zero_le _, rfl, rfl, Below.refl _ _⟩
      case round =>
        obtain ⟨i, hi, rfl, rfl, hb⟩ := hrel
        obtain ⟨wo, rfl⟩ : ∃ wo : World, wo = wr := ⟨_, rfl⟩
        by_cases hlt : i < M
        · have hi0 := HC.out i hlt
          have nx := HN.out i hlt
          obtain ⟨x, ex⟩ : ∃ x, X ys i = x := ⟨_, rfl⟩
          obtain ⟨y, ey⟩ : ∃ x, Y ys i = x := ⟨_, rfl⟩
          rw [ex, ey] at hi0 nx
          have Ex := Lib.hid ex
          have Ey := Lib.hid ey
          have NX := Lib.hid nx
          have c0 := (hb.cell (p := ⟨b, off + i * 2, none⟩) hbB).trans hi0.1
          have c1 := (hb.cell (p := ⟨b, off + i * 2 + 1, none⟩) hbB).trans hi0.2
          have i0 : (0 : Int) ≤ (i : Int) := by omega
          have i1 : (i : Int) < (M : Int) := by omega
          have i2 : (i : Int) ≤ (c' : Int) := by omega
          have K := Lib.hid (Blk.new wo 29 #[.int .i64 x, .int .i64 y])
          have HB := Lib.hid (below_new hb (.cells #[.int .i64 x, .int .i64 y] 29))
          clear hi0 ex ey nx hb
          go_wp2_with fail
          go_loopw [11, 43] (fun s t wq => ∃ j : Nat, j ≤ i ∧ t = .int .i64 j ∧ s = .int .i64 (lsIn ys i (lsOut ys i) j) ∧ Blk wq wo.heap.size 29 #[.int .i64 x, .int .i64 y] ∧ Below w2.heap.size w2 wq) (fun _ t _ => i - (intOf t).toNat)
          case atStart => exact ⟨0, Nat.zero_le _, rfl, rfl, K.out, HB.out⟩
          case round =>
            clear K HB c0 c1
            obtain ⟨j, hj, rfl, rfl, hk, hb⟩ := hrel
            by_cases hlj : j < i
            · have hj0 := HC.out j (by omega)
              have nz := HN.out j (by omega)
              have hin := lsIn_in HN.out hlt hj
              have hs : lsIn ys i (lsOut ys i) (j + 1) = lstep (lsIn ys i (lsOut ys i) j) (sqAt ys i j) := rfl
              obtain ⟨z, ez⟩ : ∃ x, X ys j = x := ⟨_, rfl⟩
              obtain ⟨u, eu⟩ : ∃ x, Y ys j = x := ⟨_, rfl⟩
              have hsq : sqAt ys i j = sqL x y z u := by rw [← Ex.out, ← Ey.out, ← ez, ← eu]; rfl
              rw [ez, eu] at hj0 nz
              rw [hsq] at hs
              have hd0 := (sqL_in NX.out nz).1
              have P := fun W => stSquare_any x y z u W NX.out nz
              obtain ⟨d, ed⟩ : ∃ d, sqL x y z u = d := ⟨_, rfl⟩
              obtain ⟨l, el⟩ : ∃ l, lsIn ys i (lsOut ys i) j = l := ⟨_, rfl⟩
              rw [ed] at hs P hd0
              rw [el] at hs hin
              rw [el]
              have HP := Lib.hid P
              have HS := Lib.hid hs
              have c2 := (hb.cell (p := ⟨b, off + j * 2, none⟩) hbB).trans hj0.1
              have c3 := (hb.cell (p := ⟨b, off + j * 2 + 1, none⟩) hbB).trans hj0.2
              obtain ⟨a0, a1⟩ := hk.c2
              have b0 := cell_new a0 (.cells #[.int .i64 z, .int .i64 u] 29)
              have b1 := cell_new a1 (.cells #[.int .i64 z, .int .i64 u] 29)
              have hne : wo.heap.size < wr.heap.size := hk.lt
              have HB := Lib.hid (below_new hb (.cells #[.int .i64 z, .int .i64 u] 29))
              have K := Lib.hid (hk.alloc (.cells #[.int .i64 z, .int .i64 u] 29))
              have j0 : (0 : Int) ≤ (j : Int) := by omega
              have j1 : (j : Int) < (i : Int) := by omega
              obtain ⟨l1, l2⟩ := hin
              clear hj0 nz ez eu hsq ed el hs P hk hb
              go_wp2_with fail
              refine (HP.out _).mono ?_
              rintro e w3 ⟨rfl, hb3⟩
              have K3 := Lib.hid (K.out.on hb3)
              have HB3 := Lib.hid (below_on HB.out hb3)
              clear hb3 a0 a1 b0 b1 c2 c3 hne K HB
              by_cases hl : l < 0
              · replace HS := Lib.hid (HS.out.trans (lstep_yes (.inl hl)))
                go_wp2_with fail
                go_roundw
                case rel => exact ⟨j + 1, by omega, by go_num, by rw [HS.out], K3.out, HB3.out⟩
                case measure => simp [intOf]; omega
              · by_cases hdl : d < l
                · replace HS := Lib.hid (HS.out.trans (lstep_yes (.inr hdl)))
                  go_wp2_with fail
                  go_roundw
                  case rel => exact ⟨j + 1, by omega, by go_num, by rw [HS.out], K3.out, HB3.out⟩
                  case measure => simp [intOf]; omega
                · replace HS := Lib.hid (HS.out.trans (lstep_no (by omega) (by omega)))
                  go_wp2_with fail
                  go_roundw
                  case rel => exact ⟨j + 1, by omega, by go_num, by rw [HS.out], K3.out, HB3.out⟩
                  case measure => simp [intOf]; omega
            · obtain rfl : j = i := by omega
              have HB := Lib.hid hb
              clear hb hk
              go_wp2_with fail
              go_roundw
              case rel => exact ⟨j + 1, by omega, by go_num, rfl, HB.out⟩
              case measure => simp [intOf]; omega
        · obtain rfl : i = M := by omega
          have HB := Lib.hid hb
          clear hb
          go_wp2_with fail
          go_ret2
          exact ⟨by rw [hf.out.1, hf.out.2]; rfl, below_on HB2.out HB.out⟩
    · have hf := Lib.hid (li_no (show liB n xs (M : Int) g L = false by simp [liB]; omega))
      have hd : decide ((M : Int) < 2) = true := by simp; omega
      go_enter Try.func25, Try.ntmps25
      go_wp2_with fail
      refine (foAsked_any _ n B xs _ _ _ _ Hv.out hB hn).mono ?_
      rintro e w1 ⟨rfl, hb1⟩
      go_wp2_with fail
      go_ret2
      exact ⟨by rw [hf.out.1, hf.out.2]; rfl, hb1⟩
end Go.Proofs.Ytciolimmfldpbaa
