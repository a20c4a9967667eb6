/- For every drawn file performers follow at the gap, short ways have the same spots, and folds are the same backwards: the walk. Without conditions. -/
import Derived.Test.YtciolimmfldpbaaFilesB
import Derived.Test.YtciolimmfldpbaaFilesDraw
import Derived.Test.YtciolimmfldpbaaCutFn2
import Derived.Test.YtciolimmfldpbaaFile
import Derived.Test.YtciolimmfldpbaaLeastIn
import Derived.Test.YtciolimmfldpbaaLeastInSpec
import Derived.Test.YtciolimmfldpbaaShortSpec
import Derived.Test.YtciolimmfldpbaaFrame
namespace Go.Proofs.Ytciolimmfldpbaa
open Go.RowKit

set_option maxRecDepth 100000 in
set_option maxHeartbeats 4000000 in
theorem files_walk (w : World) (A0 : Option Addr) (n0 c0 : Nat) (hr0 : RdB w w.heap.size A0 n0) (hm0 : n0 ≤ maxLen) (A1 : Option Addr) (n1 c1 : Nat) (hr1 : RdB w w.heap.size A1 n1) (hm1 : n1 ≤ maxLen) :
    Calls Try.prog 4 #[.slice A0 n0 c0, .slice A1 n1 c1] w fun e w' => e = .returned (.bool true) ∧ Below w.heap.size w w' := by
  unfold maxLen at hm0 hm1
  obtain ⟨tot, e0⟩ : ∃ z, IntKind.i64.wrap ((n0 : Int) + (n1 : Int)) = z := ⟨_, rfl⟩
  by_cases hbig : (1048576 : Int) < tot
  · go_enter Try.func4, Try.ntmps4
    go_wp2_with fail
    go_ret
    exact ⟨rfl, Below.refl _ _⟩
  · have hn0 : n0 ≤ 9223372036854775807 := by omega
    have hn1 : n1 ≤ 9223372036854775807 := by omega
    have H0 := Lib.hid hr0
    have H1 := Lib.hid hr1
    have B0 := Lib.hid (Below.refl w.heap.size w)
    clear hr0 hr1
    go_enter Try.func4, Try.ntmps4
    go_wp2_with fail
    refine (DrawFileAt_any A0 n0 c0 _ H0.out hn0).mono ?_
    rintro e w1 ⟨l, n, xs, rn, g, L, rfl, ho, hk, hb⟩
    replace B0 := Lib.hid (below_on B0.out hb)
    clear hb
    have Ol := Lib.hid (Own.of ho)
    have Rl := Lib.hid Ol.out.rd
    have Bl := Lib.hid (Below.refl w1.heap.size w1)
    clear ho
    obtain ⟨kl1, kl2, _⟩ := hk
    have hMle := fiN_le n xs rn g L
    obtain ⟨fb, gfb⟩ : ∃ z, fiB n xs rn g L = z := ⟨_, rfl⟩
    obtain ⟨M, gM⟩ : ∃ z, fiN n xs rn g L = z := ⟨_, rfl⟩
    obtain ⟨ys, gys⟩ : ∃ z, fiL n xs rn g L = z := ⟨_, rfl⟩
    obtain ⟨lb, glb⟩ : ∃ z, liB n xs rn g L = z := ⟨_, rfl⟩
    obtain ⟨lv, glv⟩ : ∃ z, liV n xs rn g L = z := ⟨_, rfl⟩
    rw [gM] at hMle
    have P1 := (fun (B : Nat) (W : World) (h1 : Rd W B 2 l n xs) (h2 : B ≤ W.heap.size) (h3 : n ≤ 1099511627776) => FileAt_any l n B xs rn g L W h1 h2 h3)
    rw [gfb, gM, gys] at P1
    replace P1 := Lib.hid P1
    have P2 := (fun (B : Nat) (W : World) (h1 : Rd W B 2 l n xs) (h2 : B ≤ W.heap.size) (h3 : n ≤ 1099511627776) => specFileAt_any l n B xs rn g L W h1 h2 h3)
    rw [gfb, gM, gys] at P2
    replace P2 := Lib.hid P2
    have P3 := (fun (B : Nat) (W : World) (h1 : Rd W B 2 l n xs) (h2 : B ≤ W.heap.size) (h3 : n ≤ 1099511627776) => LeastInFile_any l n B xs rn g L W h1 h2 h3)
    rw [glb, glv] at P3
    replace P3 := Lib.hid P3
    have P4 := (fun (B : Nat) (W : World) (h1 : Rd W B 2 l n xs) (h2 : B ≤ W.heap.size) (h3 : n ≤ 1099511627776) => specLeastInFile_any l n B xs rn g L W h1 h2 h3)
    rw [glb, glv] at P4
    replace P4 := Lib.hid P4
    have HLB := Lib.hid (show (fb = false ∧ lb = false) ∨ (fb = true ∧ lb = true ∧ decide (2 ≤ rn) = true) ∨ (fb = true ∧ lb = false ∧ decide (2 ≤ rn) = false) by
      rw [← gfb, ← glb]; unfold liB
      cases fiB n xs rn g L <;> cases decide (2 ≤ rn) <;> simp)
    replace gfb := Lib.hid gfb
    replace gM := Lib.hid gM
    replace gys := Lib.hid gys
    replace glb := Lib.hid glb
    replace glv := Lib.hid glv
    go_wp2_with fail
    refine (P1.out _ _ (Rl.out.below Bl.out) Bl.out.size (by omega)).mono ?_
    rintro e w2 ⟨f1, rfl, ho, hb⟩
    replace B0 := Lib.hid (below_on B0.out hb)
    replace Bl := Lib.hid (below_on Bl.out hb)
    clear hb
    have Of1 := Lib.hid (Own.of ho)
    have Rf1 := Lib.hid Of1.out.rd
    have Bf1 := Lib.hid (Below.refl w2.heap.size w2)
    clear ho
    go_wp2_with fail
    refine (P2.out _ _ (Rl.out.below Bl.out) Bl.out.size (by omega)).mono ?_
    rintro e w3 ⟨f2, rfl, ho, hb⟩
    replace B0 := Lib.hid (below_on B0.out hb)
    replace Bl := Lib.hid (below_on Bl.out hb)
    replace Bf1 := Lib.hid (below_on Bf1.out hb)
    clear hb
    have Of2 := Lib.hid (Own.of ho)
    have Rf2 := Lib.hid Of2.out.rd
    have Bf2 := Lib.hid (Below.refl w3.heap.size w3)
    clear ho
    go_wp2_with fail
    refine (P3.out _ _ (Rl.out.below Bl.out) Bl.out.size (by omega)).mono ?_
    rintro e w4 ⟨rfl, hb⟩
    replace B0 := Lib.hid (below_on B0.out hb)
    replace Bl := Lib.hid (below_on Bl.out hb)
    replace Bf1 := Lib.hid (below_on Bf1.out hb)
    replace Bf2 := Lib.hid (below_on Bf2.out hb)
    clear hb
    go_wp2_with fail
    refine (P4.out _ _ (Rl.out.below Bl.out) Bl.out.size (by omega)).mono ?_
    rintro e w5 ⟨rfl, hb⟩
    replace B0 := Lib.hid (below_on B0.out hb)
    replace Bl := Lib.hid (below_on Bl.out hb)
    replace Bf1 := Lib.hid (below_on Bf1.out hb)
    replace Bf2 := Lib.hid (below_on Bf2.out hb)
    clear hb
    go_wp2_with fail
    refine (DrawShortWay_any A1 n1 c1 _ (RdB.kept H1.out B0.out) hn1).mono ?_
    rintro e w6 ⟨a, m, zs, rfl, ho, hk, hb⟩
    replace B0 := Lib.hid (below_on B0.out hb)
    replace Bl := Lib.hid (below_on Bl.out hb)
    replace Bf1 := Lib.hid (below_on Bf1.out hb)
    replace Bf2 := Lib.hid (below_on Bf2.out hb)
    clear hb
    have Oa := Lib.hid (Own.of ho)
    have Ra := Lib.hid Oa.out.rd
    have Ba := Lib.hid (Below.refl w6.heap.size w6)
    clear ho
    obtain ⟨ka1, ka2, _⟩ := hk
    have hsN : swN m zs ≤ m := by unfold swN; split; exact shN_le m zs m; omega
    have hrN : rwN m zs ≤ m := by unfold rwN; split <;> omega
    obtain ⟨wb, gwb⟩ : ∃ z, wayB m zs = z := ⟨_, rfl⟩
    obtain ⟨sN, gsN⟩ : ∃ z, swN m zs = z := ⟨_, rfl⟩
    obtain ⟨sL, gsL⟩ : ∃ z, swL m zs = z := ⟨_, rfl⟩
    obtain ⟨fo, gfo⟩ : ∃ z, fbV m zs = z := ⟨_, rfl⟩
    obtain ⟨rN, grN⟩ : ∃ z, rwN m zs = z := ⟨_, rfl⟩
    obtain ⟨rL, grL⟩ : ∃ z, rwL m zs = z := ⟨_, rfl⟩
    rw [gsN] at hsN
    rw [grN] at hrN
    have Q1 := (fun (B : Nat) (W : World) (h1 : Rd W B 2 a m zs) (h2 : B ≤ W.heap.size) (h3 : m ≤ 1099511627776) => ShortWay_any a m B zs  W h1 h2 h3)
    rw [gwb, gsN, gsL] at Q1
    replace Q1 := Lib.hid Q1
    have Q2 := (fun (B : Nat) (W : World) (h1 : Rd W B 2 a m zs) (h2 : B ≤ W.heap.size) (h3 : m ≤ 1099511627776) => specShortWay_any a m B zs  W h1 h2 h3)
    rw [gwb, gsN, gsL] at Q2
    replace Q2 := Lib.hid Q2
    have Q3 := (fun (B : Nat) (W : World) (h1 : Rd W B 2 a m zs) (h2 : B ≤ W.heap.size) (h3 : m ≤ 1099511627776) => FoldsBack_any a m B zs  W h1 h2 h3)
    rw [gwb, gfo] at Q3
    replace Q3 := Lib.hid Q3
    have Q4 := (fun (B : Nat) (W : World) (h1 : Rd W B 2 a m zs) (h2 : B ≤ W.heap.size) (h3 : m ≤ 1099511627776) => specFoldsBack_any a m B zs  W h1 h2 h3)
    rw [gwb, gfo] at Q4
    replace Q4 := Lib.hid Q4
    have Q5 := (fun (B : Nat) (W : World) (h1 : Rd W B 2 a m zs) (h2 : B ≤ W.heap.size) (h3 : m ≤ 1099511627776) => ReverseWay_any a m B zs  W h1 h2 h3)
    rw [gwb, grN, grL] at Q5
    replace Q5 := Lib.hid Q5
    have Q6 := (fun (B : Nat) (W : World) (h1 : Rd W B 2 a m zs) (h2 : B ≤ W.heap.size) (h3 : m ≤ 1099511627776) => specReverseWay_any a m B zs  W h1 h2 h3)
    rw [gwb, grN, grL] at Q6
    replace Q6 := Lib.hid Q6
    replace gwb := Lib.hid gwb
    replace gsN := Lib.hid gsN
    replace gsL := Lib.hid gsL
    replace gfo := Lib.hid gfo
    replace grN := Lib.hid grN
    replace grL := Lib.hid grL
    go_wp2_with fail
    refine (Q1.out _ _ (Ra.out.below Ba.out) Ba.out.size (by omega)).mono ?_
    rintro e w7 ⟨s, rfl, ho, hb⟩
    replace B0 := Lib.hid (below_on B0.out hb)
    replace Bl := Lib.hid (below_on Bl.out hb)
    replace Bf1 := Lib.hid (below_on Bf1.out hb)
    replace Bf2 := Lib.hid (below_on Bf2.out hb)
    replace Ba := Lib.hid (below_on Ba.out hb)
    clear hb
    have Os := Lib.hid (Own.of ho)
    have Rs := Lib.hid Os.out.rd
    have Bs := Lib.hid (Below.refl w7.heap.size w7)
    clear ho
    go_wp2_with fail
    refine (Q2.out _ _ (Ra.out.below Ba.out) Ba.out.size (by omega)).mono ?_
    rintro e w8 ⟨u, rfl, ho, hb⟩
    replace B0 := Lib.hid (below_on B0.out hb)
    replace Bl := Lib.hid (below_on Bl.out hb)
    replace Bf1 := Lib.hid (below_on Bf1.out hb)
    replace Bf2 := Lib.hid (below_on Bf2.out hb)
    replace Ba := Lib.hid (below_on Ba.out hb)
    replace Bs := Lib.hid (below_on Bs.out hb)
    clear hb
    have Ou := Lib.hid (Own.of ho)
    have Ru := Lib.hid Ou.out.rd
    have Bu := Lib.hid (Below.refl w8.heap.size w8)
    clear ho
    go_wp2_with fail
    refine (Q3.out _ _ (Ra.out.below Ba.out) Ba.out.size (by omega)).mono ?_
    rintro e w9 ⟨rfl, hb⟩
    replace B0 := Lib.hid (below_on B0.out hb)
    replace Bl := Lib.hid (below_on Bl.out hb)
    replace Bf1 := Lib.hid (below_on Bf1.out hb)
    replace Bf2 := Lib.hid (below_on Bf2.out hb)
    replace Ba := Lib.hid (below_on Ba.out hb)
    replace Bs := Lib.hid (below_on Bs.out hb)
    replace Bu := Lib.hid (below_on Bu.out hb)
    clear hb
    go_wp2_with fail
    refine (Q4.out _ _ (Ra.out.below Ba.out) Ba.out.size (by omega)).mono ?_
    rintro e w10 ⟨rfl, hb⟩
    replace B0 := Lib.hid (below_on B0.out hb)
    replace Bl := Lib.hid (below_on Bl.out hb)
    replace Bf1 := Lib.hid (below_on Bf1.out hb)
    replace Bf2 := Lib.hid (below_on Bf2.out hb)
    replace Ba := Lib.hid (below_on Ba.out hb)
    replace Bs := Lib.hid (below_on Bs.out hb)
    replace Bu := Lib.hid (below_on Bu.out hb)
    clear hb
    go_wp2_with fail
    refine (Q5.out _ _ (Ra.out.below Ba.out) Ba.out.size (by omega)).mono ?_
    rintro e w11 ⟨r, rfl, ho, hb⟩
    replace B0 := Lib.hid (below_on B0.out hb)
    replace Bl := Lib.hid (below_on Bl.out hb)
    replace Bf1 := Lib.hid (below_on Bf1.out hb)
    replace Bf2 := Lib.hid (below_on Bf2.out hb)
    replace Ba := Lib.hid (below_on Ba.out hb)
    replace Bs := Lib.hid (below_on Bs.out hb)
    replace Bu := Lib.hid (below_on Bu.out hb)
    clear hb
    have Or := Lib.hid (Own.of ho)
    have Rr := Lib.hid Or.out.rd
    have Br := Lib.hid (Below.refl w11.heap.size w11)
    clear ho
    go_wp2_with fail
    refine (Q6.out _ _ (Ra.out.below Ba.out) Ba.out.size (by omega)).mono ?_
    rintro e w12 ⟨q, rfl, ho, hb⟩
    replace B0 := Lib.hid (below_on B0.out hb)
    replace Bl := Lib.hid (below_on Bl.out hb)
    replace Bf1 := Lib.hid (below_on Bf1.out hb)
    replace Bf2 := Lib.hid (below_on Bf2.out hb)
    replace Ba := Lib.hid (below_on Ba.out hb)
    replace Bs := Lib.hid (below_on Bs.out hb)
    replace Bu := Lib.hid (below_on Bu.out hb)
    replace Br := Lib.hid (below_on Br.out hb)
    clear hb
    have Oq := Lib.hid (Own.of ho)
    have Rq := Lib.hid Oq.out.rd
    have Bq := Lib.hid (Below.refl w12.heap.size w12)
    clear ho
    clear P1 P2 P3 P4 Q1 Q2 Q3 Q4 Q5 Q6
    have nblv : (lv != lv) = false := by simp
    have nbfo : (fo != fo) = false := by simp
    have nbwb : (wb != wb) = false := by simp
    rcases HLB.out with ⟨rfl, rfl⟩ | ⟨rfl, rfl, d2⟩ | ⟨rfl, rfl, d2⟩
    all_goals
      go_wp2_with fail
      refine (qSpots_same f1 f2 M _ ys _ ((Rf1.out.below Bf1.out).more Bf1.out.size) ((Rf2.out.below Bf2.out).more Bf2.out.size) (Nat.le_refl _) (by omega)).mono ?_
      rintro e w13 ⟨rfl, hb⟩
      replace B0 := Lib.hid (below_on B0.out hb)
      replace Bl := Lib.hid (below_on Bl.out hb)
      replace Bf1 := Lib.hid (below_on Bf1.out hb)
      replace Bf2 := Lib.hid (below_on Bf2.out hb)
      replace Ba := Lib.hid (below_on Ba.out hb)
      replace Bs := Lib.hid (below_on Bs.out hb)
      replace Bu := Lib.hid (below_on Bu.out hb)
      replace Br := Lib.hid (below_on Br.out hb)
      replace Bq := Lib.hid (below_on Bq.out hb)
      clear hb
      go_wp2_with fail
      refine (qSpots_same s u sN _ sL _ ((Rs.out.below Bs.out).more Bs.out.size) ((Ru.out.below Bu.out).more Bu.out.size) (Nat.le_refl _) (by omega)).mono ?_
      rintro e w14 ⟨rfl, hb⟩
      replace B0 := Lib.hid (below_on B0.out hb)
      replace Bl := Lib.hid (below_on Bl.out hb)
      replace Bf1 := Lib.hid (below_on Bf1.out hb)
      replace Bf2 := Lib.hid (below_on Bf2.out hb)
      replace Ba := Lib.hid (below_on Ba.out hb)
      replace Bs := Lib.hid (below_on Bs.out hb)
      replace Bu := Lib.hid (below_on Bu.out hb)
      replace Br := Lib.hid (below_on Br.out hb)
      replace Bq := Lib.hid (below_on Bq.out hb)
      clear hb
      go_wp2_with fail
      refine (qSpots_same r q rN _ rL _ ((Rr.out.below Br.out).more Br.out.size) ((Rq.out.below Bq.out).more Bq.out.size) (Nat.le_refl _) (by omega)).mono ?_
      rintro e w15 ⟨rfl, hb⟩
      replace B0 := Lib.hid (below_on B0.out hb)
      replace Bl := Lib.hid (below_on Bl.out hb)
      replace Bf1 := Lib.hid (below_on Bf1.out hb)
      replace Bf2 := Lib.hid (below_on Bf2.out hb)
      replace Ba := Lib.hid (below_on Ba.out hb)
      replace Bs := Lib.hid (below_on Bs.out hb)
      replace Bu := Lib.hid (below_on Bu.out hb)
      replace Br := Lib.hid (below_on Br.out hb)
      replace Bq := Lib.hid (below_on Bq.out hb)
      clear hb
      have HD := Lib.hid (fun (wd : World) (hb : Below w15.heap.size w15 wd) => files_d w wd (below_on B0.out hb) l n xs ((((Rl.out.below Bl.out).more Bl.out.size).below hb).more hb.size) kl2 f2 rn g L lv _ _ gfb.out (by rw [gM.out, gys.out]; exact (((Rf2.out.below Bf2.out).more Bf2.out.size).below hb).more hb.size) Of2.out.cap glb.out glv.out)
      have HH := Lib.hid (files_b w w15 l f2 rn g L lv _ _ HD.out a s u r m zs wb fo ((Ra.out.below Ba.out).more Ba.out.size) ka2 gwb.out gfo.out (by rw [gsN.out, gsL.out]; exact ((Rs.out.below Bs.out).more Bs.out.size)) (by rw [gsN.out, gsL.out]; exact ((Ru.out.below Bu.out).more Bu.out.size)) (by rw [grN.out, grL.out]; exact ((Rr.out.below Br.out).more Br.out.size)))
      clear HD
      go_upto_if 208 with (fail)
      go_step
      go_step
      go_step
      go_step
      exact wp_of_fn (by kernel_rfl) HH.out
end Go.Proofs.Ytciolimmfldpbaa
