/- A contract of the reference's MostTogether. Conditions: the transition's slices can be read, and are short. -/
import Derived.Test.YtpikhkdgohapeaaMostImp
import Derived.Test.YtpikhkdgohapeaaSetOf
import Derived.Test.YtpikhkdgohapeaaFreeSets
namespace Go.Proofs.Ytpikhkdgohapeaa
open Go.RowKit

/-- What the reference's walk has of the plain law. -/
theorem mtS_yes {q : Nat → Nat → Bool} {n s : Nat} (h1 : freeS q n s = true) (h2 : better (setL n s) (mtS q n s) = true) : mtS q n (s + 1) = setL n s := by rw [mtS, if_pos ⟨h1, h2⟩]
theorem mtS_no1 {q : Nat → Nat → Bool} {n s : Nat} (h1 : freeS q n s = false) : mtS q n (s + 1) = mtS q n s := by rw [mtS, if_neg (by simp [h1])]
theorem mtS_no2 {q : Nat → Nat → Bool} {n s : Nat} (h2 : better (setL n s) (mtS q n s) = false) : mtS q n (s + 1) = mtS q n s := by rw [mtS, if_neg (by simp [h2])]
theorem mtS_len (q : Nat → Nat → Bool) (n : Nat) : ∀ s, (mtS q n s).length ≤ n
  | 0 => by simp [mtS]
  | s + 1 => by
    rw [mtS]
    split
    · exact setL_len n s
    · exact mtS_len q n s
set_option maxRecDepth 100000 in
set_option maxHeartbeats 4000000 in
theorem specMostTogether_any (v : Value) (B : Nat) (t : TrN) (L : Int) (w : World) (hcp : CapT v) (hv : RdT w B v t) (hB : B ≤ w.heap.size) (hs : t.small) :
    Calls Try.prog 27 #[v, .int .i64 L] w fun e w' => ∃ u, e = .returned (.tuple #[u, .bool (mgB t L)]) ∧ w'.ownsRow w.heap.size 3 1 u (mgN t L) (ints (mgL t L)) ∧ Below w.heap.size w w' := by
  obtain ⟨A, ca, C, cb, D, cc, rfl, _, _, _⟩ := hv.form
  have hb0 : Below w.heap.size w (w.alloc (.cells #[.slice A t.n ca, .slice C t.m cb, .int .i64 t.c, .slice D t.p cc] 43)) := below_new (Below.refl _ _) _
  have k0 := Blk.new w 43 #[.slice A t.n ca, .slice C t.m cb, .int .i64 t.c, .slice D t.p cc]
  have Hv := Lib.hid (fun W (hb : Below w.heap.size w W) => hv.below' hb hB)
  have Hc := Lib.hid hcp
  have HB0 := Lib.hid hb0
  have K0 := Lib.hid k0
  obtain ⟨a0, a1, a2, a3⟩ := k0.c4
  clear hv hcp hb0 k0
  have P := cfAsked_any _ B t L _ Hc.out (Hv.out _ HB0.out) (Nat.le_trans hB HB0.out.size) hs
  cases b1 : cpB t L with
  | false =>
    have HT := Lib.hid (mg_no b1)
    rw [b1] at P
    have HP := Lib.hid P
    clear P b1
    go_enter Try.func27, Try.ntmps27
    go_wp2_with fail
    refine HP.out.mono ?_
    rintro e w2 ⟨rfl, h2⟩
    have HB1 := Lib.hid (below_on HB0.out h2)
    have K1 := Lib.hid (K0.out.on h2)
    clear h2 a0 a1 a2 a3 HB0 K0
    have HB0 := HB1
    have K0 := K1
    clear HB1 K1
    obtain ⟨a0, a1, a2, a3⟩ := K0.out.c4
    go_wp2_with fail
    go_ret2
    rw [HT.out.1, HT.out.2.1, HT.out.2.2]
    exact ⟨_, rfl, World.ownsRow_nil _ _ _ _, HB0.out⟩
  | true =>
    have hcc := mg_yes b1
    have hci := cp_in b1
    have hok := tr_ok hci.1
    have hn1 := hok.n1
    have hR := fun W (hb : Below w.heap.size w W) => cfFree_any _ B t L W (Hv.out W hb) (Nat.le_trans hB hb.size) hok hci.2.1 hci.2.2
    obtain ⟨q, eq⟩ : ∃ q, qS (smAll (cfAt t L) t.n) = q := ⟨_, rfl⟩
    rw [eq] at hcc hR
    rw [← mt_same] at hcc
    have HSET := Lib.hid (fun (s : Nat) (W : World) (h : s < 2 ^ t.n) => cfSet_any s t.n W h hn1)
    have HLN := Lib.hid (fun s => mtS_len q t.n s)
    have HLS := Lib.hid (fun s => setL_len t.n s)
    have HY := Lib.hid (fun (s : Nat) => mtS_yes (q := q) (n := t.n) (s := s))
    have HN1 := Lib.hid (fun (s : Nat) => mtS_no1 (q := q) (n := t.n) (s := s))
    have HN2 := Lib.hid (fun (s : Nat) => mtS_no2 (q := q) (n := t.n) (s := s))
    have hN1 : 2 ^ t.n ≤ 2 ^ 12 := Nat.pow_le_pow_right (by decide) hn1
    have hN0 := Nat.two_pow_pos t.n
    obtain ⟨N, eN⟩ : ∃ N, 2 ^ t.n = N := ⟨_, rfl⟩
    rw [eN] at hcc hR HSET hN1 hN0
    have HR := Lib.hid hR
    have HT := Lib.hid hcc
    rw [b1] at P
    have HP := Lib.hid P
    clear P b1 hci hok hR hcc eN eq
    go_enter Try.func27, Try.ntmps27
    go_wp2_with fail
    refine HP.out.mono ?_
    rintro e w2 ⟨rfl, h2⟩
    have HB1 := Lib.hid (below_on HB0.out h2)
    have K1 := Lib.hid (K0.out.on h2)
    clear h2 a0 a1 a2 a3 HB0 K0
    have HB0 := HB1
    have K0 := K1
    clear HB1 K1
    obtain ⟨a0, a1, a2, a3⟩ := K0.out.c4
    go_wp2_with fail
    refine (HR.out _ HB0.out).mono ?_
    rintro e w3 ⟨u, rfl, ho, h3⟩
    have hform : ∃ g c, u = .slice (some ⟨g, 0, none⟩) N c := by
      rcases ho.2 with ⟨_, h0⟩ | ⟨g, cap, cur, rfl, _⟩
      · omega
      · exact ⟨g, cap, rfl⟩
    obtain ⟨g, cg, rfl⟩ := hform
    have HU := Lib.hid ho
    have HB3 := Lib.hid (below_on HB0.out h3)
    clear ho h3 a0 a1 a2 a3 K0 HB0
    go_wp2_with fail
    go_loopw [6, 18] (fun o s wr => ∃ k : Nat, k ≤ N ∧ wr.ownsRow w3.heap.size 3 1 o (mtS q t.n k).length (ints (nats (mtS q t.n k))) ∧ s = .int .i64 k ∧ Below w3.heap.size w3 wr) (fun _ s _ => N - (intOf s).toNat)
    case atStart => exact ⟨0, Nat.zero_le _, by simpa [mtS, nats, ints] using World.ownsRow_nil w3 w3.heap.size 3 1, rfl, Below.refl _ _⟩
    case round =>
      obtain ⟨k, hk, hown, rfl, hb⟩ := hrel
      obtain ⟨A0, c0, rfl⟩ := (Rd.of_own hown).form
      by_cases hlt : k < N
      · have k0 : (0 : Int) ≤ (k : Int) := by omega
        have k1 : (k : Int) < (N : Int) := by omega
        have x0 : wr.cell? ⟨g, k, none⟩ = some (.bool (freeS q t.n k)) := ((own_below HU.out hb (Nat.le_refl _)).cellAt k (by omega)).trans (bools_get hlt)
        have hyes := HY.out k
        have hno1 := HN1.out k
        have hno2 := HN2.out k
        have hln := HLN.out k
        have hls := HLS.out k
        have HSK := Lib.hid (fun W => HSET.out k W hlt)
        cases hfr : freeS q t.n k with
        | false =>
          rw [hfr] at x0
          have HSTP := Lib.hid (show wr.ownsRow w3.heap.size 3 1 (.slice A0 (mtS q t.n k).length c0) (mtS q t.n (k + 1)).length (ints (nats (mtS q t.n (k + 1)))) by rw [hno1 hfr]; exact hown)
          have HB5 := Lib.hid hb
          clear hyes hno1 hno2 hln hls hown hb hfr
          go_wp2_with fail
          go_roundw
          case rel => exact ⟨k + 1, by omega, HSTP.out, by go_num, HB5.out⟩
          case measure => simp [intOf]; omega
        | true =>
          rw [hfr] at x0
          have hyes2 := fun h => hyes hfr h
          clear hyes
          have hyes := hyes2
          clear hyes2
          have hbet : better (setL t.n k) (mtS q t.n k) = (decide ((mtS q t.n k).length < (setL t.n k).length) || (decide ((setL t.n k).length = (mtS q t.n k).length) && bf (setL t.n k) (mtS q t.n k))) := rfl
          obtain ⟨a, ea⟩ : ∃ a, setL t.n k = a := ⟨_, rfl⟩
          obtain ⟨b, eb⟩ : ∃ a, mtS q t.n k = a := ⟨_, rfl⟩
          rw [ea] at HSK hyes hno2 hls hbet
          rw [eb] at hyes hno2 hln hown hbet ⊢
          have HO := Lib.hid hown
          have HB := Lib.hid hb
          have HYES := Lib.hid hyes
          have HNO2 := Lib.hid hno2
          have HBET := Lib.hid hbet
          clear hno1 hown hb hfr ea eb hyes hno2 hbet
          go_wp2_with fail
          refine (HSK.out _).mono ?_
          rintro e w5 ⟨u2, rfl, o2, h5⟩
          have HO5 := Lib.hid o2
          have HB5 := Lib.hid (below_on HB.out h5)
          have HV5 := Lib.hid (own_below HO.out h5 (Nat.le_refl _))
          have hbsz := HB.out.size
          clear o2 h5 x0 HO HB
          obtain ⟨A2, c2, rfl⟩ := (Rd.of_own HO5.out).form
          by_cases hgt : b.length < a.length
          · have hd1 : (b.length : Int) < (a.length : Int) := by omega
            have HSTP := Lib.hid (show w5.ownsRow w3.heap.size 3 1 (.slice A2 a.length c2) (mtS q t.n (k + 1)).length (ints (nats (mtS q t.n (k + 1)))) by rw [HYES.out (by rw [HBET.out]; simp [hgt])]; exact own_base HO5.out hbsz)
            go_wp2_with fail
            go_roundw
            case rel => exact ⟨k + 1, by omega, HSTP.out, by go_num, HB5.out⟩
            case measure => simp [intOf]; omega
          · have hd1 : ¬ (b.length : Int) < (a.length : Int) := by omega
            by_cases heq : a.length = b.length
            · have hd2 : ((a.length : Int) == (b.length : Int)) = true := by simp [heq]
              have hbfc := fun W (h1 : Rd W w5.heap.size 1 (.slice A2 a.length c2) a.length (nats a)) (h2 : Rd W w5.heap.size 1 (.slice A0 b.length c0) b.length (nats b)) => cfBefore_any (.slice A2 a.length c2) (.slice A0 b.length c0) a b a.length w5.heap.size w5.heap.size W h1 (by rw [heq]; exact h2) rfl heq.symm (by omega)
              have HRA := Lib.hid (Rd.of_own HO5.out)
              have HRB := Lib.hid (Rd.of_own HV5.out)
              have hbfc2 := hbfc w5 HRA.out HRB.out
              have HEQ := Lib.hid heq
              clear heq hbfc
              cases hbf : bf a b with
              | true =>
                rw [hbf] at hbfc2
                have HBF := Lib.hid hbfc2
                have HSTP := Lib.hid (show w5.ownsRow w3.heap.size 3 1 (.slice A2 a.length c2) (mtS q t.n (k + 1)).length (ints (nats (mtS q t.n (k + 1)))) by rw [HYES.out (by rw [HBET.out]; simp [HEQ.out, hbf])]; exact own_base HO5.out hbsz)
                clear hbfc2 hbf
                go_wp2_with fail
                refine HBF.out.mono ?_
                rintro e w6 ⟨rfl, rfl⟩
                go_wp2_with fail
                go_roundw
                case rel => exact ⟨k + 1, by omega, HSTP.out, by go_num, HB5.out⟩
                case measure => simp [intOf]; omega
              | false =>
                rw [hbf] at hbfc2
                have HBF := Lib.hid hbfc2
                have HSTP := Lib.hid (show w5.ownsRow w3.heap.size 3 1 (.slice A0 b.length c0) (mtS q t.n (k + 1)).length (ints (nats (mtS q t.n (k + 1)))) by rw [HNO2.out (by rw [HBET.out]; simp [HEQ.out, hbf])]; exact HV5.out)
                clear hbfc2 hbf
                go_wp2_with fail
                refine HBF.out.mono ?_
                rintro e w6 ⟨rfl, rfl⟩
                go_wp2_with fail
                go_roundw
                case rel => exact ⟨k + 1, by omega, HSTP.out, by go_num, HB5.out⟩
                case measure => simp [intOf]; omega
            · have hd2 : ((a.length : Int) == (b.length : Int)) = false := by simp; omega
              have hd3 : ¬ (a.length : Int) = (b.length : Int) := by omega
              have HSTP := Lib.hid (show w5.ownsRow w3.heap.size 3 1 (.slice A0 b.length c0) (mtS q t.n (k + 1)).length (ints (nats (mtS q t.n (k + 1)))) by rw [HNO2.out (by rw [HBET.out]; simp [hgt, heq])]; exact HV5.out)
              go_wp2_with fail
              go_roundw
              case rel => exact ⟨k + 1, by omega, HSTP.out, by go_num, HB5.out⟩
              case measure => simp [intOf]; omega
      · obtain rfl : k = N := by omega
        have HO := Lib.hid (own_base hown HB3.out.size)
        have HB := Lib.hid (HB3.out.trans (hb.mono HB3.out.size))
        clear hown hb
        go_wp2_with fail
        go_ret2
        rw [HT.out.1, HT.out.2.1, HT.out.2.2]
        exact ⟨_, rfl, HO.out, HB.out⟩
end Go.Proofs.Ytpikhkdgohapeaa
