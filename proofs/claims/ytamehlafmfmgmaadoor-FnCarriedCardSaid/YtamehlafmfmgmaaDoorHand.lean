/- The contract of the program's HandOversOf. Condition: the slice can be read, and its length is at most its capacity. -/
import Derived.Test.YtamehlafmfmgmaaDoorAreSpec
import Derived.Test.YtamehlafmfmgmaaDoorHandFn
import Derived.Test.YtamehlafmfmgmaaDoorIntApp
namespace Go.Proofs.YtamehlafmfmgmaaDoor
open Go.RowKit

def hnN (n : Nat) (xs : List Int) (q : Int) : Nat := (hnL n xs q).length
theorem hn_no {n : Nat} {xs : List Int} {q : Int} (h : hnB n xs q = false) : hnB n xs q = false ∧ hnL n xs q = [] ∧ hnN n xs q = 0 := by simp [hnN, hnL, h]
theorem hn_yes {n : Nat} {xs : List Int} {q : Int} (h : hnB n xs q = true) : hnB n xs q = true ∧ hnL n xs q = hoTo n xs q n ∧ hnN n xs q = (hoTo n xs q n).length := by simp [hnN, hnL, h]
theorem hnN_le (n : Nat) (xs : List Int) (q : Int) : hnN n xs q ≤ n := by
  cases h : hnB n xs q with
  | false => rw [(hn_no h).2.2]; omega
  | true => rw [(hn_yes h).2.2]; exact hoTo_len _ _ _ _
set_option maxRecDepth 100000 in
set_option maxHeartbeats 4000000 in
theorem HandOversOf_any (v : Value) (n B : Nat) (xs : List Int) (q : Int) (w : World) (hcp : Cap v) (hv : Rd w B 4 v n xs) (hB : B ≤ w.heap.size) (hn : n ≤ 1099511627776) :
    Calls Tryd.prog 20 #[v, .int .i64 q] w fun e w' => ∃ u, e = .returned (.tuple #[u, .bool (hnB n xs q)]) ∧ w'.ownsRow w.heap.size 3 1 u (hnN n xs q) (ints (hnL n xs q)) ∧ Below w.heap.size w w' := by
  obtain ⟨A, c, rfl⟩ := hv.form4
  have Hv := Lib.hid hv
  have Hc := Lib.hid hcp
  clear hv hcp
  cases h1 : gcB n xs with
  | false =>
    have hf := Lib.hid (hn_no (q := q) (show hnB n xs q = false by simp [hnB, h1]))
    go_enter Tryd.func20, Tryd.ntmps20
    go_wp2_with fail
    refine (AreCarries_any _ n B xs _ Hc.out Hv.out hB hn).mono ?_
    rintro e w1 ⟨rfl, hb1⟩
    go_wp2_with fail
    go_ret2
    rw [hf.out.1, hf.out.2.1, hf.out.2.2]
    exact ⟨_, rfl, World.ownsRow_nil _ _ _ _, hb1⟩
  | true =>
    cases h2 : inB q 1 9 with
    | false =>
      have hf := Lib.hid (hn_no (q := q) (show hnB n xs q = false by simp [hnB, h2]))
      go_enter Tryd.func20, Tryd.ntmps20
      go_wp2_with fail
      refine (AreCarries_any _ n B xs _ Hc.out Hv.out hB hn).mono ?_
      rintro e w1 ⟨rfl, hb1⟩
      go_wp2_with fail
      refine (within_any _ _ _ _).mono ?_
      rintro e w' ⟨rfl, rfl⟩
      go_wp2_with fail
      go_ret2
      rw [hf.out.1, hf.out.2.1, hf.out.2.2]
      exact ⟨_, rfl, World.ownsRow_nil _ _ _ _, hb1⟩
    | true =>
      have hf := Lib.hid (hn_yes (q := q) (show hnB n xs q = true by simp [hnB, h1, h2]))
      have hg := gc_yes h1
      have h40 := hg.len
      have HG := Lib.hid hg
      clear hg
      go_enter Tryd.func20, Tryd.ntmps20
      go_wp2_with fail
      refine (AreCarries_any _ n B xs _ Hc.out Hv.out hB hn).mono ?_
      rintro e w1 ⟨rfl, hb1⟩
      go_wp2_with fail
      refine (within_any _ _ _ _).mono ?_
      rintro e w' ⟨rfl, rfl⟩
      go_wp2_with fail
      go_loopw [6, 22] (fun o s wr => ∃ k : Nat, k ≤ n ∧ s = .int .i64 k ∧ wr.ownsRow w.heap.size 3 1 o (hoTo n xs q k).length (ints (hoTo n xs q k)) ∧ Below w.heap.size w wr) (fun _ s _ => n - (intOf s).toNat)
      case atStart => exact ⟨0, Nat.zero_le _, rfl, own_base (own_empty _ _ _) (by simp [hb1.size]), below_new hb1 _⟩
      case round =>
        clear hb1
        obtain ⟨k, hk, rfl, hown, hb⟩ := hrel
        obtain ⟨wo, rfl⟩ : ∃ wo : World, wo = wr := ⟨_, rfl⟩
        by_cases hlt : k < n
        · obtain ⟨b, off, rfl, hbB, hc⟩ := Hv.out.carry (by omega)
          have hcip := hc k (by omega)
          obtain ⟨p, ep⟩ : ∃ a, cP xs k = a := ⟨_, rfl⟩
          obtain ⟨l, el⟩ : ∃ a, cL xs k = a := ⟨_, rfl⟩
          obtain ⟨f, ef⟩ : ∃ a, cF xs k = a := ⟨_, rfl⟩
          obtain ⟨t, et⟩ : ∃ a, cT xs k = a := ⟨_, rfl⟩
          rw [ep, el, ef, et] at hcip
          have c0 := (hb.cell (p := ⟨b, off + k * 4, none⟩) (Nat.lt_of_lt_of_le hbB hB)).trans hcip.1
          have c1 := (hb.cell (p := ⟨b, off + k * 4 + 1, none⟩) (Nat.lt_of_lt_of_le hbB hB)).trans hcip.2.1
          have c2 := (hb.cell (p := ⟨b, off + k * 4 + 2, none⟩) (Nat.lt_of_lt_of_le hbB hB)).trans hcip.2.2.1
          have c3 := (hb.cell (p := ⟨b, off + k * 4 + 3, none⟩) (Nat.lt_of_lt_of_le hbB hB)).trans hcip.2.2.2
          have i0 : (0 : Int) ≤ (k : Int) := by omega
          have i1 : (k : Int) < (n : Int) := by omega
          have K := Lib.hid (Blk.new wo 50 #[.int .i64 p, .int .i64 l, .int .i64 f, .int .i64 t])
          have HB := Lib.hid (below_new hb (.cells #[.int .i64 p, .int .i64 l, .int .i64 f, .int .i64 t] 50))
          have HO := Lib.hid (hown.alloc (.cells #[.int .i64 p, .int .i64 l, .int .i64 f, .int .i64 t] 50))
          have HC := Lib.hid hc
          have Ep := Lib.hid ep
          have El := Lib.hid el
          have Ef := Lib.hid ef
          clear hc hcip ep el ef et hb hown
          go_wp2_with fail
          go_loopw [6, 28] (fun o s wq => ∃ j : Nat, j ≤ n ∧ s = .int .i64 j ∧ wq.ownsRow w.heap.size 3 1 o (hoIn n xs q k j).length (ints (hoIn n xs q k j)) ∧ Blk wq wo.heap.size 50 #[.int .i64 p, .int .i64 l, .int .i64 f, .int .i64 t] ∧ Below w.heap.size w wq) (fun _ s _ => n - (intOf s).toNat)
          case atStart => exact ⟨0, Nat.zero_le _, rfl, by rw [hoIn_zero]; exact HO.out, K.out, HB.out⟩
          case round =>
            clear K HB HO c0 c1 c2 c3
            obtain ⟨j, hj, rfl, hown, hkk, hb⟩ := hrel
            by_cases hlj : j < n
            · have hc := HC.out
              have hcip2 := hc j (by omega)
              obtain ⟨p2, ep2⟩ : ∃ a, cP xs j = a := ⟨_, rfl⟩
              obtain ⟨l2, el2⟩ : ∃ a, cL xs j = a := ⟨_, rfl⟩
              obtain ⟨f2, ef2⟩ : ∃ a, cF xs j = a := ⟨_, rfl⟩
              obtain ⟨t2, et2⟩ : ∃ a, cT xs j = a := ⟨_, rfl⟩
              rw [ep2, el2, ef2, et2] at hcip2
              have e0 := (hb.cell (p := ⟨b, off + j * 4, none⟩) (Nat.lt_of_lt_of_le hbB hB)).trans hcip2.1
              have e1 := (hb.cell (p := ⟨b, off + j * 4 + 1, none⟩) (Nat.lt_of_lt_of_le hbB hB)).trans hcip2.2.1
              have e2 := (hb.cell (p := ⟨b, off + j * 4 + 2, none⟩) (Nat.lt_of_lt_of_le hbB hB)).trans hcip2.2.2.1
              have e3 := (hb.cell (p := ⟨b, off + j * 4 + 3, none⟩) (Nat.lt_of_lt_of_le hbB hB)).trans hcip2.2.2.2
              have j0 : (0 : Int) ≤ (j : Int) := by omega
              have j1 : (j : Int) < (n : Int) := by omega
              have hpr : hoPr xs q k j = (l2 == q && t2 == f && p2 != p) := by rw [← ep2, ← el2, ← et2, ← Ep.out, ← Ef.out]; rfl
              have HPr := Lib.hid hpr
              obtain ⟨a0, a1, a2, a3⟩ := hkk.c4
              have b0 := cell_new a0 (.cells #[.int .i64 p2, .int .i64 l2, .int .i64 f2, .int .i64 t2] 50)
              have b1 := cell_new a1 (.cells #[.int .i64 p2, .int .i64 l2, .int .i64 f2, .int .i64 t2] 50)
              have b2 := cell_new a2 (.cells #[.int .i64 p2, .int .i64 l2, .int .i64 f2, .int .i64 t2] 50)
              have b3 := cell_new a3 (.cells #[.int .i64 p2, .int .i64 l2, .int .i64 f2, .int .i64 t2] 50)
              have hne : wo.heap.size < wr.heap.size := hkk.lt
              have K3 := Lib.hid (hkk.alloc (.cells #[.int .i64 p2, .int .i64 l2, .int .i64 f2, .int .i64 t2] 50))
              have HB3 := Lib.hid (below_new hb (.cells #[.int .i64 p2, .int .i64 l2, .int .i64 f2, .int .i64 t2] 50))
              have HO3 := Lib.hid (hown.alloc (.cells #[.int .i64 p2, .int .i64 l2, .int .i64 f2, .int .i64 t2] 50))
              have hw : w.heap.size ≤ wr.heap.size := hb.size
              clear hc hcip2 ep2 el2 ef2 et2 hkk hb hown hpr
              cases hl : (l == q) with
              | false =>
                have HS := Lib.hid (hoIn_no (n := n) (xs := xs) (load := q) (c := k) (d := j) (by rw [El.out, hl]; rfl))
                go_wp2_with fail
                go_roundw
                case rel =>
                  first
                  | exact ⟨j + 1, by omega, by go_num, by rw [HS.out]; exact HO3.out, K3.out, HB3.out⟩
                  | ((repeat apply Exists.intro); exact ⟨⟨j + 1, by omega, rfl, by rw [HS.out]; exact HO3.out, K3.out, HB3.out⟩, rfl⟩)
                case measure => simp [intOf]; omega
              | true =>
                cases hl2 : (l2 == q) with
                | false =>
                  have HS := Lib.hid (hoIn_no (n := n) (xs := xs) (load := q) (c := k) (d := j) (by rw [HPr.out, hl2]; simp))
                  go_wp2_with fail
                  go_roundw
                  case rel =>
                    first
                    | exact ⟨j + 1, by omega, by go_num, by rw [HS.out]; exact HO3.out, K3.out, HB3.out⟩
                    | ((repeat apply Exists.intro); exact ⟨⟨j + 1, by omega, rfl, by rw [HS.out]; exact HO3.out, K3.out, HB3.out⟩, rfl⟩)
                  case measure => simp [intOf]; omega
                | true =>
                  cases ht2 : (t2 == f) with
                  | false =>
                    have HS := Lib.hid (hoIn_no (n := n) (xs := xs) (load := q) (c := k) (d := j) (by rw [HPr.out, ht2]; simp))
                    go_wp2_with fail
                    go_roundw
                    case rel =>
                      first
                      | exact ⟨j + 1, by omega, by go_num, by rw [HS.out]; exact HO3.out, K3.out, HB3.out⟩
                      | ((repeat apply Exists.intro); exact ⟨⟨j + 1, by omega, rfl, by rw [HS.out]; exact HO3.out, K3.out, HB3.out⟩, rfl⟩)
                    case measure => simp [intOf]; omega
                  | true =>
                    cases hp2 : (p2 != p) with
                    | false =>
                      have HS := Lib.hid (hoIn_no (n := n) (xs := xs) (load := q) (c := k) (d := j) (by rw [HPr.out, hp2]; simp))
                      go_wp2_with fail
                      go_roundw
                      case rel =>
                        first
                        | exact ⟨j + 1, by omega, by go_num, by rw [HS.out]; exact HO3.out, K3.out, HB3.out⟩
                        | ((repeat apply Exists.intro); exact ⟨⟨j + 1, by omega, rfl, by rw [HS.out]; exact HO3.out, K3.out, HB3.out⟩, rfl⟩)
                      case measure => simp [intOf]; omega
                    | true =>
                      have hy := hoIn_yes HG.out hlj (show (cL xs k == q) = true by rw [El.out, hl]) (HPr.out.trans (by rw [hl2, ht2, hp2]; rfl))
                      have hlen := hoTo_len n xs q k
                      rw [hy.1] at HO3
                      have HY := Lib.hid (show hoIn n xs q k (j + 1) = hoTo n xs q k ++ [f] by rw [hy.2, Ef.out])
                      have HO4 := Lib.hid (HO3.out.alloc (.cells #[.int .i64 f] 3))
                      have HB4 := Lib.hid (below_new HB3.out (.cells #[.int .i64 f] 3))
                      have K4 := Lib.hid (K3.out.alloc (.cells #[.int .i64 f] 3))
                      have n0 := (Blk.new2 wr (.cells #[.int .i64 p2, .int .i64 l2, .int .i64 f2, .int .i64 t2] 50) 3 #[.int .i64 f]).c1
                      clear hy
                      go_wp2_with (at_builtin; refine app_int rfl _ _ rfl w.heap.size _ _ _ rfl HO4.out (wr.heap.size + 1) f rfl n0 (by omega) (by simp; omega) ?_; intro v' w3 ho3 hg3)
                      have hb3 : Below w.heap.size w w3 := HB4.out.grown hg3 (by simp; omega) (fun g hg => (HO4.out.lt g hg).1)
                      have K5 := Lib.hid (K4.out.grown hg3 (fun e => own_blk_ne HO4.out K4.out (by decide) e.symm))
                      have HO5 := Lib.hid (show w3.ownsRow w.heap.size 3 1 v' (hoIn n xs q k (j + 1)).length (ints (hoIn n xs q k (j + 1))) by rw [HY.out, List.length_append]; exact ho3)
                      have HB5 := Lib.hid hb3
                      clear ho3 hb3 hg3 n0 a0 a1 a2 a3 b0 b1 b2 b3
                      go_wp2_with fail
                      go_roundw
                      case rel =>
                        first
                        | exact ⟨j + 1, by omega, by go_num, HO5.out, K5.out, HB5.out⟩
                        | ((repeat apply Exists.intro); exact ⟨⟨j + 1, by omega, rfl, HO5.out, K5.out, HB5.out⟩, rfl⟩)
                      case measure => simp [intOf]; omega
            · obtain rfl : j = n := by omega
              have HB := Lib.hid hb
              have HO := Lib.hid hown
              clear hb hkk hown
              go_wp2_with fail
              go_roundw
              case rel =>
                first
                | exact ⟨k + 1, by omega, by go_num, by rw [← hoIn_all]; exact HO.out, HB.out⟩
                | ((repeat apply Exists.intro); exact ⟨⟨k + 1, by omega, rfl, by rw [← hoIn_all]; exact HO.out, HB.out⟩, rfl⟩)
              case measure => simp [intOf]; omega
        · obtain rfl : k = n := by omega
          have HB := Lib.hid hb
          have HO := Lib.hid hown
          clear hb hown
          go_wp2_with fail
          go_ret2
          rw [hf.out.1, hf.out.2.1, hf.out.2.2]
          exact ⟨_, rfl, HO.out, HB.out⟩
end Go.Proofs.YtamehlafmfmgmaaDoor
