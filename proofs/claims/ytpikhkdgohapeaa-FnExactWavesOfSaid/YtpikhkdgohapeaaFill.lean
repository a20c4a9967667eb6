/- A contract of the program's search for waves. Conditions: at most twelve sets of numbers below twelve, and an owned slice for the waves. -/
import Derived.Test.YtpikhkdgohapeaaSetsFn
import Derived.Test.YtpikhkdgohapeaaWavesFn
import Derived.Test.YtpikhkdgohapeaaBits
import Derived.Test.YtpikhkdgohapeaaIntApp
import Derived.Test.YtpikhkdgohapeaaCounts
namespace Go.Proofs.Ytpikhkdgohapeaa
open Go.RowKit

theorem find_hit {F : Nat → Option (List Nat)} {w : Nat} {r : List Nat} (h : ∀ j, j < w → F j = none) (hr : F w = some r) : ∀ {m}, w < m → (List.range m).findSome? F = some r
  | 0, hw => by omega
  | m + 1, hw => by
    rw [List.range_succ, List.findSome?_append]
    by_cases e : w = m
    · subst e
      rw [show (List.range w).findSome? F = none from by
        rw [List.findSome?_eq_none_iff]
        intro x hx
        exact h x (by simpa using hx)]
      simp [hr]
    · rw [find_hit h hr (by omega)]; rfl
theorem find_miss {F : Nat → Option (List Nat)} {m : Nat} (h : ∀ j, j < m → F j = none) : (List.range m).findSome? F = none := by
  rw [List.findSome?_eq_none_iff]
  intro x hx
  exact h x (by simpa using hx)
/-- The first j performers leave wave w free. -/
def wfTo (q : Nat → Nat → Bool) (h : List Nat) (w : Nat) : Nat → Bool
  | 0 => true
  | j + 1 => wfTo q h w j && !(h.getD j 0 == w && q h.length j)
theorem wfTo_all (q : Nat → Nat → Bool) (h : List Nat) (w : Nat) : wfTo q h w h.length = wFree q h w := by
  have : ∀ j, wfTo q h w j = (List.range j).all fun j => !(h.getD j 0 == w && q h.length j) := by
    intro j
    induction j with
    | zero => rfl
    | succ j ih => rw [wfTo, ih, List.range_succ, List.all_append]; simp
  exact this _
theorem eq_nats {xs : List Int} {h : List Nat} (hl : xs.length = h.length) (he : ∀ j, j < h.length → xs.getD j 0 = ((h.getD j 0 : Nat) : Int)) : xs = nats h := by
  apply List.ext_getElem?
  intro j
  by_cases hj : j < h.length
  · have := he j hj
    rw [← nats_get, List.getD_eq_getElem?_getD, List.getD_eq_getElem?_getD] at this
    rw [List.getElem?_eq_getElem (by omega), List.getElem?_eq_getElem (by rw [nats_length]; exact hj)] at this ⊢
    simpa using this
  · rw [List.getElem?_eq_none (by omega), List.getElem?_eq_none (by rw [nats_length]; omega)]
theorem getD_put {xs : List Int} {i : Nat} {x : Int} (hi : i < xs.length) (j : Nat) : (xs.set i x).getD j 0 = if j = i then x else xs.getD j 0 := by
  simp only [List.getD_eq_getElem?_getD, List.getElem?_set]
  by_cases h : i = j
  · subst h; simp [hi]
  · simp [h, Ne.symm h]
theorem getD_snoc (h : List Nat) (w j : Nat) : (h ++ [w]).getD j 0 = if j < h.length then h.getD j 0 else if j = h.length then w else 0 := getD_app h w j
/-- What the search leaves. -/
def wfDone (o : Option (List Nat)) (h : List Nat) (ys : List Int) : Prop := match o with
  | some r => ys = nats r
  | none => ∀ j, j < h.length → ys.getD j 0 = ((h.getD j 0 : Nat) : Int)
set_option maxRecDepth 100000 in
set_option maxHeartbeats 4000000 in
theorem fillWaves_any (l : List Int) (n m : Nat) (hl : maskIn l) (hlen : l.length = n) (hn : n ≤ 12) (hm : m ≤ 12) : ∀ k i, i + k = n → ∀ (h : List Nat) (xs : List Int) (bs os cv g c lo : Nat) (w : World), h.length = i → (∀ j, j < n → w.cell? ⟨bs, os + j, none⟩ = some (.int .i64 (l.getD j 0))) → bs < w.heap.size → bs ≠ g →
    w.ownsRow lo 3 1 (.slice (some ⟨g, 0, none⟩) n c) n (ints xs) → (∀ j, j < i → xs.getD j 0 = ((h.getD j 0 : Nat) : Int)) →
    Calls Try.prog 87 #[.slice (some ⟨bs, os, none⟩) n cv, .slice (some ⟨g, 0, none⟩) n c, .int .i64 (i : Int), .int .i64 (m : Int)] w fun e w' => ∃ ys, e = .returned (.bool (fwF (qS l) m k h).isSome) ∧ w'.ownsRow lo 3 1 (.slice (some ⟨g, 0, none⟩) n c) n (ints ys) ∧ wfDone (fwF (qS l) m k h) h ys ∧ Only g (g + 1) w w' := by
  intro k
  induction k with
  | zero =>
    intro i hi h xs bs os cv g c lo w hh hcs hbs hne0 hown hp
    obtain rfl : i = n := by omega
    have hxl : xs.length = i := by have := hown.1; rw [ints_length] at this; omega
    have HD := Lib.hid (show wfDone (fwF (qS l) m 0 h) h xs from eq_nats (by omega) (fun j hj => hp j (by omega)))
    have HO := Lib.hid hown
    have HE := Lib.hid (show (fwF (qS l) m 0 h).isSome = true from rfl)
    clear hcs hp hown hl
    go_enter Try.func87, Try.ntmps87
    go_wp2_with fail
    go_ret
    exact ⟨xs, by rw [HE.out]; rfl, HO.out, HD.out, Only.refl _ _ _⟩
  | succ k ihk =>
    intro i hi h xs bs os cv g c lo w hh hcs hbs hne0 hown hp
    have hin : i < n := by omega
    have HIH := Lib.hid ihk
    have HCS := Lib.hid (fun W (ho : Only g (g + 1) w W) (j : Nat) (hj : j < n) => (World.cell?_of_block (a := ⟨bs, os + j, none⟩) (ho.block bs hbs (by omega))).trans (hcs j hj))
    have hS := hl i
    obtain ⟨S, eS⟩ : ∃ S : Nat, l.getD i 0 = (S : Int) := Int.eq_ofNat_of_zero_le hS.1
    have hSl : S < 4096 := by rw [eS] at hS; omega
    have HSQ := Lib.hid (fun j => (show qS l i j = S.testBit j by unfold qS; rw [eS]; rfl))
    have HBT := Lib.hid (fun j => bit_at2 S j (by omega))
    have hci := hcs i hin
    rw [eS] at hci
    have HCI := Lib.hid (fun W (ho : Only g (g + 1) w W) => (World.cell?_of_block (a := ⟨bs, os + i, none⟩) (ho.block bs hbs (by omega))).trans hci)
    have HF := Lib.hid (show fwF (qS l) m (k + 1) h = (List.range m).findSome? fun w => if wFree (qS l) h w = true then fwF (qS l) m k (h ++ [w]) else none from rfl)
    have HWA := Lib.hid (fun a => wfTo_all (qS l) h a)
    have HOW := Lib.hid hown
    have HPX := Lib.hid hp
    have i0 : (0 : Int) ≤ (i : Int) := by omega
    have i1 : (i : Int) < (n : Int) := by omega
    have i2 : ((i : Int) == (n : Int)) = false := by simp; omega
    have i3 : ¬ (i : Int) = (n : Int) := by omega
    clear ihk hcs hci hS eS hl hown hp
    go_enter Try.func87, Try.ntmps87
    go_wp2_with fail
    go_loopw [9] (fun s wr => ∃ (a : Nat) (ys : List Int), a ≤ m ∧ s = .int .i64 a ∧ (∀ j, j < a → (if wFree (qS l) h j = true then fwF (qS l) m k (h ++ [j]) else none) = none) ∧ wr.ownsRow lo 3 1 (.slice (some ⟨g, 0, none⟩) n c) n (ints ys) ∧ (∀ j, j < i → ys.getD j 0 = ((h.getD j 0 : Nat) : Int)) ∧ Only g (g + 1) w wr) (fun s _ => m - (intOf s).toNat)
    case atStart => exact ⟨0, xs, Nat.zero_le _, rfl, fun j hj => absurd hj (by omega), HOW.out, HPX.out, Only.refl _ _ _⟩
    case round =>
      clear HOW HPX
      obtain ⟨a, ys, ha, rfl, hno, hown, hp, honly⟩ := hrel
      obtain ⟨wo, rfl⟩ : ∃ wo : World, wo = wr := ⟨_, rfl⟩
      have HNO := Lib.hid hno
      have HP := Lib.hid hp
      have HO := Lib.hid hown
      have HON := Lib.hid honly
      clear hno hp hown honly
      by_cases hlt : a < m
      · have a0 : (a : Int) < (m : Int) := by omega
        have hyl : ys.length = n := by have := HO.out.1; rw [ints_length] at this; omega
        go_wp2_with fail
        go_loopw [10, 11] (fun fr s wq => ∃ j : Nat, j ≤ i ∧ s = .int .i64 j ∧ fr = .bool (wfTo (qS l) h a j) ∧ wq = wo) (fun _ s _ => i - (intOf s).toNat)
        case atStart => exact ⟨0, Nat.zero_le _, rfl, rfl, rfl⟩
        case round =>
          obtain ⟨j, hj, rfl, rfl, rfl⟩ := hrel
          by_cases hji : j < i
          · have j0 : (0 : Int) ≤ (j : Int) := by omega
            have j1 : (j : Int) < (i : Int) := by omega
            have j2 : (j : Int) < (n : Int) := by omega
            have x0 : wr.cell? ⟨g, j, none⟩ = some (.int .i64 ((h.getD j 0 : Nat) : Int)) := by rw [← HP.out j hji]; exact (HO.out.cellAt j (by omega)).trans (ints_get _ _ (by omega))
            have s0 := HCI.out wr HON.out
            have hst : wfTo (qS l) h a (j + 1) = (wfTo (qS l) h a j && !(h.getD j 0 == a && S.testBit j)) := by rw [wfTo, hh, HSQ.out]
            obtain ⟨x, ex⟩ : ∃ x, h.getD j 0 = x := ⟨_, rfl⟩
            rw [ex] at x0 hst
            have bt := HBT.out j
            obtain ⟨fr, efr⟩ : ∃ f, wfTo (qS l) h a j = f := ⟨_, rfl⟩
            rw [efr] at hst ⊢
            clear ex efr
            cases fr with
            | false =>
              have HST := Lib.hid (show wfTo (qS l) h a (j + 1) = false by rw [hst]; rfl)
              clear hst bt
              go_wp2_with fail
              go_roundw
              case rel => exact ⟨j + 1, by omega, by go_num, by rw [HST.out], trivial⟩
              case measure => simp [intOf]; omega
            | true =>
              by_cases hxa : x = a
              · subst hxa
                have hne : ((x : Int) != (x : Int)) = false := by simp
                cases hb : S.testBit j with
                | false =>
                  rw [show bitI S j = 0 by unfold bitI; rw [hb]; rfl] at bt
                  have HST := Lib.hid (show wfTo (qS l) h x (j + 1) = true by rw [hst, hb]; simp)
                  clear hst hb
                  go_wp2_with fail
                  go_roundw
                  case rel => exact ⟨j + 1, by omega, by go_num, by rw [HST.out], trivial⟩
                  case measure => simp [intOf]; omega
                | true =>
                  rw [show bitI S j = 1 by unfold bitI; rw [hb]; rfl] at bt
                  have HST := Lib.hid (show wfTo (qS l) h x (j + 1) = false by rw [hst, hb]; simp)
                  clear hst hb
                  go_wp2_with fail
                  go_roundw
                  case rel => exact ⟨j + 1, by omega, by go_num, by rw [HST.out], trivial⟩
                  case measure => simp [intOf]; omega
              · have hne : ((x : Int) != (a : Int)) = true := by simp; omega
                have hne2 : ¬ (x : Int) = (a : Int) := by omega
                have HST := Lib.hid (show wfTo (qS l) h a (j + 1) = true by rw [hst]; simp [hxa])
                clear hst bt
                go_wp2_with fail
                go_roundw
                case rel => exact ⟨j + 1, by omega, by go_num, by rw [HST.out], trivial⟩
                case measure => simp [intOf]; omega
          · obtain rfl : j = i := by omega
            have hfr : wfTo (qS l) h a j = wFree (qS l) h a := by rw [← HWA.out a, hh]
            rw [hfr]
            have f0 : wr.frozen? ⟨g, j, none⟩ = false := HO.out.frozenAt j
            have x0 : wr.cell? ⟨g, j, none⟩ = some (.int .i64 (ys.getD j 0)) := (HO.out.cellAt j (by omega)).trans (ints_get _ _ (by omega))
            have hown2 := (HO.out.stored j (.int .i64 (a : Int))).1
            rw [ints_set] at hown2
            have HO2 := Lib.hid hown2
            have HON2 := Lib.hid (HON.out.trans (only_cell wr g j (.int .i64 (a : Int))))
            have hpre : ∀ t, t < j + 1 → (ys.set j (a : Int)).getD t 0 = (((h ++ [a]).getD t 0 : Nat) : Int) := by
              intro t ht
              rw [getD_put (by omega), getD_snoc, hh]
              by_cases e : t = j
              · subst e; simp
              · rw [if_neg e, if_pos (by omega)]; exact HP.out t (by omega)
            have HPRE := Lib.hid hpre
            obtain ⟨y, ey⟩ : ∃ y, ys.getD j 0 = y := ⟨_, rfl⟩
            rw [ey] at x0
            clear hown2 hpre hfr ey
            cases hfree : wFree (qS l) h a with
            | false =>
              have HNO2 := Lib.hid (show ∀ t, t < a + 1 → (if wFree (qS l) h t = true then fwF (qS l) m k (h ++ [t]) else none) = none from fun t ht => by
                rcases Nat.lt_succ_iff_lt_or_eq.1 ht with h1 | rfl
                · exact HNO.out t h1
                · rw [hfree]; rfl)
              have HP2 := Lib.hid (show ∀ t, t < j → (ys.set j (a : Int)).getD t 0 = ((h.getD t 0 : Nat) : Int) from fun t ht => by
                rw [HPRE.out t (by omega), getD_snoc, if_pos (by omega)])
              clear hfree
              go_wp2_with fail
              go_roundw
              case rel => exact ⟨a + 1, ys.set j (a : Int), by omega, by go_num, HNO2.out, HO2.out, HP2.out, HON2.out⟩
              case measure => simp [intOf]; omega
            | true =>
              have hc := HIH.out (j + 1) (by omega) (h ++ [a]) (ys.set j (a : Int)) bs os cv g c lo _ (by simp [hh]) (HCS.out _ HON2.out) (Nat.lt_of_lt_of_le hbs HON2.out.size) hne0 HO2.out HPRE.out
              rw [show ((j + 1 : Nat) : Int) = (j : Int) + 1 by omega] at hc
              have hwj := IntWalk.i64_in ((j : Int) + 1) (by omega)
              cases ho : fwF (qS l) m k (h ++ [a]) with
              | some r =>
                rw [ho] at hc
                have HC := Lib.hid hc
                have HX := Lib.hid (show fwF (qS l) m (k + 1) h = some r by
                  rw [HF.out]
                  exact find_hit HNO.out (by rw [hfree, if_pos rfl, ho]) hlt)
                clear hc ho hfree
                go_wp2_with fail
                refine HC.out.mono ?_
                rintro e w5 ⟨zs, rfl, o5, d5, n5⟩
                have HO5 := Lib.hid o5
                have HN5 := Lib.hid (HON2.out.trans n5)
                have HD5 := Lib.hid d5
                clear o5 n5 d5
                go_wp2_with fail
                go_ret
                exact ⟨zs, by rw [HX.out]; rfl, HO5.out, by rw [HX.out]; exact HD5.out, HN5.out⟩
              | none =>
                rw [ho] at hc
                have HC := Lib.hid hc
                have HNO2 := Lib.hid (show ∀ t, t < a + 1 → (if wFree (qS l) h t = true then fwF (qS l) m k (h ++ [t]) else none) = none from fun t ht => by
                  rcases Nat.lt_succ_iff_lt_or_eq.1 ht with h1 | rfl
                  · exact HNO.out t h1
                  · rw [hfree, if_pos rfl, ho])
                clear hc ho hfree
                go_wp2_with fail
                refine HC.out.mono ?_
                rintro e w5 ⟨zs, rfl, o5, d5, n5⟩
                have HO5 := Lib.hid o5
                have HN5 := Lib.hid (HON2.out.trans n5)
                have HP5 := Lib.hid (show ∀ t, t < j → zs.getD t 0 = ((h.getD t 0 : Nat) : Int) from fun t ht => by
                  have := d5 t (by simp [hh]; omega)
                  rw [this, getD_snoc, if_pos (by omega)])
                clear o5 n5 d5
                go_wp2_with fail
                go_roundw
                case rel => exact ⟨a + 1, zs, by omega, by go_num, HNO2.out, HO5.out, HP5.out, HN5.out⟩
                case measure => simp [intOf]; omega
      · obtain rfl : a = m := by omega
        have HX := Lib.hid (show fwF (qS l) a (k + 1) h = none by rw [HF.out]; exact find_miss HNO.out)
        go_wp2_with fail
        go_ret
        exact ⟨ys, by rw [HX.out]; rfl, HO.out, by rw [HX.out]; exact fun j hj => HP.out j (by omega), HON.out⟩
end Go.Proofs.Ytpikhkdgohapeaa
