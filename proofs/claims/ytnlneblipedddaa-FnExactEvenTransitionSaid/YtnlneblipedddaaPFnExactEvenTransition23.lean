/- A drawn matching. Condition: the source's bytes can be read. -/
import Derived.Test.YtnlneblipedddaaPFnExactEvenTransition18
import Derived.Test.YtnlneblipedddaaPFnExactEvenTransition09
namespace Go.Proofs.Ytnlneblipedddaa
open Go.RowKit

theorem wp_intpart {w : World} {o : Oper} {a : Act} {K : Act → World → Prop} {Q : Exit → Act → World → Prop} (s u : Operand)
    (ho : o.op = .call { callee := .builtin .append, args := #[s, u], argTypes := #[27, 27] })
    (lo : Nat) (v : Value) (n : Nat) (xs : List Int) (hs : a.eval s = v) (h : w.ownsRow lo 3 1 v n (ints xs)) (src : Value) (m : Nat) (ys : List Int)
    (hx : a.eval u = src) (hp : Part w 1 src m ys) (hn : n + m ≤ 1000000) (hbase : lo ≤ w.heap.size)
    (hK : ∀ v' w', w'.ownsRow lo 3 1 v' (n + m) (ints (xs ++ ys)) → w.grownBy w' v.ownBlock → K (a.put o.dst v') w') : Oper.wp Try.prog o a w K Q := by
  obtain ⟨i0, hi, hz0, hz1, hz2⟩ := info_parts intInfo
  obtain ⟨hl, ⟨rfl, rfl⟩ | ⟨ad, c, rfl, hc⟩⟩ := hp
  · obtain rfl : ys = [] := List.length_eq_zero_iff.1 (by omega)
    have hrun := run_append_owned_none (P := Try.prog) (w := w) lo 27 o.type 3 i0 1 Try.underlying27 hi v n (ints xs) h
    have := hK v w (by rw [List.append_nil]; exact h) ⟨rfl, rfl, rfl, Nat.le_refl _, fun _ _ _ => rfl⟩
    unfold Oper.wp
    simp [execOp, ho, resolve, invoke, builtin, hs, hx, hrun, Result.andThen]
    exact this
  · refine wp_append_own w s u 27 ho lo 3 i0 (.int .i64 0) 1 8 Try.underlying27 hi hz0 hz1 hz2 rfl (by decide) v n (ints xs) hs h ad m c (ints ys) hx (by rw [ints_length, hl]) (fun j x hj => ?_) (ints_one ys) (by unfold maxLen; omega) (by omega) hbase (fun v' w' h1 h2 _ => hK v' w' (by rw [ints_append]; exact h1) h2)
    have hj2 : j < m * 1 := by have := (List.getElem?_eq_some_iff.1 hj).1; rw [ints_length, hl] at this; exact this
    rw [ints_get ys j (by omega)] at hj
    rw [← Option.some.inj hj]
    exact hc j hj2
theorem step_intpart {w : World} {ops : Array Oper} {o : Oper} {a : Act} {K : Act → World → Prop} {Q : Exit → Act → World → Prop} {E : Prop} (hgd : o.guard = none) (s u : Operand)
    (ho : o.op = .call { callee := .builtin .append, args := #[s, u], argTypes := #[27, 27] })
    (lo : Nat) (v : Value) (n : Nat) (xs : List Int) (hs : a.eval s = v) (h : w.ownsRow lo 3 1 v n (ints xs)) (src : Value) (m : Nat) (ys : List Int)
    (hx : a.eval u = src) (hp : Part w 1 src m ys) (hn : n + m ≤ 1000000) (hbase : lo ≤ w.heap.size)
    (hK : ∀ v' w', w'.ownsRow lo 3 1 v' (n + m) (ints (xs ++ ys)) → w.grownBy w' v.ownBlock → K (a.put o.dst v') w') : if Region.wanted o (yielded ops a.tmps) = true then Oper.wp Try.prog o a w K Q else E := by
  have hw : Region.wanted o (yielded ops a.tmps) = true := by simp [Region.wanted, hgd]
  rw [if_pos hw]
  exact wp_intpart s u ho lo v n xs hs h src m ys hx hp hn hbase hK
theorem part_int1 {w : World} {g : Nat} {p : Int} (h : Blk w g 3 #[.int .i64 p]) : Part w 1 (.slice (some ⟨g, 0, none⟩) 1 1) 1 [p] := by
  refine ⟨rfl, .inr ⟨_, _, rfl, fun j hj => ?_⟩⟩
  rw [addAt, Nat.zero_add, h.cell]
  match j, hj with
  | 0, _ => rfl
theorem own_take {w : World} {lo k b c z : Nat} {xs : List Int} (h : w.ownsRow lo 3 1 (.slice (some ⟨b, 0, none⟩) k c) k (ints xs)) (hz : z ≤ k) : w.ownsRow lo 3 1 (.slice (some ⟨b, 0, none⟩) z c) z (ints (xs.take z)) := by
  have hl : xs.length = k := by have := h.1; rw [ints_length] at this; omega
  refine ⟨by rw [ints_length, List.length_take]; omega, ?_⟩
  rcases h.2 with ⟨hv, _⟩ | ⟨g, cap, cur, hv, hb, hg, hc, hm, hs, ht⟩
  · simp at hv
  · simp only [Value.slice.injEq, Option.some.injEq, Addr.mk.injEq, true_and] at hv
    obtain ⟨⟨rfl, _⟩, rfl⟩ := hv
    refine .inr ⟨b, c, cur, rfl, hb, hg, by omega, hm, hs, ?_⟩
    have h2 := congrArg (List.take z) ht
    rw [List.take_take] at h2
    rw [show z * 1 = min z (k * 1) by omega, h2]
    simp [ints, List.map_take]
theorem part_drop {w W : World} {lo B k b c z : Nat} {xs : List Int} (h : w.ownsRow lo 3 1 (.slice (some ⟨b, 0, none⟩) k c) k (ints xs)) (hb : Below B w W) (hbB : b < B) (hz : z ≤ k) : Part W 1 (.slice (some ⟨b, z, none⟩) (k - z) (c - z)) (k - z) (xs.drop z) := by
  have hl : xs.length = k := by have := h.1; rw [ints_length] at this; omega
  refine ⟨by rw [List.length_drop]; omega, .inr ⟨_, _, rfl, fun j hj => ?_⟩⟩
  rw [addAt]
  refine (hb.cell (p := ⟨b, z + j, none⟩) hbB).trans ((h.cellAt (z + j) (by omega)).trans ((ints_get xs (z + j) (by omega)).trans ?_))
  simp [List.getD_eq_getElem?_getD, List.getElem?_drop]
section
variable {a W W' : World} {B g N k : Nat} {u : Value} {xs : List Int}
theorem Ln.below (h : Ln a B g N W u k xs) (hb : Below W.heap.size W W') : Ln a B g N W' u k xs :=
  ⟨own_below h.own hb (Nat.le_refl _), h.cur.grown (row := none) ⟨hb.os, hb.tape, hb.output, hb.size, fun i hi _ => hb.block i hi⟩ (fun k hk => by cases hk), grow_trans h.only ⟨hb.os, hb.tape, hb.output, hb.size, fun i hi _ => hb.block i hi⟩⟩
theorem Ln.store {bl c i : Nat} {v : Int} (h : Ln a B g N W (.slice (some ⟨bl, 0, none⟩) k c) k xs) (hlt : g < a.heap.size) : Ln a B g N (W.setCell ⟨bl, i, none⟩ (.int .i64 v)) (.slice (some ⟨bl, 0, none⟩) k c) k (xs.set i v) := by
  have hs := h.own.stored i (.int .i64 v)
  have hb := (h.own.lt bl rfl).1
  exact ⟨by have := hs.1; rwa [ints_set] at this, h.cur.setCell (p := ⟨bl, i, none⟩) (by show g < bl; omega) _, only_set (p := ⟨bl, i, none⟩) h.only hb _⟩
end
set_option maxRecDepth 100000 in
set_option maxHeartbeats 4000000 in
theorem matching_any (B g N n : Nat) (hn : n ≤ 13) (w : World) (h : Cur w B g N) (hN : N ≤ 1000000) : Calls Try.prog 78 #[.pointer (some ⟨g, 0, none⟩), .int .i64 n] w fun e w' => ∃ (u : Value) (ps : List Int), e = .returned u ∧ Ln w B g (N + 100) w' u n ps := by
  have hlt := h.lt
  have L0 := Lib.hid (Ln.start h)
  clear h
  go_enter Try.func78, Try.ntmps78
  go_wp2_with fail
  go_loopw [5, 6] (fun u i wr => ∃ (k : Nat) (xs : List Int), k ≤ n ∧ i = .int .i64 k ∧ Ln w B g (N + 2 * k) wr u k xs) (fun _ i _ => n - (intOf i).toNat)
  case atStart => exact ⟨0, [], by omega, rfl, L0.out.le (by omega)⟩
  case round =>
    clear L0
    obtain ⟨k, xs, hk, rfl, hl⟩ := hrel
    obtain ⟨A, c, rfl⟩ := hl.form
    have L := Lib.hid hl
    clear hl
    by_cases hlk : k < n
    · have i1 := IntWalk.i64_in ((k : Int) + 1) (by omega)
      go_wp2_with fail
      refine (pick_any B g (N + 2 * k) ((k : Int) + 1) _ L.out.cur (by omega) (by omega)).mono ?_
      rintro e wx ⟨zq, zq0, zq1, rfl, hc, hg⟩
      have LX := Lib.hid (L.out.ask hlt hc hg)
      clear hc hg L
      obtain ⟨z, rfl⟩ := Int.eq_ofNat_of_zero_le zq0
      have hz : z ≤ k := by unfold pickHi at zq1; split at zq1 <;> omega
      have z0 : (0 : Int) ≤ (z : Int) := by omega
      have z1 : (z : Int) ≤ (k : Int) := by omega
      have hcap : k ≤ c := own_cap LX.out.own _ _ _ rfl
      clear zq1 zq0
      go_wp2_with fail
      have hzc : z ≤ c := by omega
      have hzc2 : ¬ c < z := by omega
      have hzk2 : ¬ k < z := by omega
      have hkc2 : ¬ c < k := by omega
      have z2 : (z : Int) ≤ (c : Int) := by omega
      rcases LX.out.own.2 with ⟨hv, -⟩ | ⟨bl, cap, cur, hv, -⟩
      · simp only [Value.slice.injEq] at hv
        obtain ⟨rfl, rfl, rfl⟩ := hv
        obtain rfl : z = 0 := by omega
        obtain ⟨Wx, eWx⟩ : ∃ W, wx = W := ⟨_, rfl⟩
        rw [eWx] at LX ⊢
        clear eWx
        have PT := Lib.hid (show Wx.ownsRow w.heap.size 3 1 (.slice none 0 0) 0 (ints (xs.take 0)) from World.ownsRow_nil _ _ _ _)
        have PD := Lib.hid (fun (W : World) (hb : Below Wx.heap.size Wx W) => (show Part W 1 (.slice none 0 0) (0 - 0) (xs.drop 0) from ⟨by have := LX.out.len; simp [this], .inl ⟨rfl, rfl⟩⟩))
        refine wp_region_held_drew (S := fun _ => True) (by kernel_rfl) trivial (fun hHeld => ?_)
        have HBx := Lib.hid (below_drewN (Below.refl Wx.heap.size Wx) 1)
        refine take_at (i := 0) (oi := _) 18 (v := .slice none 0 0) rfl rfl (by kernel_rfl) (by kernel_rfl) (by kernel_rfl) (fun _ _ _ h => h) (Or.inl ⟨by rfl, ?_⟩) hHeld ?_
        · (intro w hSw; (try dsimp only at hSw); go_split_ands; go_simp)
        simp only [List.setIfInBounds_toArray, List.set_cons_zero, List.set_cons_succ]
        refine take_at (i := 1) (oi := _) 19 (v := .int .i64 ((0 : Nat) : Int)) rfl rfl (by kernel_rfl) (by kernel_rfl) (by kernel_rfl) (fun _ _ _ h => h) (Or.inl ⟨by rfl, ?_⟩) hHeld ?_
        · (intro w hSw; (try dsimp only at hSw); go_split_ands; go_simp)
        simp only [List.setIfInBounds_toArray, List.set_cons_zero, List.set_cons_succ]
        refine take_at (i := 2) (oi := _) 20 (v := .slice none 0 0) rfl rfl (by kernel_rfl) (by kernel_rfl) (by kernel_rfl) (fun _ _ _ h => h) (Or.inl ⟨by rfl, ?_⟩) hHeld ?_
        · (intro w hSw; (try dsimp only at hSw); go_split_ands; go_simp)
        simp only [List.setIfInBounds_toArray, List.set_cons_zero, List.set_cons_succ]
        refine take_at (i := 4) (oi := _) 22 (v := .int .i64 ((0 : Nat) : Int)) rfl rfl (by kernel_rfl) (by kernel_rfl) (by kernel_rfl) (fun _ _ _ h => h) (Or.inl ⟨by rfl, ?_⟩) hHeld ?_
        · (intro w hSw; (try dsimp only at hSw); go_split_ands; go_simp)
        simp only [List.setIfInBounds_toArray, List.set_cons_zero, List.set_cons_succ]
        refine take_at (i := 7) (oi := _) 25 (v := .slice none 0 0) rfl rfl (by kernel_rfl) (by kernel_rfl) (by kernel_rfl) (fun _ _ _ h => h) (Or.inl ⟨by rfl, ?_⟩) hHeld ?_
        · (intro w hSw; (try dsimp only at hSw); go_split_ands; go_simp)
        simp only [List.setIfInBounds_toArray, List.set_cons_zero, List.set_cons_succ]
        refine take_at (i := 8) (oi := _) 26 (v := .int .i64 ((0 : Nat) : Int)) rfl rfl (by kernel_rfl) (by kernel_rfl) (by kernel_rfl) (fun _ _ _ h => h) (Or.inl ⟨by rfl, ?_⟩) hHeld ?_
        · (intro w hSw; (try dsimp only at hSw); go_split_ands; go_simp)
        simp only [List.setIfInBounds_toArray, List.set_cons_zero, List.set_cons_succ]
        refine take_at (i := 9) (oi := _) 27 (v := .slice none 0 0) rfl rfl (by kernel_rfl) (by kernel_rfl) (by kernel_rfl) (fun _ _ _ h => h) (Or.inl ⟨by rfl, ?_⟩) hHeld ?_
        · (intro w hSw; (try dsimp only at hSw); go_split_ands; go_simp)
        simp only [List.setIfInBounds_toArray, List.set_cons_zero, List.set_cons_succ]
        refine wpAnyH_ready (rs := [3, 5]) (by kernel_rfl) (by simp) ?_
        refine AllReadyH.cons (o := _) rfl (fun K9 hK => ?_) (AllReadyH.cons (o := _) rfl (fun K9 hK => ?_) AllReadyH.nil)
        · go_simp
          refine (l1Own_any _ w.heap.size 0 (xs.take 0) _ (own_below PT.out HBx.out (Nat.le_refl _)) (by omega)).mono ?_
          rintro e w9 ⟨v9, rfl, ho9, hb9⟩
          have H0 := Lib.hid (own_base (base' := Wx.heap.size) ho9 HBx.out.size)
          replace HBx := Lib.hid (below_on HBx.out hb9)
          clear ho9 hb9
          refine hK.out _ _ trivial (fun hHeld => ?_)
          clear hK K9
          try simp only [Act.put, List.setIfInBounds_toArray, List.set_cons_zero, List.set_cons_succ]
          refine wpAnyH_ready (rs := [5]) (by kernel_rfl) (by simp) ?_
          refine AllReadyH.cons (o := _) rfl (fun K9 hK => ?_) AllReadyH.nil
          go_simp
          have K6 := Lib.hid (Blk.new w9 3 #[.int .i64 ((0 : Nat) : Int)])
          replace HBx := Lib.hid (below_new HBx.out (.cells #[.int .i64 ((0 : Nat) : Int)] 3))
          replace H0 := Lib.hid (H0.out.alloc (.cells #[.int .i64 ((0 : Nat) : Int)] 3))
          refine hK.out _ _ trivial (fun hHeld => ?_)
          clear hK K9
          try simp only [Act.put, List.setIfInBounds_toArray, List.set_cons_zero, List.set_cons_succ]
          refine wpAnyH_ready (rs := [6]) (by kernel_rfl) (by simp) ?_
          refine AllReadyH.cons (o := _) rfl (fun K9 hK => ?_) AllReadyH.nil
          refine step_intpart rfl _ _ rfl Wx.heap.size _ 0 (xs.take 0) rfl H0.out _ 1 [((0 : Nat) : Int)] rfl (part_int1 K6.out) (by omega) HBx.out.size ?_
          intro v10 w10 ho10 hg10
          have hb10 := (Own.of H0.out).frame HBx.out (Nat.le_refl _) HBx.out.size hg10
          replace HBx := Lib.hid hb10
          have H1 := Lib.hid ho10
          clear ho10 hg10 hb10
          go_simp
          refine hK.out _ _ trivial (fun hHeld => ?_)
          clear hK K9
          try simp only [Act.put, List.setIfInBounds_toArray, List.set_cons_zero, List.set_cons_succ]
          refine wpAnyH_ready (rs := [10]) (by kernel_rfl) (by simp) ?_
          refine AllReadyH.cons (o := _) rfl (fun K9 hK => ?_) AllReadyH.nil
          refine step_intpart rfl _ _ rfl Wx.heap.size _ (0 + 1) _ rfl H1.out _ (0 - 0) (xs.drop 0) rfl (PD.out _ HBx.out) (by omega) HBx.out.size ?_
          intro v11 w11 ho11 hg11
          have hb11 := (Own.of H1.out).frame HBx.out (Nat.le_refl _) HBx.out.size hg11
          replace HBx := Lib.hid hb11
          have H2 := Lib.hid (own_cast (m := 0 + 1) ho11 (by omega) rfl)
          clear ho11 hg11 hb11
          go_simp
          refine hK.out _ _ trivial (fun hHeld => ?_)
          clear hK K9
          try simp only [Act.put, List.setIfInBounds_toArray, List.set_cons_zero, List.set_cons_succ]
          refine wpAnyH_ready (rs := [11]) (by kernel_rfl) (by simp) ?_
          refine AllReadyH.cons (o := _) rfl (fun K9 hK => ?_) AllReadyH.nil
          go_simp
          refine hK.out _ _ trivial (fun hHeld => ?_)
          clear hK K9
          try simp only [Act.put, List.setIfInBounds_toArray, List.set_cons_zero, List.set_cons_succ]
          refine wpAnyH_done (by kernel_rfl) ?_ _
          clear hHeld
          have LE := Lib.hid (LX.out.below HBx.out)
          have LN : Hid (Ln w B g (N + 2 * 0 + 2) _ _ (0 + 1) _) := Lib.hid ⟨own_base H2.out LX.out.only.size, LE.out.cur, LE.out.only⟩
          go_wp2_with fail
          go_roundw
          case rel => exact ⟨0 + 1, _, by omega, by go_num, LN.out.le (by omega)⟩
          case measure => simp [intOf]; omega
        · go_simp
          have K6 := Lib.hid (Blk.new Wx.drew 3 #[.int .i64 ((0 : Nat) : Int)])
          replace HBx := Lib.hid (below_new HBx.out (.cells #[.int .i64 ((0 : Nat) : Int)] 3))
          refine hK.out _ _ trivial (fun hHeld => ?_)
          clear hK K9
          try simp only [Act.put, List.setIfInBounds_toArray, List.set_cons_zero, List.set_cons_succ]
          refine wpAnyH_ready (rs := [3]) (by kernel_rfl) (by simp) ?_
          refine AllReadyH.cons (o := _) rfl (fun K9 hK => ?_) AllReadyH.nil
          go_simp
          refine (l1Own_any _ w.heap.size 0 (xs.take 0) _ (own_below PT.out HBx.out (Nat.le_refl _)) (by omega)).mono ?_
          rintro e w9 ⟨v9, rfl, ho9, hb9⟩
          have H0 := Lib.hid (own_base (base' := Wx.heap.size) ho9 HBx.out.size)
          replace HBx := Lib.hid (below_on HBx.out hb9)
          replace K6 := Lib.hid (K6.out.on hb9)
          clear ho9 hb9
          refine hK.out _ _ trivial (fun hHeld => ?_)
          clear hK K9
          try simp only [Act.put, List.setIfInBounds_toArray, List.set_cons_zero, List.set_cons_succ]
          refine wpAnyH_ready (rs := [6]) (by kernel_rfl) (by simp) ?_
          refine AllReadyH.cons (o := _) rfl (fun K9 hK => ?_) AllReadyH.nil
          refine step_intpart rfl _ _ rfl Wx.heap.size _ 0 (xs.take 0) rfl H0.out _ 1 [((0 : Nat) : Int)] rfl (part_int1 K6.out) (by omega) HBx.out.size ?_
          intro v10 w10 ho10 hg10
          have hb10 := (Own.of H0.out).frame HBx.out (Nat.le_refl _) HBx.out.size hg10
          replace HBx := Lib.hid hb10
          have H1 := Lib.hid ho10
          clear ho10 hg10 hb10
          go_simp
          refine hK.out _ _ trivial (fun hHeld => ?_)
          clear hK K9
          try simp only [Act.put, List.setIfInBounds_toArray, List.set_cons_zero, List.set_cons_succ]
          refine wpAnyH_ready (rs := [10]) (by kernel_rfl) (by simp) ?_
          refine AllReadyH.cons (o := _) rfl (fun K9 hK => ?_) AllReadyH.nil
          refine step_intpart rfl _ _ rfl Wx.heap.size _ (0 + 1) _ rfl H1.out _ (0 - 0) (xs.drop 0) rfl (PD.out _ HBx.out) (by omega) HBx.out.size ?_
          intro v11 w11 ho11 hg11
          have hb11 := (Own.of H1.out).frame HBx.out (Nat.le_refl _) HBx.out.size hg11
          replace HBx := Lib.hid hb11
          have H2 := Lib.hid (own_cast (m := 0 + 1) ho11 (by omega) rfl)
          clear ho11 hg11 hb11
          go_simp
          refine hK.out _ _ trivial (fun hHeld => ?_)
          clear hK K9
          try simp only [Act.put, List.setIfInBounds_toArray, List.set_cons_zero, List.set_cons_succ]
          refine wpAnyH_ready (rs := [11]) (by kernel_rfl) (by simp) ?_
          refine AllReadyH.cons (o := _) rfl (fun K9 hK => ?_) AllReadyH.nil
          go_simp
          refine hK.out _ _ trivial (fun hHeld => ?_)
          clear hK K9
          try simp only [Act.put, List.setIfInBounds_toArray, List.set_cons_zero, List.set_cons_succ]
          refine wpAnyH_done (by kernel_rfl) ?_ _
          clear hHeld
          have LE := Lib.hid (LX.out.below HBx.out)
          have LN : Hid (Ln w B g (N + 2 * 0 + 2) _ _ (0 + 1) _) := Lib.hid ⟨own_base H2.out LX.out.only.size, LE.out.cur, LE.out.only⟩
          go_wp2_with fail
          go_roundw
          case rel => exact ⟨0 + 1, _, by omega, by go_num, LN.out.le (by omega)⟩
          case measure => simp [intOf]; omega
      · simp only [Value.slice.injEq, true_and] at hv
        obtain ⟨rfl, rfl⟩ := hv
        by_cases hcz : c = z
        · subst hcz
          obtain rfl : c = k := by omega
          obtain ⟨Wx, eWx⟩ : ∃ W, wx = W := ⟨_, rfl⟩
          rw [eWx] at LX ⊢
          clear eWx
          have PT := Lib.hid (own_take LX.out.own hz)
          have PD := Lib.hid (fun (W : World) (hb : Below Wx.heap.size Wx W) => (show Part W 1 (.slice (some ⟨bl, 0, none⟩) 0 0) (c - c) (xs.drop c) from ⟨by have := LX.out.len; simp [this], .inr ⟨_, 0, by rw [Nat.sub_self], fun j hj => absurd hj (by omega)⟩⟩))
          refine wp_region_held_drew (S := fun _ => True) (by kernel_rfl) trivial (fun hHeld => ?_)
          have HBx := Lib.hid (below_drewN (Below.refl Wx.heap.size Wx) 1)
          refine take_at (i := 0) (oi := _) 18 (v := .slice (some ⟨bl, 0, none⟩) c c) rfl rfl (by kernel_rfl) (by kernel_rfl) (by kernel_rfl) (fun _ _ _ h => h) (Or.inl ⟨by rfl, ?_⟩) hHeld ?_
          · (intro w hSw; (try dsimp only at hSw); go_split_ands; go_simp)
          simp only [List.setIfInBounds_toArray, List.set_cons_zero, List.set_cons_succ]
          refine take_at (i := 1) (oi := _) 19 (v := .int .i64 ((c : Nat) : Int)) rfl rfl (by kernel_rfl) (by kernel_rfl) (by kernel_rfl) (fun _ _ _ h => h) (Or.inl ⟨by rfl, ?_⟩) hHeld ?_
          · (intro w hSw; (try dsimp only at hSw); go_split_ands; go_simp)
          simp only [List.setIfInBounds_toArray, List.set_cons_zero, List.set_cons_succ]
          refine take_at (i := 2) (oi := _) 20 (v := .slice (some ⟨bl, 0, none⟩) c c) rfl rfl (by kernel_rfl) (by kernel_rfl) (by kernel_rfl) (fun _ _ _ h => h) (Or.inl ⟨by rfl, ?_⟩) hHeld ?_
          · (intro w hSw; (try dsimp only at hSw); go_split_ands; go_simp)
          simp only [List.setIfInBounds_toArray, List.set_cons_zero, List.set_cons_succ]
          refine take_at (i := 4) (oi := _) 22 (v := .int .i64 ((c : Nat) : Int)) rfl rfl (by kernel_rfl) (by kernel_rfl) (by kernel_rfl) (fun _ _ _ h => h) (Or.inl ⟨by rfl, ?_⟩) hHeld ?_
          · (intro w hSw; (try dsimp only at hSw); go_split_ands; go_simp)
          simp only [List.setIfInBounds_toArray, List.set_cons_zero, List.set_cons_succ]
          refine take_at (i := 7) (oi := _) 25 (v := .slice (some ⟨bl, 0, none⟩) c c) rfl rfl (by kernel_rfl) (by kernel_rfl) (by kernel_rfl) (fun _ _ _ h => h) (Or.inl ⟨by rfl, ?_⟩) hHeld ?_
          · (intro w hSw; (try dsimp only at hSw); go_split_ands; go_simp)
          simp only [List.setIfInBounds_toArray, List.set_cons_zero, List.set_cons_succ]
          refine take_at (i := 8) (oi := _) 26 (v := .int .i64 ((c : Nat) : Int)) rfl rfl (by kernel_rfl) (by kernel_rfl) (by kernel_rfl) (fun _ _ _ h => h) (Or.inl ⟨by rfl, ?_⟩) hHeld ?_
          · (intro w hSw; (try dsimp only at hSw); go_split_ands; go_simp)
          simp only [List.setIfInBounds_toArray, List.set_cons_zero, List.set_cons_succ]
          refine take_at (i := 9) (oi := _) 27 (v := .slice (some ⟨bl, 0, none⟩) 0 0) rfl rfl (by kernel_rfl) (by kernel_rfl) (by kernel_rfl) (fun _ _ _ h => h) (Or.inl ⟨by rfl, ?_⟩) hHeld ?_
          · (intro w hSw; (try dsimp only at hSw); go_split_ands; go_simp)
          simp only [List.setIfInBounds_toArray, List.set_cons_zero, List.set_cons_succ]
          refine wpAnyH_ready (rs := [3, 5]) (by kernel_rfl) (by simp) ?_
          refine AllReadyH.cons (o := _) rfl (fun K9 hK => ?_) (AllReadyH.cons (o := _) rfl (fun K9 hK => ?_) AllReadyH.nil)
          · go_simp
            refine (l1Own_any _ w.heap.size c (xs.take c) _ (own_below PT.out HBx.out (Nat.le_refl _)) (by omega)).mono ?_
            rintro e w9 ⟨v9, rfl, ho9, hb9⟩
            have H0 := Lib.hid (own_base (base' := Wx.heap.size) ho9 HBx.out.size)
            replace HBx := Lib.hid (below_on HBx.out hb9)
            clear ho9 hb9
            refine hK.out _ _ trivial (fun hHeld => ?_)
            clear hK K9
            try simp only [Act.put, List.setIfInBounds_toArray, List.set_cons_zero, List.set_cons_succ]
            refine wpAnyH_ready (rs := [5]) (by kernel_rfl) (by simp) ?_
            refine AllReadyH.cons (o := _) rfl (fun K9 hK => ?_) AllReadyH.nil
            go_simp
            have K6 := Lib.hid (Blk.new w9 3 #[.int .i64 ((c : Nat) : Int)])
            replace HBx := Lib.hid (below_new HBx.out (.cells #[.int .i64 ((c : Nat) : Int)] 3))
            replace H0 := Lib.hid (H0.out.alloc (.cells #[.int .i64 ((c : Nat) : Int)] 3))
            refine hK.out _ _ trivial (fun hHeld => ?_)
            clear hK K9
            try simp only [Act.put, List.setIfInBounds_toArray, List.set_cons_zero, List.set_cons_succ]
            refine wpAnyH_ready (rs := [6]) (by kernel_rfl) (by simp) ?_
            refine AllReadyH.cons (o := _) rfl (fun K9 hK => ?_) AllReadyH.nil
            refine step_intpart rfl _ _ rfl Wx.heap.size _ c (xs.take c) rfl H0.out _ 1 [((c : Nat) : Int)] rfl (part_int1 K6.out) (by omega) HBx.out.size ?_
            intro v10 w10 ho10 hg10
            have hb10 := (Own.of H0.out).frame HBx.out (Nat.le_refl _) HBx.out.size hg10
            replace HBx := Lib.hid hb10
            have H1 := Lib.hid ho10
            clear ho10 hg10 hb10
            go_simp
            refine hK.out _ _ trivial (fun hHeld => ?_)
            clear hK K9
            try simp only [Act.put, List.setIfInBounds_toArray, List.set_cons_zero, List.set_cons_succ]
            refine wpAnyH_ready (rs := [10]) (by kernel_rfl) (by simp) ?_
            refine AllReadyH.cons (o := _) rfl (fun K9 hK => ?_) AllReadyH.nil
            refine step_intpart rfl _ _ rfl Wx.heap.size _ (c + 1) _ rfl H1.out _ (c - c) (xs.drop c) rfl (PD.out _ HBx.out) (by omega) HBx.out.size ?_
            intro v11 w11 ho11 hg11
            have hb11 := (Own.of H1.out).frame HBx.out (Nat.le_refl _) HBx.out.size hg11
            replace HBx := Lib.hid hb11
            have H2 := Lib.hid (own_cast (m := c + 1) ho11 (by omega) rfl)
            clear ho11 hg11 hb11
            go_simp
            refine hK.out _ _ trivial (fun hHeld => ?_)
            clear hK K9
            try simp only [Act.put, List.setIfInBounds_toArray, List.set_cons_zero, List.set_cons_succ]
            refine wpAnyH_ready (rs := [11]) (by kernel_rfl) (by simp) ?_
            refine AllReadyH.cons (o := _) rfl (fun K9 hK => ?_) AllReadyH.nil
            go_simp
            refine hK.out _ _ trivial (fun hHeld => ?_)
            clear hK K9
            try simp only [Act.put, List.setIfInBounds_toArray, List.set_cons_zero, List.set_cons_succ]
            refine wpAnyH_done (by kernel_rfl) ?_ _
            clear hHeld
            have LE := Lib.hid (LX.out.below HBx.out)
            have LN : Hid (Ln w B g (N + 2 * c + 2) _ _ (c + 1) _) := Lib.hid ⟨own_base H2.out LX.out.only.size, LE.out.cur, LE.out.only⟩
            go_wp2_with fail
            go_roundw
            case rel => exact ⟨c + 1, _, by omega, by go_num, LN.out.le (by omega)⟩
            case measure => simp [intOf]; omega
          · go_simp
            have K6 := Lib.hid (Blk.new Wx.drew 3 #[.int .i64 ((c : Nat) : Int)])
            replace HBx := Lib.hid (below_new HBx.out (.cells #[.int .i64 ((c : Nat) : Int)] 3))
            refine hK.out _ _ trivial (fun hHeld => ?_)
            clear hK K9
            try simp only [Act.put, List.setIfInBounds_toArray, List.set_cons_zero, List.set_cons_succ]
            refine wpAnyH_ready (rs := [3]) (by kernel_rfl) (by simp) ?_
            refine AllReadyH.cons (o := _) rfl (fun K9 hK => ?_) AllReadyH.nil
            go_simp
            refine (l1Own_any _ w.heap.size c (xs.take c) _ (own_below PT.out HBx.out (Nat.le_refl _)) (by omega)).mono ?_
            rintro e w9 ⟨v9, rfl, ho9, hb9⟩
            have H0 := Lib.hid (own_base (base' := Wx.heap.size) ho9 HBx.out.size)
            replace HBx := Lib.hid (below_on HBx.out hb9)
            replace K6 := Lib.hid (K6.out.on hb9)
            clear ho9 hb9
            refine hK.out _ _ trivial (fun hHeld => ?_)
            clear hK K9
            try simp only [Act.put, List.setIfInBounds_toArray, List.set_cons_zero, List.set_cons_succ]
            refine wpAnyH_ready (rs := [6]) (by kernel_rfl) (by simp) ?_
            refine AllReadyH.cons (o := _) rfl (fun K9 hK => ?_) AllReadyH.nil
            refine step_intpart rfl _ _ rfl Wx.heap.size _ c (xs.take c) rfl H0.out _ 1 [((c : Nat) : Int)] rfl (part_int1 K6.out) (by omega) HBx.out.size ?_
            intro v10 w10 ho10 hg10
            have hb10 := (Own.of H0.out).frame HBx.out (Nat.le_refl _) HBx.out.size hg10
            replace HBx := Lib.hid hb10
            have H1 := Lib.hid ho10
            clear ho10 hg10 hb10
            go_simp
            refine hK.out _ _ trivial (fun hHeld => ?_)
            clear hK K9
            try simp only [Act.put, List.setIfInBounds_toArray, List.set_cons_zero, List.set_cons_succ]
            refine wpAnyH_ready (rs := [10]) (by kernel_rfl) (by simp) ?_
            refine AllReadyH.cons (o := _) rfl (fun K9 hK => ?_) AllReadyH.nil
            refine step_intpart rfl _ _ rfl Wx.heap.size _ (c + 1) _ rfl H1.out _ (c - c) (xs.drop c) rfl (PD.out _ HBx.out) (by omega) HBx.out.size ?_
            intro v11 w11 ho11 hg11
            have hb11 := (Own.of H1.out).frame HBx.out (Nat.le_refl _) HBx.out.size hg11
            replace HBx := Lib.hid hb11
            have H2 := Lib.hid (own_cast (m := c + 1) ho11 (by omega) rfl)
            clear ho11 hg11 hb11
            go_simp
            refine hK.out _ _ trivial (fun hHeld => ?_)
            clear hK K9
            try simp only [Act.put, List.setIfInBounds_toArray, List.set_cons_zero, List.set_cons_succ]
            refine wpAnyH_ready (rs := [11]) (by kernel_rfl) (by simp) ?_
            refine AllReadyH.cons (o := _) rfl (fun K9 hK => ?_) AllReadyH.nil
            go_simp
            refine hK.out _ _ trivial (fun hHeld => ?_)
            clear hK K9
            try simp only [Act.put, List.setIfInBounds_toArray, List.set_cons_zero, List.set_cons_succ]
            refine wpAnyH_done (by kernel_rfl) ?_ _
            clear hHeld
            have LE := Lib.hid (LX.out.below HBx.out)
            have LN : Hid (Ln w B g (N + 2 * c + 2) _ _ (c + 1) _) := Lib.hid ⟨own_base H2.out LX.out.only.size, LE.out.cur, LE.out.only⟩
            go_wp2_with fail
            go_roundw
            case rel => exact ⟨c + 1, _, by omega, by go_num, LN.out.le (by omega)⟩
            case measure => simp [intOf]; omega
        · have hcz2 : ¬ z = c := by omega
          obtain ⟨Wx, eWx⟩ : ∃ W, wx = W := ⟨_, rfl⟩
          rw [eWx] at LX ⊢
          clear eWx
          have PT := Lib.hid (own_take LX.out.own hz)
          have PD := Lib.hid (fun (W : World) (hb : Below Wx.heap.size Wx W) => part_drop LX.out.own hb (LX.out.own.lt bl rfl).2 hz)
          refine wp_region_held_drew (S := fun _ => True) (by kernel_rfl) trivial (fun hHeld => ?_)
          have HBx := Lib.hid (below_drewN (Below.refl Wx.heap.size Wx) 1)
          refine take_at (i := 0) (oi := _) 18 (v := .slice (some ⟨bl, 0, none⟩) k c) rfl rfl (by kernel_rfl) (by kernel_rfl) (by kernel_rfl) (fun _ _ _ h => h) (Or.inl ⟨by rfl, ?_⟩) hHeld ?_
          · (intro w hSw; (try dsimp only at hSw); go_split_ands; go_simp)
          simp only [List.setIfInBounds_toArray, List.set_cons_zero, List.set_cons_succ]
          refine take_at (i := 1) (oi := _) 19 (v := .int .i64 ((z : Nat) : Int)) rfl rfl (by kernel_rfl) (by kernel_rfl) (by kernel_rfl) (fun _ _ _ h => h) (Or.inl ⟨by rfl, ?_⟩) hHeld ?_
          · (intro w hSw; (try dsimp only at hSw); go_split_ands; go_simp)
          simp only [List.setIfInBounds_toArray, List.set_cons_zero, List.set_cons_succ]
          refine take_at (i := 2) (oi := _) 20 (v := .slice (some ⟨bl, 0, none⟩) z c) rfl rfl (by kernel_rfl) (by kernel_rfl) (by kernel_rfl) (fun _ _ _ h => h) (Or.inl ⟨by rfl, ?_⟩) hHeld ?_
          · (intro w hSw; (try dsimp only at hSw); go_split_ands; go_simp)
          simp only [List.setIfInBounds_toArray, List.set_cons_zero, List.set_cons_succ]
          refine take_at (i := 4) (oi := _) 22 (v := .int .i64 ((k : Nat) : Int)) rfl rfl (by kernel_rfl) (by kernel_rfl) (by kernel_rfl) (fun _ _ _ h => h) (Or.inl ⟨by rfl, ?_⟩) hHeld ?_
          · (intro w hSw; (try dsimp only at hSw); go_split_ands; go_simp)
          simp only [List.setIfInBounds_toArray, List.set_cons_zero, List.set_cons_succ]
          refine take_at (i := 7) (oi := _) 25 (v := .slice (some ⟨bl, 0, none⟩) k c) rfl rfl (by kernel_rfl) (by kernel_rfl) (by kernel_rfl) (fun _ _ _ h => h) (Or.inl ⟨by rfl, ?_⟩) hHeld ?_
          · (intro w hSw; (try dsimp only at hSw); go_split_ands; go_simp)
          simp only [List.setIfInBounds_toArray, List.set_cons_zero, List.set_cons_succ]
          refine take_at (i := 8) (oi := _) 26 (v := .int .i64 ((z : Nat) : Int)) rfl rfl (by kernel_rfl) (by kernel_rfl) (by kernel_rfl) (fun _ _ _ h => h) (Or.inl ⟨by rfl, ?_⟩) hHeld ?_
          · (intro w hSw; (try dsimp only at hSw); go_split_ands; go_simp)
          simp only [List.setIfInBounds_toArray, List.set_cons_zero, List.set_cons_succ]
          refine take_at (i := 9) (oi := _) 27 (v := .slice (some ⟨bl, z, none⟩) (k - z) (c - z)) rfl rfl (by kernel_rfl) (by kernel_rfl) (by kernel_rfl) (fun _ _ _ h => h) (Or.inl ⟨by rfl, ?_⟩) hHeld ?_
          · (intro w hSw; (try dsimp only at hSw); go_split_ands; go_simp)
          simp only [List.setIfInBounds_toArray, List.set_cons_zero, List.set_cons_succ]
          refine wpAnyH_ready (rs := [3, 5]) (by kernel_rfl) (by simp) ?_
          refine AllReadyH.cons (o := _) rfl (fun K9 hK => ?_) (AllReadyH.cons (o := _) rfl (fun K9 hK => ?_) AllReadyH.nil)
          · go_simp
            refine (l1Own_any _ w.heap.size z (xs.take z) _ (own_below PT.out HBx.out (Nat.le_refl _)) (by omega)).mono ?_
            rintro e w9 ⟨v9, rfl, ho9, hb9⟩
            have H0 := Lib.hid (own_base (base' := Wx.heap.size) ho9 HBx.out.size)
            replace HBx := Lib.hid (below_on HBx.out hb9)
            clear ho9 hb9
            refine hK.out _ _ trivial (fun hHeld => ?_)
            clear hK K9
            try simp only [Act.put, List.setIfInBounds_toArray, List.set_cons_zero, List.set_cons_succ]
            refine wpAnyH_ready (rs := [5]) (by kernel_rfl) (by simp) ?_
            refine AllReadyH.cons (o := _) rfl (fun K9 hK => ?_) AllReadyH.nil
            go_simp
            have K6 := Lib.hid (Blk.new w9 3 #[.int .i64 ((k : Nat) : Int)])
            replace HBx := Lib.hid (below_new HBx.out (.cells #[.int .i64 ((k : Nat) : Int)] 3))
            replace H0 := Lib.hid (H0.out.alloc (.cells #[.int .i64 ((k : Nat) : Int)] 3))
            refine hK.out _ _ trivial (fun hHeld => ?_)
            clear hK K9
            try simp only [Act.put, List.setIfInBounds_toArray, List.set_cons_zero, List.set_cons_succ]
            refine wpAnyH_ready (rs := [6]) (by kernel_rfl) (by simp) ?_
            refine AllReadyH.cons (o := _) rfl (fun K9 hK => ?_) AllReadyH.nil
            refine step_intpart rfl _ _ rfl Wx.heap.size _ z (xs.take z) rfl H0.out _ 1 [((k : Nat) : Int)] rfl (part_int1 K6.out) (by omega) HBx.out.size ?_
            intro v10 w10 ho10 hg10
            have hb10 := (Own.of H0.out).frame HBx.out (Nat.le_refl _) HBx.out.size hg10
            replace HBx := Lib.hid hb10
            have H1 := Lib.hid ho10
            clear ho10 hg10 hb10
            go_simp
            refine hK.out _ _ trivial (fun hHeld => ?_)
            clear hK K9
            try simp only [Act.put, List.setIfInBounds_toArray, List.set_cons_zero, List.set_cons_succ]
            refine wpAnyH_ready (rs := [10]) (by kernel_rfl) (by simp) ?_
            refine AllReadyH.cons (o := _) rfl (fun K9 hK => ?_) AllReadyH.nil
            refine step_intpart rfl _ _ rfl Wx.heap.size _ (z + 1) _ rfl H1.out _ (k - z) (xs.drop z) rfl (PD.out _ HBx.out) (by omega) HBx.out.size ?_
            intro v11 w11 ho11 hg11
            have hb11 := (Own.of H1.out).frame HBx.out (Nat.le_refl _) HBx.out.size hg11
            replace HBx := Lib.hid hb11
            have H2 := Lib.hid (own_cast (m := k + 1) ho11 (by omega) rfl)
            clear ho11 hg11 hb11
            go_simp
            refine hK.out _ _ trivial (fun hHeld => ?_)
            clear hK K9
            try simp only [Act.put, List.setIfInBounds_toArray, List.set_cons_zero, List.set_cons_succ]
            refine wpAnyH_ready (rs := [11]) (by kernel_rfl) (by simp) ?_
            refine AllReadyH.cons (o := _) rfl (fun K9 hK => ?_) AllReadyH.nil
            go_simp
            refine hK.out _ _ trivial (fun hHeld => ?_)
            clear hK K9
            try simp only [Act.put, List.setIfInBounds_toArray, List.set_cons_zero, List.set_cons_succ]
            refine wpAnyH_done (by kernel_rfl) ?_ _
            clear hHeld
            have LE := Lib.hid (LX.out.below HBx.out)
            have LN : Hid (Ln w B g (N + 2 * k + 2) _ _ (k + 1) _) := Lib.hid ⟨own_base H2.out LX.out.only.size, LE.out.cur, LE.out.only⟩
            go_wp2_with fail
            go_roundw
            case rel => exact ⟨k + 1, _, by omega, by go_num, LN.out.le (by omega)⟩
            case measure => simp [intOf]; omega
          · go_simp
            have K6 := Lib.hid (Blk.new Wx.drew 3 #[.int .i64 ((k : Nat) : Int)])
            replace HBx := Lib.hid (below_new HBx.out (.cells #[.int .i64 ((k : Nat) : Int)] 3))
            refine hK.out _ _ trivial (fun hHeld => ?_)
            clear hK K9
            try simp only [Act.put, List.setIfInBounds_toArray, List.set_cons_zero, List.set_cons_succ]
            refine wpAnyH_ready (rs := [3]) (by kernel_rfl) (by simp) ?_
            refine AllReadyH.cons (o := _) rfl (fun K9 hK => ?_) AllReadyH.nil
            go_simp
            refine (l1Own_any _ w.heap.size z (xs.take z) _ (own_below PT.out HBx.out (Nat.le_refl _)) (by omega)).mono ?_
            rintro e w9 ⟨v9, rfl, ho9, hb9⟩
            have H0 := Lib.hid (own_base (base' := Wx.heap.size) ho9 HBx.out.size)
            replace HBx := Lib.hid (below_on HBx.out hb9)
            replace K6 := Lib.hid (K6.out.on hb9)
            clear ho9 hb9
            refine hK.out _ _ trivial (fun hHeld => ?_)
            clear hK K9
            try simp only [Act.put, List.setIfInBounds_toArray, List.set_cons_zero, List.set_cons_succ]
            refine wpAnyH_ready (rs := [6]) (by kernel_rfl) (by simp) ?_
            refine AllReadyH.cons (o := _) rfl (fun K9 hK => ?_) AllReadyH.nil
            refine step_intpart rfl _ _ rfl Wx.heap.size _ z (xs.take z) rfl H0.out _ 1 [((k : Nat) : Int)] rfl (part_int1 K6.out) (by omega) HBx.out.size ?_
            intro v10 w10 ho10 hg10
            have hb10 := (Own.of H0.out).frame HBx.out (Nat.le_refl _) HBx.out.size hg10
            replace HBx := Lib.hid hb10
            have H1 := Lib.hid ho10
            clear ho10 hg10 hb10
            go_simp
            refine hK.out _ _ trivial (fun hHeld => ?_)
            clear hK K9
            try simp only [Act.put, List.setIfInBounds_toArray, List.set_cons_zero, List.set_cons_succ]
            refine wpAnyH_ready (rs := [10]) (by kernel_rfl) (by simp) ?_
            refine AllReadyH.cons (o := _) rfl (fun K9 hK => ?_) AllReadyH.nil
            refine step_intpart rfl _ _ rfl Wx.heap.size _ (z + 1) _ rfl H1.out _ (k - z) (xs.drop z) rfl (PD.out _ HBx.out) (by omega) HBx.out.size ?_
            intro v11 w11 ho11 hg11
            have hb11 := (Own.of H1.out).frame HBx.out (Nat.le_refl _) HBx.out.size hg11
            replace HBx := Lib.hid hb11
            have H2 := Lib.hid (own_cast (m := k + 1) ho11 (by omega) rfl)
            clear ho11 hg11 hb11
            go_simp
            refine hK.out _ _ trivial (fun hHeld => ?_)
            clear hK K9
            try simp only [Act.put, List.setIfInBounds_toArray, List.set_cons_zero, List.set_cons_succ]
            refine wpAnyH_ready (rs := [11]) (by kernel_rfl) (by simp) ?_
            refine AllReadyH.cons (o := _) rfl (fun K9 hK => ?_) AllReadyH.nil
            go_simp
            refine hK.out _ _ trivial (fun hHeld => ?_)
            clear hK K9
            try simp only [Act.put, List.setIfInBounds_toArray, List.set_cons_zero, List.set_cons_succ]
            refine wpAnyH_done (by kernel_rfl) ?_ _
            clear hHeld
            have LE := Lib.hid (LX.out.below HBx.out)
            have LN : Hid (Ln w B g (N + 2 * k + 2) _ _ (k + 1) _) := Lib.hid ⟨own_base H2.out LX.out.only.size, LE.out.cur, LE.out.only⟩
            go_wp2_with fail
            go_roundw
            case rel => exact ⟨k + 1, _, by omega, by go_num, LN.out.le (by omega)⟩
            case measure => simp [intOf]; omega
    · obtain rfl : k = n := by omega
      by_cases h0 : 0 < k
      · have d0 : decide ((0 : Int) < (k : Int)) = true := by simp; omega
        obtain ⟨bl, rfl, hbl⟩ := own_start L.out.own h0
        go_wp2_with fail
        refine (one_any B g (N + 2 * k) 16 _ L.out.cur (by omega) (by omega)).mono ?_
        rintro e w1 ⟨b, rfl, hc, hg⟩
        replace L := Lib.hid (L.out.ask hlt hc hg)
        clear hc hg
        cases b with
        | false =>
          go_wp2_with fail
          go_ret
          exact ⟨_, _, rfl, L.out.le (by omega)⟩
        | true =>
          go_wp2_with fail
          refine (pick_any B g (N + 2 * k + 2) (k : Int) _ L.out.cur (by omega) (by omega)).mono ?_
          rintro e w2 ⟨zq, zq0, zq1, rfl, hc, hg⟩
          replace L := Lib.hid (L.out.ask hlt hc hg)
          clear hc hg
          obtain ⟨z, rfl⟩ := Int.eq_ofNat_of_zero_le zq0
          have hz : z < k := by unfold pickHi at zq1; split at zq1 <;> omega
          have z0 : (0 : Int) ≤ (z : Int) := by omega
          have z1 : (z : Int) < (k : Int) := by omega
          have i1 := IntWalk.i64_in ((k : Int) - 1) (by omega)
          have KA := Lib.hid (Blk.new w2 3 (ints [-1, 0, (k : Int) - 1, (k : Int)]).toArray)
          have hgl := L.out.cur.lt
          replace L := Lib.hid (L.out.alloc (.cells (ints [-1, 0, (k : Int) - 1, (k : Int)]).toArray 3))
          clear zq1 zq0 d0
          go_wp2_with fail
          refine (among_blk B g (N + 2 * k + 2 + 2) w2.heap.size _ [-1, 0, (k : Int) - 1, (k : Int)] (-1) 13 _ L.out.cur (by omega) hgl KA.out (by simp) (by simp) (by
            intro x hx
            simp at hx
            omega)).mono ?_
          rintro e w3 ⟨q, q0, q1, rfl, hc, hg⟩
          replace L := Lib.hid (L.out.ask hlt hc hg)
          clear hc hg KA
          have hxl := L.out.len
          have c0 := (L.out.own.cellAt z (by omega)).trans (ints_get xs _ (by omega))
          have f0 := L.out.own.frozenAt z
          have L1 := Lib.hid (L.out.store (i := z) (v := q) hlt)
          clear hxl L
          go_wp2_with fail
          go_ret
          exact ⟨_, _, rfl, L1.out.le (by omega)⟩
      · obtain rfl : k = 0 := by omega
        clear h0
        go_wp2_with fail
        go_ret
        exact ⟨_, _, rfl, L.out.le (by omega)⟩
end Go.Proofs.Ytnlneblipedddaa
