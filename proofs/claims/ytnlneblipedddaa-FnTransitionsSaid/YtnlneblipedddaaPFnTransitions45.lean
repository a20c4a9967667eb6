/- A drawn transition. Condition: the source's bytes can be read. What is drawn for the laws on conflicts: a transition and a least distance. Condition: the code's bytes can be read. What is drawn for the law on least transitions: two charts and counts. Condition: the code's bytes can be read. -/
import Derived.Test.YtnlneblipedddaaPFnTransitions44
import Derived.Test.YtnlneblipedddaaPFnTransitions25
import Derived.Test.YtnlneblipedddaaPFnTransitions24
import Derived.Test.YtnlneblipedddaaPFnTransitions07
import Derived.Test.YtnlneblipedddaaPFnTransitions09
namespace Go.Proofs.Ytnlneblipedddaa
open Go.RowKit

/-- A transition is handed out, owned from a on, and nothing older but block g has changed. -/
def HandsT (B g N : Nat) (w : World) (e : Ending) (w' : World) : Prop := ∃ (r : Value) (t : TrN), e = .returned r ∧ OwnA w' w.heap.size r t ∧ (t.n ≤ 13 ∧ t.m ≤ 13 ∧ t.p ≤ 13) ∧ Cur w' B g N ∧ w.grownBy w' (some g)
def zT4 : Array Value := #[.slice none 0 0, .slice none 0 0, .int .i64 0, .slice none 0 0]
theorem cur_below {w w' : World} {B g N : Nat} (h : Cur w B g N) (hb : Below w.heap.size w w') : Cur w' B g N := h.grown (row := none) ⟨hb.os, hb.tape, hb.output, hb.size, fun i hi _ => hb.block i hi⟩ (fun k hk => by cases hk)
theorem only_then {a w w' : World} {g : Option Nat} (h : a.grownBy w g) (hb : Below w.heap.size w w') : a.grownBy w' g := grow_trans h ⟨hb.os, hb.tape, hb.output, hb.size, fun i hi _ => hb.block i hi⟩
theorem only_far {a w : World} {g : Nat} {p : Addr} (h : a.grownBy w (some g)) (hp : a.heap.size ≤ p.block) (v : Value) : a.grownBy (w.setCell p v) (some g) := only_set h hp v
set_option maxRecDepth 100000 in
set_option maxHeartbeats 4000000 in
theorem transition_any (B g N : Nat) (w : World) (h : Cur w B g N) (hN : N ≤ 1000) : Calls Try.prog 44 #[.pointer (some ⟨g, 0, none⟩)] w (HandsT B g (N + 200000) w) := by
  have hlt := h.lt
  have KR := Lib.hid (Blk.new w 29 #[.slice none 0 0, .slice none 0 0, .int .i64 0, .slice none 0 0])
  have C0 := Lib.hid (h.alloc (.cells #[.slice none 0 0, .slice none 0 0, .int .i64 0, .slice none 0 0] 29))
  have G0 := Lib.hid (only_alloc (World.grownBy.refl w (some g)) (.cells #[.slice none 0 0, .slice none 0 0, .int .i64 0, .slice none 0 0] 29))
  clear h
  go_enter Try.func44, Try.ntmps44
  go_wp2_with fail
  refine (formsTwo_any B g N _ C0.out (by omega)).mono ?_
  rintro e w1 ⟨n, m, u, v, xs, ys, hn, hm, rfl, hu, hv, hc, hg⟩
  obtain ⟨A, ca, rfl⟩ := (Rd.of_own hu).form
  obtain ⟨C, cb, rfl⟩ := (Rd.of_own hv).form
  have HU := Lib.hid (own_base (base' := w.heap.size) hu G0.out.size)
  have HV := Lib.hid (own_base (base' := w.heap.size) hv G0.out.size)
  replace C0 := Lib.hid hc
  replace G0 := Lib.hid (grow_trans G0.out hg)
  replace KR := Lib.hid (KR.out.grown' hg (by omega))
  clear hu hv hc hg
  have A5 := Lib.hid (Blk.new w1 3 (ints [0, 65]).toArray)
  have hg5 := C0.out.lt
  replace C0 := Lib.hid (C0.out.alloc (.cells (ints [0, 65]).toArray 3))
  replace G0 := Lib.hid (only_alloc G0.out (.cells (ints [0, 65]).toArray 3))
  replace HU := Lib.hid (HU.out.alloc (.cells (ints [0, 65]).toArray 3))
  replace HV := Lib.hid (HV.out.alloc (.cells (ints [0, 65]).toArray 3))
  replace KR := Lib.hid (KR.out.alloc (.cells (ints [0, 65]).toArray 3))
  go_wp2_with fail
  refine (among_blk B g (N + 100000) w1.heap.size _ [0, 65] 0 65 _ C0.out (by omega) hg5 A5.out (by simp) (by simp) (by simp; try omega)).mono ?_
  rintro e w2 ⟨x, x0, x1, rfl, hc, hg⟩
  replace C0 := Lib.hid hc
  replace G0 := Lib.hid (grow_trans G0.out hg)
  replace HU := Lib.hid (own_ask HU.out hlt hg)
  replace HV := Lib.hid (own_ask HV.out hlt hg)
  replace KR := Lib.hid (KR.out.grown' hg (by omega))
  clear hc hg
  clear A5 hg5
  have A5 := Lib.hid (Blk.new w2 3 (ints [1, 4, 8, 8, 16, 32, 64, x]).toArray)
  have hg5 := C0.out.lt
  replace C0 := Lib.hid (C0.out.alloc (.cells (ints [1, 4, 8, 8, 16, 32, 64, x]).toArray 3))
  replace G0 := Lib.hid (only_alloc G0.out (.cells (ints [1, 4, 8, 8, 16, 32, 64, x]).toArray 3))
  replace HU := Lib.hid (HU.out.alloc (.cells (ints [1, 4, 8, 8, 16, 32, 64, x]).toArray 3))
  replace HV := Lib.hid (HV.out.alloc (.cells (ints [1, 4, 8, 8, 16, 32, 64, x]).toArray 3))
  replace KR := Lib.hid (KR.out.alloc (.cells (ints [1, 4, 8, 8, 16, 32, 64, x]).toArray 3))
  go_wp2_with fail
  refine (among_blk B g (N + 100000 + 2) w2.heap.size _ [1, 4, 8, 8, 16, 32, 64, x] 0 65 _ C0.out (by omega) hg5 A5.out (by simp) (by simp) (by simp; try omega)).mono ?_
  rintro e w3 ⟨c, c0, c1, rfl, hc, hg⟩
  replace C0 := Lib.hid hc
  replace G0 := Lib.hid (grow_trans G0.out hg)
  replace HU := Lib.hid (own_ask HU.out hlt hg)
  replace HV := Lib.hid (own_ask HV.out hlt hg)
  replace KR := Lib.hid (KR.out.grown' hg (by omega))
  clear hc hg
  clear A5 hg5
  go_wp2_with fail
  refine (matching_any B g (N + 100000 + 2 + 2) n hn _ C0.out (by omega)).mono ?_
  rintro e w4 ⟨q, ps, rfl, hl⟩
  obtain ⟨D, cc, rfl⟩ := hl.form
  have HP := Lib.hid (own_base (base' := w.heap.size) hl.own G0.out.size)
  have hc := hl.cur
  have hg := hl.only
  clear hl
  replace C0 := Lib.hid hc
  replace G0 := Lib.hid (grow_trans G0.out hg)
  replace HU := Lib.hid (own_ask HU.out hlt hg)
  replace HV := Lib.hid (own_ask HV.out hlt hg)
  replace KR := Lib.hid (KR.out.grown' hg (by omega))
  clear hc hg
  have KA := Lib.hid (Blk.new w4 29 #[.slice A n ca, .slice C m cb, .int .i64 c, .slice D n cc])
  have HNE := Lib.hid (show g < w4.heap.size from C0.out.lt)
  have HWR := Lib.hid (show w.heap.size < w4.heap.size from KR.out.lt)
  replace C0 := Lib.hid (C0.out.alloc (.cells #[.slice A n ca, .slice C m cb, .int .i64 c, .slice D n cc] 29))
  replace G0 := Lib.hid (only_alloc G0.out (.cells #[.slice A n ca, .slice C m cb, .int .i64 c, .slice D n cc] 29))
  replace HU := Lib.hid (HU.out.alloc (.cells #[.slice A n ca, .slice C m cb, .int .i64 c, .slice D n cc] 29))
  replace HV := Lib.hid (HV.out.alloc (.cells #[.slice A n ca, .slice C m cb, .int .i64 c, .slice D n cc] 29))
  replace HP := Lib.hid (HP.out.alloc (.cells #[.slice A n ca, .slice C m cb, .int .i64 c, .slice D n cc] 29))
  replace KR := Lib.hid (KR.out.alloc (.cells #[.slice A n ca, .slice C m cb, .int .i64 c, .slice D n cc] 29))
  have P := asAsked_any _ _ n m _ xs ys c _ (own_cap HU.out) (own_cap HV.out) (Rd.of_own HU.out) (Rd.of_own HV.out) (Nat.le_refl _) (by omega) (by omega)
  cases hab : aaB n xs m ys c with
  | false =>
    rw [hab] at P
    clear hab
    obtain ⟨a0, a1, a2, a3⟩ := KA.out.c4
    go_wp2_with fail
    refine P.mono ?_
    rintro e w5 ⟨rfl, hb⟩
    clear a0 a1 a2 a3 P
    replace C0 := Lib.hid (cur_below C0.out hb)
    replace G0 := Lib.hid (only_then G0.out hb)
    replace HU := Lib.hid (own_below HU.out hb (Nat.le_refl _))
    replace HV := Lib.hid (own_below HV.out hb (Nat.le_refl _))
    replace HP := Lib.hid (own_below HP.out hb (Nat.le_refl _))
    replace KR := Lib.hid (KR.out.on hb)
    replace KA := Lib.hid (KA.out.on hb)
    clear hb
    obtain ⟨a0, a1, a2, a3⟩ := KA.out.c4
    obtain ⟨r0, r1, r2, r3⟩ := KR.out.c4
    have f0 := KR.out.frozen 0
    have f1 := KR.out.frozen 1
    have f2 := KR.out.frozen 2
    have f3 := KR.out.frozen 3
    have C1 := Lib.hid ((((C0.out.setCell (p := ⟨w.heap.size, 0, none⟩) hlt (.slice A n ca)).setCell (p := ⟨w.heap.size, 1, none⟩) hlt (.slice C m cb)).setCell (p := ⟨w.heap.size, 2, none⟩) hlt (.int .i64 c)).setCell (p := ⟨w.heap.size, 3, none⟩) hlt (.slice D n cc))
    have G1 := Lib.hid (only_far (only_far (only_far (only_far G0.out (p := ⟨w.heap.size, 0, none⟩) (Nat.le_refl _) (.slice A n ca)) (p := ⟨w.heap.size, 1, none⟩) (Nat.le_refl _) (.slice C m cb)) (p := ⟨w.heap.size, 2, none⟩) (Nat.le_refl _) (.int .i64 c)) (p := ⟨w.heap.size, 3, none⟩) (Nat.le_refl _) (.slice D n cc))
    have O1 := Lib.hid (own_set4 HU.out KR.out (by decide) (.slice A n ca) (.slice C m cb) (.int .i64 c) (.slice D n cc))
    have O2 := Lib.hid (own_set4 HV.out KR.out (by decide) (.slice A n ca) (.slice C m cb) (.int .i64 c) (.slice D n cc))
    have O3 := Lib.hid (own_set4 HP.out KR.out (by decide) (.slice A n ca) (.slice C m cb) (.int .i64 c) (.slice D n cc))
    go_wp2_with fail
    obtain ⟨m0, m1, m2, m3⟩ := (blk_set4 KR.out (.slice A n ca) (.slice C m cb) (.int .i64 c) (.slice D n cc)).c4
    exact bodyPost_ret (v := .agg #[(.slice A n ca), (.slice C m cb), (.int .i64 c), (.slice D n cc)]) (by simp [results, Try.results44, go_sem, m0, m1, m2, m3]) rfl
      ⟨_, ⟨_, _, _, _, _, _, _⟩, rfl, ⟨_, _, _, rfl, O1.out, O2.out, O3.out⟩, ⟨hn, hm, hn⟩, C1.out.le (by omega), G1.out⟩
  | true =>
    rw [hab] at P
    have HAB := Lib.hid hab
    clear hab
    obtain ⟨a0, a1, a2, a3⟩ := KA.out.c4
    go_wp2_with fail
    refine P.mono ?_
    rintro e w5 ⟨rfl, hb⟩
    clear a0 a1 a2 a3 P
    replace C0 := Lib.hid (cur_below C0.out hb)
    replace G0 := Lib.hid (only_then G0.out hb)
    replace HU := Lib.hid (own_below HU.out hb (Nat.le_refl _))
    replace HV := Lib.hid (own_below HV.out hb (Nat.le_refl _))
    replace HP := Lib.hid (own_below HP.out hb (Nat.le_refl _))
    replace KR := Lib.hid (KR.out.on hb)
    replace KA := Lib.hid (KA.out.on hb)
    clear hb
    go_wp2_with fail
    refine (one_any B g (N + 100000 + 2 + 2 + 100) 3 _ C0.out (by omega) (by omega)).mono ?_
    rintro e w6 ⟨b, rfl, hc, hg⟩
    replace HP := Lib.hid (own_ask HP.out hlt hg)
    replace KA := Lib.hid (KA.out.grown' hg (by have := HNE.out; omega))
    replace C0 := Lib.hid hc
    replace G0 := Lib.hid (grow_trans G0.out hg)
    replace HU := Lib.hid (own_ask HU.out hlt hg)
    replace HV := Lib.hid (own_ask HV.out hlt hg)
    replace KR := Lib.hid (KR.out.grown' hg (by omega))
    clear hc hg
    cases b with
    | false =>
      clear HAB
      obtain ⟨a0, a1, a2, a3⟩ := KA.out.c4
      obtain ⟨r0, r1, r2, r3⟩ := KR.out.c4
      have f0 := KR.out.frozen 0
      have f1 := KR.out.frozen 1
      have f2 := KR.out.frozen 2
      have f3 := KR.out.frozen 3
      have C1 := Lib.hid ((((C0.out.setCell (p := ⟨w.heap.size, 0, none⟩) hlt (.slice A n ca)).setCell (p := ⟨w.heap.size, 1, none⟩) hlt (.slice C m cb)).setCell (p := ⟨w.heap.size, 2, none⟩) hlt (.int .i64 c)).setCell (p := ⟨w.heap.size, 3, none⟩) hlt (.slice D n cc))
      have G1 := Lib.hid (only_far (only_far (only_far (only_far G0.out (p := ⟨w.heap.size, 0, none⟩) (Nat.le_refl _) (.slice A n ca)) (p := ⟨w.heap.size, 1, none⟩) (Nat.le_refl _) (.slice C m cb)) (p := ⟨w.heap.size, 2, none⟩) (Nat.le_refl _) (.int .i64 c)) (p := ⟨w.heap.size, 3, none⟩) (Nat.le_refl _) (.slice D n cc))
      have O1 := Lib.hid (own_set4 HU.out KR.out (by decide) (.slice A n ca) (.slice C m cb) (.int .i64 c) (.slice D n cc))
      have O2 := Lib.hid (own_set4 HV.out KR.out (by decide) (.slice A n ca) (.slice C m cb) (.int .i64 c) (.slice D n cc))
      have O3 := Lib.hid (own_set4 HP.out KR.out (by decide) (.slice A n ca) (.slice C m cb) (.int .i64 c) (.slice D n cc))
      go_wp2_with fail
      obtain ⟨m0, m1, m2, m3⟩ := (blk_set4 KR.out (.slice A n ca) (.slice C m cb) (.int .i64 c) (.slice D n cc)).c4
      exact bodyPost_ret (v := .agg #[(.slice A n ca), (.slice C m cb), (.int .i64 c), (.slice D n cc)]) (by simp [results, Try.results44, go_sem, m0, m1, m2, m3]) rfl
        ⟨_, ⟨_, _, _, _, _, _, _⟩, rfl, ⟨_, _, _, rfl, O1.out, O2.out, O3.out⟩, ⟨hn, hm, hn⟩, C1.out.le (by omega), G1.out⟩
    | true =>
      have PL := Lib.hid (specLeastTransition_any _ _ _ n m xs ys c _ HU.out HV.out (by omega) (by omega))
      have HZT := Lib.hid (show (ltT n xs m ys c).n ≤ 13 ∧ (ltT n xs m ys c).m ≤ 13 ∧ (ltT n xs m ys c).p ≤ 13 by rw [ltT, if_pos HAB.out]; exact ⟨hn, hm, hn⟩)
      rw [HAB.out] at PL
      obtain ⟨a0, a1, a2, a3⟩ := KA.out.c4
      go_wp2_with fail
      refine PL.out.mono ?_
      rintro e w7 ⟨r, rfl, oa, hb⟩
      have hsz := G0.out.size
      obtain ⟨Ar, cr, Dr, dr, Er, er, rfl, o1, o2, o3⟩ := (oa.base hsz).form
      clear a0 a1 a2 a3 PL oa
      replace C0 := Lib.hid (cur_below C0.out hb)
      replace G0 := Lib.hid (only_then G0.out hb)
      replace HU := Lib.hid (own_below HU.out hb (Nat.le_refl _))
      replace HV := Lib.hid (own_below HV.out hb (Nat.le_refl _))
      replace HP := Lib.hid (own_below HP.out hb (Nat.le_refl _))
      replace KR := Lib.hid (KR.out.on hb)
      replace KA := Lib.hid (KA.out.on hb)
      clear hb
      obtain ⟨T, eT⟩ : ∃ T, ltT n xs m ys c = T := ⟨_, rfl⟩
      rw [eT] at o1 o2 o3 HZT ⊢
      obtain ⟨b0, b1, b2, b3⟩ := KA.out.c4
      have e0 := KA.out.frozen 0
      have e1 := KA.out.frozen 1
      have e2 := KA.out.frozen 2
      have e3 := KA.out.frozen 3
      have hrw := HWR.out
      replace HU := Lib.hid (own_set4 (own_below o1 (Below.refl _ _) (Nat.le_refl _)) KA.out (by decide) (.slice Ar T.n cr) (.slice Dr T.m dr) (.int .i64 T.c) (.slice Er T.p er))
      replace HV := Lib.hid (own_set4 (own_below o2 (Below.refl _ _) (Nat.le_refl _)) KA.out (by decide) (.slice Ar T.n cr) (.slice Dr T.m dr) (.int .i64 T.c) (.slice Er T.p er))
      replace HP := Lib.hid (own_set4 (own_below o3 (Below.refl _ _) (Nat.le_refl _)) KA.out (by decide) (.slice Ar T.n cr) (.slice Dr T.m dr) (.int .i64 T.c) (.slice Er T.p er))
      replace KR := Lib.hid (((((KR.out.far (p := ⟨w4.heap.size, 0, none⟩) (by show w.heap.size ≠ w4.heap.size; omega) (.slice Ar T.n cr)).far (p := ⟨w4.heap.size, 1, none⟩) (by show w.heap.size ≠ w4.heap.size; omega) (.slice Dr T.m dr)).far (p := ⟨w4.heap.size, 2, none⟩) (by show w.heap.size ≠ w4.heap.size; omega) (.int .i64 T.c)).far (p := ⟨w4.heap.size, 3, none⟩) (by show w.heap.size ≠ w4.heap.size; omega) (.slice Er T.p er)))
      replace C0 := Lib.hid (((((C0.out.setCell (p := ⟨w4.heap.size, 0, none⟩) HNE.out (.slice Ar T.n cr)).setCell (p := ⟨w4.heap.size, 1, none⟩) HNE.out (.slice Dr T.m dr)).setCell (p := ⟨w4.heap.size, 2, none⟩) HNE.out (.int .i64 T.c)).setCell (p := ⟨w4.heap.size, 3, none⟩) HNE.out (.slice Er T.p er)))
      replace G0 := Lib.hid ((only_far (only_far (only_far (only_far G0.out (p := ⟨w4.heap.size, 0, none⟩) (Nat.le_of_lt HWR.out) (.slice Ar T.n cr)) (p := ⟨w4.heap.size, 1, none⟩) (Nat.le_of_lt HWR.out) (.slice Dr T.m dr)) (p := ⟨w4.heap.size, 2, none⟩) (Nat.le_of_lt HWR.out) (.int .i64 T.c)) (p := ⟨w4.heap.size, 3, none⟩) (Nat.le_of_lt HWR.out) (.slice Er T.p er)))
      replace KA := Lib.hid (blk_set4 KA.out (.slice Ar T.n cr) (.slice Dr T.m dr) (.int .i64 T.c) (.slice Er T.p er))
      clear o1 o2 o3 hrw eT
      obtain ⟨a0, a1, a2, a3⟩ := KA.out.c4
      obtain ⟨r0, r1, r2, r3⟩ := KR.out.c4
      have f0 := KR.out.frozen 0
      have f1 := KR.out.frozen 1
      have f2 := KR.out.frozen 2
      have f3 := KR.out.frozen 3
      have C1 := Lib.hid ((((C0.out.setCell (p := ⟨w.heap.size, 0, none⟩) hlt (.slice Ar T.n cr)).setCell (p := ⟨w.heap.size, 1, none⟩) hlt (.slice Dr T.m dr)).setCell (p := ⟨w.heap.size, 2, none⟩) hlt (.int .i64 T.c)).setCell (p := ⟨w.heap.size, 3, none⟩) hlt (.slice Er T.p er))
      have G1 := Lib.hid (only_far (only_far (only_far (only_far G0.out (p := ⟨w.heap.size, 0, none⟩) (Nat.le_refl _) (.slice Ar T.n cr)) (p := ⟨w.heap.size, 1, none⟩) (Nat.le_refl _) (.slice Dr T.m dr)) (p := ⟨w.heap.size, 2, none⟩) (Nat.le_refl _) (.int .i64 T.c)) (p := ⟨w.heap.size, 3, none⟩) (Nat.le_refl _) (.slice Er T.p er))
      have O1 := Lib.hid (own_set4 HU.out KR.out (by decide) (.slice Ar T.n cr) (.slice Dr T.m dr) (.int .i64 T.c) (.slice Er T.p er))
      have O2 := Lib.hid (own_set4 HV.out KR.out (by decide) (.slice Ar T.n cr) (.slice Dr T.m dr) (.int .i64 T.c) (.slice Er T.p er))
      have O3 := Lib.hid (own_set4 HP.out KR.out (by decide) (.slice Ar T.n cr) (.slice Dr T.m dr) (.int .i64 T.c) (.slice Er T.p er))
      go_wp2_with fail
      obtain ⟨m0, m1, m2, m3⟩ := (blk_set4 KR.out (.slice Ar T.n cr) (.slice Dr T.m dr) (.int .i64 T.c) (.slice Er T.p er)).c4
      exact bodyPost_ret (v := .agg #[(.slice Ar T.n cr), (.slice Dr T.m dr), (.int .i64 T.c), (.slice Er T.p er)]) (by simp [results, Try.results44, go_sem, m0, m1, m2, m3]) rfl
        ⟨_, ⟨_, _, _, _, _, _, _⟩, rfl, ⟨_, _, _, rfl, O1.out, O2.out, O3.out⟩, HZT.out, C1.out.le (by omega), G1.out⟩
end Go.Proofs.Ytnlneblipedddaa

namespace Go.Proofs.Ytnlneblipedddaa
open Go.RowKit

/-- A transition and a number are handed out, in new memory. -/
def DrawnTI (w : World) (e : Ending) (w' : World) : Prop := ∃ (r : Value) (t : TrN) (L : Int), e = .returned (.tuple #[r, .int .i64 L]) ∧ OwnA w' w.heap.size r t ∧ (t.n ≤ 13 ∧ t.m ≤ 13 ∧ t.p ≤ 13) ∧ (-1000000 ≤ L ∧ L ≤ 1000000) ∧ Below w.heap.size w w'
def DrawnT (w : World) (e : Ending) (w' : World) : Prop := ∃ (r : Value) (t : TrN), e = .returned r ∧ OwnA w' w.heap.size r t ∧ (t.n ≤ 13 ∧ t.m ≤ 13 ∧ t.p ≤ 13) ∧ Below w.heap.size w w'
/-- A new source behind a result's cells. -/
theorem cur_new2 (w : World) (A : Option Addr) (n c : Nat) (o : Obj) (h : RdB w w.heap.size A n) (hn : n ≤ 9223372036854775807) : Cur ((w.alloc o).alloc (.cells #[.slice A n c, .int .i64 0, .int .u64 0] 65)) w.heap.size (w.heap.size + 1) 0 := by
  refine ⟨by omega, A, n, c, 0, 0, ?_, hn, Nat.le_refl _, fun h0 => ?_⟩
  · simpa using Blk.new (w.alloc o) 65 #[.slice A n c, .int .i64 0, .int .u64 0]
  · obtain ⟨b, off, rfl, hb, hc⟩ := h h0
    refine ⟨b, off, rfl, hb, fun j hj => ?_⟩
    obtain ⟨z, z0, z1, hz⟩ := hc j hj
    exact ⟨z, z0, z1, cell_new (cell_new hz _) _⟩
set_option maxRecDepth 100000 in
set_option maxHeartbeats 4000000 in
theorem DrawIsTransition_any (A : Option Addr) (n c : Nat) (w : World) (h : RdB w w.heap.size A n) (hn : n ≤ 9223372036854775807) :
    Calls Try.prog 14 #[.slice A n c] w (DrawnT w) := by
  have C0 := Lib.hid (cur_new2 w A n c (.cells #[.slice none 0 0, .slice none 0 0, .int .i64 0, .slice none 0 0] 29) h hn)
  have KR := Lib.hid ((Blk.new w 29 #[.slice none 0 0, .slice none 0 0, .int .i64 0, .slice none 0 0]).alloc (.cells #[.slice A n c, .int .i64 0, .int .u64 0] 65))
  have HB := Lib.hid (below_new (below_new (Below.refl w.heap.size w) (.cells #[.slice none 0 0, .slice none 0 0, .int .i64 0, .slice none 0 0] 29)) (.cells #[.slice A n c, .int .i64 0, .int .u64 0] 65))
  clear h hn
  go_enter Try.func14, Try.ntmps14
  go_wp2_with fail
  refine (transition_any w.heap.size (w.heap.size + 1) 0 _ C0.out (by omega)).mono ?_
  rintro e w1 ⟨r, t, rfl, oa, hsz, hc, hg⟩
  have HS := Lib.hid hsz
  have hz2 := HB.out.size
  replace HB := Lib.hid (HB.out.grown hg hz2 (fun k hk => by injection hk with hk; omega))
  replace C0 := Lib.hid hc
  replace KR := Lib.hid (KR.out.grown' hg (by omega))
  obtain ⟨Ar, cr, Dr, dr, Er, er, rfl, o1, o2, o3⟩ := (oa.base (lo2 := w.heap.size + 2) (by simp)).form
  have O1 := Lib.hid o1
  have O2 := Lib.hid o2
  have O3 := Lib.hid o3
  clear o1 o2 o3 oa hc hg hsz hz2
  obtain ⟨r0, r1, r2, r3⟩ := KR.out.c4
  have f0 := KR.out.frozen 0
  have f1 := KR.out.frozen 1
  have f2 := KR.out.frozen 2
  have f3 := KR.out.frozen 3
  have P1 := Lib.hid (own_set4 O1.out KR.out (by decide) (.slice Ar t.n cr) (.slice Dr t.m dr) (.int .i64 t.c) (.slice Er t.p er))
  have P2 := Lib.hid (own_set4 O2.out KR.out (by decide) (.slice Ar t.n cr) (.slice Dr t.m dr) (.int .i64 t.c) (.slice Er t.p er))
  have P3 := Lib.hid (own_set4 O3.out KR.out (by decide) (.slice Ar t.n cr) (.slice Dr t.m dr) (.int .i64 t.c) (.slice Er t.p er))
  have HB9 := Lib.hid (below_set4 HB.out (Nat.le_refl w.heap.size) (.slice Ar t.n cr) (.slice Dr t.m dr) (.int .i64 t.c) (.slice Er t.p er))
  have KS := Lib.hid (blk_set4 KR.out (.slice Ar t.n cr) (.slice Dr t.m dr) (.int .i64 t.c) (.slice Er t.p er))
  go_wp2_with fail
  obtain ⟨m0, m1, m2, m3⟩ := KS.out.c4
  exact bodyPost_ret (v := .agg #[.slice Ar t.n cr, .slice Dr t.m dr, .int .i64 t.c, .slice Er t.p er]) (by simp [results, Try.results14, go_sem, m0, m1, m2, m3]) rfl
    ⟨_, t, rfl, ⟨_, _, _, rfl, own_base P1.out (by omega), own_base P2.out (by omega), own_base P3.out (by omega)⟩, HS.out, HB9.out⟩
end Go.Proofs.Ytnlneblipedddaa

namespace Go.Proofs.Ytnlneblipedddaa
open Go.RowKit

/-- Two charts and counts are handed out, in new memory. -/
def DrawnP (w : World) (e : Ending) (w' : World) : Prop := ∃ (u v : Value) (n m : Nat) (xs ys : List Int) (c : Int), e = .returned (.tuple #[u, v, .int .i64 c]) ∧ w'.ownsRow w.heap.size 75 2 u n (ints xs) ∧ w'.ownsRow w.heap.size 75 2 v m (ints ys) ∧ n ≤ 13 ∧ m ≤ 13 ∧ Below w.heap.size w w'
theorem cur_new1 (w : World) (A : Option Addr) (n c : Nat) (h : RdB w w.heap.size A n) (hn : n ≤ 9223372036854775807) : Cur (w.alloc (.cells #[.slice A n c, .int .i64 0, .int .u64 0] 65)) w.heap.size w.heap.size 0 := by
  refine ⟨Nat.le_refl _, A, n, c, 0, 0, ?_, hn, Nat.le_refl _, fun h0 => ?_⟩
  · simpa using Blk.new w 65 #[.slice A n c, .int .i64 0, .int .u64 0]
  · obtain ⟨b, off, rfl, hb, hc⟩ := h h0
    refine ⟨b, off, rfl, hb, fun j hj => ?_⟩
    obtain ⟨z, z0, z1, hz⟩ := hc j hj
    exact ⟨z, z0, z1, cell_new hz _⟩
set_option maxRecDepth 100000 in
set_option maxHeartbeats 4000000 in
theorem DrawPlainTransition_any (A : Option Addr) (n c : Nat) (w : World) (h : RdB w w.heap.size A n) (hn : n ≤ 9223372036854775807) :
    Calls Try.prog 32 #[.slice A n c] w (DrawnP w) := by
  have C0 := Lib.hid (cur_new1 w A n c h hn)
  have HB := Lib.hid (below_new (Below.refl w.heap.size w) (.cells #[.slice A n c, .int .i64 0, .int .u64 0] 65))
  clear h hn
  go_enter Try.func32, Try.ntmps32
  go_wp2_with fail
  refine (formsTwo_any w.heap.size w.heap.size 0 _ C0.out (by omega)).mono ?_
  rintro e w1 ⟨a, b, u, v, xs, ys, ha, hb9, rfl, hu, hv, hc, hg⟩
  obtain ⟨Aa, ca, rfl⟩ := (Rd.of_own hu).form
  obtain ⟨Ab, cb, rfl⟩ := (Rd.of_own hv).form
  have HU := Lib.hid (own_base (base' := w.heap.size + 1) hu (by simp))
  have HV := Lib.hid (own_base (base' := w.heap.size + 1) hv (by simp))
  have hz2 := HB.out.size
  replace HB := Lib.hid (HB.out.grown hg hz2 (fun k hk => by injection hk with hk; omega))
  replace C0 := Lib.hid hc
  clear hu hv hc hg hz2
  have A5 := Lib.hid (Blk.new w1 3 (ints [0, 65]).toArray)
  have hg5 := C0.out.lt
  replace C0 := Lib.hid (C0.out.alloc (.cells (ints [0, 65]).toArray 3))
  replace HB := Lib.hid (below_new HB.out (.cells (ints [0, 65]).toArray 3))
  replace HU := Lib.hid (HU.out.alloc (.cells (ints [0, 65]).toArray 3))
  replace HV := Lib.hid (HV.out.alloc (.cells (ints [0, 65]).toArray 3))
  go_wp2_with fail
  refine (among_blk w.heap.size w.heap.size (0 + 100000) w1.heap.size _ [0, 65] 0 65 _ C0.out (by omega) hg5 A5.out (by simp) (by simp) (by simp; try omega)).mono ?_
  rintro e w2 ⟨x, x0, x1, rfl, hc, hg⟩
  replace C0 := Lib.hid hc
  replace HB := Lib.hid (HB.out.grown hg HB.out.size (fun k hk => by injection hk with hk; omega))
  replace HU := Lib.hid (own_ask HU.out (by omega) hg)
  replace HV := Lib.hid (own_ask HV.out (by omega) hg)
  clear A5 hg5 hc hg
  have A5 := Lib.hid (Blk.new w2 3 (ints [1, 8, 16, 64, x]).toArray)
  have hg5 := C0.out.lt
  replace C0 := Lib.hid (C0.out.alloc (.cells (ints [1, 8, 16, 64, x]).toArray 3))
  replace HB := Lib.hid (below_new HB.out (.cells (ints [1, 8, 16, 64, x]).toArray 3))
  replace HU := Lib.hid (HU.out.alloc (.cells (ints [1, 8, 16, 64, x]).toArray 3))
  replace HV := Lib.hid (HV.out.alloc (.cells (ints [1, 8, 16, 64, x]).toArray 3))
  go_wp2_with fail
  refine (among_blk w.heap.size w.heap.size (0 + 100000 + 2) w2.heap.size _ [1, 8, 16, 64, x] 0 65 _ C0.out (by omega) hg5 A5.out (by simp) (by simp) (by simp; try omega)).mono ?_
  rintro e w3 ⟨k, k0, k1, rfl, hc, hg⟩
  replace C0 := Lib.hid hc
  replace HB := Lib.hid (HB.out.grown hg HB.out.size (fun k hk => by injection hk with hk; omega))
  replace HU := Lib.hid (own_ask HU.out (by omega) hg)
  replace HV := Lib.hid (own_ask HV.out (by omega) hg)
  clear A5 hg5 hc hg
  go_wp2_with fail
  go_ret3
  exact ⟨_, _, a, b, xs, ys, k, rfl, own_base HU.out (by omega), own_base HV.out (by omega), ha, hb9, HB.out⟩
set_option maxRecDepth 100000 in
set_option maxHeartbeats 4000000 in
theorem DrawLeastTransition_any (A : Option Addr) (n c : Nat) (w : World) (h : RdB w w.heap.size A n) (hn : n ≤ 9223372036854775807) :
    Calls Try.prog 6 #[.slice A n c] w (DrawnP w) := by
  have P := Lib.hid (DrawPlainTransition_any A n c w h hn)
  clear h hn
  go_enter Try.func6, Try.ntmps6
  go_wp2_with fail
  refine P.out.mono ?_
  rintro e w1 ⟨u, v, a, b, xs, ys, k, rfl, h1, h2, h3, h4, h5⟩
  obtain ⟨Aa, ca, rfl⟩ := (Rd.of_own h1).form
  obtain ⟨Ab, cb, rfl⟩ := (Rd.of_own h2).form
  have H1 := Lib.hid h1
  have H2 := Lib.hid h2
  have H5 := Lib.hid h5
  clear h1 h2 h5
  go_wp2_with fail
  go_ret3
  exact ⟨_, _, a, b, xs, ys, k, rfl, H1.out, H2.out, h3, h4, H5.out⟩
end Go.Proofs.Ytnlneblipedddaa
