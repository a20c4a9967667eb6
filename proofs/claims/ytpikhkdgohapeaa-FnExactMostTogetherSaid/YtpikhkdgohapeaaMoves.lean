/- Contracts of the list of the moves of a transition, in the program and in the reference. Conditions: the transition is good, and its slices can be read. -/
import Derived.Test.YtpikhkdgohapeaaIsTrans
import Derived.Deep.RegionHeldLaw
import Derived.Deep.AppendLies
namespace Go.Proofs.Ytpikhkdgohapeaa
open Go.RowKit

theorem moveInfo : (Try.prog.info? 30).map (fun i => (i.zero, i.size, i.bytes)) = some (some (Value.agg #[Value.int .i64 0, Value.int .i64 0, Value.int .i64 0, Value.int .i64 0, Value.int .i64 0]), 5, 40) := by kernel_rfl
/-- 'append(out, Move{..})' to an owned slice of moves. -/
theorem app_move {w : World} {ops : Array Oper} {rest : List Oper} {o : Oper} {a : Act} {Q : Exit → Act → World → Prop} (hgd : o.guard = none) (s u : Operand)
    (ho : o.op = .call { callee := .builtin .append, args := #[s, u], argTypes := #[66, 66] })
    (base : Nat) (v : Value) (n : Nat) (xs : List Int) (hs : a.eval s = v) (hown : w.ownsRow base 30 5 v n (ints xs)) (g : Nat) (x1 x2 x3 x4 x5 : Int)
    (hx : a.eval u = .slice (some ⟨g, 0, none⟩) 1 1) (c0 : w.cell? ⟨g, 0, none⟩ = some (.int .i64 x1)) (c1 : w.cell? ⟨g, 1, none⟩ = some (.int .i64 x2)) (c2 : w.cell? ⟨g, 2, none⟩ = some (.int .i64 x3))
    (c3 : w.cell? ⟨g, 3, none⟩ = some (.int .i64 x4)) (c4 : w.cell? ⟨g, 4, none⟩ = some (.int .i64 x5)) (hn : n ≤ 1000000) (hbase : base ≤ w.heap.size)
    (h : ∀ v' w', w'.ownsRow base 30 5 v' (n + 1) (ints (xs ++ [x1, x2, x3, x4, x5])) → w.grownBy w' v.ownBlock → wpList Try.prog ops Q rest (a.put o.dst v') w') : wpList Try.prog ops Q (o :: rest) a w := by
  obtain ⟨i0, hi, hz0, hz1, hz2⟩ := info_parts moveInfo
  refine wpList_append_own _ hgd s u 66 ho base 30 i0 (Value.agg #[Value.int .i64 0, Value.int .i64 0, Value.int .i64 0, Value.int .i64 0, Value.int .i64 0]) 5 40 Try.underlying66 hi hz0 hz1 hz2 rfl (by decide) v n (ints xs) hs hown ⟨g, 0, none⟩ 1 1 [.int .i64 x1, .int .i64 x2, .int .i64 x3, .int .i64 x4, .int .i64 x5] hx rfl ?_ ?_ ?_ ?_ hbase ?_
  · intro j u hj
    match j, hj with
    | 0, hj => simp at hj; subst hj; exact c0
    | 1, hj => simp at hj; subst hj; exact c1
    | 2, hj => simp at hj; subst hj; exact c2
    | 3, hj => simp at hj; subst hj; exact c3
    | 4, hj => simp at hj; subst hj; exact c4
  · intro u hu; simp at hu; rcases hu with rfl | rfl | rfl | rfl | rfl <;> rfl
  · unfold maxLen; omega
  · omega
  · intro v' w' h1 h2 _
    exact h v' w' (by rw [ints_append]; exact h1) h2
set_option maxRecDepth 100000 in
theorem step_move {w : World} {ops : Array Oper} {o : Oper} {a : Act} {K : Act → World → Prop} {Q : Exit → Act → World → Prop} {E : Prop} (hgd : o.guard = none) (s u : Operand)
    (ho : o.op = .call { callee := .builtin .append, args := #[s, u], argTypes := #[66, 66] })
    (base : Nat) (v : Value) (n : Nat) (xs : List Int) (hs : a.eval s = v) (hown : w.ownsRow base 30 5 v n (ints xs)) (g : Nat) (x1 x2 x3 x4 x5 : Int)
    (hx : a.eval u = .slice (some ⟨g, 0, none⟩) 1 1) (hb : Blk w g 30 #[.int .i64 x1, .int .i64 x2, .int .i64 x3, .int .i64 x4, .int .i64 x5]) (hn : n ≤ 1000000) (hbase : base ≤ w.heap.size)
    (h : ∀ g cap w', w'.ownsRow base 30 5 (.slice (some ⟨g, 0, none⟩) (n + 1) cap) (n + 1) (ints (xs ++ [x1, x2, x3, x4, x5])) → w.grownBy w' v.ownBlock → K (a.put o.dst (.slice (some ⟨g, 0, none⟩) (n + 1) cap)) w') :
    if Region.wanted o (yielded ops a.tmps) = true then Oper.wp Try.prog o a w K Q else E := by
  obtain ⟨i0, hi, hz0, hz1, hz2⟩ := info_parts moveInfo
  refine step_append_lies _ hgd s u 66 ho base 30 i0 (Value.agg #[Value.int .i64 0, Value.int .i64 0, Value.int .i64 0, Value.int .i64 0, Value.int .i64 0]) 5 40 Try.underlying66 hi hz0 hz1 hz2 rfl (by decide) v n (ints xs) hs hown ⟨g, 0, none⟩ 1 1 [.int .i64 x1, .int .i64 x2, .int .i64 x3, .int .i64 x4, .int .i64 x5] hx rfl (World.news_of_block hb) ?_ (by decide) ?_ ?_ hbase _ rfl ?_
  · intro u hu; simp at hu; rcases hu with rfl | rfl | rfl | rfl | rfl <;> rfl
  · unfold maxLen; omega
  · omega
  · intro g cap w' h1 h2 _ _
    exact h g cap w' (by rw [ints_append]; exact h1) h2
theorem grown_of {a b : World} {r : Option Nat} (h : a.drew.grownBy b r) : a.grownBy b r := ⟨h.os, h.tape, h.output, h.size, h.block⟩
set_option maxRecDepth 100000 in
set_option maxHeartbeats 2000000 in
theorem movesOf_any (v : Value) (B : Nat) (t : TrN) (w : World) (hv : RdT w B v t) (hB : B ≤ w.heap.size) (hok : TrOk t) :
    Calls Try.prog 49 #[v] w fun e w' => ∃ u, e = .returned u ∧ w'.ownsRow w.heap.size 30 5 u t.n (ints (mvTo t t.n)) ∧ Below w.heap.size w w' := by
  have hv0 := hv
  obtain ⟨A, ca, C, cb, D, cc, rfl, ha, hb, hc⟩ := hv.form
  clear hv hv0
  have hTo := hok.to_
  have hPl := hok.place
  have hn1 := hok.n1
  have hmE := hok.m
  have hpE := hok.p
  have hmv := fun i => (show mvTo t (i + 1) = mvTo t i ++ [X t.xs i, Y t.xs i, X t.ys (plc t i), Y t.ys (plc t i), t.c] from rfl)
  obtain ⟨_, D', cc', e, hD⟩ := hc
  simp only [Value.slice.injEq, true_and] at e
  obtain ⟨rfl, rfl⟩ := e
  rw [hpE] at hD ⊢
  rw [hmE] at hb ⊢
  have Ha := Lib.hid ha
  have Hb := Lib.hid hb
  have HM := Lib.hid hmv
  have HL := Lib.hid hPl
  obtain ⟨n, en⟩ : ∃ n, t.n = n := ⟨_, rfl⟩
  obtain ⟨c, ec⟩ : ∃ c, t.c = c := ⟨_, rfl⟩
  rw [en] at Ha Hb HL hD hn1 ⊢
  rw [ec] at HM ⊢
  have k0 := Blk.new w 43 #[.slice A n ca, .slice C n cb, .int .i64 c, .slice D n cc]
  have hb0 := below_new (Below.refl w.heap.size w) (.cells #[.slice A n ca, .slice C n cb, .int .i64 c, .slice D n cc] 43)
  have hE := own_base (own_empty (w.alloc (.cells #[.slice A n ca, .slice C n cb, .int .i64 c, .slice D n cc] 43)) 30 5) hb0.size
  rw [show (w.alloc (.cells #[.slice A n ca, .slice C n cb, .int .i64 c, .slice D n cc] 43)).heap.size = w.heap.size + 1 by simp] at hE
  have HE := Lib.hid hE
  clear ha hb hmv hPl hTo hmE hpE en ec hok hE
  go_enter Try.func49, Try.ntmps49
  go_wp2_with fail
  go_loopw [3, 10] (fun o i wr => ∃ k : Nat, k ≤ n ∧ i = .int .i64 k ∧ wr.ownsRow w.heap.size 30 5 o k (ints (mvTo t k)) ∧ Blk wr w.heap.size 43 #[.slice A n ca, .slice C n cb, .int .i64 c, .slice D n cc] ∧ Below w.heap.size w wr) (fun _ i _ => n - (intOf i).toNat)
  case atStart => exact ⟨0, Nat.zero_le _, rfl, HE.out, k0.alloc _, below_new hb0 _⟩
  case round =>
    clear k0 hb0
    obtain ⟨k, hk, rfl, hown, hbk, hb⟩ := hrel
    by_cases hlt : k < n
    · obtain ⟨b, off, rfl, hbB, hcD⟩ := hD (by omega)
      have hd0 := hcD k (by omega)
      obtain ⟨hp1, hp2⟩ := HL.out k hlt
      rw [hp1] at hd0
      obtain ⟨q, eq⟩ : ∃ q, plc t k = q := ⟨_, rfl⟩
      rw [eq] at hd0 hp2
      obtain ⟨bA, oA, rfl, hbA, hcA⟩ := Ha.out.spot (by omega)
      obtain ⟨bC, oC, rfl, hbC, hcC⟩ := Hb.out.spot (by omega)
      have hA0 := hcA k hlt
      have hC0 := hcC q hp2
      have hs := HM.out k
      rw [eq] at hs
      obtain ⟨x, ex⟩ : ∃ x, X t.xs k = x := ⟨_, rfl⟩
      obtain ⟨y, ey⟩ : ∃ y, Y t.xs k = y := ⟨_, rfl⟩
      obtain ⟨z, ez⟩ : ∃ z, X t.ys q = z := ⟨_, rfl⟩
      obtain ⟨u, eu⟩ : ∃ u, Y t.ys q = u := ⟨_, rfl⟩
      rw [ex, ey] at hA0
      rw [ez, eu] at hC0
      rw [ex, ey, ez, eu] at hs
      have HC := Lib.hid (fun (V : World) (hb : Below w.heap.size w V) => (show V.cell? ⟨bA, oA + k * 2, none⟩ = some (.int .i64 x) ∧ V.cell? ⟨bA, oA + k * 2 + 1, none⟩ = some (.int .i64 y) ∧ V.cell? ⟨bC, oC + q * 2, none⟩ = some (.int .i64 z) ∧ V.cell? ⟨bC, oC + q * 2 + 1, none⟩ = some (.int .i64 u) from
        ⟨(hb.cell (p := ⟨bA, oA + k * 2, none⟩) (Nat.lt_of_lt_of_le hbA hB)).trans hA0.1, (hb.cell (p := ⟨bA, oA + k * 2 + 1, none⟩) (Nat.lt_of_lt_of_le hbA hB)).trans hA0.2, (hb.cell (p := ⟨bC, oC + q * 2, none⟩) (Nat.lt_of_lt_of_le hbC hB)).trans hC0.1, (hb.cell (p := ⟨bC, oC + q * 2 + 1, none⟩) (Nat.lt_of_lt_of_le hbC hB)).trans hC0.2⟩))
      have c0 := (hb.cell (p := ⟨bA, oA + k * 2, none⟩) (Nat.lt_of_lt_of_le hbA hB)).trans hA0.1
      have c1 := (hb.cell (p := ⟨bA, oA + k * 2 + 1, none⟩) (Nat.lt_of_lt_of_le hbA hB)).trans hA0.2
      have c2 := (hb.cell (p := ⟨bC, oC + q * 2, none⟩) (Nat.lt_of_lt_of_le hbC hB)).trans hC0.1
      have c3 := (hb.cell (p := ⟨bC, oC + q * 2 + 1, none⟩) (Nat.lt_of_lt_of_le hbC hB)).trans hC0.2
      have c4 := (hb.cell (p := ⟨b, off + k, none⟩) (Nat.lt_of_lt_of_le hbB hB)).trans hd0
      obtain ⟨f0, f1, f2, f3⟩ := hbk.c4
      have i0 : (0 : Int) ≤ (k : Int) := by omega
      have i1 : (k : Int) < (n : Int) := by omega
      have i2 : (0 : Int) ≤ (q : Int) := by omega
      have i3 : (q : Int) < (n : Int) := by omega
      have hne := own_blk_ne hown hbk (by decide)
      have HS := Lib.hid hs
      have HO := Lib.hid hown
      have HK := Lib.hid hbk
      have HB := Lib.hid hb
      have HN := Lib.hid hne
      clear hcD hd0 hp1 hcA hcC hA0 hC0 hs ex ey ez eu hown hbk hb hne eq
      have HO2 := Lib.hid (HO.out.alloc (.cells #[.int .i64 x, .int .i64 y, .int .i64 z, .int .i64 u, .int .i64 c] 30))
      have HK2 := Lib.hid (HK.out.alloc (.cells #[.int .i64 x, .int .i64 y, .int .i64 z, .int .i64 u, .int .i64 c] 30))
      have HB2 := Lib.hid (below_new HB.out (.cells #[.int .i64 x, .int .i64 y, .int .i64 z, .int .i64 u, .int .i64 c] 30))
      have n0 := Lib.hid (Blk.new wr 30 #[.int .i64 x, .int .i64 y, .int .i64 z, .int .i64 u, .int .i64 c])
      have hsz : w.heap.size ≤ (wr.alloc (.cells #[.int .i64 x, .int .i64 y, .int .i64 z, .int .i64 u, .int .i64 c] 30)).heap.size := HB2.out.size
      have HSZ := Lib.hid hsz
      have hkeep : ∀ (r9 : Option Nat) (w9 : World), r9 ≠ some w.heap.size → (∀ g, r9 = some g → w.heap.size ≤ g) → (wr.alloc (.cells #[.int .i64 x, .int .i64 y, .int .i64 z, .int .i64 u, .int .i64 c] 30)).grownBy w9 r9 → Blk w9 w.heap.size 43 #[.slice (some ⟨bA, oA, none⟩) n ca, .slice (some ⟨bC, oC, none⟩) n cb, .int .i64 c, .slice (some ⟨b, off, none⟩) n cc] ∧ Below w.heap.size w w9 := by
        intro r9 w9 hn hl hg
        exact ⟨HK2.out.grown hg (fun e => hn e.symm), HB2.out.grown hg HSZ.out hl⟩
      have HKEEP := Lib.hid hkeep
      clear hsz hkeep
      go_wp2_with fail
      go_region_held_law (fun W => W.cell? ⟨bA, oA + k * 2, none⟩ = some (.int .i64 x) ∧ W.cell? ⟨bA, oA + k * 2 + 1, none⟩ = some (.int .i64 y) ∧ W.cell? ⟨bC, oC + q * 2, none⟩ = some (.int .i64 z) ∧ W.cell? ⟨bC, oC + q * 2 + 1, none⟩ = some (.int .i64 u) ∧ W.cell? ⟨w.heap.size, 0, none⟩ = some (.slice (some ⟨bA, oA, none⟩) n ca) ∧ W.cell? ⟨w.heap.size, 1, none⟩ = some (.slice (some ⟨bC, oC, none⟩) n cb) ∧ W.cell? ⟨w.heap.size, 2, none⟩ = some (.int .i64 c))
        (first | exact ⟨c0, c1, c2, c3, f0, f1, f2⟩ | exact ⟨cell_new c0 _, cell_new c1 _, cell_new c2 _, cell_new c3 _, cell_new f0 _, cell_new f1 _, cell_new f2 _⟩ | (obtain ⟨hk9, hb9⟩ := HKEEP.out _ _ HN.out (fun g hg => (HO2.out.lt g hg).1) (grown_of hg9); obtain ⟨e0, e1, e2, e3⟩ := HC.out _ hb9; obtain ⟨l0, l1, l2, l3⟩ := hk9.c4; exact ⟨e0, e1, e2, e3, l0, l1, l2⟩))
        (first | (refine step_move rfl _ _ rfl w.heap.size _ k _ rfl HO2.out wr.heap.size x y z u c rfl n0.out (by omega) HSZ.out ?_; intro g9 cap9 w9 ho9 hg9))
      obtain ⟨hk9, hb9⟩ := HKEEP.out _ _ HN.out (fun g hg => (HO2.out.lt g hg).1) (grown_of hg9)
      rw [← HS.out] at ho9
      have HO3 := Lib.hid ho9
      have HB3 := Lib.hid hb9
      have HK3 := Lib.hid hk9
      go_split_ands
      clear c0 c1 c2 c3 f0 f1 f2 f3 c4 HKEEP HC HO HB HK HO2 HB2 HK2 n0 HSZ
      go_wp2_with fail
      go_roundw
      case rel => exact ⟨k + 1, by omega, by go_num, HO3.out, HK3.out, HB3.out⟩
      case measure => simp [intOf]; omega
    · obtain rfl : k = n := by omega
      go_wp2_with fail
      go_ret
      exact ⟨_, rfl, hown, hb⟩
set_option maxRecDepth 100000 in
set_option maxHeartbeats 2000000 in
theorem asMoves_any (v : Value) (B : Nat) (t : TrN) (w : World) (hv : RdT w B v t) (hB : B ≤ w.heap.size) (hok : TrOk t) :
    Calls Try.prog 45 #[v] w fun e w' => ∃ u, e = .returned u ∧ w'.ownsRow w.heap.size 30 5 u t.n (ints (mvTo t t.n)) ∧ Below w.heap.size w w' := by
  have hv0 := hv
  obtain ⟨A, ca, C, cb, D, cc, rfl, ha, hb, hc⟩ := hv.form
  clear hv hv0
  have hTo := hok.to_
  have hPl := hok.place
  have hn1 := hok.n1
  have hmE := hok.m
  have hpE := hok.p
  have hmv := fun i => (show mvTo t (i + 1) = mvTo t i ++ [X t.xs i, Y t.xs i, X t.ys (plc t i), Y t.ys (plc t i), t.c] from rfl)
  obtain ⟨_, D', cc', e, hD⟩ := hc
  simp only [Value.slice.injEq, true_and] at e
  obtain ⟨rfl, rfl⟩ := e
  rw [hpE] at hD ⊢
  rw [hmE] at hb ⊢
  have Ha := Lib.hid ha
  have Hb := Lib.hid hb
  have HM := Lib.hid hmv
  have HL := Lib.hid hPl
  obtain ⟨n, en⟩ : ∃ n, t.n = n := ⟨_, rfl⟩
  obtain ⟨c, ec⟩ : ∃ c, t.c = c := ⟨_, rfl⟩
  rw [en] at Ha Hb HL hD hn1 ⊢
  rw [ec] at HM ⊢
  have k0 := Blk.new w 43 #[.slice A n ca, .slice C n cb, .int .i64 c, .slice D n cc]
  have hb0 := below_new (Below.refl w.heap.size w) (.cells #[.slice A n ca, .slice C n cb, .int .i64 c, .slice D n cc] 43)
  have hE := own_base (own_empty (w.alloc (.cells #[.slice A n ca, .slice C n cb, .int .i64 c, .slice D n cc] 43)) 30 5) hb0.size
  rw [show (w.alloc (.cells #[.slice A n ca, .slice C n cb, .int .i64 c, .slice D n cc] 43)).heap.size = w.heap.size + 1 by simp] at hE
  have HE := Lib.hid hE
  clear ha hb hmv hPl hTo hmE hpE en ec hok hE
  go_enter Try.func45, Try.ntmps45
  go_wp2_with fail
  go_loopw [3, 9] (fun o i wr => ∃ k : Nat, k ≤ n ∧ i = .int .i64 k ∧ wr.ownsRow w.heap.size 30 5 o k (ints (mvTo t k)) ∧ Blk wr w.heap.size 43 #[.slice A n ca, .slice C n cb, .int .i64 c, .slice D n cc] ∧ Below w.heap.size w wr) (fun _ i _ => n - (intOf i).toNat)
  case atStart => exact ⟨0, Nat.zero_le _, rfl, World.ownsRow_nil _ _ _ _, k0, hb0⟩
  case round =>
    clear k0 hb0
    obtain ⟨k, hk, rfl, hown, hbk, hb⟩ := hrel
    by_cases hlt : k < n
    · obtain ⟨b, off, rfl, hbB, hcD⟩ := hD (by omega)
      have hd0 := hcD k (by omega)
      obtain ⟨hp1, hp2⟩ := HL.out k hlt
      rw [hp1] at hd0
      obtain ⟨q, eq⟩ : ∃ q, plc t k = q := ⟨_, rfl⟩
      rw [eq] at hd0 hp2
      obtain ⟨bA, oA, rfl, hbA, hcA⟩ := Ha.out.spot (by omega)
      obtain ⟨bC, oC, rfl, hbC, hcC⟩ := Hb.out.spot (by omega)
      have hA0 := hcA k hlt
      have hC0 := hcC q hp2
      have hs := HM.out k
      rw [eq] at hs
      obtain ⟨x, ex⟩ : ∃ x, X t.xs k = x := ⟨_, rfl⟩
      obtain ⟨y, ey⟩ : ∃ y, Y t.xs k = y := ⟨_, rfl⟩
      obtain ⟨z, ez⟩ : ∃ z, X t.ys q = z := ⟨_, rfl⟩
      obtain ⟨u, eu⟩ : ∃ u, Y t.ys q = u := ⟨_, rfl⟩
      rw [ex, ey] at hA0
      rw [ez, eu] at hC0
      rw [ex, ey, ez, eu] at hs
      have HC := Lib.hid (fun (V : World) (hb : Below w.heap.size w V) => (show V.cell? ⟨bA, oA + k * 2, none⟩ = some (.int .i64 x) ∧ V.cell? ⟨bA, oA + k * 2 + 1, none⟩ = some (.int .i64 y) ∧ V.cell? ⟨bC, oC + q * 2, none⟩ = some (.int .i64 z) ∧ V.cell? ⟨bC, oC + q * 2 + 1, none⟩ = some (.int .i64 u) from
        ⟨(hb.cell (p := ⟨bA, oA + k * 2, none⟩) (Nat.lt_of_lt_of_le hbA hB)).trans hA0.1, (hb.cell (p := ⟨bA, oA + k * 2 + 1, none⟩) (Nat.lt_of_lt_of_le hbA hB)).trans hA0.2, (hb.cell (p := ⟨bC, oC + q * 2, none⟩) (Nat.lt_of_lt_of_le hbC hB)).trans hC0.1, (hb.cell (p := ⟨bC, oC + q * 2 + 1, none⟩) (Nat.lt_of_lt_of_le hbC hB)).trans hC0.2⟩))
      have c0 := (hb.cell (p := ⟨bA, oA + k * 2, none⟩) (Nat.lt_of_lt_of_le hbA hB)).trans hA0.1
      have c1 := (hb.cell (p := ⟨bA, oA + k * 2 + 1, none⟩) (Nat.lt_of_lt_of_le hbA hB)).trans hA0.2
      have c2 := (hb.cell (p := ⟨bC, oC + q * 2, none⟩) (Nat.lt_of_lt_of_le hbC hB)).trans hC0.1
      have c3 := (hb.cell (p := ⟨bC, oC + q * 2 + 1, none⟩) (Nat.lt_of_lt_of_le hbC hB)).trans hC0.2
      have c4 := (hb.cell (p := ⟨b, off + k, none⟩) (Nat.lt_of_lt_of_le hbB hB)).trans hd0
      obtain ⟨f0, f1, f2, f3⟩ := hbk.c4
      have i0 : (0 : Int) ≤ (k : Int) := by omega
      have i1 : (k : Int) < (n : Int) := by omega
      have i2 : (0 : Int) ≤ (q : Int) := by omega
      have i3 : (q : Int) < (n : Int) := by omega
      have hne := own_blk_ne hown hbk (by decide)
      have HS := Lib.hid hs
      have HO := Lib.hid hown
      have HK := Lib.hid hbk
      have HB := Lib.hid hb
      have HN := Lib.hid hne
      clear hcD hd0 hp1 hcA hcC hA0 hC0 hs ex ey ez eu hown hbk hb hne eq
      have HO2 := Lib.hid (HO.out.alloc (.cells #[.int .i64 x, .int .i64 y, .int .i64 z, .int .i64 u, .int .i64 c] 30))
      have HK2 := Lib.hid (HK.out.alloc (.cells #[.int .i64 x, .int .i64 y, .int .i64 z, .int .i64 u, .int .i64 c] 30))
      have HB2 := Lib.hid (below_new HB.out (.cells #[.int .i64 x, .int .i64 y, .int .i64 z, .int .i64 u, .int .i64 c] 30))
      have n0 := Lib.hid (Blk.new wr 30 #[.int .i64 x, .int .i64 y, .int .i64 z, .int .i64 u, .int .i64 c])
      have hsz : w.heap.size ≤ (wr.alloc (.cells #[.int .i64 x, .int .i64 y, .int .i64 z, .int .i64 u, .int .i64 c] 30)).heap.size := HB2.out.size
      have HSZ := Lib.hid hsz
      have hkeep : ∀ (r9 : Option Nat) (w9 : World), r9 ≠ some w.heap.size → (∀ g, r9 = some g → w.heap.size ≤ g) → (wr.alloc (.cells #[.int .i64 x, .int .i64 y, .int .i64 z, .int .i64 u, .int .i64 c] 30)).grownBy w9 r9 → Blk w9 w.heap.size 43 #[.slice (some ⟨bA, oA, none⟩) n ca, .slice (some ⟨bC, oC, none⟩) n cb, .int .i64 c, .slice (some ⟨b, off, none⟩) n cc] ∧ Below w.heap.size w w9 := by
        intro r9 w9 hn hl hg
        exact ⟨HK2.out.grown hg (fun e => hn e.symm), HB2.out.grown hg HSZ.out hl⟩
      have HKEEP := Lib.hid hkeep
      clear hsz hkeep
      go_wp2_with fail
      go_region_held_law (fun W => W.cell? ⟨bA, oA + k * 2, none⟩ = some (.int .i64 x) ∧ W.cell? ⟨bA, oA + k * 2 + 1, none⟩ = some (.int .i64 y) ∧ W.cell? ⟨bC, oC + q * 2, none⟩ = some (.int .i64 z) ∧ W.cell? ⟨bC, oC + q * 2 + 1, none⟩ = some (.int .i64 u) ∧ W.cell? ⟨w.heap.size, 0, none⟩ = some (.slice (some ⟨bA, oA, none⟩) n ca) ∧ W.cell? ⟨w.heap.size, 1, none⟩ = some (.slice (some ⟨bC, oC, none⟩) n cb) ∧ W.cell? ⟨w.heap.size, 2, none⟩ = some (.int .i64 c))
        (first | exact ⟨c0, c1, c2, c3, f0, f1, f2⟩ | exact ⟨cell_new c0 _, cell_new c1 _, cell_new c2 _, cell_new c3 _, cell_new f0 _, cell_new f1 _, cell_new f2 _⟩ | (obtain ⟨hk9, hb9⟩ := HKEEP.out _ _ HN.out (fun g hg => (HO2.out.lt g hg).1) (grown_of hg9); obtain ⟨e0, e1, e2, e3⟩ := HC.out _ hb9; obtain ⟨l0, l1, l2, l3⟩ := hk9.c4; exact ⟨e0, e1, e2, e3, l0, l1, l2⟩))
        (first | (refine step_move rfl _ _ rfl w.heap.size _ k _ rfl HO2.out wr.heap.size x y z u c rfl n0.out (by omega) HSZ.out ?_; intro g9 cap9 w9 ho9 hg9))
      obtain ⟨hk9, hb9⟩ := HKEEP.out _ _ HN.out (fun g hg => (HO2.out.lt g hg).1) (grown_of hg9)
      rw [← HS.out] at ho9
      have HO3 := Lib.hid ho9
      have HB3 := Lib.hid hb9
      have HK3 := Lib.hid hk9
      go_split_ands
      clear c0 c1 c2 c3 f0 f1 f2 f3 c4 HKEEP HC HO HB HK HO2 HB2 HK2 n0 HSZ
      go_wp2_with fail
      go_roundw
      case rel => exact ⟨k + 1, by omega, by go_num, HO3.out, HK3.out, HB3.out⟩
      case measure => simp [intOf]; omega
    · obtain rfl : k = n := by omega
      go_wp2_with fail
      go_ret
      exact ⟨_, rfl, hown, hb⟩
end Go.Proofs.Ytpikhkdgohapeaa
