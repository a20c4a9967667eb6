/- The laws' helpers on slices of ints: toIntS copies, eqIntS says true of two slices that hold the same numbers, markIntS writes k, k+1 and so on, heldIntS finds them again. Conditions: lengths of at most 2^40, and that the slices can be read (or are owned). 'append(out, x)' to an owned slice of whole numbers. Condition: a length of at most 2^40. Memory for a slice of slices of whole numbers that a call owns: the outer slice, and each row in a block of its own; 'only the blocks from lo on and below hi have changed'. Without conditions. A slice of rows of whole numbers: one that can be read, and one that is owned and grows by rows that are owned. Without conditions. -/
import Derived.Test.YtnlneblipedddaaPFnExactEvenTransition01
import Derived.Test.YtnlneblipedddaaProg
import Derived.KernelRfl
import Derived.BigQuiet
import Derived.Deep.QuietTactic
namespace Go.Proofs.Ytnlneblipedddaa
open Go.RowKit

theorem intInfo : (Try.prog.info? 3).map (fun i => (i.zero, i.size, i.bytes)) = some (some (.int .i64 0), 1, 8) := by kernel_rfl

set_option maxHeartbeats 400000 in
theorem eqIntS_same (v u : Value) (n B : Nat) (xs : List Int) (w : World) (hv : Rd w B 1 v n xs) (hu : Rd w B 1 u n xs) (hB : B ≤ w.heap.size) (hn : n ≤ 1099511627776) :
    Calls Try.prog 58 #[v, u] w fun e w' => e = .returned (.bool true) ∧ Below w.heap.size w w' := by
  obtain ⟨_, A, c, rfl, hA⟩ := hv
  obtain ⟨_, C, d, rfl, hC⟩ := hu
  have hnn : ((n : Int) != (n : Int)) = false := by simp
  go_enter Try.func58, Try.ntmps58
  go_wp2
  go_loopw [5] (fun i wr => ∃ k : Nat, k ≤ n ∧ i = .int .i64 k ∧ Below w.heap.size w wr) (fun i _ => n - (intOf i).toNat)
  case atStart => exact ⟨0, Nat.zero_le _, rfl, Below.refl _ _⟩
  case round =>
    obtain ⟨k, hk, rfl, hb⟩ := hrel
    by_cases hlt : k < n
    · obtain ⟨b, off, rfl, hbB, hc⟩ := hA (by omega)
      obtain ⟨b', off', rfl, hbB', hc'⟩ := hC (by omega)
      have hcell : wr.cell? ⟨b, off + k, none⟩ = some (.int .i64 (xs.getD k 0)) := (hb.cell (p := ⟨b, off + k, none⟩) (Nat.lt_of_lt_of_le hbB hB)).trans (hc k (by omega))
      have hcell' : wr.cell? ⟨b', off' + k, none⟩ = some (.int .i64 (xs.getD k 0)) := (hb.cell (p := ⟨b', off' + k, none⟩) (Nat.lt_of_lt_of_le hbB' hB)).trans (hc' k (by omega))
      obtain ⟨x, hx⟩ : ∃ x, xs.getD k 0 = x := ⟨_, rfl⟩
      rw [hx] at hcell hcell'
      have hxx : (x != x) = false := by simp
      clear hc hc' hA hC hx
      go_wp2
      go_quiet (fail)
      go_wp2
      go_roundw
      case rel => exact ⟨k + 1, by omega, by go_num, below_drewN hb _⟩
      case measure => simp [intOf]; omega
    · clear hA hC
      go_wp2
      go_ret
      exact ⟨rfl, hb⟩

set_option maxHeartbeats 400000 in
theorem markIntS_any (v : Value) (n base : Nat) (vs : List Value) (k : Int) (w : World) (hown : w.ownsRow base 3 1 v n vs) (hk0 : 0 ≤ k) (hk : k ≤ 1099511627776) (hn : n ≤ 1099511627776) :
    Calls Try.prog 60 #[v, .int .i64 k] w fun e w' => e = .returned (.int .i64 (k + (n : Int))) ∧ w'.ownsRow base 3 1 v n (ints (marks n k)) ∧ w.grownBy w' v.ownBlock := by
  have hlen : vs.length = n := by have := hown.1; omega
  have Hl := Lib.hid hlen
  clear hlen
  obtain ⟨A, c, rfl, hA⟩ : ∃ A c, v = .slice A n c ∧ (0 < n → ∃ g, A = some ⟨g, 0, none⟩) := by
    rcases hown.2 with ⟨rfl, rfl⟩ | ⟨g, cap, cur, rfl, _⟩
    · exact ⟨none, 0, rfl, fun h => absurd h (by omega)⟩
    · exact ⟨_, cap, rfl, fun _ => ⟨g, rfl⟩⟩
  go_enter Try.func60, Try.ntmps60
  go_wp2
  go_loopw [1, 5] (fun q i wr => ∃ j : Nat, j ≤ n ∧ i = .int .i64 j ∧ q = .int .i64 (k + (j : Int)) ∧ wr.ownsRow base 3 1 (.slice A n c) n (marked vs k j) ∧ w.grownBy wr (Value.slice A n c).ownBlock) (fun _ i _ => n - (intOf i).toNat)
  case atStart => exact ⟨0, Nat.zero_le _, rfl, by simp, by rw [marked_zero]; exact hown, World.grownBy.refl _ _⟩
  case round =>
    obtain ⟨j, hj, rfl, rfl, hown, hg⟩ := hrel
    by_cases hlt : j < n
    · obtain ⟨g, rfl⟩ := hA (by omega)
      have hst := hown.cellAt j (by omega)
      have hjl : j < (marked vs k j).length := by have := Hl.out; rw [marked_length _ _ _ (by omega)]; omega
      rw [List.getElem?_eq_getElem hjl] at hst
      obtain ⟨x, hx⟩ : ∃ x, (marked vs k j)[j] = x := ⟨_, rfl⟩
      rw [hx] at hst
      have hfr : wr.frozen? ⟨g, j, none⟩ = false := hown.frozenAt j
      obtain ⟨hown2, hg2⟩ := hown.stored j (.int .i64 (k + (j : Int)))
      rw [marked_set vs k j (by have := Hl.out; omega)] at hown2
      have hg3 : w.grownBy (wr.setCell ⟨g, j, none⟩ (.int .i64 (k + (j : Int)))) (some g) :=
        ⟨hg2.os.trans hg.os, hg2.tape.trans hg.tape, hg2.output.trans hg.output, Nat.le_trans hg.size hg2.size, fun i hi hne => (hg2.block i (Nat.lt_of_lt_of_le hi hg.size) hne).trans (hg.block i hi hne)⟩
      have HO := Lib.hid hown2
      have HG := Lib.hid hg3
      clear hown2 hown hA hjl hx hg hg2 hg3
      go_wp2
      go_roundw
      case rel => exact ⟨j + 1, by omega, by go_num, by go_num, HO.out, HG.out⟩
      case measure => simp [intOf]; omega
    · have hjn : j = n := by omega
      have hown2 : wr.ownsRow base 3 1 (.slice A n c) n (ints (marks n k)) := by rw [hjn, marked_all vs k n Hl.out] at hown; exact hown
      subst hjn
      clear hown hA
      go_wp2
      go_ret
      exact ⟨rfl, hown2, hg⟩

set_option maxHeartbeats 400000 in
theorem heldIntS_marks (v : Value) (n B : Nat) (k : Int) (w : World) (hv : Rd w B 1 v n (marks n k)) (hk0 : 0 ≤ k) (hk : k ≤ 1099511627776) (hn : n ≤ 1099511627776) :
    Calls Try.prog 62 #[v, .int .i64 k] w fun e w' => e = .returned (.int .i64 (k + (n : Int))) ∧ w = w' := by
  obtain ⟨_, A, c, rfl, hA⟩ := hv
  go_enter Try.func62, Try.ntmps62
  go_wp2
  go_loop [1, 5] (fun q i => ∃ j : Nat, j ≤ n ∧ i = .int .i64 j ∧ q = .int .i64 (k + (j : Int))) (fun _ i => n - (intOf i).toNat)
  case atStart => exact ⟨0, Nat.zero_le _, rfl, by simp⟩
  case round =>
    obtain ⟨j, hj, rfl, rfl⟩ := hrel
    by_cases hlt : j < n
    · obtain ⟨b, off, rfl, hbB, hc⟩ := hA (by omega)
      have hcell := hc j (by omega)
      rw [marks_get n k j hlt] at hcell
      have hxx : ((k + (j : Int)) != (k + (j : Int))) = false := by simp
      clear hc hA
      go_wp2
      go_round
      case rel => exact ⟨j + 1, by omega, by go_num, by go_num⟩
      case measure => simp [intOf]; omega
    · obtain rfl : j = n := by omega
      clear hA
      go_wp2
      go_ret
      exact ⟨rfl, rfl⟩

end Go.Proofs.Ytnlneblipedddaa

namespace Go.Proofs.Ytnlneblipedddaa
open Go.RowKit
theorem app_int {w : World} {ops : Array Oper} {rest : List Oper} {o : Oper} {a : Act} {Q : Exit → Act → World → Prop} (hgd : o.guard = none) (s u : Operand)
    (ho : o.op = .call { callee := .builtin .append, args := #[s, u], argTypes := #[27, 27] })
    (base : Nat) (v : Value) (n : Nat) (xs : List Int) (hs : a.eval s = v) (hown : w.ownsRow base 3 1 v n (ints xs)) (g : Nat) (x : Int)
    (hx : a.eval u = .slice (some ⟨g, 0, none⟩) 1 1) (c0 : w.cell? ⟨g, 0, none⟩ = some (.int .i64 x)) (hn : n ≤ 1099511627776) (hbase : base ≤ w.heap.size)
    (h : ∀ v' w', w'.ownsRow base 3 1 v' (n + 1) (ints (xs ++ [x])) → w.grownBy w' v.ownBlock → wpList Try.prog ops Q rest (a.put o.dst v') w') : wpList Try.prog ops Q (o :: rest) a w := by
  obtain ⟨i0, hi, hz0, hz1, hz2⟩ := info_parts intInfo
  refine wpList_append_own _ hgd s u 27 ho base 3 i0 (.int .i64 0) 1 8 Try.underlying27 hi hz0 hz1 hz2 rfl (by decide) v n (ints xs) hs hown ⟨g, 0, none⟩ 1 1 [.int .i64 x] hx rfl ?_ ?_ ?_ ?_ hbase ?_
  · intro j u hj
    match j, hj with
    | 0, hj => simp at hj; subst hj; exact c0
  · intro u hu; simp at hu; subst hu; rfl
  · unfold maxLen; omega
  · omega
  · intro v' w' h1 h2 _
    exact h v' w' (by rw [ints_append]; exact h1) h2

theorem Blk.c1 {w : World} {g : Nat} {t : TypeId} {a : Value} (h : Blk w g t #[a]) : w.cell? ⟨g, 0, none⟩ = some a := h.cell 0
/-- A block that is known whole is not the one of an owned slice of another type. -/
theorem Blk.grown {w w' : World} {g : Nat} {t : TypeId} {cs : Array Value} {row : Option Nat} (h : Blk w g t cs) (hb : w.grownBy w' row) (hg : some g ≠ row) : Blk w' g t cs := (hb.block g h.lt hg).trans h
theorem own_blk_ne {w : World} {g : Nat} {t : TypeId} {cs : Array Value} {base : Nat} {e : TypeId} {size n : Nat} {v : Value} {xs : List Value} (h : w.ownsRow base e size v n xs) (hg : Blk w g t cs) (hne : e ≠ t) : v.ownBlock ≠ some g := by
  rcases h.2 with ⟨rfl, _⟩ | ⟨g', cap, cur, rfl, _, hh, _⟩
  · simp [Value.ownBlock]
  · intro he
    have : g' = g := by simpa [Value.ownBlock] using he
    subst this
    unfold Blk at hg
    rw [hh] at hg
    injection hg with hg
    injection hg with _ ht
    exact hne ht
end Go.Proofs.Ytnlneblipedddaa

namespace Go.Proofs.Ytnlneblipedddaa
open Go.RowKit

/-- Only blocks from lo on and below hi have changed. -/
structure Only (lo hi : Nat) (w w' : World) : Prop where
  os : w'.os = w.os
  tape : w'.tape = w.tape
  output : w'.output = w.output
  size : w.heap.size ≤ w'.heap.size
  block : ∀ k, k < w.heap.size → (k < lo ∨ hi ≤ k) → w'.heap[k]? = w.heap[k]?
section
variable {w w' w2 : World} {lo hi lo2 hi2 B : Nat}
theorem Only.refl (lo hi : Nat) (w : World) : Only lo hi w w := ⟨rfl, rfl, rfl, Nat.le_refl _, fun _ _ _ => rfl⟩
theorem Only.trans (h : Only lo hi w w') (k : Only lo hi w' w2) : Only lo hi w w2 :=
  ⟨k.os.trans h.os, k.tape.trans h.tape, k.output.trans h.output, Nat.le_trans h.size k.size, fun i hi ho => (k.block i (Nat.lt_of_lt_of_le hi h.size) ho).trans (h.block i hi ho)⟩
theorem Only.below (h : Only lo hi w w') (hB : B ≤ lo) (hBw : B ≤ w.heap.size) : Below B w w' :=
  ⟨h.os, h.tape, h.output, h.size, fun k hk => h.block k (by omega) (.inl (by omega))⟩
theorem Only.of_grown {row : Option Nat} (hg : w.grownBy w' row) (hr : ∀ k, row = some k → lo ≤ k ∧ k < hi) : Only lo hi w w' :=
  ⟨hg.os, hg.tape, hg.output, hg.size, fun k hk ho => hg.block k hk (fun e => by have := hr k e.symm; omega)⟩
theorem Only.of_below (h : Below w.heap.size w w') : Only lo hi w w' := ⟨h.os, h.tape, h.output, h.size, fun k hk _ => h.block k hk⟩
theorem Only.more (h : Only lo hi w w') (h1 : lo2 ≤ lo) (h2 : hi ≤ hi2) : Only lo2 hi2 w w' := ⟨h.os, h.tape, h.output, h.size, fun k hk ho => h.block k hk (by omega)⟩
theorem own_kept {base sz n : Nat} {e : TypeId} {v : Value} {xs : List Value} (h : w.ownsRow base e sz v n xs) (h2 : Only lo2 hi2 w w') (hd : ∀ k, v.ownBlock = some k → k < lo2 ∨ hi2 ≤ k) : w'.ownsRow base e sz v n xs := by
  refine ⟨h.1, ?_⟩
  rcases h.2 with hn | ⟨g, cap, cur, rfl, hb, hgg, rest⟩
  · exact .inl hn
  · refine .inr ⟨g, cap, cur, rfl, hb, ?_, rest⟩
    rw [h2.block g (Array.getElem?_eq_some_iff.1 hgg).1 (hd g rfl)]
    exact hgg
theorem Own.only {sz n : Nat} {e : TypeId} {v : Value} {xs : List Int} (h : Own w lo hi e sz v n xs) (h2 : Only lo2 hi2 w w') (hd : hi ≤ lo2 ∨ hi2 ≤ lo) : Own w' lo hi e sz v n xs := by
  refine ⟨own_kept h.1 h2 fun k hk => ?_, h.2⟩
  have := h.2 k hk
  have := h.1.lt k hk
  omega
theorem Blk.only {g : Nat} {t : TypeId} {cs : Array Value} (h : Blk w g t cs) (h2 : Only lo2 hi2 w w') (hd : g < lo2 ∨ hi2 ≤ g) : Blk w' g t cs := (h2.block g h.lt hd).trans h
theorem Only.alloc {a : World} (h : Only lo hi a w) (o : Obj) : Only lo hi a (w.alloc o) :=
  h.trans ⟨rfl, rfl, rfl, by simp, fun k hk _ => Below.heap_alloc _ _ _ hk⟩
end

/-- A row as a slice's element. -/
def rowV (g : Nat) (r : List Int) : Value := .slice (some ⟨g, 0, none⟩) r.length r.length
def rowVs (gs : List Nat) (rs : List (List Int)) : List Value := List.zipWith rowV gs rs
theorem rowVs_get {gs : List Nat} {rs : List (List Int)} {j g : Nat} {r : List Int} (h1 : gs[j]? = some g) (h2 : rs[j]? = some r) : (rowVs gs rs)[j]? = some (rowV g r) := by
  simp [rowVs, List.getElem?_zipWith, h1, h2]
theorem rowVs_app {gs : List Nat} {rs : List (List Int)} (h : gs.length = rs.length) (g : Nat) (r : List Int) : rowVs (gs ++ [g]) (rs ++ [r]) = rowVs gs rs ++ [rowV g r] := by
  simp [rowVs, List.zipWith_append h]

/-- The slice v is owned; its elements are slices, each of them a block of its own that holds a row of rs. -/
structure Rows (w : World) (lo : Nat) (v : Value) (n : Nat) (gs : List Nat) (rs : List (List Int)) : Prop where
  lg : gs.length = n
  lr : rs.length = n
  own : w.ownsRow lo 27 1 v n (rowVs gs rs)
  nod : gs.Nodup
  row : ∀ (j g : Nat) (r : List Int), gs[j]? = some g → rs[j]? = some r → lo ≤ g ∧ Blk w g 3 (ints r).toArray
section
variable {w w' : World} {lo lo2 hi2 n C : Nat} {v : Value} {gs : List Nat} {rs : List (List Int)}
theorem Rows.nil (w : World) (lo : Nat) : Rows w lo (.slice none 0 0) 0 [] [] :=
  ⟨rfl, rfl, World.ownsRow_nil _ _ _ _, List.nodup_nil, fun j g r h => by simp at h⟩
theorem Rows.empty (w : World) : Rows (w.alloc (.cells #[] 27)) w.heap.size (.slice (some ⟨w.heap.size, 0, none⟩) 0 0) 0 [] [] :=
  ⟨rfl, rfl, own_empty w _ _, List.nodup_nil, fun j g r h => by simp at h⟩
theorem Rows.base (h : Rows w lo v n gs rs) (hl : lo2 ≤ lo) : Rows w lo2 v n gs rs :=
  ⟨h.lg, h.lr, own_base h.own hl, h.nod, fun j g r h1 h2 => ⟨Nat.le_trans hl (h.row j g r h1 h2).1, (h.row j g r h1 h2).2⟩⟩
theorem Rows.below (h : Rows w lo v n gs rs) (hb : Below C w w') (hC : w.heap.size ≤ C) : Rows w' lo v n gs rs :=
  ⟨h.lg, h.lr, own_below h.own hb hC, h.nod, fun j g r h1 h2 => ⟨(h.row j g r h1 h2).1, (h.row j g r h1 h2).2.below hb (Nat.lt_of_lt_of_le (h.row j g r h1 h2).2.lt hC)⟩⟩
theorem Rows.alloc (h : Rows w lo v n gs rs) (o : Obj) : Rows (w.alloc o) lo v n gs rs :=
  h.below ((Below.refl _ _).alloc (Nat.le_refl _) o) (Nat.le_refl _)
theorem Rows.mem (h : Rows w lo v n gs rs) {g : Nat} (hg : g ∈ gs) : lo ≤ g ∧ g < w.heap.size := by
  obtain ⟨j, hj, rfl⟩ := List.getElem_of_mem hg
  have h1 : gs[j]? = some gs[j] := List.getElem?_eq_getElem hj
  have hr : j < rs.length := by rw [h.lr, ← h.lg]; exact hj
  have h2 : rs[j]? = some rs[j] := List.getElem?_eq_getElem hr
  exact ⟨(h.row j _ _ h1 h2).1, (h.row j _ _ h1 h2).2.lt⟩
theorem Rows.kept (h : Rows w lo v n gs rs) (h2 : Only lo2 hi2 w w') (hd : ∀ k, v.ownBlock = some k ∨ k ∈ gs → k < lo2 ∨ hi2 ≤ k) : Rows w' lo v n gs rs :=
  ⟨h.lg, h.lr, own_kept h.own h2 (fun k hk => hd k (.inl hk)), h.nod, fun j g r h1 h3 => ⟨(h.row j g r h1 h3).1, (h.row j g r h1 h3).2.only h2 (hd g (.inr (List.mem_of_getElem? h1)))⟩⟩
/-- Another slice of the same rows' blocks. -/
theorem Rows.at (h : Rows w lo v n gs rs) {j : Nat} (hj : j < n) : ∃ b c g r, v = .slice (some ⟨b, 0, none⟩) n c ∧ w.cell? ⟨b, j, none⟩ = some (rowV g r) ∧ gs[j]? = some g ∧ rs[j]? = some r ∧ r = rs.getD j [] ∧ Blk w g 3 (ints r).toArray ∧ lo ≤ g := by
  have hjg : j < gs.length := by rw [h.lg]; exact hj
  have hjr : j < rs.length := by rw [h.lr]; exact hj
  have h1 : gs[j]? = some gs[j] := List.getElem?_eq_getElem hjg
  have h2 : rs[j]? = some rs[j] := List.getElem?_eq_getElem hjr
  rcases h.own.2 with ⟨_, h0⟩ | ⟨b, cap, cur, rfl, hb, hg, _⟩
  · omega
  · exact ⟨b, cap, gs[j], rs[j], rfl, (h.own.cellAt j (by omega)).trans (rowVs_get h1 h2), h1, h2, by simp [List.getD, h2], (h.row j _ _ h1 h2).2, (h.row j _ _ h1 h2).1⟩
theorem Rows.form (h : Rows w lo v n gs rs) : ∃ A c, v = .slice A n c := by
  rcases h.own.2 with ⟨rfl, rfl⟩ | ⟨b, cap, cur, rfl, _⟩
  · exact ⟨none, 0, rfl⟩
  · exact ⟨_, cap, rfl⟩
end
theorem own_of_blk {w : World} {g lo : Nat} {r : List Int} (h : Blk w g 3 (ints r).toArray) (hl : lo ≤ g) (hm : r.length ≤ maxLen) : w.ownsRow lo 3 1 (rowV g r) r.length (ints r) :=
  ⟨by simp [ints_length], .inr ⟨g, r.length, (ints r).toArray, rfl, hl, h, Nat.le_refl _, hm, by simp [ints_length], by rw [Nat.mul_one]; exact List.take_of_length_le (by simp [ints_length])⟩⟩
theorem blk_of_own {w : World} {g lo : Nat} {r s : List Int} (h : w.ownsRow lo 3 1 (rowV g r) r.length (ints s)) (hl : s.length = r.length) : Blk w g 3 (ints s).toArray := by
  rcases h.2 with ⟨h1, _⟩ | ⟨b, cap, cur, h1, _, hg, hc, _, hs, ht⟩
  · simp [rowV] at h1
  · simp only [rowV, Value.slice.injEq, Option.some.injEq, Addr.mk.injEq] at h1
    obtain ⟨⟨rfl, _⟩, _, rfl⟩ := h1
    have : cur.toList = ints s := by
      rw [← ht, List.take_of_length_le]
      simp; omega
    unfold Blk
    rw [hg, ← this]
theorem rd_of_blk {w : World} {g : Nat} {r : List Int} (h : Blk w g 3 (ints r).toArray) : Rd w w.heap.size 1 (rowV g r) r.length r := by
  refine ⟨(Nat.mul_one _).symm, _, _, rfl, fun _ => ⟨g, 0, rfl, h.lt, fun j hj => ?_⟩⟩
  rw [h.cell, Nat.zero_add]
  simpa using ints_get r j (by omega)

/-- 'append(out, []int{..})' to an owned slice of rows. -/
theorem app_row {w : World} {ops : Array Oper} {rest : List Oper} {o : Oper} {a : Act} {Q : Exit → Act → World → Prop} (hgd : o.guard = none) (s u : Operand)
    (ho : o.op = .call { callee := .builtin .append, args := #[s, u], argTypes := #[55, 55] })
    (lo : Nat) (v : Value) (n : Nat) (gs : List Nat) (rs : List (List Int)) (hs : a.eval s = v) (h : Rows w lo v n gs rs) (b g : Nat) (r : List Int)
    (hx : a.eval u = .slice (some ⟨b, 0, none⟩) 1 1) (c0 : w.cell? ⟨b, 0, none⟩ = some (rowV g r)) (hg : Blk w g 3 (ints r).toArray) (hlo : lo ≤ g) (hnew : g ∉ gs) (hn : n ≤ 1000000) (hbase : lo ≤ w.heap.size)
    (hK : ∀ v' w', Rows w' lo v' (n + 1) (gs ++ [g]) (rs ++ [r]) → w.grownBy w' v.ownBlock → wpList Try.prog ops Q rest (a.put o.dst v') w') : wpList Try.prog ops Q (o :: rest) a w := by
  obtain ⟨i0, hi, hz0, hz1, hz2⟩ := info_parts (show (Try.prog.info? 27).map (fun i => (i.zero, i.size, i.bytes)) = some (some (.slice none 0 0), 1, 24) by kernel_rfl)
  refine wpList_append_own _ hgd s u 55 ho lo 27 i0 (.slice none 0 0) 1 24 Try.underlying55 hi hz0 hz1 hz2 rfl (by decide) v n (rowVs gs rs) hs h.own ⟨b, 0, none⟩ 1 1 [rowV g r] hx rfl ?_ ?_ ?_ ?_ hbase ?_
  · intro j u hj
    match j, hj with
    | 0, hj => simp at hj; subst hj; exact c0
  · intro u hu; simp at hu; subst hu; rfl
  · unfold maxLen; omega
  · omega
  · intro v' w' h1 h2 _
    refine hK v' w' ⟨by simp [h.lg], by simp [h.lr], by rw [rowVs_app (by rw [h.lg, h.lr])]; exact h1, ?_, fun j g' r' hg' hr' => ?_⟩ h2
    · exact List.nodup_append.2 ⟨h.nod, by simp, by intro x hx y hy; simp at hy; subst hy; intro e; subst e; exact hnew hx⟩
    · have hk : ∀ {k : Nat} {cs : Array Value}, Blk w k 3 cs → Blk w' k 3 cs := fun hb => hb.grown h2 (fun e => own_blk_ne h.own hb (by decide) e.symm)
      by_cases hj : j < n
      · rw [List.getElem?_append_left (by rw [h.lg]; exact hj)] at hg'
        rw [List.getElem?_append_left (by rw [h.lr]; exact hj)] at hr'
        have := h.row j g' r' hg' hr'
        exact ⟨this.1, hk this.2⟩
      · rw [List.getElem?_append_right (by rw [h.lg]; omega)] at hg'
        rw [List.getElem?_append_right (by rw [h.lr]; omega)] at hr'
        have e0 : j - gs.length = 0 := by
          rcases Nat.eq_zero_or_pos (j - gs.length) with h0 | h0
          · exact h0
          · rw [List.getElem?_eq_none (by simp; omega)] at hg'; cases hg'
        have e1 : j - rs.length = 0 := by rw [h.lr, ← h.lg]; exact e0
        rw [e0] at hg'
        rw [e1] at hr'
        simp at hg' hr'
        subst hg' hr'
        exact ⟨hlo, hk hg⟩

/-- Rows, all of them in blocks below hi. -/
def RowsIn (w : World) (lo hi : Nat) (v : Value) (n : Nat) (gs : List Nat) (rs : List (List Int)) : Prop := Rows w lo v n gs rs ∧ ∀ k, v.ownBlock = some k ∨ k ∈ gs → k < hi
section
variable {w w' : World} {lo hi lo2 hi2 n C : Nat} {v : Value} {gs : List Nat} {rs : List (List Int)}
theorem RowsIn.of (h : Rows w lo v n gs rs) : RowsIn w lo w.heap.size v n gs rs := ⟨h, fun k hk => by
  rcases hk with hk | hk
  · exact (h.own.lt k hk).2
  · exact (h.mem hk).2⟩
theorem RowsIn.below (h : RowsIn w lo hi v n gs rs) (hb : Below C w w') (hC : w.heap.size ≤ C) : RowsIn w' lo hi v n gs rs := ⟨h.1.below hb hC, h.2⟩
theorem RowsIn.only (h : RowsIn w lo hi v n gs rs) (h2 : Only lo2 hi2 w w') (hd : hi ≤ lo2 ∨ hi2 ≤ lo) : RowsIn w' lo hi v n gs rs :=
  ⟨h.1.kept h2 (fun k hk => by
    have := h.2 k hk
    have : lo ≤ k := by
      rcases hk with hk | hk
      · exact (h.1.own.lt k hk).1
      · exact (h.1.mem hk).1
    omega), h.2⟩
end
end Go.Proofs.Ytnlneblipedddaa

namespace Go.Proofs.Ytnlneblipedddaa
open Go.RowKit

/-- The rows can be read; they lie below B. -/
def RdR (w : World) (B : Nat) (v : Value) (n : Nat) (rs : List (List Int)) : Prop :=
  ∃ A c, v = .slice A n c ∧ (0 < n → ∃ b off, A = some ⟨b, off, none⟩ ∧ b < B ∧ ∀ j, j < n → ∃ s, w.cell? ⟨b, off + j, none⟩ = some s ∧ Rd w B 1 s (rs.getD j []).length (rs.getD j []))
section
variable {w w' : World} {B C n lo : Nat} {v : Value} {vs : List Value} {rs : List (List Int)}
theorem RdR.below' (h : RdR w B v n rs) (hb : Below C w w') (hC : B ≤ C) : RdR w' B v n rs := by
  obtain ⟨A, c, rfl, h⟩ := h
  refine ⟨A, c, rfl, fun hn => ?_⟩
  obtain ⟨b, off, rfl, hbB, hc⟩ := h hn
  refine ⟨b, off, rfl, hbB, fun j hj => ?_⟩
  obtain ⟨s, h1, h2⟩ := hc j hj
  exact ⟨s, (hb.cell (p := ⟨b, off + j, none⟩) (by show b < C; omega)).trans h1, h2.below' hb hC⟩
theorem RdR.more (h : RdR w B v n rs) (hC : B ≤ C) : RdR w C v n rs := by
  obtain ⟨A, c, rfl, h⟩ := h
  refine ⟨A, c, rfl, fun hn => ?_⟩
  obtain ⟨b, off, rfl, hbB, hc⟩ := h hn
  refine ⟨b, off, rfl, by omega, fun j hj => ?_⟩
  obtain ⟨s, h1, h2⟩ := hc j hj
  exact ⟨s, h1, h2.more hC⟩
theorem RdR.form (h : RdR w B v n rs) : ∃ A c, v = .slice A n c := by obtain ⟨A, c, e, _⟩ := h; exact ⟨A, c, e⟩
theorem Rows.rdR {gs : List Nat} (h : Rows w lo v n gs rs) : RdR w w.heap.size v n rs := by
  obtain ⟨A, c, rfl⟩ := h.form
  refine ⟨A, c, rfl, fun hn => ?_⟩
  obtain ⟨b, cp, g, r, e, _⟩ := h.at hn
  simp only [Value.slice.injEq, true_and] at e
  obtain ⟨rfl, rfl⟩ := e
  refine ⟨b, 0, rfl, (h.own.lt b rfl).2, fun j hj => ?_⟩
  obtain ⟨b', cp', g', r', e', k0, _, _, hr, hk, _⟩ := h.at hj
  simp only [Value.slice.injEq, Option.some.injEq, Addr.mk.injEq, true_and] at e'
  obtain ⟨⟨rfl, _⟩, rfl⟩ := e'
  refine ⟨_, by rw [Nat.zero_add]; exact k0, ?_⟩
  rw [← hr]
  exact rd_of_blk hk
/-- The rows are owned, and so is the slice of them. -/
structure Grid (w : World) (lo : Nat) (v : Value) (n : Nat) (vs : List Value) (rs : List (List Int)) : Prop where
  ls : vs.length = n
  lr : rs.length = n
  own : w.ownsRow lo 27 1 v n vs
  row : ∀ j s, vs[j]? = some s → w.ownsRow lo 3 1 s (rs.getD j []).length (ints (rs.getD j []))
theorem Grid.nil (w : World) (lo : Nat) : Grid w lo (.slice none 0 0) 0 [] [] := ⟨rfl, rfl, World.ownsRow_nil _ _ _ _, fun j s h => by simp at h⟩
theorem Grid.empty (w : World) : Grid (w.alloc (.cells #[] 27)) w.heap.size (.slice (some ⟨w.heap.size, 0, none⟩) 0 0) 0 [] [] := ⟨rfl, rfl, own_empty w _ _, fun j s h => by simp at h⟩
theorem Grid.below (h : Grid w lo v n vs rs) (hb : Below C w w') (hC : w.heap.size ≤ C) : Grid w' lo v n vs rs := ⟨h.ls, h.lr, own_below h.own hb hC, fun j s hj => own_below (h.row j s hj) hb hC⟩
theorem Grid.base (h : Grid w lo v n vs rs) {lo2 : Nat} (hl : lo2 ≤ lo) : Grid w lo2 v n vs rs := ⟨h.ls, h.lr, own_base h.own hl, fun j s hj => own_base (h.row j s hj) hl⟩
theorem Grid.drewN (h : Grid w lo v n vs rs) (k : Nat) : Grid (w.drewN k) lo v n vs rs := ⟨h.ls, h.lr, h.own, h.row⟩
theorem Grid.rd (h : Grid w lo v n vs rs) : RdR w w.heap.size v n rs := by
  rcases h.own.2 with ⟨rfl, h0⟩ | ⟨g, cap, cur, rfl, _⟩
  · subst h0
    exact ⟨none, 0, rfl, fun hn => absurd hn (by omega)⟩
  · refine ⟨_, _, rfl, fun hn => ⟨g, 0, rfl, (h.own.lt g rfl).2, fun j hj => ?_⟩⟩
    have hj2 : j < vs.length := by rw [h.ls]; exact hj
    have e : vs[j]? = some vs[j] := List.getElem?_eq_getElem hj2
    exact ⟨vs[j], by rw [Nat.zero_add]; exact (h.own.cellAt j (by omega)).trans e, Rd.of_own (h.row j _ e)⟩
end
theorem own_own_ne {w : World} {b1 b2 s1 s2 n m : Nat} {e1 e2 : TypeId} {v u : Value} {xs ys : List Value} (h : w.ownsRow b1 e1 s1 v n xs) (k : w.ownsRow b2 e2 s2 u m ys) (hne : e1 ≠ e2) : v.ownBlock = none ∨ v.ownBlock ≠ u.ownBlock := by
  rcases h.2 with ⟨rfl, _⟩ | ⟨g, cap, cur, rfl, _, hg, _⟩
  · exact .inl rfl
  · right
    rcases k.2 with ⟨rfl, _⟩ | ⟨g', cap', cur', rfl, _, hg', _⟩
    · simp [Value.ownBlock]
    · intro he
      have : g = g' := by simpa [Value.ownBlock] using he
      subst this
      rw [hg] at hg'
      injection hg' with hg'
      injection hg' with _ ht
      exact hne ht
theorem own_keep {w w' : World} {b1 b2 s1 s2 n m : Nat} {e1 e2 : TypeId} {v u : Value} {xs ys : List Value} (h : w.ownsRow b1 e1 s1 v n xs) (k : w.ownsRow b2 e2 s2 u m ys) (hne : e1 ≠ e2) (hg : w.grownBy w' u.ownBlock) : w'.ownsRow b1 e1 s1 v n xs := h.kept hg (own_own_ne h k hne)
/-- 'append(out, row)'. -/
theorem app_grid {w : World} {ops : Array Oper} {rest : List Oper} {o : Oper} {a : Act} {Q : Exit → Act → World → Prop} (hgd : o.guard = none) (s u : Operand)
    (ho : o.op = .call { callee := .builtin .append, args := #[s, u], argTypes := #[55, 55] })
    (lo : Nat) (v : Value) (n : Nat) (vs : List Value) (rs : List (List Int)) (hs : a.eval s = v) (h : Grid w lo v n vs rs) (b : Nat) (x : Value) (r : List Int)
    (hx : a.eval u = .slice (some ⟨b, 0, none⟩) 1 1) (c0 : w.cell? ⟨b, 0, none⟩ = some x) (hr : w.ownsRow lo 3 1 x r.length (ints r)) (hn : n ≤ 1000000) (hbase : lo ≤ w.heap.size)
    (hK : ∀ v' w', Grid w' lo v' (n + 1) (vs ++ [x]) (rs ++ [r]) → w.grownBy w' v.ownBlock → wpList Try.prog ops Q rest (a.put o.dst v') w') : wpList Try.prog ops Q (o :: rest) a w := by
  obtain ⟨i0, hi, hz0, hz1, hz2⟩ := info_parts (show (Try.prog.info? 27).map (fun i => (i.zero, i.size, i.bytes)) = some (some (.slice none 0 0), 1, 24) by kernel_rfl)
  obtain ⟨A, c, rfl⟩ : ∃ A c, x = .slice A r.length c := by obtain ⟨_, A, c, e, _⟩ := Rd.of_own hr; exact ⟨A, c, e⟩
  refine wpList_append_own _ hgd s u 55 ho lo 27 i0 (.slice none 0 0) 1 24 Try.underlying55 hi hz0 hz1 hz2 rfl (by decide) v n vs hs h.own ⟨b, 0, none⟩ 1 1 [.slice A r.length c] hx rfl ?_ ?_ ?_ ?_ hbase ?_
  · intro j u hj
    match j, hj with
    | 0, hj => simp at hj; subst hj; exact c0
  · intro u hu; simp at hu; subst hu; rfl
  · unfold maxLen; omega
  · omega
  · intro v' w' h1 h2 _
    refine hK v' w' ⟨by simp [h.ls], by simp [h.lr], h1, fun j s hj => ?_⟩ h2
    by_cases hjn : j < n
    · rw [List.getElem?_append_left (by rw [h.ls]; exact hjn)] at hj
      have e : (rs ++ [r]).getD j [] = rs.getD j [] := by
        rw [List.getD_eq_getElem?_getD, List.getElem?_append_left (by rw [h.lr]; exact hjn), ← List.getD_eq_getElem?_getD]
      rw [e]
      exact own_keep (h.row j s hj) h.own (by decide) h2
    · rw [List.getElem?_append_right (by rw [h.ls]; omega)] at hj
      have e0 : j - vs.length = 0 := by
        rcases Nat.eq_zero_or_pos (j - vs.length) with h0 | h0
        · exact h0
        · rw [List.getElem?_eq_none (by simp; omega)] at hj; cases hj
      rw [e0] at hj
      simp at hj
      subst hj
      have e : (rs ++ [r]).getD j [] = r := by
        have hj2 : j = rs.length := by have := h.ls; have := h.lr; omega
        subst hj2
        simp
      rw [e]
      exact own_keep hr h.own (by decide) h2
end Go.Proofs.Ytnlneblipedddaa
