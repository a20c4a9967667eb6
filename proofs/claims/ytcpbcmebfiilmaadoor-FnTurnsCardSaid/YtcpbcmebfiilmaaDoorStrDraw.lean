/- A text that is drawn out of a list. Condition: the source's bytes can be read. -/
import Derived.Test.YtcpbcmebfiilmaaDoorTurnsDraw
namespace Go.Proofs.YtcpbcmebfiilmaaDoor
open Go.RowKit

theorem strInfo : (Tryd.prog.info? 9).map (fun i => (i.zero, i.size, i.bytes)) = some (some (.string ⟨#[]⟩), 1, 16) := by kernel_rfl
/-- A text is handed out, and nothing but block g has changed. -/
def HandsText (B g N : Nat) (w : World) (e : Ending) (w' : World) : Prop := ∃ s : ByteArray, e = .returned (.string s) ∧ Cur w' B g N ∧ w.grownBy w' (some g)
set_option maxHeartbeats 1000000 in
theorem of_any (B g N b n c : Nat) (ss : Nat → ByteArray) (w : World) (h : Cur w B g N) (hN : N ≤ 1000000000000) (hn0 : 0 < n) (hn : n ≤ 1000000) (hb : b ≠ g) (hbl : b < w.heap.size)
    (hx : ∀ j, j < n → w.cell? ⟨b, j, none⟩ = some (.string (ss j))) :
    Calls Tryd.prog 42 #[.pointer (some ⟨g, 0, none⟩), .slice (some ⟨b, 0, none⟩) n c] w (HandsText B g (N + 2) w) := by
  have H := Lib.hid h
  have HX := Lib.hid hx
  clear h hx
  have HP := Lib.hid (show pickHi (n : Int) ≤ (n : Int) - 1 by unfold pickHi; split <;> omega)
  go_enter Tryd.func42, Tryd.ntmps42
  go_wp2_with fail
  refine (pick_any B g N (n : Int) _ H.out hN (by omega)).mono ?_
  rintro e w1 ⟨x, x0, x1, rfl, hc1, hg1⟩
  obtain ⟨j, rfl⟩ := Int.eq_ofNat_of_zero_le x0
  have hj : j < n := by have := HP.out; omega
  have c0 : w1.cell? ⟨b, j, none⟩ = some (.string (ss j)) := (World.cell?_of_block (hg1.block b hbl (by intro e; injection e with e; exact hb e))).trans (HX.out j hj)
  obtain ⟨y, ey⟩ : ∃ y, ss j = y := ⟨_, rfl⟩
  rw [ey] at c0
  have C1 := Lib.hid hc1
  have G1 := Lib.hid hg1
  have i1 : (j : Int) < (n : Int) := by omega
  clear hc1 hg1 x1 ey
  go_wp2_with fail
  go_ret
  exact ⟨y, rfl, C1.out, G1.out⟩

def more3 : Array Value := #[.string ⟨#[]⟩, .string ⟨#[120]⟩, .string ⟨#[78]⟩]
def all11 : List Value := namesV.toList ++ more3.toList
def text11 (j : Nat) : ByteArray := match all11[j]? with | some (.string s) => s | _ => ⟨#[]⟩
theorem text11_at {j : Nat} (h : j < 11) : all11[j]? = some (.string (text11 j)) := by
  match j, h with
  | 0, _ => rfl
  | 1, _ => rfl
  | 2, _ => rfl
  | 3, _ => rfl
  | 4, _ => rfl
  | 5, _ => rfl
  | 6, _ => rfl
  | 7, _ => rfl
  | 8, _ => rfl
  | 9, _ => rfl
  | 10, _ => rfl
set_option maxRecDepth 100000 in
set_option maxHeartbeats 2000000 in
theorem DrawFacingOf_any (A : Option Addr) (n c : Nat) (w : World) (h : RdB w w.heap.size A n) (hn : n ≤ 9223372036854775807) : Calls Tryd.prog 23 #[.slice A n c] w (DrawnT w) := by
  obtain ⟨i0, hi, hz0, hz1, hz2⟩ := info_parts strInfo
  obtain ⟨a, ea⟩ : ∃ a, w.alloc (.cells #[.slice A n c, .int .i64 0, .int .u64 0] 46) = a := ⟨_, rfl⟩
  have EA := Lib.hid ea
  have hlt : w.heap.size < a.heap.size := by rw [← ea]; simp
  have C0 := Lib.hid (show Cur a w.heap.size w.heap.size 0 by rw [← ea]; exact Cur.new w A n c h hn)
  have C1 := Lib.hid ((C0.out.alloc (.cells namesV 9)).alloc (.cells more3 9))
  have G1 := Lib.hid (only_alloc (only_alloc (World.grownBy.refl a (some w.heap.size)) (.cells namesV 9)) (.cells more3 9))
  have O1 := Lib.hid (show ((a.alloc (.cells namesV 9)).alloc (.cells more3 9)).ownsRow a.heap.size 9 1 (.slice (some ⟨a.heap.size, 0, none⟩) 8 8) 8 namesV.toList from
    (show (a.alloc (.cells namesV 9)).ownsRow a.heap.size 9 1 (.slice (some ⟨a.heap.size, 0, none⟩) 8 8) 8 namesV.toList from
      ⟨rfl, .inr ⟨a.heap.size, 8, namesV, rfl, Nat.le_refl _, heap_alloc_new a _, Nat.le_refl _, by unfold maxLen; omega, rfl, rfl⟩⟩).alloc _)
  have N1 := Lib.hid (show Blk ((a.alloc (.cells namesV 9)).alloc (.cells more3 9)) (a.heap.size + 1) 9 more3 by have := Blk.new (a.alloc (.cells namesV 9)) 9 more3; simpa using this)
  have HN := Lib.hid (show ∀ j u, more3.toList[j]? = some u → ((a.alloc (.cells namesV 9)).alloc (.cells more3 9)).cell? ((⟨a.heap.size + 1, 0, none⟩ : Addr).add j) = some u from fun j u hj => by
    have e : (⟨a.heap.size + 1, 0, none⟩ : Addr).add j = ⟨a.heap.size + 1, j, none⟩ := by unfold Addr.add; split <;> simp_all
    rw [e, N1.out.cell j]
    simpa using hj)
  have H1 := Lib.hid (show ∀ u ∈ more3.toList, u.oneCell' = true from fun u hu => by
    simp only [more3, List.mem_cons, List.mem_nil_iff, or_false] at hu
    rcases hu with rfl | rfl | rfl <;> rfl)
  clear h
  go_enter Tryd.func23, Tryd.ntmps23
  go_wp2_with fail
  refine (tuNames_any _).mono ?_
  rintro e w' ⟨rfl, rfl⟩
  clear ea
  go_wp2_with (at_builtin; refine wpList_append_own _ rfl _ _ 55 rfl a.heap.size 9 i0 (.string ⟨#[]⟩) 1 16 Tryd.underlying55 hi hz0 hz1 hz2 rfl (by decide) _ 8 namesV.toList rfl O1.out ⟨a.heap.size + 1, 0, none⟩ 3 3 more3.toList rfl rfl HN.out H1.out (by unfold maxLen; omega) (by omega) (by simp; omega) ?_; intro v' w1 ho hg _)
  replace hg : ((a.alloc (.cells namesV 9)).alloc (.cells more3 9)).grownBy w1 (some a.heap.size) := hg
  have C2 := Lib.hid (C1.out.grown hg (fun k hk => by injection hk with hk; omega))
  have G2 := Lib.hid (only_grown G1.out hg (fun k hk => .inr (by injection hk with hk; omega)))
  have HO := Lib.hid ho
  obtain ⟨b, cap, rfl, hge⟩ : ∃ b cap, v' = .slice (some ⟨b, 0, none⟩) 11 cap ∧ a.heap.size ≤ b := by
    rcases ho.2 with ⟨_, h0⟩ | ⟨g1, cap, cur, hv, hb, _⟩
    · cases h0
    · exact ⟨g1, cap, hv, hb⟩
  have hbl := (HO.out.lt b rfl).2
  have HC := Lib.hid (show ∀ j, j < 11 → w1.cell? ⟨b, j, none⟩ = some (.string (text11 j)) from fun j hj => (HO.out.cellAt j (by omega)).trans (text11_at hj))
  clear ho hg O1 N1 C1 G1 HO
  go_wp2_with fail
  refine (of_any _ _ 0 b 11 cap text11 _ C2.out (by omega) (by omega) (by omega) (by omega) hbl HC.out).mono ?_
  rintro e w2 ⟨s, rfl, hc, hg⟩
  have G3 := Lib.hid (grow_trans G2.out hg)
  clear hc hg
  go_wp2_with fail
  go_ret
  exact ⟨s, rfl, by have := G3.out; rw [← EA.out] at this; exact below_cur _ this⟩
end Go.Proofs.YtcpbcmebfiilmaaDoor
