/- Contracts of the program's waves. Conditions: the transition is good, its slices can be read, and the least distance lies within its bounds. -/
import Derived.Test.YtpikhkdgohapeaaSets
import Derived.Test.YtpikhkdgohapeaaFill
import Derived.Deep.OwnRows
namespace Go.Proofs.Ytpikhkdgohapeaa
open Go.RowKit

/-- The least number of waves, and the first waves. -/
noncomputable def wvP (q : Nat → Nat → Bool) (n : Nat) : Nat × List Nat := if h : 1 ≤ n then ((lw_exists q n h).choose, (lw_exists q n h).choose_spec.choose) else (0, [])
theorem wvP_ok {q : Nat → Nat → Bool} {n : Nat} (h : 1 ≤ n) : LeastWaves q n (wvP q n).1 (wvP q n).2 := by
  unfold wvP; rw [dif_pos h]; exact (lw_exists q n h).choose_spec.choose_spec
theorem wvP_eq {q : Nat → Nat → Bool} {n m : Nat} {r : List Nat} (h : 1 ≤ n) (hl : LeastWaves q n m r) : wvP q n = (m, r) := by
  have := lw_unique (wvP_ok (q := q) h) hl
  rw [← this.1, ← this.2]
theorem own_some {w : World} {base n sz : Nat} {e : TypeId} {v : Value} {xs : List Value} (h : w.ownsRow base e sz v n xs) (hn : 1 ≤ n) : ∃ b c, v = .slice (some ⟨b, 0, none⟩) n c ∧ base ≤ b ∧ b < w.heap.size := by
  have hl := h.lt
  rcases h.2 with ⟨rfl, h0⟩ | ⟨g, cap, cur, rfl, _⟩
  · have := h.1
    rw [h0] at this
    simp at this
    first | omega | (exfalso; have := h.1; simp_all)
  · exact ⟨g, cap, rfl, hl g rfl⟩
theorem own_made (W : World) {base n : Nat} (hb : base ≤ W.heap.size) (hn : n ≤ 1000) : (W.alloc (.cells (madeCells #[Value.int .i64 0] n) 3)).ownsRow base 3 1 (.slice (some ⟨W.heap.size, 0, none⟩) n n) n (ints (List.replicate n 0)) := by
  have e : (madeCells #[Value.int .i64 0] n).toList = ints (List.replicate n 0) := madeInts n
  have hs : (madeCells #[Value.int .i64 0] n).size = n * 1 := by
    have := congrArg List.length e
    simp [ints] at this
    omega
  have h := World.ownsRow_lit (base := base) (e := 3) (size := 1) W (madeCells #[Value.int .i64 0] n) n hb (by unfold maxLen; omega) hs
  rwa [e] at h
set_option maxRecDepth 100000 in
set_option maxHeartbeats 4000000 in
theorem wavesOf_any (v : Value) (B : Nat) (t : TrN) (L : Int) (w : World) (hv : RdT w B v t) (hB : B ≤ w.heap.size) (hok : TrOk t) (hL0 : 0 ≤ L) (hL : L ≤ 80) :
    Calls Try.prog 57 #[v, .int .i64 L] w fun e w' => ∃ u, e = .returned (.tuple #[u, .int .i64 ((wvP (qS (smAll (cfAt t L) t.n)) t.n).1 : Int)]) ∧ w'.ownsRow w.heap.size 3 1 u t.n (ints (nats (wvP (qS (smAll (cfAt t L) t.n)) t.n).2)) ∧ Below w.heap.size w w' := by
  have hcp : True := trivial
  obtain ⟨A, ca, C, cb, D, cc, rfl, _, _, _⟩ := hv.form
  have hb0 : Below w.heap.size w (w.alloc (.cells #[.slice A t.n ca, .slice C t.m cb, .int .i64 t.c, .slice D t.p cc] 43)) := below_new (Below.refl _ _) _
  have k0 := Blk.new w 43 #[.slice A t.n ca, .slice C t.m cb, .int .i64 t.c, .slice D t.p cc]
  have Hv := Lib.hid (fun W (hb : Below w.heap.size w W) => hv.below' hb hB)
  have Hc := Lib.hid hcp
  have HB0 := Lib.hid hb0
  have K0 := Lib.hid k0
  obtain ⟨a0, a1, a2, a3⟩ := k0.c4
  clear hv hcp hb0 k0
  have hn1 := hok.n1
  have hn0 := hok.n0
  have hR := fun W (hb : Below w.heap.size w W) => conflictSets_any _ B t L W (Hv.out W hb) (Nat.le_trans hB hb.size) hok hL0 hL
  have HMI := Lib.hid (smAll_in (p := cfAt t L) (n := t.n) hn1 (Nat.le_refl _))
  have HLN := Lib.hid (show (smAll (cfAt t L) t.n).length = t.n from smTo_length _ _ _)
  rw [show smTo (prTo (cfAt t L) t.n t.n) t.n (prTo (cfAt t L) t.n t.n).length = smAll (cfAt t L) t.n from rfl] at HMI
  obtain ⟨l, el⟩ : ∃ l, smAll (cfAt t L) t.n = l := ⟨_, rfl⟩
  rw [el] at hR HMI HLN ⊢
  have HR := Lib.hid hR
  have HPE := Lib.hid (fun m r (h : LeastWaves (qS l) t.n m r) => wvP_eq hn0 h)
  have HWN := Lib.hid (waves_n (qS l) t.n hn0)
  have HHOK := Lib.hid hok
  clear hR hok el
  have hmk := fun W => run_make_row' (P := Try.prog) 36 3 (.int .i64 0) 8 Try.underlying36 intInfo rfl .i64 .i64 t.n (by omega) (by omega) W
  go_enter Try.func57, Try.ntmps57
  go_upto_region 1 with (fail)
  go_cut [6, 7] (fun s u wx => ∃ bs cv g : Nat, s = .slice (some ⟨bs, 0, none⟩) t.n cv ∧ u = .slice (some ⟨g, 0, none⟩) t.n t.n ∧ bs ≠ g ∧ wx.ownsRow w.heap.size 3 1 (.slice (some ⟨bs, 0, none⟩) t.n cv) t.n (ints l) ∧ wx.ownsRow w.heap.size 3 1 (.slice (some ⟨g, 0, none⟩) t.n t.n) t.n (ints (List.replicate t.n 0)) ∧ Below w.heap.size w wx)
  case first =>
    go_region_held3 (fun W => W.cell? ⟨w.heap.size, 0, none⟩ = some (.slice A t.n ca) ∧ W.cell? ⟨w.heap.size, 1, none⟩ = some (.slice C t.m cb) ∧ W.cell? ⟨w.heap.size, 2, none⟩ = some (.int .i64 t.c) ∧ W.cell? ⟨w.heap.size, 3, none⟩ = some (.slice D t.p cc) ∧ Below w.heap.size w W)
      (first | exact ⟨a0, a1, a2, a3, HB0.out.drew⟩ | (go_split_ands; exact ⟨cell_on hb2 (by assumption), cell_on hb2 (by assumption), cell_on hb2 (by assumption), cell_on hb2 (by assumption), below_on (by assumption) hb2⟩) | (go_split_ands; exact ⟨cell_new (by assumption) _, cell_new (by assumption) _, cell_new (by assumption) _, cell_new (by assumption) _, below_new (by assumption) _⟩) | go_keep)
      (first | (go_at_call 63; refine (HR.out _ (by go_split_ands; assumption)).mono ?_; rintro e w2 ⟨u2, rfl, ho2, hb2⟩))
    · obtain ⟨bs, cv, rfl, h1, h2⟩ := own_some ho2 hn0
      have hbz : w.heap.size ≤ w2.heap.size := Nat.le_trans HB0.out.size hb2.size
      have HA := Lib.hid (own_made w2 (base := w.heap.size) (n := t.n) hbz (by omega))
      have HB9 := Lib.hid (below_new (below_on HB0.out.drew hb2) (.cells (madeCells #[Value.int .i64 0] t.n) 3))
      have HS9 := Lib.hid (own_base (ho2.alloc (.cells (madeCells #[Value.int .i64 0] t.n) 3)) (show w.heap.size ≤ _ from HB0.out.size))
      go_wp2_with fail
      go_meet
      exact ⟨bs, cv, _, rfl, rfl, by omega, HS9.out, HA.out, HB9.out⟩
    · obtain ⟨bs, cv, rfl, h1, h2⟩ := own_some ho2 hn0
      have ha := own_made (w.alloc (.cells #[.slice A t.n ca, .slice C t.m cb, .int .i64 t.c, .slice D t.p cc] 43)).drew (base := w.heap.size) (n := t.n) HB0.out.size (by omega)
      have hz : ((w.alloc (.cells #[.slice A t.n ca, .slice C t.m cb, .int .i64 t.c, .slice D t.p cc] 43)).drew).heap.size = w.heap.size + 1 := by show (w.alloc _).heap.size = _; simp
      rw [hz] at ha
      have HA := Lib.hid (own_below ha hb2 (Nat.le_refl _))
      have HB9 := Lib.hid (below_on (below_new HB0.out.drew (.cells (madeCells #[Value.int .i64 0] t.n) 3)) hb2)
      have hz2 : ((w.alloc (.cells #[.slice A t.n ca, .slice C t.m cb, .int .i64 t.c, .slice D t.p cc] 43)).drew.alloc (.cells (madeCells #[Value.int .i64 0] t.n) 3)).heap.size = w.heap.size + 2 := by rw [show ∀ (W : World) o, (W.alloc o).heap.size = W.heap.size + 1 from fun W o => by simp, hz]
      have h3 : w.heap.size + 2 ≤ bs := by rw [← hz2]; exact h1
      have HS9 := Lib.hid (own_base (base' := w.heap.size) ho2 (by show w.heap.size ≤ ((w.alloc _).alloc _).heap.size; simp; omega))
      go_wp2_with fail
      go_meet
      exact ⟨bs, cv, w.heap.size + 1, rfl, rfl, by omega, HS9.out, HA.out, HB9.out⟩
  case rest =>
    obtain ⟨bs, cv, g, rfl, rfl, hne, hs9, ha9, hb9⟩ := hcut
    have hbs : bs < wc.heap.size := (hs9.lt bs rfl).2
    have hg9 : w.heap.size ≤ g := (ha9.lt g rfl).1
    have HCS := Lib.hid (fun W (ho : Only g (g + 1) wc W) (j : Nat) (hj : j < t.n) => (World.cell?_of_block (a := ⟨bs, j, none⟩) (ho.block bs hbs (by omega))).trans ((hs9.cellAt j (by omega)).trans (ints_get l j (by have := HLN.out; omega))))
    have HA := Lib.hid ha9
    have HB9 := Lib.hid hb9
    clear hs9 ha9 hb9 a0 a1 a2 a3 K0 HB0 hmk
    go_wp2_with fail
    go_loopw [8] (fun s wr => ∃ (m : Nat) (ys : List Int), 1 ≤ m ∧ m ≤ t.n ∧ s = .int .i64 m ∧ (∀ k, 1 ≤ k → k < m → fwF (qS l) k t.n [] = none) ∧ wr.ownsRow w.heap.size 3 1 (.slice (some ⟨g, 0, none⟩) t.n t.n) t.n (ints ys) ∧ Only g (g + 1) wc wr) (fun s _ => t.n - (intOf s).toNat)
    case atStart => exact ⟨1, _, Nat.le_refl _, hn0, rfl, fun k h1 h2 => absurd h1 (by omega), HA.out, Only.refl _ _ _⟩
    case round =>
      clear HA
      obtain ⟨m, ys, hm1, hm2, rfl, hno, hown, honly⟩ := hrel
      have hc := fillWaves_any l t.n m HMI.out HLN.out hn1 (by omega) t.n 0 (by omega) [] ys bs 0 cv g t.n w.heap.size wr rfl (fun j hj => by rw [Nat.zero_add]; exact HCS.out wr honly j hj) (Nat.lt_of_lt_of_le hbs honly.size) hne hown (fun j hj => absurd hj (by omega))
      rw [show ((0 : Nat) : Int) = 0 from rfl] at hc
      have HON := Lib.hid honly
      have HNO := Lib.hid hno
      cases ho : fwF (qS l) m t.n [] with
      | some r =>
        rw [ho] at hc
        have HW := Lib.hid (HPE.out m r ⟨hm1, ho, hno⟩)
        have HC := Lib.hid hc
        clear hc ho hno honly hown
        go_wp2_with fail
        refine HC.out.mono ?_
        rintro e w5 ⟨zs, rfl, o5, d5, n5⟩
        have HO5 := Lib.hid (show w5.ownsRow w.heap.size 3 1 (.slice (some ⟨g, 0, none⟩) t.n t.n) t.n (ints (nats r)) by
          have : zs = nats r := d5
          rw [← this]; exact o5)
        have HB5 := Lib.hid (HB9.out.trans ((HON.out.trans n5).below hg9 HB9.out.size))
        clear o5 d5 n5
        go_wp2_with fail
        go_ret2
        exact ⟨_, by rw [HW.out]; rfl, by rw [HW.out]; exact HO5.out, HB5.out⟩
      | none =>
        have hmn : m < t.n := by
          rcases Nat.lt_or_ge m t.n with h | h
          · exact h
          · obtain rfl : m = t.n := by omega
            exact absurd ho HWN.out
        have HNO2 := Lib.hid (show ∀ k, 1 ≤ k → k < m + 1 → fwF (qS l) k t.n [] = none from fun k h1 h2 => by
          rcases Nat.lt_succ_iff_lt_or_eq.1 h2 with h | rfl
          · exact hno k h1 h
          · exact ho)
        rw [ho] at hc
        have HC := Lib.hid hc
        clear hc ho hno honly hown
        go_wp2_with fail
        refine HC.out.mono ?_
        rintro e w5 ⟨zs, rfl, o5, d5, n5⟩
        have HO5 := Lib.hid o5
        have HN5 := Lib.hid (HON.out.trans n5)
        clear o5 d5 n5
        go_wp2_with fail
        go_roundw
        case rel => exact ⟨m + 1, zs, by omega, by omega, by go_num, HNO2.out, HO5.out, HN5.out⟩
        case measure => simp [intOf]; omega
end Go.Proofs.Ytpikhkdgohapeaa
