/- A contract of the program's LeastGreatest. Conditions: at most twelve rows of as many costs, each between 0 and 2100000, in memory that can be read. -/
import Derived.Test.YtnlneblipedddaaPFnExactEvenTransition21
import Derived.Test.YtnlneblipedddaaPFnExactEvenTransition03
import Derived.Test.YtnlneblipedddaaPFnExactEvenTransition26
namespace Go.Proofs.Ytnlneblipedddaa
open Go.RowKit


theorem fst_hit {P : Nat → Bool} {k : Nat} (h0 : ∀ j, j < k → P j = false) (h1 : P k = true) : ∀ {n}, k < n → fst P n = (k : Int) := by
  have hneg : ∀ m, m ≤ k → fst P m < 0 := by
    intro m
    induction m with
    | zero => intro _; show (-1 : Int) < 0; decide
    | succ m ih =>
      intro hm
      have h2 := ih (by omega)
      have h3 := h0 m (by omega)
      show (if fst P m < 0 && P m then (m : Int) else fst P m) < 0
      rw [h3]
      simpa using h2
  intro n
  induction n with
  | zero => intro h; omega
  | succ n ih =>
    intro h
    show (if fst P n < 0 && P n then (n : Int) else fst P n) = k
    by_cases e : k = n
    · subst e
      have := hneg k (Nat.le_refl _)
      simp [h1, this]
    · have h2 := ih (by omega)
      rw [h2]
      have h3 : ¬ ((k : Int) < 0) := by omega
      simp [h3]
theorem fst_no {P : Nat → Bool} : ∀ {n}, (∀ j, j < n → P j = false) → fst P n < 0
  | 0, _ => by show (-1 : Int) < 0; decide
  | n + 1, h => by
    have h2 := fst_no (n := n) (fun j hj => h j (by omega))
    have h3 := h n (by omega)
    show (if fst P n < 0 && P n then (n : Int) else fst P n) < 0
    rw [h3]
    simpa using h2
/-- The choice always finds a column. -/
theorem mx_hit {C : Nat → Nat → Int} {n : Nat} (hC : CostOk C) (hn : n ≤ 12) {i : Nat} (hi : i < n) : mxS C (mx C n) (evM C n) n i < 2 ^ n ∧ 0 ≤ fst (mxP C (mx C n) (evM C n) i (mxS C (mx C n) (evM C n) n i)) n := by
  have hs := mx_same hC hn (ev_bound hC n).1 (Int.le_refl _)
  obtain ⟨a1, a2, -⟩ := hs i (by omega)
  obtain ⟨-, b2, -⟩ := hs (i + 1) (by omega)
  obtain ⟨c1, -, c3⟩ := mlS_ok (mark_ok C (evM C n)) hn i (by omega)
  obtain ⟨d1, -, -⟩ := c3 hi
  refine ⟨by rw [a1]; exact c1, ?_⟩
  have e : fst (mxP C (mx C n) (evM C n) i (mxS C (mx C n) (evM C n) n i)) n = fst (mlP (mark C (evM C n)) (tb (mark C (evM C n)) n) i (mlS (mark C (evM C n)) (tb (mark C (evM C n)) n) n i)) n := by
    have h := b2
    rw [mxL, mlL, a2] at h
    have := List.append_cancel_left h
    simpa using this
  rw [e]
  exact d1
theorem u64_in (u : Nat) (h : u < 4096) : IntKind.u64.wrap (u : Int) = (u : Int) := by
  simp [IntKind.wrap, IntKind.bits, IntKind.signed]
  omega
theorem set_prev {u M : Nat} (h : u + 1 < M) (hM : M ≤ 4096) : IntKind.i64.wrap ((u : Int) - 1) = (u : Int) - 1 := IntWalk.i64_in _ (by omega)
theorem pop_less {n u : Nat} (hn : 1 ≤ n) (hu : u + 1 < 2 ^ n) : popc u n < n := by
  have h0 : oth n u ≠ 0 := by unfold oth; omega
  obtain ⟨j, hj, hb⟩ := bit_some h0 oth_lt
  have := popc_pos hb hj
  have := popc_oth (show u < 2 ^ n by omega) n (Nat.le_refl _)
  omega
set_option maxRecDepth 100000 in
set_option maxHeartbeats 4000000 in
theorem implLeastGreatest_any (B n : Nat) (v : Value) (rs : List (List Int)) (w : World) (h : RdR w B v n rs) (hB : B ≤ w.heap.size) (hn0 : 1 ≤ n) (hn : n ≤ 12) (hr : Sq n rs) (hC : CostOk (cst rs)) :
    Calls Try.prog 41 #[v] w fun e w' => ∃ u, e = .returned (.tuple #[u, .int .i64 (evM (cst rs) n), .bool true]) ∧ w'.ownsRow w.heap.size 3 1 u n (ints (evL (cst rs) n)) ∧ Below w.heap.size w w' := by
  have PA := Lib.hid (AreCosts_yes B n v rs w h hn0 hn hr hC)
  obtain ⟨A, c, rfl, hrr⟩ := h
  obtain ⟨b, off, rfl, hbB, hrow⟩ := hrr (by omega)
  have hbw : b < w.heap.size := by omega
  have HROWS := Lib.hid hrow
  have HSQ := Lib.hid hr
  obtain ⟨T, eT⟩ : ∃ T, cst rs = T := ⟨_, rfl⟩
  have HT := Lib.hid eT
  rw [eT] at hC ⊢
  have HHIT := Lib.hid (fun i (hi : i < n) => mx_hit hC hn hi)
  have HOTH := Lib.hid (fun u (hu : u < 2 ^ n) (k : Nat) (hk : k < n) (hb : u.testBit k = false) => oth_set hu hk hb)
  have HOB := Lib.hid (fun u (hu : u < 2 ^ n) (k : Nat) (hk : k < n) => oth_bit hu hk)
  have HOL := Lib.hid (fun u (hu : u < 2 ^ n) (k : Nat) (hk : k < n) => or_lt hu hk)
  have HUM := Lib.hid (fun u (hu : u + 1 < 2 ^ n) => um_is (C := T) (n := n) (u := u) hu)
  have HPL := Lib.hid (fun u (hu : u + 1 < 2 ^ n) => pop_less hn0 hu)
  have HP12 := Lib.hid (fun u (hu : u < 2 ^ n) => popc_12 hn hu)
  have HTOP := Lib.hid (usL_top (F := mx T n) (mx_zero T n) n)
  have HUG := Lib.hid (fun m j (hj : m ≤ j) (h : j < 2 ^ n) => usL_get (F := mx T n) (n := n) hj h)
  have HUS := Lib.hid (fun m (h : m < 2 ^ n) => usL_set (F := mx T n) (n := n) h)
  have HUN := Lib.hid (fun m => usL_length (mx T n) n m)
  have hev : evM T n = mx T n (2 ^ n - 1) := rfl
  have HS0 := Lib.hid (show mxS T (mx T n) (evM T n) n 0 = 2 ^ n - 1 from rfl)
  have HEL := Lib.hid (show evL T n = mxL T (mx T n) (evM T n) n n from rfl)
  have hO0 : oth n 0 = 2 ^ n - 1 := rfl
  have hOdef := (show ∀ u, oth n u = 2 ^ n - 1 - u from fun u => by unfold oth; omega)
  have hM1 : 2 ^ 1 ≤ 2 ^ n := Nat.pow_le_pow_right (by decide) hn0
  have hM2 : 2 ^ n ≤ 4096 := Nat.pow_le_pow_right (by decide) hn
  obtain ⟨M, eM⟩ : ∃ M : Nat, 2 ^ n = M := ⟨_, rfl⟩
  have sh : wrap64 (2 ^ n) = (M : Int) := by rw [one_shl2 n (by omega), ← eM]; exact_mod_cast rfl
  rw [eM] at HUM HPL HP12 HTOP HUG HUS HUN hev HS0 hO0 hOdef hM1 hM2 HHIT HOTH HOB HOL
  rw [Nat.pow_one] at hM1
  obtain ⟨F, eF⟩ : ∃ F, mx T n = F := ⟨_, rfl⟩
  rw [eF] at HUM HTOP HUG HUS HUN hev HS0 HEL HHIT
  have HEV := Lib.hid hev
  have HO0 := Lib.hid hO0
  have HOD := Lib.hid hOdef
  have HC := Lib.hid hC
  have EF := Lib.hid eF
  have EM := Lib.hid eM
  clear hrr hrow hr hC eT eF eM hev hO0 hOdef
  obtain ⟨i0, hi, hz0, hz1, hz2⟩ := info_parts intInfo
  have hz2' : i0.bytes * M ≤ 281474976710656 := by rw [hz2]; omega
  go_enter Try.func41, Try.ntmps41
  go_wp2_with fail
  refine PA.out.mono ?_
  rintro e w' ⟨rfl, rfl⟩
  clear PA
  go_wp2_with (at_make; rw [sh]; refine wpList_make_full _ rfl (.tmp 20) (.tmp 20) 27 rfl w.heap.size 3 i0 (.int .i64 0) 1 Try.underlying27 hi hz0 hz1 .i64 .i64 M M M rfl rfl rfl rfl hz2' (by unfold maxLen; omega) (by first | exact Nat.le_refl _ | simp) ?_; intro w3 hown1 hg1)
  rw [Nat.mul_one, madeInts] at hown1
  have HO3 := Lib.hid (show w3.ownsRow w.heap.size 3 1 (.slice (some ⟨w.heap.size, 0, none⟩) M M) M (ints (usL F n (M - 1))) by rw [HTOP.out]; exact hown1)
  have HB3 := Lib.hid ((Below.refl w.heap.size w).grown hg1 (Nat.le_refl _) (by simp))
  clear hown1 hg1 hi hz0 hz1 hz2 hz2'
  have s1 : (M : Int) - 2 = ((M - 1 : Nat) : Int) - 1 := by omega
  have s2 := IntWalk.i64_in ((M : Int) - 2) (by omega)
  go_wp2_with fail
  rw [sh]
  go_wp2_with fail
  go_loopw [7] (fun i wr => ∃ m : Nat, m + 1 ≤ M ∧ i = .int .i64 ((m : Int) - 1) ∧ wr.ownsRow w.heap.size 3 1 (.slice (some ⟨w.heap.size, 0, none⟩) M M) M (ints (usL F n m)) ∧ Below w.heap.size w wr) (fun i _ => (intOf i + 1).toNat)
  case atStart => exact ⟨M - 1, by omega, by rw [← s1], HO3.out, HB3.out⟩
  case round =>
    clear HO3 HB3 s1 s2
    obtain ⟨m, hm, rfl, hown, hb⟩ := hrel
    have HO := Lib.hid hown
    have HB := Lib.hid hb
    clear hown hb
    obtain ⟨wo, ewo⟩ : ∃ wo, wr = wo := ⟨_, rfl⟩
    rw [ewo] at HO HB ⊢
    clear ewo
    by_cases h0 : m = 0
    · subst h0
      have en1 : ((0 : Nat) : Int) - 1 = -1 := rfl
      rw [en1]
      clear en1
      have HTC := Lib.hid (fun (W : World) (hb : Below wo.heap.size wo W) (j : Nat) (hj : j < M) => ((hb.cell (p := ⟨w.heap.size, j, none⟩) (HO.out.lt w.heap.size rfl).2).trans ((HO.out.cellAt j (by omega)).trans ((ints_get _ j (by rw [HUN.out]; exact hj)).trans (by rw [HUG.out 0 j (Nat.zero_le _) hj]))) : W.cell? ⟨w.heap.size, j, none⟩ = some (.int .i64 (F (oth n j)))))
      have HX0 := Lib.hid (HOD.out 0)
      have hos0 : oth n 0 = mxS T F (evM T n) n 0 := by rw [HO0.out, HS0.out]
      have hm0 : F (oth n 0) = evM T n := by rw [HO0.out, HEV.out]
      have hol0 := HOL.out
      have HSN := Lib.hid (show ∀ i, mxS T F (evM T n) n (i + 1) = mxS T F (evM T n) n i ^^^ 2 ^ (fst (mxP T F (evM T n) i (mxS T F (evM T n) n i)) n).toNat from fun i => rfl)
      have HLN := Lib.hid (show ∀ i, mxL T F (evM T n) n (i + 1) = mxL T F (evM T n) n i ++ [fst (mxP T F (evM T n) i (mxS T F (evM T n) n i)) n] from fun i => rfl)
      have HPD := Lib.hid (show ∀ i s k, mxP T F (evM T n) i s k = (s.testBit k && decide (max (T i k) (F (s ^^^ 2 ^ k)) ≤ evM T n)) from fun i s k => rfl)
      have HML := Lib.hid (show mxL T F (evM T n) n 0 = [] from rfl)
      obtain ⟨E, eE⟩ : ∃ E, evM T n = E := ⟨_, rfl⟩
      have EE := Lib.hid eE
      rw [eE] at HHIT hos0 hm0 HSN HLN HPD HML HEL
      have HM0 := Lib.hid hm0
      have HOS := Lib.hid hos0
      have HBW := Lib.hid (below_new (Below.refl wo.heap.size wo) (.cells #[] 3))
      have HEM := Lib.hid (own_empty wo 3 1)
      have p0 : (0 : Int) < (M : Int) := by omega
      clear eE hm0 hos0 hol0
      go_wp2_with fail
      go_loopw [10, 11, 71] (fun s o i wr => ∃ (k u : Nat), k ≤ n ∧ i = .int .i64 k ∧ u < M ∧ s = .int .i64 (u : Int) ∧ oth n u = mxS T F E n k ∧ wr.ownsRow wo.heap.size 3 1 o k (ints (mxL T F E n k)) ∧ Below wo.heap.size wo wr) (fun _ _ i _ => n - (intOf i).toNat)
      case atStart => exact ⟨0, 0, by omega, rfl, by omega, rfl, HOS.out, by rw [HML.out]; exact HEM.out, HBW.out⟩
      case round =>
        clear HBW HEM
        obtain ⟨i, u, hi, rfl, huM, rfl, hus, hown, hb⟩ := hrel
        obtain ⟨Ao, co, rfl⟩ := (Rd.of_own hown).form
        have HOO := Lib.hid hown
        have HBO := Lib.hid hb
        have HUS2 := Lib.hid hus
        clear hown hb hus
        by_cases hlt : i < n
        · obtain ⟨sv, k0, -, A2, c2, rfl, hx⟩ := HROWS.out i hlt
          rw [HSQ.out i hlt] at hx k0
          obtain ⟨g, o2, rfl, hgB, hx⟩ := hx (by omega)
          have HX := Lib.hid hx
          have HGW := Lib.hid (show g < w.heap.size by omega)
          have HRC := Lib.hid (show ∀ j, (rs.getD i []).getD j 0 = T i j from fun j => by rw [← HT.out]; rfl)
          have HR0 := Lib.hid (fun (W : World) (hb : Below w.heap.size w W) => ((hb.cell (p := ⟨b, off + i, none⟩) hbw).trans k0))
          have hhit := (HHIT.out i hlt).2
          have hsn := HSN.out i
          have hln := HLN.out i
          have hpd := HPD.out i (mxS T F E n i)
          rw [← HUS2.out] at hhit hsn hln hpd
          obtain ⟨P, eP⟩ : ∃ P, mxP T F E i (oth n u) = P := ⟨_, rfl⟩
          rw [eP] at hhit hsn hln hpd
          have HHT := Lib.hid hhit
          have HSN2 := Lib.hid hsn
          have HLN2 := Lib.hid hln
          have HPD2 := Lib.hid hpd
          have i0 : (0 : Int) ≤ (i : Int) := by omega
          have i1 : (i : Int) < (n : Int) := by omega
          have u0 : (0 : Int) ≤ (u : Int) := by omega
          have u1 : (u : Int) < (M : Int) := by omega
          have hu62 : u < 2 ^ 62 := by omega
          have hu20 : u < 2 ^ 20 := by omega
          obtain ⟨wq, ewq⟩ : ∃ wq, wr = wq := ⟨_, rfl⟩
          rw [ewq] at HOO HBO ⊢
          clear ewq eP hhit hsn hln hpd hx k0
          go_wp2_with fail
          go_loopw [10, 11, 76] (fun a d s wr => ∃ k : Nat, k ≤ n ∧ a = .int .i64 (u : Int) ∧ d = .slice Ao i co ∧ s = .int .i64 k ∧ (∀ j, j < k → P j = false) ∧ Below wq.heap.size wq wr) (fun _ _ s _ => n - (intOf s).toNat)
          case atStart => exact ⟨0, by omega, rfl, rfl, rfl, fun j hj => absurd hj (by omega), Below.refl _ _⟩
          case round =>
            obtain ⟨k, hk, rfl, rfl, rfl, hno, hbd⟩ := hrel
            have HNO := Lib.hid hno
            have HBD := Lib.hid hbd
            have HBV := Lib.hid (below_on HBO.out hbd)
            have HBA := Lib.hid (below_on HB.out HBV.out)
            clear hbd hno
            by_cases hlk : k < n
            · have x1 := HX.out k (by omega)
              rw [HRC.out] at x1
              have x0 := (HBA.out.cell (p := ⟨g, o2 + k, none⟩) HGW.out).trans x1
              have rr := HR0.out _ HBA.out
              have e0 := HTC.out _ HBV.out 0 (by omega)
              rw [HM0.out] at e0
              have hpk := HPD2.out k
              have hob := HOB.out u huM k hlk
              rw [hob] at hpk
              have HPK := Lib.hid hpk
              have HOTK := Lib.hid (HOTH.out u huM k hlk)
              have b1 := bit_at2 u k hu62
              have k0 : (0 : Int) ≤ (k : Int) := by omega
              have k1 : (k : Int) < (n : Int) := by omega
              have hol := HOL.out u huM k hlk
              have HCZ := Lib.hid (HTC.out _ HBV.out (u ||| 2 ^ k) hol)
              clear x1 hpk hob
              cases hbit : u.testBit k with
              | true =>
                have b2 : bitI u k = 1 := by simp [bitI, hbit]
                rw [b2] at b1
                have HN2 := Lib.hid (show ∀ j, j < k + 1 → P j = false from fun j hj => by
                  by_cases e : j = k
                  · subst e; rw [HPK.out, hbit]; rfl
                  · exact HNO.out j (by omega))
                clear hbit b2 x0 rr hol
                go_wp2_with fail
                go_quiet (fail)
                go_wp2_with fail
                go_roundw
                case rel => exact ⟨k + 1, by omega, rfl, rfl, by go_num, HN2.out, below_drewN HBD.out _⟩
                case measure => simp [intOf]; omega
              | false =>
                have b2 : bitI u k = 0 := by simp [bitI, hbit]
                rw [b2] at b1
                have hot := HOTK.out hbit
                have hpk := HPK.out
                rw [← hot, hbit] at hpk
                have c2 := HCZ.out
                have sh1 := one_shl3 k (by omega)
                have sh2 := one_shl2 k (by omega)
                have fl := bit_set2 u k hu20 (by omega)
                have HOT := Lib.hid hot
                obtain ⟨z, ez⟩ : ∃ z, u ||| 2 ^ k = z := ⟨_, rfl⟩
                rw [ez] at c2 fl hol hpk HOT
                have z0 : (0 : Int) ≤ (z : Int) := by omega
                have z1 : (z : Int) < (M : Int) := by omega
                obtain ⟨x, ex⟩ : ∃ x, T i k = x := ⟨_, rfl⟩
                obtain ⟨y, ey⟩ : ∃ y, F (oth n z) = y := ⟨_, rfl⟩
                rw [ex] at x0 hpk
                rw [ey] at c2 hpk
                have HPQ := Lib.hid hpk
                have HHB := Lib.hid hbit
                clear hbit b2 ez ex ey hot hpk
                by_cases hle : max x y ≤ E
                · have d0 : decide (max x y ≤ E) = true := by simpa using hle
                  have hP : P k = true := by rw [HPQ.out, d0]; rfl
                  have hfst := fst_hit HNO.out hP hlk
                  have hsn := HSN2.out
                  have hln := HLN2.out
                  rw [hfst] at hsn hln
                  rw [Int.toNat_natCast, ← HOT.out] at hsn
                  have HSN3 := Lib.hid hsn
                  have HLN3 := Lib.hid hln
                  have HO1 := Lib.hid (own_below HOO.out HBD.out (Nat.le_refl _))
                  clear hle hP hfst hsn hln
                  go_wp2_with fail
                  go_quiet (fail)
                  have HV := Lib.hid (own_drewN HO1.out nq)
                  have HW := Lib.hid (below_drewN HBV.out nq)
                  obtain ⟨V, eV⟩ : ∃ V, wr.drewN nq = V := ⟨_, rfl⟩
                  rw [eV] at HV HW ⊢
                  clear eV
                  have n0 := (Blk.new V 3 #[.int .i64 (k : Int)]).c1
                  have HO2 := Lib.hid (HV.out.alloc (.cells #[.int .i64 (k : Int)] 3))
                  have HB2 := Lib.hid (below_new HW.out (.cells #[.int .i64 (k : Int)] 3))
                  have hsz := HW.out.size
                  go_wp2_with (at_builtin; refine app_int rfl _ _ rfl wo.heap.size _ _ _ rfl HO2.out V.heap.size (k : Int) rfl n0 (by omega) (by simp; omega) ?_; intro v' w9 ho9 hg9)
                  have HB9 := Lib.hid (HB2.out.grown hg9 (by simp; omega) (fun g hg => (HO2.out.lt g hg).1))
                  have HO9 := Lib.hid (show w9.ownsRow wo.heap.size 3 1 v' (i + 1) (ints (mxL T F E n (i + 1))) by rw [HLN3.out]; exact ho9)
                  clear ho9 hg9 n0 HO2 HB2
                  go_wp2_with fail
                  go_roundw
                  case rel => exact ⟨i + 1, z, by omega, by go_num, hol, rfl, HSN3.out.symm, HO9.out, HB9.out⟩
                  case measure => simp [intOf]; omega
                · have d0 : decide (max x y ≤ E) = false := by simpa using hle
                  have hP : P k = false := by rw [HPQ.out, d0]; rfl
                  have HN2 := Lib.hid (show ∀ j, j < k + 1 → P j = false from fun j hj => by
                    by_cases e : j = k
                    · subst e; exact hP
                    · exact HNO.out j (by omega))
                  clear hle hP
                  go_wp2_with fail
                  go_quiet (fail)
                  go_wp2_with fail
                  go_roundw
                  case rel => exact ⟨k + 1, by omega, rfl, rfl, by go_num, HN2.out, below_drewN HBD.out _⟩
                  case measure => simp [intOf]; omega
            · obtain rfl : k = n := by omega
              have h1 := fst_no HNO.out
              have h2 := HHT.out
              exact absurd h1 (by omega)
        · obtain rfl : i = n := by omega
          have e0 := HTC.out _ HBO.out 0 (by omega)
          rw [HM0.out] at e0
          have HO2 := Lib.hid (own_base (base' := w.heap.size) HOO.out HB.out.size)
          have HB2 := Lib.hid (below_on HB.out HBO.out)
          go_wp2_with fail
          go_quiet (fail)
          go_wp2_with fail
          go_ret3
          refine ⟨_, by rw [EE.out]; rfl, ?_, below_drewN HB2.out _⟩
          have := own_drewN HO2.out nq
          rw [← HEL.out] at this
          exact this
    · obtain ⟨u, rfl⟩ : ∃ u, m = u + 1 := ⟨m - 1, by omega⟩
      have e1 : ((u + 1 : Nat) : Int) - 1 = (u : Int) := by omega
      rw [e1]
      clear e1 h0
      have hu1 : u + 1 < M := by omega
      have P0 := fun W => OnesCount_any u (by omega) W
      have hp12 := HP12.out u (by omega)
      simp only [hp12] at P0
      have hrn := HPL.out u hu1
      have hum := HUM.out u hu1
      obtain ⟨r, er⟩ : ∃ r, popc u n = r := ⟨_, rfl⟩
      rw [er] at hrn hum
      simp only [er] at P0
      have P := Lib.hid P0
      have HUMU := Lib.hid hum
      have HUSU := Lib.hid (HUS.out u (by omega))
      obtain ⟨sv, k0, -, A2, c2, rfl, hx⟩ := HROWS.out r hrn
      rw [HSQ.out r hrn] at hx k0
      obtain ⟨g, o2, rfl, hgB, hx⟩ := hx (by omega)
      have HX := Lib.hid hx
      have HGW := Lib.hid (show g < w.heap.size by omega)
      have HRC := Lib.hid (show ∀ j, (rs.getD r []).getD j 0 = T r j from fun j => by rw [← HT.out]; rfl)
      have HR0 := Lib.hid (fun (W : World) (hb : Below w.heap.size w W) => ((hb.cell (p := ⟨b, off + r, none⟩) hbw).trans k0))
      have hll := HUN.out (u + 1)
      have u0 : (0 : Int) ≤ (u : Int) := by omega
      have u1 : (u : Int) < (M : Int) := by omega
      have r0 : (0 : Int) ≤ (r : Int) := by omega
      have r1 : (r : Int) < (n : Int) := by omega
      have cu := u64_in u (by omega)
      have HLG := Lib.hid (fun j (hj : u + 1 ≤ j) (h : j < M) => HUG.out (u + 1) j hj h)
      obtain ⟨L, eL⟩ : ∃ L, usL F n (u + 1) = L := ⟨_, rfl⟩
      rw [eL] at hll HO HLG HUSU
      have f0 := HO.out.frozenAt u
      have x0 := (HO.out.cellAt u (by omega)).trans (ints_get _ u (by omega))
      have hst := (HO.out.stored u (.int .i64 1099511627776)).1
      rw [ints_set] at hst
      have HO1 := Lib.hid hst
      have HB1 := Lib.hid (HB.out.setCell (p := ⟨w.heap.size, u, none⟩) (Nat.le_refl _) (.int .i64 1099511627776))
      clear hst P0 hp12 hum er eL hx k0
      go_wp2_with fail
      refine (P.out _).mono ?_
      rintro e w' ⟨rfl, rfl⟩
      go_wp2_with fail
      have HZ0 := Lib.hid (show umK 1099511627776 T (fun x => F (oth n x)) r u 0 = 1099511627776 from rfl)
      clear f0 x0
      go_loopw [9] (fun i wr => ∃ k : Nat, k ≤ n ∧ i = .int .i64 k ∧ wr.ownsRow w.heap.size 3 1 (.slice (some ⟨w.heap.size, 0, none⟩) M M) M (ints (L.set u (umK 1099511627776 T (fun x => F (oth n x)) r u k))) ∧ Below w.heap.size w wr) (fun i _ => n - (intOf i).toNat)
      case atStart => exact ⟨0, by omega, rfl, by rw [HZ0.out]; exact HO1.out, HB1.out⟩
      case round =>
        clear HO HB HO1 HB1
        obtain ⟨k, hk, rfl, hown, hb⟩ := hrel
        have HO := Lib.hid hown
        have HB := Lib.hid hb
        clear hown hb
        by_cases hlk : k < n
        · have x1 := HX.out k (by omega)
          rw [HRC.out] at x1
          have x0 := (HB.out.cell (p := ⟨g, o2 + k, none⟩) HGW.out).trans x1
          have rr := HR0.out _ HB.out
          have tks := (show umK 1099511627776 T (fun x => F (oth n x)) r u (k + 1) = if u.testBit k then umK 1099511627776 T (fun x => F (oth n x)) r u k else min (umK 1099511627776 T (fun x => F (oth n x)) r u k) (max (T r k) (F (oth n (u ||| 2 ^ k)))) from rfl)
          have hol := HOL.out u (by omega) k hlk
          have hcell : u.testBit k = false → wr.cell? ⟨w.heap.size, u ||| 2 ^ k, none⟩ = some (.int .i64 (F (oth n (u ||| 2 ^ k)))) := by
            intro hbit
            have hx := or_gt hbit
            have := (HO.out.cellAt (u ||| 2 ^ k) (by omega)).trans (ints_get _ _ (by rw [List.length_set, hll]; omega))
            rw [this]
            congr 2
            rw [← HLG.out _ hx hol]
            simp only [List.getD_eq_getElem?_getD, List.getElem?_set]
            rw [if_neg (by omega)]
          obtain ⟨x, ex⟩ : ∃ x, T r k = x := ⟨_, rfl⟩
          obtain ⟨t, et⟩ : ∃ x, umK 1099511627776 T (fun x => F (oth n x)) r u k = x := ⟨_, rfl⟩
          obtain ⟨y, ey⟩ : ∃ x, F (oth n (u ||| 2 ^ k)) = x := ⟨_, rfl⟩
          rw [ex] at x0 tks
          rw [et] at tks HO
          rw [ey] at tks hcell
          have m0 : (0 : Int) ≤ (k : Int) := by omega
          have m1 : (k : Int) < (n : Int) := by omega
          have b1 := bit_at2 u k (by omega)
          have HS := Lib.hid tks
          have HCL := Lib.hid hcell
          clear x1 ex et ey tks hcell
          cases hbit : u.testBit k with
          | true =>
            have b2 : bitI u k = 1 := by simp [bitI, hbit]
            rw [b2] at b1
            have HS2 := Lib.hid (show umK 1099511627776 T (fun x => F (oth n x)) r u (k + 1) = t by rw [HS.out, hbit]; rfl)
            clear hbit b2
            go_wp2_with fail
            go_roundw
            case rel => exact ⟨k + 1, by omega, by go_num, by rw [HS2.out]; exact HO.out, HB.out⟩
            case measure => simp [intOf]; omega
          | false =>
            have b2 : bitI u k = 0 := by simp [bitI, hbit]
            rw [b2] at b1
            have HS2 := Lib.hid (show umK 1099511627776 T (fun x => F (oth n x)) r u (k + 1) = min t (max x y) by rw [HS.out, hbit]; rfl)
            have c2 := HCL.out hbit
            have sh1 := one_shl3 k (by omega)
            have fl := bit_set2 u k (by omega) (by omega)
            obtain ⟨z, ez⟩ : ∃ z, u ||| 2 ^ k = z := ⟨_, rfl⟩
            rw [ez] at c2 fl hol
            have z0 : (0 : Int) ≤ (z : Int) := by omega
            have z1 : (z : Int) < (M : Int) := by omega
            have f0 := HO.out.frozenAt u
            have t0 := (HO.out.cellAt u (by omega)).trans (ints_get _ u (by rw [List.length_set, hll]; omega))
            have e0 : (L.set u t).getD u 0 = t := by
              simp only [List.getD_eq_getElem?_getD, List.getElem?_set]
              simp [show u < L.length by omega]
            rw [e0] at t0
            have hst := (HO.out.stored u (.int .i64 (min t (max x y)))).1
            rw [ints_set, List.set_set] at hst
            have HO2 := Lib.hid hst
            have HB2 := Lib.hid (HB.out.setCell (p := ⟨w.heap.size, u, none⟩) (Nat.le_refl _) (.int .i64 (min t (max x y))))
            clear hbit b2 e0 ez hst
            go_wp2_with fail
            refine wp_region_still_tail 23 (by kernel_rfl) (by kernel_rfl) ?_
            simp only [List.take_succ_cons, List.take_zero, List.drop_succ_cons, List.drop_zero]
            repeat (first | still_step | fail)
            try refine wpStill_nil ?_
            go_wp2_with fail
            go_roundw
            case rel => exact ⟨k + 1, by omega, by go_num, by rw [HS2.out]; exact HO2.out, HB2.out.drew⟩
            case measure => simp [intOf]; omega
        · obtain rfl : k = n := by omega
          have HO2 := Lib.hid (show wr.ownsRow w.heap.size 3 1 (.slice (some ⟨w.heap.size, 0, none⟩) M M) M (ints (usL F k u)) by
            rw [← HUSU.out, ← HUMU.out]; exact HO.out)
          have i1 := set_prev hu1 hM2
          go_wp2_with fail
          go_roundw
          case rel => exact ⟨u, Nat.le_of_lt hu1, by go_num, HO2.out, HB.out⟩
          case measure => simp [intOf]
end Go.Proofs.Ytnlneblipedddaa
