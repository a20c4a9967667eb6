/- Contracts of the two LeastDelayed. Without conditions. -/
import Derived.Test.YtpikhkdgohapeaaLeastDel
import Derived.Test.YtpikhkdgohapeaaClosest
import Derived.OwnWalk
namespace Go.Proofs.Ytpikhkdgohapeaa
open Go.RowKit

def ldB (x y z u c X Y Z U C p q : Int) : Bool := shB x y z u c && (shB X Y Z U C && (decide (c = C) && (inB p 0 4 && inB q 0 4)))
def ldVA (x y z u c X Y Z U C p q : Int) : Int := if ldB x y z u c X Y Z U C p q = true then ldA (wyT x z X Z c p q) (wyT y u Y U c p q) (dlN c p q) c else 0
def ldVC (x y z u c X Y Z U C p q : Int) : Int := if ldB x y z u c X Y Z U C p q = true then ldC (wyT x z X Z c p q) (wyT y u Y U c p q) (dlN c p q) c else 0
theorem ldV_no {x y z u c X Y Z U C p q : Int} (h : ldB x y z u c X Y Z U C p q = false) : ldVA x y z u c X Y Z U C p q = 0 ∧ ldVC x y z u c X Y Z U C p q = 0 ∧ ldB x y z u c X Y Z U C p q = false := by simp [ldVA, ldVC, h]
theorem ldV_yes {x y z u c X Y Z U C p q : Int} (h : ldB x y z u c X Y Z U C p q = true) : ldVA x y z u c X Y Z U C p q = ldA (wyT x z X Z c p q) (wyT y u Y U c p q) (dlN c p q) c ∧ ldVC x y z u c X Y Z U C p q = ldC (wyT x z X Z c p q) (wyT y u Y U c p q) (dlN c p q) c ∧ ldB x y z u c X Y Z U C p q = true := by simp [ldVA, ldVC, h]
/-- Two moves go together. -/
def tgB (x y z u c X Y Z U C : Int) : Bool := mvB x y z u c && (mvB X Y Z U C && decide (c = C))
set_option maxHeartbeats 2000000 in
theorem apGoodB_any (x y z u c X Y Z U C : Int) (w : World) :
    Calls Try.prog 38 #[(Value.agg #[Value.int .i64 x, Value.int .i64 y, Value.int .i64 z, Value.int .i64 u, Value.int .i64 c]), (Value.agg #[Value.int .i64 X, Value.int .i64 Y, Value.int .i64 Z, Value.int .i64 U, Value.int .i64 C])] w fun e w' => e = .returned (.bool (tgB x y z u c X Y Z U C)) ∧ Below w.heap.size w w' := by
  have P := fun W => mvGood_any x y z u c W
  have Q := fun W => mvGood_any X Y Z U C W
  have hT : tgB x y z u c X Y Z U C = (mvB x y z u c && (mvB X Y Z U C && decide (c = C))) := rfl
  obtain ⟨b1, e1⟩ : ∃ b, mvB x y z u c = b := ⟨_, rfl⟩
  obtain ⟨b2, e2⟩ : ∃ b, mvB X Y Z U C = b := ⟨_, rfl⟩
  rw [e1] at P hT
  rw [e2] at Q hT
  have HP := Lib.hid P
  have HQ := Lib.hid Q
  clear P Q e1 e2
  have K1 := Lib.hid (Blk.new2 w (.cells #[.int .i64 x, .int .i64 y, .int .i64 z, .int .i64 u, .int .i64 c] 30) 30 #[.int .i64 X, .int .i64 Y, .int .i64 Z, .int .i64 U, .int .i64 C])
  have K0 := Lib.hid ((Blk.new w 30 #[.int .i64 x, .int .i64 y, .int .i64 z, .int .i64 u, .int .i64 c]).alloc (.cells #[.int .i64 X, .int .i64 Y, .int .i64 Z, .int .i64 U, .int .i64 C] 30))
  have HB0 := Lib.hid (below_new (below_new (Below.refl w.heap.size w) (.cells #[.int .i64 x, .int .i64 y, .int .i64 z, .int .i64 u, .int .i64 c] 30)) (.cells #[.int .i64 X, .int .i64 Y, .int .i64 Z, .int .i64 U, .int .i64 C] 30))
  obtain ⟨c0, c1, c2, c3, c4⟩ := K0.out.c5
  obtain ⟨e0, e1, e2, e3, e4⟩ := K1.out.c5
  cases b1 with
  | false =>
    have hf := Lib.hid (show tgB x y z u c X Y Z U C = false by rw [hT]; rfl)
    clear hT
    go_enter Try.func38, Try.ntmps38
    go_wp2_with fail
    refine ((HP).out _).mono ?_
    rintro e w2 ⟨rfl, hh⟩
    have HB1 := Lib.hid (below_on HB0.out hh)
    replace K0 := Lib.hid (K0.out.on hh)
    replace K1 := Lib.hid (K1.out.on hh)
    clear HB0 hh c0 c1 c2 c3 c4 e0 e1 e2 e3 e4
    have HB0 := HB1
    clear HB1
    obtain ⟨c0, c1, c2, c3, c4⟩ := K0.out.c5
    obtain ⟨e0, e1, e2, e3, e4⟩ := K1.out.c5
    go_wp2_with fail
    go_ret
    exact ⟨by rw [hf.out]; rfl, HB0.out⟩
  | true =>
    cases b2 with
    | false =>
      have hf := Lib.hid (show tgB x y z u c X Y Z U C = false by rw [hT]; rfl)
      clear hT
      go_enter Try.func38, Try.ntmps38
      go_wp2_with fail
      refine ((HP).out _).mono ?_
      rintro e w2 ⟨rfl, hh⟩
      have HB1 := Lib.hid (below_on HB0.out hh)
      replace K0 := Lib.hid (K0.out.on hh)
      replace K1 := Lib.hid (K1.out.on hh)
      clear HB0 hh c0 c1 c2 c3 c4 e0 e1 e2 e3 e4
      have HB0 := HB1
      clear HB1
      obtain ⟨c0, c1, c2, c3, c4⟩ := K0.out.c5
      obtain ⟨e0, e1, e2, e3, e4⟩ := K1.out.c5
      go_wp2_with fail
      refine ((HQ).out _).mono ?_
      rintro e w2 ⟨rfl, hh⟩
      have HB1 := Lib.hid (below_on HB0.out hh)
      replace K0 := Lib.hid (K0.out.on hh)
      replace K1 := Lib.hid (K1.out.on hh)
      clear HB0 hh c0 c1 c2 c3 c4 e0 e1 e2 e3 e4
      have HB0 := HB1
      clear HB1
      obtain ⟨c0, c1, c2, c3, c4⟩ := K0.out.c5
      obtain ⟨e0, e1, e2, e3, e4⟩ := K1.out.c5
      go_wp2_with fail
      go_ret
      exact ⟨by rw [hf.out]; rfl, HB0.out⟩
    | true =>
      by_cases hcc : c = C
      · subst hcc
        have hf := Lib.hid (show tgB x y z u c X Y Z U c = true by rw [hT]; simp)
        have hd : (c == c) = true := by simp
        clear hT
        go_enter Try.func38, Try.ntmps38
        go_wp2_with fail
        refine ((HP).out _).mono ?_
        rintro e w2 ⟨rfl, hh⟩
        have HB1 := Lib.hid (below_on HB0.out hh)
        replace K0 := Lib.hid (K0.out.on hh)
        replace K1 := Lib.hid (K1.out.on hh)
        clear HB0 hh c0 c1 c2 c3 c4 e0 e1 e2 e3 e4
        have HB0 := HB1
        clear HB1
        obtain ⟨c0, c1, c2, c3, c4⟩ := K0.out.c5
        obtain ⟨e0, e1, e2, e3, e4⟩ := K1.out.c5
        go_wp2_with fail
        refine ((HQ).out _).mono ?_
        rintro e w2 ⟨rfl, hh⟩
        have HB1 := Lib.hid (below_on HB0.out hh)
        replace K0 := Lib.hid (K0.out.on hh)
        replace K1 := Lib.hid (K1.out.on hh)
        clear HB0 hh c0 c1 c2 c3 c4 e0 e1 e2 e3 e4
        have HB0 := HB1
        clear HB1
        obtain ⟨c0, c1, c2, c3, c4⟩ := K0.out.c5
        obtain ⟨e0, e1, e2, e3, e4⟩ := K1.out.c5
        go_wp2_with fail
        go_ret
        exact ⟨by rw [hf.out]; rfl, HB0.out⟩
      · have hf := Lib.hid (show tgB x y z u c X Y Z U C = false by rw [hT]; simp [hcc])
        have hd : (c == C) = false := by simp [hcc]
        clear hT
        go_enter Try.func38, Try.ntmps38
        go_wp2_with fail
        refine ((HP).out _).mono ?_
        rintro e w2 ⟨rfl, hh⟩
        have HB1 := Lib.hid (below_on HB0.out hh)
        replace K0 := Lib.hid (K0.out.on hh)
        replace K1 := Lib.hid (K1.out.on hh)
        clear HB0 hh c0 c1 c2 c3 c4 e0 e1 e2 e3 e4
        have HB0 := HB1
        clear HB1
        obtain ⟨c0, c1, c2, c3, c4⟩ := K0.out.c5
        obtain ⟨e0, e1, e2, e3, e4⟩ := K1.out.c5
        go_wp2_with fail
        refine ((HQ).out _).mono ?_
        rintro e w2 ⟨rfl, hh⟩
        have HB1 := Lib.hid (below_on HB0.out hh)
        replace K0 := Lib.hid (K0.out.on hh)
        replace K1 := Lib.hid (K1.out.on hh)
        clear HB0 hh c0 c1 c2 c3 c4 e0 e1 e2 e3 e4
        have HB0 := HB1
        clear HB1
        obtain ⟨c0, c1, c2, c3, c4⟩ := K0.out.c5
        obtain ⟨e0, e1, e2, e3, e4⟩ := K1.out.c5
        go_wp2_with fail
        go_ret
        exact ⟨by rw [hf.out]; rfl, HB0.out⟩
set_option maxRecDepth 100000 in
set_option maxHeartbeats 4000000 in
theorem LeastDelayed_any (x y z u c X Y Z U C p q : Int) (w : World) :
    Calls Try.prog 13 #[(Value.agg #[Value.int .i64 x, Value.int .i64 y, Value.int .i64 z, Value.int .i64 u, Value.int .i64 c]), (Value.agg #[Value.int .i64 X, Value.int .i64 Y, Value.int .i64 Z, Value.int .i64 U, Value.int .i64 C]), .int .i64 p, .int .i64 q] w fun e w' =>
      e = .returned (.tuple #[.int .i64 (ldVA x y z u c X Y Z U C p q), .int .i64 (ldVC x y z u c X Y Z U C p q), .bool (ldB x y z u c X Y Z U C p q)]) ∧ Below w.heap.size w w' := by
  have P := fun W => isShortMove_any x y z u c W
  have R := fun W => isDelay_any p W
  have S := fun W => isDelay_any q W
  have hT : ldB x y z u c X Y Z U C p q = (shB x y z u c && (shB X Y Z U C && (decide (c = C) && (inB p 0 4 && inB q 0 4)))) := rfl
  have hsa := shB_yes (x := x) (y := y) (z := z) (u := u) (c := c)
  have hsb := shB_yes (x := X) (y := Y) (z := Z) (u := U) (c := C)
  obtain ⟨b3, e3'⟩ : ∃ b, inB p 0 4 = b := ⟨_, rfl⟩
  obtain ⟨b4, e4'⟩ : ∃ b, inB q 0 4 = b := ⟨_, rfl⟩
  rw [e3'] at R hT
  rw [e4'] at S hT
  have HR := Lib.hid R
  have HS := Lib.hid S
  clear R S
  have Q := fun W => isShortMove_any X Y Z U C W
  have K1 := Lib.hid (Blk.new2 w (.cells #[.int .i64 x, .int .i64 y, .int .i64 z, .int .i64 u, .int .i64 c] 30) 30 #[.int .i64 X, .int .i64 Y, .int .i64 Z, .int .i64 U, .int .i64 C])
  have K0 := Lib.hid ((Blk.new w 30 #[.int .i64 x, .int .i64 y, .int .i64 z, .int .i64 u, .int .i64 c]).alloc (.cells #[.int .i64 X, .int .i64 Y, .int .i64 Z, .int .i64 U, .int .i64 C] 30))
  have HB0 := Lib.hid (below_new (below_new (Below.refl w.heap.size w) (.cells #[.int .i64 x, .int .i64 y, .int .i64 z, .int .i64 u, .int .i64 c] 30)) (.cells #[.int .i64 X, .int .i64 Y, .int .i64 Z, .int .i64 U, .int .i64 C] 30))
  obtain ⟨c0, c1, c2, c3, c4⟩ := K0.out.c5
  obtain ⟨e0, e1, e2, e3, e4⟩ := K1.out.c5
  cases b1 : shB x y z u c with
  | false =>
    have hf := Lib.hid (ldV_no (show ldB x y z u c X Y Z U C p q = false by rw [hT, b1]; simp))
    rw [b1] at P
    have HP := Lib.hid P
    clear hT hsa hsb P Q b1
    go_enter Try.func13, Try.ntmps13
    go_wp2_with fail
    refine ((HP).out _).mono ?_
    rintro e w2 ⟨rfl, hh⟩
    have HB1 := Lib.hid (below_on HB0.out hh)
    replace K0 := Lib.hid (K0.out.on hh)
    replace K1 := Lib.hid (K1.out.on hh)
    clear HB0 hh c0 c1 c2 c3 c4 e0 e1 e2 e3 e4
    have HB0 := HB1
    clear HB1
    obtain ⟨c0, c1, c2, c3, c4⟩ := K0.out.c5
    obtain ⟨e0, e1, e2, e3, e4⟩ := K1.out.c5
    go_wp2_with fail
    go_ret3
    exact ⟨by rw [hf.out.1, hf.out.2.1, hf.out.2.2]; rfl, HB0.out⟩
  | true =>
    cases b2 : shB X Y Z U C with
    | false =>
      have hf := Lib.hid (ldV_no (show ldB x y z u c X Y Z U C p q = false by rw [hT, b2]; simp))
      rw [b1] at P
      rw [b2] at Q
      have HP := Lib.hid P
      have HQ := Lib.hid Q
      clear hT hsa hsb P Q b1 b2
      go_enter Try.func13, Try.ntmps13
      go_wp2_with fail
      refine ((HP).out _).mono ?_
      rintro e w2 ⟨rfl, hh⟩
      have HB1 := Lib.hid (below_on HB0.out hh)
      replace K0 := Lib.hid (K0.out.on hh)
      replace K1 := Lib.hid (K1.out.on hh)
      clear HB0 hh c0 c1 c2 c3 c4 e0 e1 e2 e3 e4
      have HB0 := HB1
      clear HB1
      obtain ⟨c0, c1, c2, c3, c4⟩ := K0.out.c5
      obtain ⟨e0, e1, e2, e3, e4⟩ := K1.out.c5
      go_wp2_with fail
      refine ((HQ).out _).mono ?_
      rintro e w2 ⟨rfl, hh⟩
      have HB1 := Lib.hid (below_on HB0.out hh)
      replace K0 := Lib.hid (K0.out.on hh)
      replace K1 := Lib.hid (K1.out.on hh)
      clear HB0 hh c0 c1 c2 c3 c4 e0 e1 e2 e3 e4
      have HB0 := HB1
      clear HB1
      obtain ⟨c0, c1, c2, c3, c4⟩ := K0.out.c5
      obtain ⟨e0, e1, e2, e3, e4⟩ := K1.out.c5
      go_wp2_with fail
      go_ret3
      exact ⟨by rw [hf.out.1, hf.out.2.1, hf.out.2.2]; rfl, HB0.out⟩
    | true =>
      rw [b1] at P
      rw [b2] at Q
      have HP := Lib.hid P
      have HQ := Lib.hid Q
      by_cases hcc : c = C
      · subst hcc
        obtain ⟨_, hc1, hc16, hka⟩ := hsa b1
        obtain ⟨_, _, _, hkb⟩ := hsb b2
        have hne : (c != c) = false := by simp
        rw [b1, b2] at hT
        clear hsa hsb P Q b1 b2
        cases b3 with
        | false =>
          have hf := Lib.hid (ldV_no (show ldB x y z u c X Y Z U c p q = false by rw [hT]; simp))
          clear hT
          go_enter Try.func13, Try.ntmps13
          go_wp2_with fail
          refine ((HP).out _).mono ?_
          rintro e w2 ⟨rfl, hh⟩
          have HB1 := Lib.hid (below_on HB0.out hh)
          replace K0 := Lib.hid (K0.out.on hh)
          replace K1 := Lib.hid (K1.out.on hh)
          clear HB0 hh c0 c1 c2 c3 c4 e0 e1 e2 e3 e4
          have HB0 := HB1
          clear HB1
          obtain ⟨c0, c1, c2, c3, c4⟩ := K0.out.c5
          obtain ⟨e0, e1, e2, e3, e4⟩ := K1.out.c5
          go_wp2_with fail
          refine ((HQ).out _).mono ?_
          rintro e w2 ⟨rfl, hh⟩
          have HB1 := Lib.hid (below_on HB0.out hh)
          replace K0 := Lib.hid (K0.out.on hh)
          replace K1 := Lib.hid (K1.out.on hh)
          clear HB0 hh c0 c1 c2 c3 c4 e0 e1 e2 e3 e4
          have HB0 := HB1
          clear HB1
          obtain ⟨c0, c1, c2, c3, c4⟩ := K0.out.c5
          obtain ⟨e0, e1, e2, e3, e4⟩ := K1.out.c5
          go_wp2_with fail
          refine ((HR).out _).mono ?_
          rintro e w2 ⟨rfl, rfl⟩
          go_wp2_with fail
          go_ret3
          exact ⟨by rw [hf.out.1, hf.out.2.1, hf.out.2.2]; rfl, HB0.out⟩
        | true =>
          cases b4 with
          | false =>
            have hf := Lib.hid (ldV_no (show ldB x y z u c X Y Z U c p q = false by rw [hT]; simp))
            clear hT
            go_enter Try.func13, Try.ntmps13
            go_wp2_with fail
            refine ((HP).out _).mono ?_
            rintro e w2 ⟨rfl, hh⟩
            have HB1 := Lib.hid (below_on HB0.out hh)
            replace K0 := Lib.hid (K0.out.on hh)
            replace K1 := Lib.hid (K1.out.on hh)
            clear HB0 hh c0 c1 c2 c3 c4 e0 e1 e2 e3 e4
            have HB0 := HB1
            clear HB1
            obtain ⟨c0, c1, c2, c3, c4⟩ := K0.out.c5
            obtain ⟨e0, e1, e2, e3, e4⟩ := K1.out.c5
            go_wp2_with fail
            refine ((HQ).out _).mono ?_
            rintro e w2 ⟨rfl, hh⟩
            have HB1 := Lib.hid (below_on HB0.out hh)
            replace K0 := Lib.hid (K0.out.on hh)
            replace K1 := Lib.hid (K1.out.on hh)
            clear HB0 hh c0 c1 c2 c3 c4 e0 e1 e2 e3 e4
            have HB0 := HB1
            clear HB1
            obtain ⟨c0, c1, c2, c3, c4⟩ := K0.out.c5
            obtain ⟨e0, e1, e2, e3, e4⟩ := K1.out.c5
            go_wp2_with fail
            refine ((HR).out _).mono ?_
            rintro e w2 ⟨rfl, rfl⟩
            go_wp2_with fail
            refine ((HS).out _).mono ?_
            rintro e w2 ⟨rfl, rfl⟩
            go_wp2_with fail
            go_ret3
            exact ⟨by rw [hf.out.1, hf.out.2.1, hf.out.2.2]; rfl, HB0.out⟩
          | true =>
            have hf := ldV_yes (show ldB x y z u c X Y Z U c p q = true by rw [hT]; simp)
            have i3 := inB_yes e3'
            have i4 := inB_yes e4'
            have HL := Lib.hid (fun W => leastDelayed_any x y z u X Y Z U c p q W hka hkb hc1 hc16 i3.1 i3.2 i4.1 i4.2)
            obtain ⟨ra, era⟩ : ∃ r, ldA (wyT x z X Z c p q) (wyT y u Y U c p q) (dlN c p q) c = r := ⟨_, rfl⟩
            obtain ⟨rc, erc⟩ : ∃ r, ldC (wyT x z X Z c p q) (wyT y u Y U c p q) (dlN c p q) c = r := ⟨_, rfl⟩
            rw [era, erc] at HL hf
            replace hf := Lib.hid hf
            clear hT era erc i3 i4
            go_enter Try.func13, Try.ntmps13
            go_wp2_with fail
            refine ((HP).out _).mono ?_
            rintro e w2 ⟨rfl, hh⟩
            have HB1 := Lib.hid (below_on HB0.out hh)
            replace K0 := Lib.hid (K0.out.on hh)
            replace K1 := Lib.hid (K1.out.on hh)
            clear HB0 hh c0 c1 c2 c3 c4 e0 e1 e2 e3 e4
            have HB0 := HB1
            clear HB1
            obtain ⟨c0, c1, c2, c3, c4⟩ := K0.out.c5
            obtain ⟨e0, e1, e2, e3, e4⟩ := K1.out.c5
            go_wp2_with fail
            refine ((HQ).out _).mono ?_
            rintro e w2 ⟨rfl, hh⟩
            have HB1 := Lib.hid (below_on HB0.out hh)
            replace K0 := Lib.hid (K0.out.on hh)
            replace K1 := Lib.hid (K1.out.on hh)
            clear HB0 hh c0 c1 c2 c3 c4 e0 e1 e2 e3 e4
            have HB0 := HB1
            clear HB1
            obtain ⟨c0, c1, c2, c3, c4⟩ := K0.out.c5
            obtain ⟨e0, e1, e2, e3, e4⟩ := K1.out.c5
            go_wp2_with fail
            refine ((HR).out _).mono ?_
            rintro e w2 ⟨rfl, rfl⟩
            go_wp2_with fail
            refine ((HS).out _).mono ?_
            rintro e w2 ⟨rfl, rfl⟩
            go_wp2_with fail
            refine ((HL).out _).mono ?_
            rintro e w2 ⟨rfl, hh⟩
            have HB1 := Lib.hid (below_on HB0.out hh)
            replace K0 := Lib.hid (K0.out.on hh)
            replace K1 := Lib.hid (K1.out.on hh)
            clear HB0 hh c0 c1 c2 c3 c4 e0 e1 e2 e3 e4
            have HB0 := HB1
            clear HB1
            obtain ⟨c0, c1, c2, c3, c4⟩ := K0.out.c5
            obtain ⟨e0, e1, e2, e3, e4⟩ := K1.out.c5
            go_wp2_with fail
            go_ret3
            exact ⟨by rw [hf.out.1, hf.out.2.1, hf.out.2.2]; rfl, HB0.out⟩
      · have hf := Lib.hid (ldV_no (show ldB x y z u c X Y Z U C p q = false by rw [hT]; simp [hcc]))
        have hne : (c != C) = true := by simp [hcc]
        clear hT hsa hsb P Q b1 b2
        go_enter Try.func13, Try.ntmps13
        go_wp2_with fail
        refine ((HP).out _).mono ?_
        rintro e w2 ⟨rfl, hh⟩
        have HB1 := Lib.hid (below_on HB0.out hh)
        replace K0 := Lib.hid (K0.out.on hh)
        replace K1 := Lib.hid (K1.out.on hh)
        clear HB0 hh c0 c1 c2 c3 c4 e0 e1 e2 e3 e4
        have HB0 := HB1
        clear HB1
        obtain ⟨c0, c1, c2, c3, c4⟩ := K0.out.c5
        obtain ⟨e0, e1, e2, e3, e4⟩ := K1.out.c5
        go_wp2_with fail
        refine ((HQ).out _).mono ?_
        rintro e w2 ⟨rfl, hh⟩
        have HB1 := Lib.hid (below_on HB0.out hh)
        replace K0 := Lib.hid (K0.out.on hh)
        replace K1 := Lib.hid (K1.out.on hh)
        clear HB0 hh c0 c1 c2 c3 c4 e0 e1 e2 e3 e4
        have HB0 := HB1
        clear HB1
        obtain ⟨c0, c1, c2, c3, c4⟩ := K0.out.c5
        obtain ⟨e0, e1, e2, e3, e4⟩ := K1.out.c5
        go_wp2_with fail
        go_ret3
        exact ⟨by rw [hf.out.1, hf.out.2.1, hf.out.2.2]; rfl, HB0.out⟩
set_option maxRecDepth 100000 in
set_option maxHeartbeats 4000000 in
theorem specLeastDelayed_any (x y z u c X Y Z U C p q : Int) (w : World) :
    Calls Try.prog 12 #[(Value.agg #[Value.int .i64 x, Value.int .i64 y, Value.int .i64 z, Value.int .i64 u, Value.int .i64 c]), (Value.agg #[Value.int .i64 X, Value.int .i64 Y, Value.int .i64 Z, Value.int .i64 U, Value.int .i64 C]), .int .i64 p, .int .i64 q] w fun e w' =>
      e = .returned (.tuple #[.int .i64 (ldVA x y z u c X Y Z U C p q), .int .i64 (ldVC x y z u c X Y Z U C p q), .bool (ldB x y z u c X Y Z U C p q)]) ∧ Below w.heap.size w w' := by
  have P := fun W => rpMove_any x y z u c W
  have R := fun W => rpDelay_any p W
  have S := fun W => rpDelay_any q W
  have hT : ldB x y z u c X Y Z U C p q = (shB x y z u c && (shB X Y Z U C && (decide (c = C) && (inB p 0 4 && inB q 0 4)))) := rfl
  have hsa := shB_yes (x := x) (y := y) (z := z) (u := u) (c := c)
  have hsb := shB_yes (x := X) (y := Y) (z := Z) (u := U) (c := C)
  obtain ⟨b3, e3'⟩ : ∃ b, inB p 0 4 = b := ⟨_, rfl⟩
  obtain ⟨b4, e4'⟩ : ∃ b, inB q 0 4 = b := ⟨_, rfl⟩
  rw [e3'] at R hT
  rw [e4'] at S hT
  have HR := Lib.hid R
  have HS := Lib.hid S
  clear R S
  have Q := fun W => apGoodB_any x y z u c X Y Z U C W
  have K1 := Lib.hid (Blk.new2 w (.cells #[.int .i64 x, .int .i64 y, .int .i64 z, .int .i64 u, .int .i64 c] 30) 30 #[.int .i64 X, .int .i64 Y, .int .i64 Z, .int .i64 U, .int .i64 C])
  have K0 := Lib.hid ((Blk.new w 30 #[.int .i64 x, .int .i64 y, .int .i64 z, .int .i64 u, .int .i64 c]).alloc (.cells #[.int .i64 X, .int .i64 Y, .int .i64 Z, .int .i64 U, .int .i64 C] 30))
  have HB0 := Lib.hid (below_new (below_new (Below.refl w.heap.size w) (.cells #[.int .i64 x, .int .i64 y, .int .i64 z, .int .i64 u, .int .i64 c] 30)) (.cells #[.int .i64 X, .int .i64 Y, .int .i64 Z, .int .i64 U, .int .i64 C] 30))
  obtain ⟨c0, c1, c2, c3, c4⟩ := K0.out.c5
  obtain ⟨e0, e1, e2, e3, e4⟩ := K1.out.c5
  cases b1 : shB x y z u c with
  | false =>
    have hf := Lib.hid (ldV_no (show ldB x y z u c X Y Z U C p q = false by rw [hT, b1]; simp))
    rw [b1] at P
    have HP := Lib.hid P
    clear hT hsa hsb P Q b1
    go_enter Try.func12, Try.ntmps12
    go_wp2_with fail
    refine ((HP).out _).mono ?_
    rintro e w2 ⟨rfl, hh⟩
    have HB1 := Lib.hid (below_on HB0.out hh)
    replace K0 := Lib.hid (K0.out.on hh)
    replace K1 := Lib.hid (K1.out.on hh)
    clear HB0 hh c0 c1 c2 c3 c4 e0 e1 e2 e3 e4
    have HB0 := HB1
    clear HB1
    obtain ⟨c0, c1, c2, c3, c4⟩ := K0.out.c5
    obtain ⟨e0, e1, e2, e3, e4⟩ := K1.out.c5
    go_wp2_with fail
    go_ret3
    exact ⟨by rw [hf.out.1, hf.out.2.1, hf.out.2.2]; rfl, HB0.out⟩
  | true =>
    have hm := hsa b1
    have hg : tgB x y z u c X Y Z U C = (mvB X Y Z U C && decide (c = C)) := by unfold tgB; rw [hm.1]; simp
    cases b2 : tgB x y z u c X Y Z U C with
    | false =>
      have hf := Lib.hid (ldV_no (show ldB x y z u c X Y Z U C p q = false by
        rw [hT, b1]
        rw [b2] at hg
        rcases Bool.eq_false_or_eq_true (decide (c = C)) with h | h
        · rw [h, Bool.and_true] at hg
          simp [shB, ← hg]
        · simp [h]))
      rw [b1] at P
      rw [b2] at Q
      have HP := Lib.hid P
      have HQ := Lib.hid Q
      clear hT hsa hsb P Q b1 b2 hm hg
      go_enter Try.func12, Try.ntmps12
      go_wp2_with fail
      refine ((HP).out _).mono ?_
      rintro e w2 ⟨rfl, hh⟩
      have HB1 := Lib.hid (below_on HB0.out hh)
      replace K0 := Lib.hid (K0.out.on hh)
      replace K1 := Lib.hid (K1.out.on hh)
      clear HB0 hh c0 c1 c2 c3 c4 e0 e1 e2 e3 e4
      have HB0 := HB1
      clear HB1
      obtain ⟨c0, c1, c2, c3, c4⟩ := K0.out.c5
      obtain ⟨e0, e1, e2, e3, e4⟩ := K1.out.c5
      go_wp2_with fail
      refine ((HQ).out _).mono ?_
      rintro e w2 ⟨rfl, hh⟩
      have HB1 := Lib.hid (below_on HB0.out hh)
      replace K0 := Lib.hid (K0.out.on hh)
      replace K1 := Lib.hid (K1.out.on hh)
      clear HB0 hh c0 c1 c2 c3 c4 e0 e1 e2 e3 e4
      have HB0 := HB1
      clear HB1
      obtain ⟨c0, c1, c2, c3, c4⟩ := K0.out.c5
      obtain ⟨e0, e1, e2, e3, e4⟩ := K1.out.c5
      go_wp2_with fail
      go_ret3
      exact ⟨by rw [hf.out.1, hf.out.2.1, hf.out.2.2]; rfl, HB0.out⟩
    | true =>
      rw [b2] at hg
      have hg2 := hg.symm
      simp only [Bool.and_eq_true, decide_eq_true_eq] at hg2
      obtain ⟨hmv, rfl⟩ := hg2
      obtain ⟨_, hc1, hc16, hka⟩ := hm
      have hsh : shB X Y Z U c = true := by simp [shB, hmv, hc16]
      obtain ⟨_, _, _, hkb⟩ := hsb hsh
      rw [b1, hsh] at hT
      rw [b1] at P
      rw [b2] at Q
      have HP := Lib.hid P
      have HQ := Lib.hid Q
      clear hsa hsb P Q b1 b2 hg hmv hsh
      cases b3 with
      | false =>
        have hf := Lib.hid (ldV_no (show ldB x y z u c X Y Z U c p q = false by rw [hT]; simp))
        clear hT
        go_enter Try.func12, Try.ntmps12
        go_wp2_with fail
        refine ((HP).out _).mono ?_
        rintro e w2 ⟨rfl, hh⟩
        have HB1 := Lib.hid (below_on HB0.out hh)
        replace K0 := Lib.hid (K0.out.on hh)
        replace K1 := Lib.hid (K1.out.on hh)
        clear HB0 hh c0 c1 c2 c3 c4 e0 e1 e2 e3 e4
        have HB0 := HB1
        clear HB1
        obtain ⟨c0, c1, c2, c3, c4⟩ := K0.out.c5
        obtain ⟨e0, e1, e2, e3, e4⟩ := K1.out.c5
        go_wp2_with fail
        refine ((HQ).out _).mono ?_
        rintro e w2 ⟨rfl, hh⟩
        have HB1 := Lib.hid (below_on HB0.out hh)
        replace K0 := Lib.hid (K0.out.on hh)
        replace K1 := Lib.hid (K1.out.on hh)
        clear HB0 hh c0 c1 c2 c3 c4 e0 e1 e2 e3 e4
        have HB0 := HB1
        clear HB1
        obtain ⟨c0, c1, c2, c3, c4⟩ := K0.out.c5
        obtain ⟨e0, e1, e2, e3, e4⟩ := K1.out.c5
        go_wp2_with fail
        refine ((HR).out _).mono ?_
        rintro e w2 ⟨rfl, rfl⟩
        go_wp2_with fail
        go_ret3
        exact ⟨by rw [hf.out.1, hf.out.2.1, hf.out.2.2]; rfl, HB0.out⟩
      | true =>
        cases b4 with
        | false =>
          have hf := Lib.hid (ldV_no (show ldB x y z u c X Y Z U c p q = false by rw [hT]; simp))
          clear hT
          go_enter Try.func12, Try.ntmps12
          go_wp2_with fail
          refine ((HP).out _).mono ?_
          rintro e w2 ⟨rfl, hh⟩
          have HB1 := Lib.hid (below_on HB0.out hh)
          replace K0 := Lib.hid (K0.out.on hh)
          replace K1 := Lib.hid (K1.out.on hh)
          clear HB0 hh c0 c1 c2 c3 c4 e0 e1 e2 e3 e4
          have HB0 := HB1
          clear HB1
          obtain ⟨c0, c1, c2, c3, c4⟩ := K0.out.c5
          obtain ⟨e0, e1, e2, e3, e4⟩ := K1.out.c5
          go_wp2_with fail
          refine ((HQ).out _).mono ?_
          rintro e w2 ⟨rfl, hh⟩
          have HB1 := Lib.hid (below_on HB0.out hh)
          replace K0 := Lib.hid (K0.out.on hh)
          replace K1 := Lib.hid (K1.out.on hh)
          clear HB0 hh c0 c1 c2 c3 c4 e0 e1 e2 e3 e4
          have HB0 := HB1
          clear HB1
          obtain ⟨c0, c1, c2, c3, c4⟩ := K0.out.c5
          obtain ⟨e0, e1, e2, e3, e4⟩ := K1.out.c5
          go_wp2_with fail
          refine ((HR).out _).mono ?_
          rintro e w2 ⟨rfl, rfl⟩
          go_wp2_with fail
          refine ((HS).out _).mono ?_
          rintro e w2 ⟨rfl, rfl⟩
          go_wp2_with fail
          go_ret3
          exact ⟨by rw [hf.out.1, hf.out.2.1, hf.out.2.2]; rfl, HB0.out⟩
        | true =>
          have hf := ldV_yes (show ldB x y z u c X Y Z U c p q = true by rw [hT]; simp)
          have i3 := inB_yes e3'
          have i4 := inB_yes e4'
          have HL := Lib.hid (fun W => rpFirst_any x y z u X Y Z U c p q W hka hkb hc1 hc16 i3.1 i3.2 i4.1 i4.2)
          obtain ⟨ra, era⟩ : ∃ r, ldA (wyT x z X Z c p q) (wyT y u Y U c p q) (dlN c p q) c = r := ⟨_, rfl⟩
          obtain ⟨rc, erc⟩ : ∃ r, ldC (wyT x z X Z c p q) (wyT y u Y U c p q) (dlN c p q) c = r := ⟨_, rfl⟩
          rw [era, erc] at HL hf
          replace hf := Lib.hid hf
          clear hT era erc i3 i4
          go_enter Try.func12, Try.ntmps12
          go_wp2_with fail
          refine ((HP).out _).mono ?_
          rintro e w2 ⟨rfl, hh⟩
          have HB1 := Lib.hid (below_on HB0.out hh)
          replace K0 := Lib.hid (K0.out.on hh)
          replace K1 := Lib.hid (K1.out.on hh)
          clear HB0 hh c0 c1 c2 c3 c4 e0 e1 e2 e3 e4
          have HB0 := HB1
          clear HB1
          obtain ⟨c0, c1, c2, c3, c4⟩ := K0.out.c5
          obtain ⟨e0, e1, e2, e3, e4⟩ := K1.out.c5
          go_wp2_with fail
          refine ((HQ).out _).mono ?_
          rintro e w2 ⟨rfl, hh⟩
          have HB1 := Lib.hid (below_on HB0.out hh)
          replace K0 := Lib.hid (K0.out.on hh)
          replace K1 := Lib.hid (K1.out.on hh)
          clear HB0 hh c0 c1 c2 c3 c4 e0 e1 e2 e3 e4
          have HB0 := HB1
          clear HB1
          obtain ⟨c0, c1, c2, c3, c4⟩ := K0.out.c5
          obtain ⟨e0, e1, e2, e3, e4⟩ := K1.out.c5
          go_wp2_with fail
          refine ((HR).out _).mono ?_
          rintro e w2 ⟨rfl, rfl⟩
          go_wp2_with fail
          refine ((HS).out _).mono ?_
          rintro e w2 ⟨rfl, rfl⟩
          go_wp2_with fail
          refine ((HL).out _).mono ?_
          rintro e w2 ⟨rfl, hh⟩
          have HB1 := Lib.hid (below_on HB0.out hh)
          replace K0 := Lib.hid (K0.out.on hh)
          replace K1 := Lib.hid (K1.out.on hh)
          clear HB0 hh c0 c1 c2 c3 c4 e0 e1 e2 e3 e4
          have HB0 := HB1
          clear HB1
          obtain ⟨c0, c1, c2, c3, c4⟩ := K0.out.c5
          obtain ⟨e0, e1, e2, e3, e4⟩ := K1.out.c5
          go_wp2_with fail
          go_ret3
          exact ⟨by rw [hf.out.1, hf.out.2.1, hf.out.2.2]; rfl, HB0.out⟩
end Go.Proofs.Ytpikhkdgohapeaa
