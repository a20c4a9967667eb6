/- What the functions on conflicts return: plain laws. Without conditions. -/
import Derived.Test.YtpikhkdgohapeaaTransFn
namespace Go.Proofs.Ytpikhkdgohapeaa
def cpB (t : TrN) (L : Int) : Bool := trB t && inB L 0 80
def cpL (t : TrN) (L : Int) : List (List Int) := if cpB t L = true then prTo (cfAt t L) t.n t.n else []
def cpN (t : TrN) (L : Int) : Nat := (cpL t L).length
theorem cp_no {t : TrN} {L : Int} (h : cpB t L = false) : cpB t L = false ∧ cpL t L = [] ∧ cpN t L = 0 := by simp [cpL, cpN, h]
theorem cp_yes {t : TrN} {L : Int} (h : cpB t L = true) : cpB t L = true ∧ cpL t L = prTo (cfAt t L) t.n t.n ∧ cpN t L = (prTo (cfAt t L) t.n t.n).length := by simp [cpL, cpN, h]
theorem pr_small {p : Nat → Nat → Bool} {n : Nat} (hn : n ≤ 12) : (prTo p n n).length ≤ 144 ∧ ∀ r ∈ prTo p n n, r.length = 2 := by
  have h1 := prTo_len p n n
  have h2 : n * n ≤ 12 * 12 := Nat.mul_le_mul hn hn
  refine ⟨by omega, fun r hr => ?_⟩
  obtain ⟨i, k, _, _, _, _, rfl⟩ := prTo_mem hr
  rfl
theorem cp_small (t : TrN) (L : Int) : smallRows (cpL t L) ∧ cpN t L = (cpL t L).length := by
  refine ⟨?_, rfl⟩
  cases h : cpB t L with
  | false => rw [(cp_no h).2.1]; simp [smallRows]
  | true =>
    rw [(cp_yes h).2.1]
    have ht : trB t = true := by simp only [cpB, Bool.and_eq_true] at h; exact h.1
    have := pr_small (p := cfAt t L) (tr_ok ht).n1
    exact ⟨by omega, fun r hr => by have := this.2 r hr; omega⟩

def clB (t : TrN) : Bool := trB t
def clL (t : TrN) : List (List Int) := if clB t = true then prTo (clAt t) t.n t.n else []
def clN (t : TrN) : Nat := (clL t).length
theorem cl_no {t : TrN} (h : clB t = false) : clB t = false ∧ clL t = [] ∧ clN t = 0 := by simp [clL, clN, h]
theorem cl_yes {t : TrN} (h : clB t = true) : clB t = true ∧ clL t = prTo (clAt t) t.n t.n ∧ clN t = (prTo (clAt t) t.n t.n).length := by simp [clL, clN, h]
theorem cl_small (t : TrN) : smallRows (clL t) ∧ clN t = (clL t).length := by
  refine ⟨?_, rfl⟩
  cases h : clB t with
  | false => rw [(cl_no h).2.1]; simp [smallRows]
  | true =>
    rw [(cl_yes h).2.1]
    have := pr_small (p := clAt t) (tr_ok h).n1
    exact ⟨by omega, fun r hr => by have := this.2 r hr; omega⟩

/-! ### How many conflicts each performer has -/
def bmp (l : List Int) (a : Int) : List Int := l.set a.toNat (l.getD a.toNat 0 + 1)
def ccTo (rs : List (List Int)) (n : Nat) : Nat → List Int
  | 0 => List.replicate n 0
  | k + 1 => bmp (bmp (ccTo rs n k) ((rs.getD k []).getD 0 0)) ((rs.getD k []).getD 1 0)
theorem bmp_length (l : List Int) (a : Int) : (bmp l a).length = l.length := by simp [bmp]
theorem ccTo_length (rs : List (List Int)) (n : Nat) : ∀ k, (ccTo rs n k).length = n
  | 0 => by simp [ccTo]
  | k + 1 => by simp [ccTo, bmp_length, ccTo_length rs n k]
theorem bmp_in {l : List Int} {m a : Int} (h : ∀ j, 0 ≤ l.getD j 0 ∧ l.getD j 0 ≤ m) (j : Nat) : 0 ≤ (bmp l a).getD j 0 ∧ (bmp l a).getD j 0 ≤ m + 1 := by
  have h1 := h j
  have h2 := h a.toNat
  simp only [bmp, List.getD_eq_getElem?_getD, List.getElem?_set] at *
  split
  · split
    · simp only [Option.getD_some]; omega
    · simp only [Option.getD_none]; omega
  · omega
theorem ccTo_in (rs : List (List Int)) (n : Nat) : ∀ k j, 0 ≤ (ccTo rs n k).getD j 0 ∧ (ccTo rs n k).getD j 0 ≤ 2 * k
  | 0, j => by
    simp only [ccTo, List.getD_eq_getElem?_getD, List.getElem?_replicate]
    split <;> simp
  | k + 1, j => by
    have h1 := bmp_in (a := (rs.getD k []).getD 0 0) (ccTo_in rs n k)
    have h2 := bmp_in (a := (rs.getD k []).getD 1 0) h1 j
    simp only [ccTo]
    have : ((k + 1 : Nat) : Int) = (k : Int) + 1 := by omega
    omega
def ccB (t : TrN) (L : Int) : Bool := cpB t L
def ccL (t : TrN) (L : Int) : List Int := if cpB t L = true then ccTo (cpL t L) t.n (cpN t L) else []
def ccN (t : TrN) (L : Int) : Nat := (ccL t L).length
theorem cc_no {t : TrN} {L : Int} (h : cpB t L = false) : ccB t L = false ∧ ccL t L = [] ∧ ccN t L = 0 := by simp [ccB, ccL, ccN, h]
theorem cc_yes {t : TrN} {L : Int} (h : cpB t L = true) : ccB t L = true ∧ ccL t L = ccTo (cpL t L) t.n (cpN t L) ∧ ccN t L = t.n := by simp [ccB, ccL, ccN, h, ccTo_length]
theorem cc_le (t : TrN) (L : Int) : ccN t L ≤ 12 := by
  cases h : cpB t L with
  | false => rw [(cc_no h).2.2]; omega
  | true =>
    rw [(cc_yes h).2.2]
    have ht : trB t = true := by simp only [cpB, Bool.and_eq_true] at h; exact h.1
    exact (tr_ok ht).n1
theorem cc_small (t : TrN) (L : Int) : ccN t L ≤ 1000000 ∧ ccN t L = ccN t L := ⟨by have := cc_le t L; omega, rfl⟩

/-! ### Those without a conflict -/
def fpTo (cs : List Int) : Nat → List Int
  | 0 => []
  | i + 1 => fpTo cs i ++ (if cs.getD i 0 = 0 then [(i : Int)] else [])
theorem fpTo_yes {cs : List Int} {i : Nat} (h : cs.getD i 0 = 0) : fpTo cs (i + 1) = fpTo cs i ++ [(i : Int)] := by rw [fpTo, if_pos h]
theorem fpTo_no {cs : List Int} {i : Nat} (h : cs.getD i 0 ≠ 0) : fpTo cs (i + 1) = fpTo cs i := by rw [fpTo, if_neg h]; simp
theorem fpTo_len (cs : List Int) : ∀ i, (fpTo cs i).length ≤ i
  | 0 => by simp [fpTo]
  | i + 1 => by have := fpTo_len cs i; rw [fpTo, List.length_append]; split <;> simp <;> omega
def fpB (t : TrN) (L : Int) : Bool := cpB t L
def fpL (t : TrN) (L : Int) : List Int := fpTo (ccL t L) (ccN t L)
def fpN (t : TrN) (L : Int) : Nat := (fpL t L).length
theorem fp_no {t : TrN} {L : Int} (h : cpB t L = false) : fpB t L = false ∧ fpL t L = [] ∧ fpN t L = 0 := by
  simp [fpB, fpL, fpN, h, (cc_no h).2.2, fpTo]
theorem fp_yes {t : TrN} {L : Int} (h : cpB t L = true) : fpB t L = true ∧ fpL t L = fpTo (ccL t L) t.n ∧ fpN t L = (fpTo (ccL t L) t.n).length := by simp [fpB, fpL, fpN, h, (cc_yes h).2.2]
theorem fp_small (t : TrN) (L : Int) : fpN t L ≤ 1000000 ∧ fpN t L = fpN t L := by
  refine ⟨?_, rfl⟩
  have := fpTo_len (ccL t L) (ccN t L)
  have := cc_le t L
  unfold fpN fpL; omega

/-! ### When they are closest -/
def tmT (px py qx qy c : Int) : Int := if inMid px py qx qy = true then tmA (-dtOf px py qx qy * c) (szOf px py qx qy) else if qx * qx + qy * qy < px * px + py * py then c else 0
def tmU (px py qx qy : Int) (c : Int) : Int := if inMid px py qx qy = true then tmB (-dtOf px py qx qy * c) (szOf px py qx qy) else 1
def apS (t : TrN) (i k : Nat) : Int := tmT (wpx t i k) (wpy t i k) (wqx t i k) (wqy t i k) t.c
def apU (t : TrN) (i k : Nat) : Int := tmU (wpx t i k) (wpy t i k) (wqx t i k) (wqy t i k) t.c
def r0 (r : List Int) : Nat := (r.getD 0 0).toNat
def r1 (r : List Int) : Nat := (r.getD 1 0).toNat
def ctTo (t : TrN) (rs : List (List Int)) : Nat → List (List Int)
  | 0 => []
  | k + 1 => ctTo t rs k ++ [[(rs.getD k []).getD 0 0, (rs.getD k []).getD 1 0, apS t (r0 (rs.getD k [])) (r1 (rs.getD k [])), apU t (r0 (rs.getD k [])) (r1 (rs.getD k []))]]
theorem ctTo_len (t : TrN) (rs : List (List Int)) : ∀ k, (ctTo t rs k).length = k ∧ ∀ r ∈ ctTo t rs k, r.length = 4
  | 0 => by simp [ctTo]
  | k + 1 => by
    have := ctTo_len t rs k
    refine ⟨by simp [ctTo, this.1], fun r hr => ?_⟩
    rw [ctTo, List.mem_append] at hr
    rcases hr with hr | hr
    · exact this.2 r hr
    · simp at hr; subst hr; rfl
def ctB (t : TrN) (L : Int) : Bool := cpB t L
def ctL (t : TrN) (L : Int) : List (List Int) := ctTo t (cpL t L) (cpN t L)
def ctN (t : TrN) (L : Int) : Nat := (ctL t L).length
theorem ct_no {t : TrN} {L : Int} (h : cpB t L = false) : ctB t L = false ∧ ctL t L = [] ∧ ctN t L = 0 := by simp [ctB, ctL, ctN, h, (cp_no h).2.2, ctTo]
theorem ct_yes {t : TrN} {L : Int} (h : cpB t L = true) : ctB t L = true ∧ ctL t L = ctTo t (cpL t L) (cpN t L) ∧ ctN t L = cpN t L := by simp [ctB, ctL, ctN, h, (ctTo_len t (cpL t L) (cpN t L)).1]
theorem ct_small (t : TrN) (L : Int) : smallRows (ctL t L) ∧ ctN t L = (ctL t L).length := by
  have h1 := ctTo_len t (cpL t L) (cpN t L)
  have h2 := cp_small t L
  refine ⟨⟨?_, fun r hr => ?_⟩, rfl⟩
  · unfold ctL; rw [h1.1, h2.2]; exact h2.1.1
  · have := h1.2 r hr; omega

/-! ### Those who are too near at the begin or at the end -/
def edAt (t : TrN) (L : Int) (r : List Int) : Bool :=
  decide (min (wpx t (r0 r) (r1 r) * wpx t (r0 r) (r1 r) + wpy t (r0 r) (r1 r) * wpy t (r0 r) (r1 r)) (wqx t (r0 r) (r1 r) * wqx t (r0 r) (r1 r) + wqy t (r0 r) (r1 r) * wqy t (r0 r) (r1 r)) < L * L)
def ecTo (t : TrN) (L : Int) (rs : List (List Int)) : Nat → List (List Int)
  | 0 => []
  | k + 1 => ecTo t L rs k ++ (if edAt t L (rs.getD k []) = true then [rs.getD k []] else [])
theorem ecTo_len (t : TrN) (L : Int) (rs : List (List Int)) (h : ∀ r ∈ rs, r.length ≤ 1000) : ∀ k, (ecTo t L rs k).length ≤ k ∧ ∀ r ∈ ecTo t L rs k, r.length ≤ 1000
  | 0 => by simp [ecTo]
  | k + 1 => by
    have := ecTo_len t L rs h k
    have hk : (rs.getD k []).length ≤ 1000 := by
      rw [List.getD_eq_getElem?_getD]
      by_cases hj : k < rs.length
      · rw [List.getElem?_eq_getElem hj]; exact h _ (List.getElem_mem hj)
      · rw [List.getElem?_eq_none (by omega)]; simp
    refine ⟨by rw [ecTo, List.length_append]; split <;> simp <;> omega, fun r hr => ?_⟩
    rw [ecTo, List.mem_append] at hr
    rcases hr with hr | hr
    · exact this.2 r hr
    · split at hr
      · simp at hr; subst hr; exact hk
      · simp at hr
def ecB (t : TrN) (L : Int) : Bool := cpB t L
def ecL (t : TrN) (L : Int) : List (List Int) := ecTo t L (cpL t L) (cpN t L)
def ecN (t : TrN) (L : Int) : Nat := (ecL t L).length
theorem ec_no {t : TrN} {L : Int} (h : cpB t L = false) : ecB t L = false ∧ ecL t L = [] ∧ ecN t L = 0 := by simp [ecB, ecL, ecN, h, (cp_no h).2.2, ecTo]
theorem ec_small (t : TrN) (L : Int) : smallRows (ecL t L) ∧ ecN t L = (ecL t L).length := by
  have h2 := cp_small t L
  have h1 := ecTo_len t L (cpL t L) h2.1.2 (cpN t L)
  have h3 := h2.1.1
  have h4 := h2.2
  refine ⟨⟨?_, h1.2⟩, rfl⟩
  unfold ecL; omega

/-! ### The greatest least distance without a conflict -/
def glAt (t : TrN) (L : Nat) : Bool := (prTo (cfAt t (L : Int)) t.n t.n).length == 0
def glDown (t : TrN) : Nat → Nat
  | 0 => 0
  | k + 1 => if glAt t (k + 1) = true then k + 1 else glDown t k
def glUp (t : TrN) : Nat → Nat
  | 0 => 0
  | l + 1 => if glAt t l = true then l else glUp t l
theorem gl_same (t : TrN) : ∀ k, glUp t (k + 1) = glDown t k
  | 0 => by unfold glUp glDown; split <;> rfl
  | k + 1 => by
    have := gl_same t k
    rw [glUp, this, glDown]
def glB (t : TrN) : Bool := trB t
def glV (t : TrN) : Int := if trB t = true then (glDown t 80 : Int) else 0
theorem gl_no {t : TrN} (h : trB t = false) : glB t = false ∧ glV t = 0 := by simp [glB, glV, h]
theorem gl_yes {t : TrN} (h : trB t = true) : glB t = true ∧ glV t = (glDown t 80 : Int) := by simp [glB, glV, h]

/-! ### The two who come closest -/
def lsAt (t : TrN) (a b : Nat) (s : Nat × Nat) : Bool := decide (apT t a b * apB t s.1 s.2 < apT t s.1 s.2 * apB t a b)
def rmIn (t : TrN) (a : Nat) (s : Nat × Nat) : Nat → Nat × Nat
  | 0 => s
  | d + 1 => if a < d ∧ lsAt t a d (rmIn t a s d) = true then (a, d) else rmIn t a s d
def rmOut (t : TrN) (n : Nat) : Nat → Nat × Nat
  | 0 => (0, 1)
  | a + 1 => rmIn t a (rmOut t n a) n
theorem rmIn_first (t : TrN) (a : Nat) (s : Nat × Nat) : ∀ d, d ≤ a + 1 → rmIn t a s d = s
  | 0, _ => rfl
  | d + 1, h => by rw [rmIn, rmIn_first t a s d (by omega), if_neg (by omega)]
theorem rmIn_yes {t : TrN} {a d : Nat} {s : Nat × Nat} (h : a < d) (hp : lsAt t a d (rmIn t a s d) = true) : rmIn t a s (d + 1) = (a, d) := by rw [rmIn, if_pos ⟨h, hp⟩]
theorem rmIn_no {t : TrN} {a d : Nat} {s : Nat × Nat} (hp : lsAt t a d (rmIn t a s d) = false) : rmIn t a s (d + 1) = rmIn t a s d := by rw [rmIn, if_neg (by simp [hp])]
theorem rmIn_lt {t : TrN} {a n : Nat} {s : Nat × Nat} (hs : s.1 < s.2 ∧ s.2 < n) : ∀ d, d ≤ n → (rmIn t a s d).1 < (rmIn t a s d).2 ∧ (rmIn t a s d).2 < n
  | 0, _ => hs
  | d + 1, h => by
    rw [rmIn]
    split
    · rename_i hc; exact ⟨hc.1, by omega⟩
    · exact rmIn_lt hs d (by omega)
theorem rmOut_lt {t : TrN} {n : Nat} (hn : 2 ≤ n) : ∀ a, (rmOut t n a).1 < (rmOut t n a).2 ∧ (rmOut t n a).2 < n
  | 0 => ⟨by simp [rmOut], by simp [rmOut]; omega⟩
  | a + 1 => by rw [rmOut]; exact rmIn_lt (rmOut_lt hn a) n (Nat.le_refl _)
def roB (t : TrN) : Bool := trB t && decide (2 ≤ t.n)
def roA (t : TrN) : Int := if roB t = true then apT t (rmOut t t.n t.n).1 (rmOut t t.n t.n).2 else 0
def roC (t : TrN) : Int := if roB t = true then apB t (rmOut t t.n t.n).1 (rmOut t t.n t.n).2 else 0
theorem ro_no {t : TrN} (h : roB t = false) : roB t = false ∧ roA t = 0 ∧ roC t = 0 := by simp [roA, roC, h]
theorem ro_yes {t : TrN} (h : roB t = true) : roB t = true ∧ roA t = apT t (rmOut t t.n t.n).1 (rmOut t t.n t.n).2 ∧ roC t = apB t (rmOut t t.n t.n).1 (rmOut t t.n t.n).2 := by simp [roA, roC, h]
end Go.Proofs.Ytpikhkdgohapeaa
