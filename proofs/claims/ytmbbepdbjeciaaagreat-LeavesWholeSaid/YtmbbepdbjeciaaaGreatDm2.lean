/- Polynomials as lists of words: products with x less a word, and what goes through points. No program stands here. -/
import Derived.Test.YtmbbepdbjeciaaaGreatDm1
set_option linter.all false
namespace Go.DM

/-- c times x less r, with p to be carried in. -/
def mulX (r : Int) : Int → List Int → List Int
  | p, [] => [p % 65521]
  | p, n :: c => ((p - r * n) % 65521) :: mulX r n c
def times (c : List Int) (r : Int) : List Int := mulX r 0 c

theorem mulX_length (r : Int) : ∀ (c : List Int) (p : Int), (mulX r p c).length = c.length + 1
  | [], p => rfl
  | n :: c, p => by simp [mulX, mulX_length r c n]
theorem times_length (c : List Int) (r : Int) : (times c r).length = c.length + 1 := mulX_length r c 0
theorem mulX_W (r : Int) : ∀ (c : List Int) (p : Int), ∀ x, x ∈ mulX r p c → 0 ≤ x ∧ x ≤ 65520
  | [], p, x, h => by simp only [mulX, List.mem_singleton] at h; omega
  | n :: c, p, x, h => by
    simp only [mulX, List.mem_cons] at h
    rcases h with h | h
    · omega
    · exact mulX_W r c n x h
theorem times_W (c : List Int) (r : Int) : ∀ x, x ∈ times c r → 0 ≤ x ∧ x ≤ 65520 := mulX_W r c 0
theorem mulX_snoc (r : Int) : ∀ (l : List Int) (p : Int), ∃ d e, d.length = l.length ∧ mulX r p l = d ++ [e % 65521] ∧ ∀ x, mulX r p (l ++ [x]) = d ++ [(e - r * x) % 65521, x % 65521]
  | [], p => ⟨[], p, rfl, rfl, fun _ => rfl⟩
  | n :: l, p => by
    obtain ⟨d, e, h1, h2, h3⟩ := mulX_snoc r l n
    exact ⟨((p - r * n) % 65521) :: d, e, by simp [h1], by simp [mulX, h2], fun x => by simp [mulX, h3]⟩

/-- What the loop has made of the coefficients below k. -/
def tI (c : List Int) (r : Int) (k : Nat) : List Int := mulX r 0 (c.take k) ++ List.replicate (c.length - k) 0
theorem tI_length (c : List Int) (r : Int) {k : Nat} (hk : k ≤ c.length) : (tI c r k).length = c.length + 1 := by
  simp [tI, mulX_length]; omega
theorem tI_zero (c : List Int) (r : Int) : tI c r 0 = List.replicate (c.length + 1) 0 := by
  simp [tI, mulX, List.replicate_succ]
theorem tI_last (c : List Int) (r : Int) {k : Nat} (hk : c.length ≤ k) : tI c r k = times c r := by
  simp [tI, times, List.take_of_length_le hk, Nat.sub_eq_zero_of_le hk]
theorem tI_step (c : List Int) (r : Int) {k : Nat} (hk : k < c.length) : ∃ d a b rest, d.length = k ∧ tI c r k = d ++ a :: b :: rest ∧ b = 0 ∧ (0 ≤ a ∧ a ≤ 65520) ∧
    tI c r (k + 1) = d ++ ((a - r * c[k]) % 65521) :: (c[k] % 65521) :: rest := by
  obtain ⟨d, e, h1, h2, h3⟩ := mulX_snoc r (c.take k) 0
  have hr : c.length - k = (c.length - (k + 1)) + 1 := by omega
  refine ⟨d, e % 65521, 0, List.replicate (c.length - (k + 1)) 0, by simp [h1]; omega, ?_, rfl, by omega, ?_⟩
  · rw [tI, h2, hr, List.replicate_succ]; simp
  · rw [tI, List.take_succ_eq_append_getElem hk, h3]
    have : (e % 65521 - r * c[k]) % 65521 = (e - r * c[k]) % 65521 := by omega
    rw [this]; simp
theorem set2 {α : Type} (d rest : List α) (a b v w : α) : ((d ++ a :: b :: rest).set (d.length + 1) v).set d.length w = d ++ w :: v :: rest := by
  rw [List.set_append_right _ _ (by omega)]
  have : d.length + 1 - d.length = 1 := by omega
  rw [this, List.set_append_right _ _ (Nat.le_refl _), Nat.sub_self]; rfl
theorem get2 {α : Type} (d rest : List α) (a b : α) (h : d.length + 1 < (d ++ a :: b :: rest).length) : (d ++ a :: b :: rest)[d.length + 1] = b := by
  rw [List.getElem_append_right (by omega)]; simp [show d.length + 1 - d.length = 1 by omega]
theorem get1 {α : Type} (d rest : List α) (a : α) (h : d.length < (d ++ a :: rest).length) : (d ++ a :: rest)[d.length] = a := by
  rw [List.getElem_append_right (by omega)]; simp

/-- f times a polynomial is added. -/
def addP (f : Int) (o p : List Int) : List Int := List.zipWith (fun o p => (o + f * p) % 65521) o p
def aI (f : Int) (o p : List Int) (k : Nat) : List Int := addP f (o.take k) (p.take k) ++ o.drop k
theorem addP_length {f : Int} {o p : List Int} (h : o.length = p.length) : (addP f o p).length = o.length := by simp [addP, h]
theorem addP_W {f : Int} : ∀ {o p : List Int}, ∀ x, x ∈ addP f o p → 0 ≤ x ∧ x ≤ 65520
  | [], _, x, h => by simp [addP] at h
  | _ :: _, [], x, h => by simp [addP] at h
  | a :: o, b :: p, x, h => by
    simp only [addP, List.zipWith_cons_cons, List.mem_cons] at h
    rcases h with h | h
    · omega
    · exact addP_W (o := o) (p := p) x h
theorem aI_zero (f : Int) (o p : List Int) : aI f o p 0 = o := by simp [aI, addP]
theorem aI_last {f : Int} {o p : List Int} {k : Nat} (h : o.length = p.length) (hk : o.length ≤ k) : aI f o p k = addP f o p := by
  simp [aI, List.take_of_length_le hk, List.take_of_length_le (show p.length ≤ k by omega), List.drop_eq_nil_of_le hk]
theorem aI_step {f : Int} {o p : List Int} {k : Nat} (h : o.length = p.length) (hk : k < o.length) : ∃ d rest, d.length = k ∧ aI f o p k = d ++ o[k] :: rest ∧ aI f o p (k + 1) = d ++ ((o[k] + f * p[k]) % 65521) :: rest := by
  refine ⟨addP f (o.take k) (p.take k), o.drop (k + 1), by rw [addP_length (by simp [h])]; simp; omega, ?_, ?_⟩
  · rw [aI, List.drop_eq_getElem_cons hk]
  · rw [aI, List.take_succ_eq_append_getElem hk, List.take_succ_eq_append_getElem (by omega), addP, List.zipWith_append (by simp; omega)]
    simp [addP]
theorem aI_length {f : Int} {o p : List Int} {k : Nat} (h : o.length = p.length) (hk : k ≤ o.length) : (aI f o p k).length = o.length := by
  simp [aI, addP, h]; omega
theorem set1 {α : Type} (d rest : List α) (a v : α) : (d ++ a :: rest).set d.length v = d ++ v :: rest := by
  rw [List.set_append_right _ _ (Nat.le_refl _), Nat.sub_self]; rfl

def invI (x : Int) : Int := (invN x.toNat : Nat)
theorem invI_W (x : Int) : 0 ≤ invI x ∧ invI x ≤ 65520 := by have := invN_lt x.toNat; unfold invI; omega
/-- The product of x less each but one of the first k, and of the differences. -/
def pthS (xs : List Int) (i : Nat) : Nat → List Int × Int
  | 0 => ([1], 1)
  | k + 1 => if k = i then pthS xs i k else (times (pthS xs i k).1 (xs.getD k 0), ((pthS xs i k).2 * ((xs.getD i 0 - xs.getD k 0) % 65521)) % 65521)
theorem pthS_W (xs : List Int) (i : Nat) : ∀ k, (∀ x, x ∈ (pthS xs i k).1 → 0 ≤ x ∧ x ≤ 65520) ∧ 0 ≤ (pthS xs i k).2 ∧ (pthS xs i k).2 ≤ 65520
  | 0 => ⟨fun x h => by simp only [pthS, List.mem_singleton] at h; omega, by show (0 : Int) ≤ 1; decide, by show (1 : Int) ≤ 65520; decide⟩
  | k + 1 => by
    unfold pthS
    split
    · exact pthS_W xs i k
    · exact ⟨times_W _ _, by simp only; omega⟩
theorem pthS_len (xs : List Int) (i : Nat) : ∀ k, (pthS xs i k).1.length = if k ≤ i then k + 1 else k
  | 0 => by simp [pthS]
  | k + 1 => by
    unfold pthS
    have ih := pthS_len xs i k
    by_cases h : k = i
    · rw [if_pos h, ih]; subst h; simp
    · rw [if_neg h]
      simp only [times_length, ih]
      by_cases h1 : k ≤ i
      · rw [if_pos h1, if_pos (by omega)]
      · rw [if_neg h1, if_neg (by omega)]
/-- What the first i points give to the polynomial. -/
def thrS (xs ys : List Int) : Nat → List Int
  | 0 => List.replicate xs.length 0
  | i + 1 => addP ((ys.getD i 0 * invI (pthS xs i xs.length).2) % 65521) (thrS xs ys i) (pthS xs i xs.length).1
theorem thrS_len (xs ys : List Int) : ∀ i, i ≤ xs.length → (thrS xs ys i).length = xs.length
  | 0, _ => by simp [thrS]
  | i + 1, h => by
    have ih := thrS_len xs ys i (by omega)
    rw [thrS, addP_length, ih]
    rw [ih, pthS_len, if_neg (by omega)]
theorem thrS_W (xs ys : List Int) : ∀ i, ∀ x, x ∈ thrS xs ys i → 0 ≤ x ∧ x ≤ 65520
  | 0, x, h => by simp only [thrS, List.mem_replicate] at h; omega
  | i + 1, x, h => addP_W x h
/-- The polynomial through points. -/
def through (xs ys : List Int) : List Int := thrS xs ys xs.length
theorem get1' {α : Type} {q d rest : List α} {a : α} {k : Nat} (he : q = d ++ a :: rest) (hd : d.length = k) (h : k < q.length) : q[k] = a := by
  subst he; subst hd; exact get1 _ _ _ _
theorem set1' {α : Type} {q d rest : List α} {a : α} {k : Nat} (v : α) (he : q = d ++ a :: rest) (hd : d.length = k) : q.set k v = d ++ v :: rest := by
  subst he; subst hd; exact set1 _ _ _ _
end Go.DM
