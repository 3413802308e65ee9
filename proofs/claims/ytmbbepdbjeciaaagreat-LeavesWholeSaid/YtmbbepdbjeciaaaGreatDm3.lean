/- Interpolation modulo 65521: the polynomial through points has their values there, and it is the only one of its length. No program stands here. -/
import Derived.Test.YtmbbepdbjeciaaaGreatDm2
set_option linter.all false
namespace Go.DM

/-- Congruent modulo 65521. -/
def Cg (a b : Int) : Prop := ∃ k : Int, a = b + 65521 * k
theorem Cg.refl (a : Int) : Cg a a := ⟨0, by omega⟩
theorem Cg.of_eq {a b : Int} (h : a = b) : Cg a b := h ▸ .refl a
theorem Cg.symm {a b : Int} (h : Cg a b) : Cg b a := by obtain ⟨k, h⟩ := h; exact ⟨-k, by omega⟩
theorem Cg.trans {a b c : Int} (h : Cg a b) (g : Cg b c) : Cg a c := by obtain ⟨k, h⟩ := h; obtain ⟨l, g⟩ := g; exact ⟨k + l, by omega⟩
theorem Cg.add {a b c d : Int} (h : Cg a b) (g : Cg c d) : Cg (a + c) (b + d) := by obtain ⟨k, h⟩ := h; obtain ⟨l, g⟩ := g; exact ⟨k + l, by omega⟩
theorem Cg.sub {a b c d : Int} (h : Cg a b) (g : Cg c d) : Cg (a - c) (b - d) := by obtain ⟨k, h⟩ := h; obtain ⟨l, g⟩ := g; exact ⟨k - l, by omega⟩
theorem Cg.mul {a b c d : Int} (h : Cg a b) (g : Cg c d) : Cg (a * c) (b * d) := by
  obtain ⟨k, h⟩ := h; obtain ⟨l, g⟩ := g; exact ⟨b * l + k * d + 65521 * k * l, by grind⟩
theorem Cg.mod (a : Int) : Cg (a % 65521) a := ⟨-(a / 65521), by omega⟩
theorem cg_iff {a b : Int} : Cg a b ↔ a % 65521 = b % 65521 := ⟨fun ⟨k, h⟩ => by omega, fun h => ⟨a / 65521 - b / 65521, by omega⟩⟩
theorem Cg.word {a b : Int} (h : Cg a b) (ha : 0 ≤ a ∧ a ≤ 65520) (hb : 0 ≤ b ∧ b ≤ 65520) : a = b := by obtain ⟨k, h⟩ := h; omega

/-- A number times its inverse. -/
theorem mul_invI {a : Int} (h0 : 0 < a) (h1 : a ≤ 65520) : Cg (a * invI a) 1 := by
  obtain ⟨n, rfl⟩ := Int.eq_ofNat_of_zero_le (show 0 ≤ a by omega)
  have h := mul_invN (n := n) (by omega) (by omega)
  rw [cg_iff]
  show ((n : Int) * ((invN (n : Int).toNat : Nat) : Int)) % 65521 = 1 % 65521
  rw [Int.toNat_natCast]
  have : ((n * invN n % 65521 : Nat) : Int) = 1 := by rw [h]; rfl
  rw [← Int.natCast_mul]
  omega
theorem mul_zero {a b : Int} (h : Cg (a * b) 0) (ha : ¬ Cg a 0) : Cg b 0 := by
  have h0 : 0 < a % 65521 := by
    rcases Int.lt_or_le 0 (a % 65521) with x | x
    · exact x
    · exact absurd (cg_iff.2 (by omega)) ha
  have hi := mul_invI h0 (by omega)
  have h2 : Cg (a * invI (a % 65521)) 1 := (((Cg.mod a).symm).mul (.refl _)).trans hi
  have h3 : Cg (a * invI (a % 65521) * b) (1 * b) := h2.mul (.refl _)
  have h4 : Cg (a * b * invI (a % 65521)) (0 * invI (a % 65521)) := h.mul (.refl _)
  have e : a * invI (a % 65521) * b = a * b * invI (a % 65521) := by grind
  rw [e] at h3
  have h5 := h3.symm.trans h4
  simpa using h5

/-- The value of a polynomial. -/
def evP : List Int → Int → Int
  | [], _ => 0
  | a :: c, x => a + x * evP c x

theorem evP_mulX (r x : Int) : ∀ (c : List Int) (p : Int), Cg (evP (mulX r p c) x) (p + (x - r) * evP c x)
  | [], p => by
    simp only [mulX, evP]
    have := Cg.mod p
    obtain ⟨k, h⟩ := this
    exact ⟨k, by grind⟩
  | n :: c, p => by
    simp only [mulX, evP]
    obtain ⟨k, h⟩ := evP_mulX r x c n
    obtain ⟨l, g⟩ := Cg.mod (p - r * n)
    exact ⟨l + x * k, by rw [h, g]; grind⟩
theorem evP_times (c : List Int) (r x : Int) : Cg (evP (times c r) x) ((x - r) * evP c x) := by
  have := evP_mulX r x c 0
  simpa [times] using this

theorem evP_addP (f x : Int) : ∀ {o p : List Int}, o.length = p.length → Cg (evP (addP f o p) x) (evP o x + f * evP p x)
  | [], [], _ => by simp [addP, evP]; exact .refl _
  | a :: o, b :: p, h => by
    obtain ⟨k, e⟩ := evP_addP f x (o := o) (p := p) (by simpa using h)
    obtain ⟨l, g⟩ := Cg.mod (a + f * b)
    refine ⟨l + x * k, ?_⟩
    show (a + f * b) % 65521 + x * evP (addP f o p) x = _
    rw [e, g]; simp only [evP]; grind
  | [], _ :: _, h => by simp at h
  | _ :: _, [], h => by simp at h

theorem evP_zero (x : Int) : ∀ n, evP (List.replicate n 0) x = 0
  | 0 => rfl
  | n + 1 => by simp [List.replicate_succ, evP, evP_zero x n]

/-! ### what goes through points -/
/-- Words that are pairwise different. -/
def Apart (xs : List Int) : Prop := (∀ x, x ∈ xs → 0 ≤ x ∧ x ≤ 65520) ∧ ∀ i j : Nat, i < j → j < xs.length → xs.getD i 0 ≠ xs.getD j 0
theorem Apart.ne {xs : List Int} (h : Apart xs) {i j : Nat} (hi : i < xs.length) (hj : j < xs.length) (hn : i ≠ j) : ¬ Cg (xs.getD i 0 - xs.getD j 0) 0 := by
  intro hc
  have wi := h.1 (xs.getD i 0) (by simp [List.getD, hi])
  have wj := h.1 (xs.getD j 0) (by simp [List.getD, hj])
  have e : xs.getD i 0 = xs.getD j 0 := by obtain ⟨k, hk⟩ := hc; omega
  rcases Nat.lt_or_gt_of_ne hn with x | x
  · exact h.2 i j x hj e
  · exact h.2 j i x hi e.symm

theorem pthS_at (xs : List Int) (i : Nat) : ∀ k, Cg (evP (pthS xs i k).1 (xs.getD i 0)) (pthS xs i k).2
  | 0 => .of_eq (by simp [pthS, evP])
  | k + 1 => by
    unfold pthS
    split
    · exact pthS_at xs i k
    · refine (evP_times _ _ _).trans ?_
      have h1 := (pthS_at xs i k)
      refine Cg.symm ((Cg.mod _).trans ?_)
      rw [Int.mul_comm]
      exact (Cg.mod _).mul h1.symm
theorem pthS_ne {xs : List Int} (h : Apart xs) {i : Nat} (hi : i < xs.length) : ∀ k, k ≤ xs.length → ¬ Cg (pthS xs i k).2 0
  | 0, _ => by
    show ¬ Cg 1 0
    rw [cg_iff]; decide
  | k + 1, hk => by
    unfold pthS
    split
    · exact pthS_ne h hi k (by omega)
    · rename_i hn
      intro hc
      have h1 := ((Cg.mod _).symm.trans hc)
      have h2 := mul_zero h1 (pthS_ne h hi k (by omega))
      exact h.ne hi (by omega) (fun e => hn e.symm) ((Cg.mod _).symm.trans h2)
theorem pthS_off (xs : List Int) (i m : Nat) (hm : m ≠ i) : ∀ k, m < k → Cg (evP (pthS xs i k).1 (xs.getD m 0)) 0
  | 0, h => by omega
  | k + 1, h => by
    unfold pthS
    split
    · exact pthS_off xs i m hm k (by omega)
    · refine (evP_times _ _ _).trans ?_
      rcases Nat.lt_or_ge m k with x | x
      · have := (pthS_off xs i m hm k x)
        have h2 := (Cg.refl (xs.getD m 0 - xs.getD k 0)).mul this
        simpa using h2
      · obtain rfl : m = k := by omega
        rw [Int.sub_self, Int.zero_mul]; exact .refl _

theorem thrS_at {xs ys : List Int} (h : Apart xs) {m : Nat} (hm : m < xs.length) : ∀ i, i ≤ xs.length → Cg (evP (thrS xs ys i) (xs.getD m 0)) (if m < i then ys.getD m 0 else 0)
  | 0, _ => .of_eq (by simp [thrS, evP_zero])
  | i + 1, hi => by
    have ih := thrS_at (ys := ys) h hm i (by omega)
    have hl : (thrS xs ys i).length = (pthS xs i xs.length).1.length := by
      rw [thrS_len _ _ _ (by omega), pthS_len, if_neg (by omega)]
    refine (evP_addP _ _ hl).trans ?_
    by_cases e : m = i
    · subst e
      rw [if_neg (by omega)] at ih
      rw [if_pos (by omega)]
      have hd := pthS_W xs m xs.length
      have h1 := pthS_at xs m xs.length
      have h0 := pthS_ne h hm xs.length (Nat.le_refl _)
      have hp : 0 < (pthS xs m xs.length).2 := by
        rcases Int.lt_or_le 0 (pthS xs m xs.length).2 with x | x
        · exact x
        · exact absurd (Cg.of_eq (show (pthS xs m xs.length).2 = 0 by omega)) h0
      have h2 := mul_invI hp hd.2.2
      have h3 : Cg (ys.getD m 0 * invI (pthS xs m xs.length).2 % 65521 * evP (pthS xs m xs.length).1 (xs.getD m 0)) (ys.getD m 0 * 1) := by
        refine ((Cg.mod _).mul h1).trans ?_
        rw [Int.mul_assoc]
        refine (Cg.refl _).mul ?_
        rw [Int.mul_comm]; exact h2
      have := ih.add h3
      simpa using this
    · have h1 := pthS_off xs i m e xs.length hm
      have h3 := (Cg.refl (ys.getD i 0 * invI (pthS xs i xs.length).2 % 65521)).mul h1
      have := ih.add h3
      rw [Int.mul_zero, Int.add_zero] at this
      by_cases hmi : m < i
      · rw [if_pos hmi] at this; rw [if_pos (by omega)]; exact this
      · rw [if_neg hmi] at this; rw [if_neg (by omega)]; exact this
theorem through_at {xs ys : List Int} (h : Apart xs) {m : Nat} (hm : m < xs.length) : Cg (evP (through xs ys) (xs.getD m 0)) (ys.getD m 0) := by
  have := thrS_at (ys := ys) h hm xs.length (Nat.le_refl _)
  rwa [if_pos hm] at this
theorem through_len (xs ys : List Int) : (through xs ys).length = xs.length := thrS_len _ _ _ (Nat.le_refl _)
theorem through_W (xs ys : List Int) : ∀ x, x ∈ through xs ys → 0 ≤ x ∧ x ≤ 65520 := thrS_W xs ys _

/-! ### only one -/
/-- A polynomial divided by x less a word. -/
def sdiv : List Int → Int → List Int
  | [], _ => []
  | [_], _ => []
  | _ :: b :: c, r => evP (b :: c) r :: sdiv (b :: c) r
theorem sdiv_len (r : Int) : ∀ c : List Int, (sdiv c r).length = c.length - 1
  | [] => rfl
  | [_] => rfl
  | a :: b :: c => by simp [sdiv, sdiv_len r (b :: c)]
theorem sdiv_ev (r x : Int) : ∀ c : List Int, evP c x = evP c r + (x - r) * evP (sdiv c r) x
  | [] => by simp [sdiv, evP]
  | [a] => by simp [sdiv, evP]
  | a :: b :: c => by
    have ih := sdiv_ev r x (b :: c)
    show a + x * evP (b :: c) x = a + r * evP (b :: c) r + (x - r) * (evP (b :: c) r + x * evP (sdiv (b :: c) r) x)
    rw [ih]; grind
theorem sdiv_zero (r : Int) : ∀ c : List Int, Cg (evP c r) 0 → (∀ a, a ∈ sdiv c r → Cg a 0) → ∀ a, a ∈ c → Cg a 0
  | [], _, _, _, h => by cases h
  | [a], h, _, x, hx => by
    simp only [List.mem_singleton] at hx
    subst hx
    simpa [evP] using h
  | a :: b :: c, h, hs, x, hx => by
    have h1 : Cg (evP (b :: c) r) 0 := hs _ (by simp [sdiv])
    have ih := sdiv_zero r (b :: c) h1 (fun y hy => hs y (by simp [sdiv, hy]))
    rcases List.mem_cons.1 hx with e | e
    · subst e
      have h2 : Cg (x + r * evP (b :: c) r) 0 := h
      have h3 := h2.sub ((Cg.refl r).mul h1)
      have e1 : x + r * evP (b :: c) r - r * evP (b :: c) r = x := by omega
      rw [e1] at h3
      simpa using h3
    · exact ih x e

/-- A polynomial with as many roots as coefficients is 0. -/
theorem roots_zero : ∀ (xs c : List Int), c.length ≤ xs.length → Apart xs → (∀ x, x ∈ xs → Cg (evP c x) 0) → ∀ a, a ∈ c → Cg a 0
  | [], c, hl, _, _ => by
    have : c = [] := List.eq_nil_of_length_eq_zero (by simpa using hl)
    subst this
    intro a h; cases h
  | r :: xs, c, hl, hA, hr => by
    have hA' : Apart xs := ⟨fun x hx => hA.1 x (List.mem_cons_of_mem _ hx), fun i j h1 h2 => by
      have := hA.2 (i + 1) (j + 1) (by omega) (by simpa using h2)
      simpa using this⟩
    refine sdiv_zero r c (hr r (List.mem_cons_self ..)) (roots_zero xs (sdiv c r) (by rw [sdiv_len]; simp at hl; omega) hA' fun x hx => ?_)
    have h1 := hr x (List.mem_cons_of_mem _ hx)
    rw [sdiv_ev r x c] at h1
    have h2 := h1.sub (hr r (List.mem_cons_self ..))
    have e : evP c r + (x - r) * evP (sdiv c r) x - evP c r = (x - r) * evP (sdiv c r) x := by omega
    rw [e] at h2
    refine mul_zero h2 fun h3 => ?_
    obtain ⟨i, hi⟩ := List.getElem?_of_mem hx
    have hi' : i < xs.length := (List.getElem?_eq_some_iff.1 hi).1
    have h4 := hA.ne (i := i + 1) (j := 0) (by simpa using hi') (by simp) (by omega)
    apply h4
    simpa [List.getD, hi] using h3

theorem evP_sub (x : Int) : ∀ {c d : List Int}, c.length = d.length → evP (List.zipWith (· - ·) c d) x = evP c x - evP d x
  | [], [], _ => by simp [evP]
  | a :: c, b :: d, h => by
    have ih := evP_sub x (c := c) (d := d) (by simpa using h)
    show (a - b) + x * evP (List.zipWith (· - ·) c d) x = (a + x * evP c x) - (b + x * evP d x)
    rw [ih]; grind
  | [], _ :: _, h => by simp at h
  | _ :: _, [], h => by simp at h

/-- Two polynomials of words that agree at as many points as they have coefficients are the same. -/
theorem only_one {xs c d : List Int} (hl : c.length = d.length) (hx : c.length ≤ xs.length) (hA : Apart xs) (hc : ∀ a, a ∈ c → 0 ≤ a ∧ a ≤ 65520) (hd : ∀ a, a ∈ d → 0 ≤ a ∧ a ≤ 65520)
    (h : ∀ x, x ∈ xs → Cg (evP c x) (evP d x)) : c = d := by
  have hz := roots_zero xs (List.zipWith (· - ·) c d) (by simp; omega) hA fun x hx' => by
    rw [evP_sub x hl]
    have := (h x hx').sub (Cg.refl (evP d x))
    simpa using this
  refine List.ext_getElem hl fun i h1 h2 => ?_
  have := hz (c[i] - d[i]) (List.mem_iff_getElem.2 ⟨i, by simp; omega, by simp⟩)
  have w1 := hc c[i] (List.getElem_mem h1)
  have w2 := hd d[i] (List.getElem_mem h2)
  obtain ⟨k, hk⟩ := this
  omega
theorem through_of {xs c ys : List Int} (hl : c.length = xs.length) (hA : Apart xs) (hc : ∀ a, a ∈ c → 0 ≤ a ∧ a ≤ 65520) (hy : ∀ i, i < xs.length → Cg (evP c (xs.getD i 0)) (ys.getD i 0)) : through xs ys = c :=
  only_one (by rw [through_len, hl]) (by rw [through_len]; exact Nat.le_refl _) hA (through_W _ _) hc fun x hx => by
    obtain ⟨i, hi⟩ := List.getElem?_of_mem hx
    have hi' : i < xs.length := (List.getElem?_eq_some_iff.1 hi).1
    have e : xs.getD i 0 = x := by simp [List.getD, hi]
    have h1 := through_at (ys := ys) hA hi'
    rw [e] at h1
    have h2 := hy i hi'
    rw [e] at h2
    exact h1.trans h2.symm

/-- Horner's way. -/
theorem horner_ev (x : Int) : ∀ c : List Int, Cg (c.foldr (fun n o => (o * x + n) % 65521) 0) (evP c x)
  | [] => .refl _
  | a :: c => by
    show Cg ((List.foldr _ 0 c * x + a) % 65521) _
    refine (Cg.mod _).trans ?_
    have ih := horner_ev x c
    have := (ih.mul (.refl x)).add (.refl a)
    refine this.trans (.of_eq ?_)
    simp only [evP]; grind
end Go.DM
