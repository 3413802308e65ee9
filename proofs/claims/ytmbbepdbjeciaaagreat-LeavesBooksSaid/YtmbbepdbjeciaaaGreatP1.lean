/- Plain arithmetic modulo 65521: powers, inverses, Euclid. No program stands here. -/


namespace Go.DM

theorem small_pow : ∀ n : Nat, n < 257 → n ≠ 0 → n ^ (2 * 32760) % 65521 = 1 := by decide +kernel
theorem small_div : ∀ n : Nat, n < 257 → 2 ≤ n → 65521 % n ≠ 0 := by decide +kernel

theorem sq_mod {m r : Nat} (h : m + r = 65521) : m * m % 65521 = r * r % 65521 := by
  have h1 : m * m + m * r = m * 65521 := by rw [← Nat.mul_add, h]
  have h2 : m * r + r * r = 65521 * r := by rw [← Nat.add_mul, h]
  have h3 : m * m + r * 65521 = r * r + m * 65521 := by omega
  have h4 : (m * m + r * 65521) % 65521 = (r * r + m * 65521) % 65521 := by rw [h3]
  simpa using h4

theorem pow_cong {a b : Nat} (h : a % 65521 = b % 65521) (n : Nat) : a ^ n % 65521 = b ^ n % 65521 := by
  rw [Nat.pow_mod, h, ← Nat.pow_mod]

theorem fermat_of (k : Nat) (small : ∀ n : Nat, n < 257 → n ≠ 0 → n ^ (2 * k) % 65521 = 1) : ∀ n : Nat, 0 < n → n < 65521 → n ^ (2 * k) % 65521 = 1 := fun n => by
  induction n using Nat.strongRecOn with
  | _ n ih =>
    intro h0 h1
    rcases Nat.lt_or_ge n 257 with hs | hs
    · exact small n hs (by omega)
    · have hd := Nat.div_add_mod 65521 n
      have hr : 65521 % n < n := Nat.mod_lt _ h0
      have hq : 65521 / n < 257 := by
        rw [Nat.div_lt_iff_lt_mul h0]; omega
      have hq0 : 0 < 65521 / n := Nat.div_pos (by omega) h0
      generalize hqe : 65521 / n = q at *
      generalize hre : 65521 % n = r at *
      have hr0 : 0 < r := by
        rcases Nat.eq_zero_or_pos r with e | e
        · exfalso
          subst e
          rcases Nat.lt_or_ge q 2 with h2 | h2
          · have : q = 1 := by omega
            subst this; omega
          · refine small_div q hq h2 ?_
            rw [← hd, Nat.add_zero, Nat.mul_comm]; exact Nat.mul_mod_right _ _
        · exact e
      have i1 := ih r hr hr0 (by omega)
      have i2 := small q hq (by omega)
      have e1 : (n * q) ^ (2 * k) % 65521 = r ^ (2 * k) % 65521 := by
        have hm := sq_mod hd
        have e2 : ∀ x : Nat, x ^ (2 * k) = (x * x) ^ k := fun x => by rw [Nat.pow_mul, Nat.pow_two]
        rw [e2 (n * q), e2 r]
        exact pow_cong hm _
      rw [Nat.mul_pow, Nat.mul_mod, i2, Nat.mul_one, Nat.mod_mod, i1] at e1
      exact e1

/-- A power of a word. -/
def powN (n e : Nat) : Nat := n ^ e % 65521
theorem powN_lt (n e : Nat) : powN n e < 65521 := Nat.mod_lt _ (by decide)

theorem mul_powN {n e k : Nat} (he : e + 1 = 2 * k) (small : ∀ n : Nat, n < 257 → n ≠ 0 → n ^ (2 * k) % 65521 = 1) (h0 : 0 < n) (h1 : n < 65521) : n * powN n e % 65521 = 1 := by
  rw [powN, Nat.mul_mod, Nat.mod_mod, ← Nat.mul_mod, ← Nat.pow_succ', Nat.succ_eq_add_one, he]
  exact fermat_of k small n h0 h1

/-- The inverse of a word. -/
def invN (n : Nat) : Nat := powN n 65519

theorem invN_lt (n : Nat) : invN n < 65521 := powN_lt n _
theorem mul_invN {n : Nat} (h0 : 0 < n) (h1 : n < 65521) : n * invN n % 65521 = 1 :=
  mul_powN (k := 32760) rfl small_pow h0 h1

theorem inv_unique {n a b : Nat} (ha : a < 65521) (hb : b < 65521) (h1 : n * a % 65521 = 1) (h2 : n * b % 65521 = 1) : a = b := by
  have e1 : a * (n * b) % 65521 = a := by rw [Nat.mul_mod, h2, Nat.mul_one, Nat.mod_mod, Nat.mod_eq_of_lt ha]
  have e2 : b * (n * a) % 65521 = b := by rw [Nat.mul_mod, h1, Nat.mul_one, Nat.mod_mod, Nat.mod_eq_of_lt hb]
  have e3 : a * (n * b) = b * (n * a) := by
    rw [Nat.mul_left_comm a n b, Nat.mul_left_comm b n a, Nat.mul_comm a b]
  rw [← e1, e3, e2]

theorem gcd_one {n : Nat} (h0 : 0 < n) (h1 : n < 65521) : Nat.gcd n 65521 = 1 := by
  have hd1 : Nat.gcd n 65521 ∣ n := Nat.gcd_dvd_left _ _
  have hd2 : Nat.gcd n 65521 ∣ 65521 := Nat.gcd_dvd_right _ _
  have h := mul_invN h0 h1
  have h2 : Nat.gcd n 65521 ∣ n * invN n % 65521 := (Nat.dvd_mod_iff hd2).2 (Nat.dvd_trans hd1 (Nat.dvd_mul_right _ _))
  rw [h] at h2
  exact Nat.dvd_one.1 h2

/-- What Euclid's algorithm keeps. -/
structure Euc (n : Nat) (a b : Nat) (x y : Int) : Prop where
  pos : 0 < a
  cx : (x * n - a) % 65521 = 0
  cy : (y * n - b) % 65521 = 0
  gcd : Nat.gcd a b = Nat.gcd n 65521
  big : x.natAbs * b + y.natAbs * a ≤ 65521
  la : a ≤ 65521
  lb : b ≤ 65521
  lx : x.natAbs ≤ 65521

theorem Euc.ly {n a b : Nat} {x y : Int} (h : Euc n a b x y) : y.natAbs ≤ 65521 := by
  have h1 := h.big
  have h2 := Nat.le_mul_of_pos_right y.natAbs h.pos
  omega

theorem Euc.step {n a b : Nat} {x y : Int} (h : Euc n a b x y) (hb : b ≠ 0) : Euc n b (a % b) y (x - (a / b : Nat) * y) := by
  have hd := Nat.div_add_mod a b
  have hlt : a % b < b := Nat.mod_lt _ (Nat.pos_of_ne_zero hb)
  refine ⟨Nat.pos_of_ne_zero hb, h.cy, ?_, ?_, ?_, h.lb, by have := h.lb; omega, h.ly⟩
  · have e : ((x - ((a / b : Nat) : Int) * y) * n - ((a % b : Nat) : Int)) = (x * n - a) - ((a / b : Nat) : Int) * (y * n - b) := by
      have hd' : (a : Int) = b * ((a / b : Nat) : Int) + ((a % b : Nat) : Int) := by exact_mod_cast hd.symm
      generalize ((a / b : Nat) : Int) = q at *
      generalize ((a % b : Nat) : Int) = r at *
      rw [hd', Int.sub_mul, Int.mul_sub, Int.mul_comm q (b : Int), ← Int.mul_assoc]
      omega
    have h1 := h.cx
    have h2 := h.cy
    rw [e, Int.sub_emod, h1, Int.mul_emod, h2]; simp
  · rw [← h.gcd, Nat.gcd_comm a b, Nat.gcd_rec b a, Nat.gcd_comm]
  · have h1 : (x - ((a / b : Nat) : Int) * y).natAbs ≤ x.natAbs + (a / b) * y.natAbs := by
      have := Int.natAbs_sub_le x (((a / b : Nat) : Int) * y)
      rw [Int.natAbs_mul, Int.natAbs_natCast] at this
      exact this
    have h2 : (x - ((a / b : Nat) : Int) * y).natAbs * b ≤ (x.natAbs + (a / b) * y.natAbs) * b := Nat.mul_le_mul_right _ h1
    have h3 := h.big
    have e1 : (x.natAbs + (a / b) * y.natAbs) * b = x.natAbs * b + y.natAbs * (b * (a / b)) := by
      rw [Nat.add_mul]
      congr 1
      rw [Nat.mul_comm (a / b) y.natAbs, Nat.mul_assoc, Nat.mul_comm (a / b) b]
    have e2 : y.natAbs * a = y.natAbs * (b * (a / b)) + y.natAbs * (a % b) := by rw [← Nat.mul_add, hd]
    omega

theorem Euc.last {n a : Nat} {x y : Int} (h0 : 0 < n) (h1 : n < 65521) (h : Euc n a 0 x y) : x % 65521 = invN n := by
  have ha : a = 1 := by have := h.gcd; rw [Nat.gcd_zero_right, gcd_one h0 h1] at this; exact this
  subst ha
  have hx : 0 ≤ x % 65521 := Int.emod_nonneg _ (by decide)
  have hx2 : x % 65521 < 65521 := Int.emod_lt_of_pos _ (by decide)
  obtain ⟨m, hm⟩ := Int.eq_ofNat_of_zero_le hx
  rw [hm]
  congr 1
  refine inv_unique (n := n) (by omega) (invN_lt n) ?_ (mul_invN h0 h1)
  have h2 := h.cx
  have h3 : (x * n) % 65521 = 1 := by omega
  rw [Int.mul_emod, hm] at h3
  have h4 : ((n * m % 65521 : Nat) : Int) = 1 := by
    rw [← h3, Int.natCast_emod, Int.natCast_mul, Int.mul_comm (m : Int), Int.mul_emod]
    simp [Int.mul_emod]
  exact_mod_cast h4

/-- Powers by squares: what the loop keeps. -/
theorem pow_even {out base n : Nat} (h : n % 2 = 0) : out * (base * base % 65521) ^ (n / 2) % 65521 = out * base ^ n % 65521 := by
  have e : base ^ n = (base * base) ^ (n / 2) := by
    rw [← Nat.pow_two, ← Nat.pow_mul]; congr 1; omega
  rw [Nat.mul_mod, ← Nat.pow_mod, ← Nat.mul_mod, e]
theorem pow_odd {out base n : Nat} (h : n % 2 = 1) : (out * base % 65521) * (base * base % 65521) ^ (n / 2) % 65521 = out * base ^ n % 65521 := by
  have e : base ^ n = base * (base * base) ^ (n / 2) := by
    rw [← Nat.pow_two, ← Nat.pow_mul, ← Nat.pow_succ']; congr 1; omega
  rw [Nat.mul_mod, Nat.mod_mod, ← Nat.pow_mod, ← Nat.mul_mod, e, Nat.mul_assoc]
end Go.DM

/- Polynomials as lists of words: products with x less a word, and what goes through points. No program stands here. -/
namespace Go.DM

def invI (x : Int) : Int := (invN x.toNat : Nat)
end Go.DM

/- Interpolation modulo 65521: the polynomial through points has their values there, and it is the only one of its length. No program stands here. -/
namespace Go.DM

/-- Congruent modulo 65521. -/
def Cg (a b : Int) : Prop := ∃ k : Int, a = b + 65521 * k
theorem Cg.refl (a : Int) : Cg a a := ⟨0, by omega⟩
theorem Cg.symm {a b : Int} (h : Cg a b) : Cg b a := by obtain ⟨k, h⟩ := h; exact ⟨-k, by omega⟩
theorem Cg.trans {a b c : Int} (h : Cg a b) (g : Cg b c) : Cg a c := by obtain ⟨k, h⟩ := h; obtain ⟨l, g⟩ := g; exact ⟨k + l, by omega⟩
theorem Cg.add {a b c d : Int} (h : Cg a b) (g : Cg c d) : Cg (a + c) (b + d) := by obtain ⟨k, h⟩ := h; obtain ⟨l, g⟩ := g; exact ⟨k + l, by omega⟩
theorem Cg.sub {a b c d : Int} (h : Cg a b) (g : Cg c d) : Cg (a - c) (b - d) := by obtain ⟨k, h⟩ := h; obtain ⟨l, g⟩ := g; exact ⟨k - l, by omega⟩
theorem Cg.mul {a b c d : Int} (h : Cg a b) (g : Cg c d) : Cg (a * c) (b * d) := by
  obtain ⟨k, h⟩ := h; obtain ⟨l, g⟩ := g; exact ⟨b * l + k * d + 65521 * k * l, by grind⟩
theorem Cg.mod (a : Int) : Cg (a % 65521) a := ⟨-(a / 65521), by omega⟩
theorem cg_iff {a b : Int} : Cg a b ↔ a % 65521 = b % 65521 := ⟨fun ⟨k, h⟩ => by omega, fun h => ⟨a / 65521 - b / 65521, by omega⟩⟩
theorem Cg.word {a b : Int} (h : Cg a b) (ha : 0 ≤ a ∧ a ≤ 65520) (hb : 0 ≤ b ∧ b ≤ 65520) : a = b := by obtain ⟨k, h⟩ := h; omega

/-- A number times its inverse. -/
theorem mul_invI {a : Int} (h0 : 0 < a) (h1 : a ≤ 65520) : Cg (a * invI a) 1 := by
  obtain ⟨n, rfl⟩ := Int.eq_ofNat_of_zero_le (show 0 ≤ a by omega)
  have h := mul_invN (n := n) (by omega) (by omega)
  rw [cg_iff]
  show ((n : Int) * ((invN (n : Int).toNat : Nat) : Int)) % 65521 = 1 % 65521
  rw [Int.toNat_natCast]
  have : ((n * invN n % 65521 : Nat) : Int) = 1 := by rw [h]; rfl
  rw [← Int.natCast_mul]
  omega
theorem mul_zero {a b : Int} (h : Cg (a * b) 0) (ha : ¬ Cg a 0) : Cg b 0 := by
  have h0 : 0 < a % 65521 := by
    rcases Int.lt_or_le 0 (a % 65521) with x | x
    · exact x
    · exact absurd (cg_iff.2 (by omega)) ha
  have hi := mul_invI h0 (by omega)
  have h2 : Cg (a * invI (a % 65521)) 1 := (((Cg.mod a).symm).mul (.refl _)).trans hi
  have h3 : Cg (a * invI (a % 65521) * b) (1 * b) := h2.mul (.refl _)
  have h4 : Cg (a * b * invI (a % 65521)) (0 * invI (a % 65521)) := h.mul (.refl _)
  have e : a * invI (a % 65521) * b = a * b * invI (a % 65521) := by grind
  rw [e] at h3
  have h5 := h3.symm.trans h4
  simpa using h5

/-- The value of a polynomial. -/
def evP : List Int → Int → Int
  | [], _ => 0
  | a :: c, x => a + x * evP c x

theorem evP_zero (x : Int) : ∀ n, evP (List.replicate n 0) x = 0
  | 0 => rfl
  | n + 1 => by simp [List.replicate_succ, evP, evP_zero x n]

/-! ### what goes through points -/
/-- Words that are pairwise different. -/
def Apart (xs : List Int) : Prop := (∀ x, x ∈ xs → 0 ≤ x ∧ x ≤ 65520) ∧ ∀ i j : Nat, i < j → j < xs.length → xs.getD i 0 ≠ xs.getD j 0
theorem Apart.ne {xs : List Int} (h : Apart xs) {i j : Nat} (hi : i < xs.length) (hj : j < xs.length) (hn : i ≠ j) : ¬ Cg (xs.getD i 0 - xs.getD j 0) 0 := by
  intro hc
  have wi := h.1 (xs.getD i 0) (by simp [List.getD, hi])
  have wj := h.1 (xs.getD j 0) (by simp [List.getD, hj])
  have e : xs.getD i 0 = xs.getD j 0 := by obtain ⟨k, hk⟩ := hc; omega
  rcases Nat.lt_or_gt_of_ne hn with x | x
  · exact h.2 i j x hj e
  · exact h.2 j i x hi e.symm

/-! ### only one -/
/-- A polynomial divided by x less a word. -/
def sdiv : List Int → Int → List Int
  | [], _ => []
  | [_], _ => []
  | _ :: b :: c, r => evP (b :: c) r :: sdiv (b :: c) r
theorem sdiv_len (r : Int) : ∀ c : List Int, (sdiv c r).length = c.length - 1
  | [] => rfl
  | [_] => rfl
  | a :: b :: c => by simp [sdiv, sdiv_len r (b :: c)]
theorem sdiv_ev (r x : Int) : ∀ c : List Int, evP c x = evP c r + (x - r) * evP (sdiv c r) x
  | [] => by simp [sdiv, evP]
  | [a] => by simp [sdiv, evP]
  | a :: b :: c => by
    have ih := sdiv_ev r x (b :: c)
    show a + x * evP (b :: c) x = a + r * evP (b :: c) r + (x - r) * (evP (b :: c) r + x * evP (sdiv (b :: c) r) x)
    rw [ih]; grind
theorem sdiv_zero (r : Int) : ∀ c : List Int, Cg (evP c r) 0 → (∀ a, a ∈ sdiv c r → Cg a 0) → ∀ a, a ∈ c → Cg a 0
  | [], _, _, _, h => by cases h
  | [a], h, _, x, hx => by
    simp only [List.mem_singleton] at hx
    subst hx
    simpa [evP] using h
  | a :: b :: c, h, hs, x, hx => by
    have h1 : Cg (evP (b :: c) r) 0 := hs _ (by simp [sdiv])
    have ih := sdiv_zero r (b :: c) h1 (fun y hy => hs y (by simp [sdiv, hy]))
    rcases List.mem_cons.1 hx with e | e
    · subst e
      have h2 : Cg (x + r * evP (b :: c) r) 0 := h
      have h3 := h2.sub ((Cg.refl r).mul h1)
      have e1 : x + r * evP (b :: c) r - r * evP (b :: c) r = x := by omega
      rw [e1] at h3
      simpa using h3
    · exact ih x e

/-- A polynomial with as many roots as coefficients is 0. -/
theorem roots_zero : ∀ (xs c : List Int), c.length ≤ xs.length → Apart xs → (∀ x, x ∈ xs → Cg (evP c x) 0) → ∀ a, a ∈ c → Cg a 0
  | [], c, hl, _, _ => by
    have : c = [] := List.eq_nil_of_length_eq_zero (by simpa using hl)
    subst this
    intro a h; cases h
  | r :: xs, c, hl, hA, hr => by
    have hA' : Apart xs := ⟨fun x hx => hA.1 x (List.mem_cons_of_mem _ hx), fun i j h1 h2 => by
      have := hA.2 (i + 1) (j + 1) (by omega) (by simpa using h2)
      simpa using this⟩
    refine sdiv_zero r c (hr r (List.mem_cons_self ..)) (roots_zero xs (sdiv c r) (by rw [sdiv_len]; simp at hl; omega) hA' fun x hx => ?_)
    have h1 := hr x (List.mem_cons_of_mem _ hx)
    rw [sdiv_ev r x c] at h1
    have h2 := h1.sub (hr r (List.mem_cons_self ..))
    have e : evP c r + (x - r) * evP (sdiv c r) x - evP c r = (x - r) * evP (sdiv c r) x := by omega
    rw [e] at h2
    refine mul_zero h2 fun h3 => ?_
    obtain ⟨i, hi⟩ := List.getElem?_of_mem hx
    have hi' : i < xs.length := (List.getElem?_eq_some_iff.1 hi).1
    have h4 := hA.ne (i := i + 1) (j := 0) (by simpa using hi') (by simp) (by omega)
    apply h4
    simpa [List.getD, hi] using h3

theorem evP_sub (x : Int) : ∀ {c d : List Int}, c.length = d.length → evP (List.zipWith (· - ·) c d) x = evP c x - evP d x
  | [], [], _ => by simp [evP]
  | a :: c, b :: d, h => by
    have ih := evP_sub x (c := c) (d := d) (by simpa using h)
    show (a - b) + x * evP (List.zipWith (· - ·) c d) x = (a + x * evP c x) - (b + x * evP d x)
    rw [ih]; grind
  | [], _ :: _, h => by simp at h
  | _ :: _, [], h => by simp at h

/-- Two polynomials of words that agree at as many points as they have coefficients are the same. -/
theorem only_one {xs c d : List Int} (hl : c.length = d.length) (hx : c.length ≤ xs.length) (hA : Apart xs) (hc : ∀ a, a ∈ c → 0 ≤ a ∧ a ≤ 65520) (hd : ∀ a, a ∈ d → 0 ≤ a ∧ a ≤ 65520)
    (h : ∀ x, x ∈ xs → Cg (evP c x) (evP d x)) : c = d := by
  have hz := roots_zero xs (List.zipWith (· - ·) c d) (by simp; omega) hA fun x hx' => by
    rw [evP_sub x hl]
    have := (h x hx').sub (Cg.refl (evP d x))
    simpa using this
  refine List.ext_getElem hl fun i h1 h2 => ?_
  have := hz (c[i] - d[i]) (List.mem_iff_getElem.2 ⟨i, by simp; omega, by simp⟩)
  have w1 := hc c[i] (List.getElem_mem h1)
  have w2 := hd d[i] (List.getElem_mem h2)
  obtain ⟨k, hk⟩ := this
  omega
end Go.DM

/- Berlekamp and Welch: what points with few faults tell. No program stands here. -/
namespace Go.DM

/-! ### products -/
def addL : List Int → List Int → List Int
  | [], b => b
  | a, [] => a
  | x :: a, y :: b => (x + y) :: addL a b
def smul (s : Int) (a : List Int) : List Int := a.map (s * ·)
def mulP : List Int → List Int → List Int
  | [], E => List.replicate (E.length - 1) 0
  | c :: cs, E => addL (smul c E) (0 :: mulP cs E)
theorem addL_len : ∀ a b : List Int, (addL a b).length = max a.length b.length
  | [], b => by simp [addL]
  | x :: a, [] => by simp [addL]
  | x :: a, y :: b => by simp [addL, addL_len a b]
theorem evP_addL (x : Int) : ∀ a b : List Int, evP (addL a b) x = evP a x + evP b x
  | [], b => by simp [addL, evP]
  | _ :: _, [] => by simp [addL, evP]
  | a :: as, b :: bs => by
    show (a + b) + x * evP (addL as bs) x = _
    rw [evP_addL x as bs]; simp only [evP]; grind
theorem evP_smul (s x : Int) : ∀ a : List Int, evP (smul s a) x = s * evP a x
  | [] => by simp [smul, evP]
  | a :: as => by
    show s * a + x * evP (smul s as) x = _
    rw [evP_smul s x as]; simp only [evP]; grind
theorem mulP_len {E : List Int} (hE : 0 < E.length) : ∀ c : List Int, (mulP c E).length = c.length + (E.length - 1)
  | [] => by simp [mulP]
  | c :: cs => by
    rw [mulP, addL_len, List.length_cons, mulP_len hE cs]
    simp [smul]; omega
theorem evP_mulP (E : List Int) (x : Int) : ∀ c : List Int, evP (mulP c E) x = evP c x * evP E x
  | [] => by simp [mulP, evP, evP_zero]
  | c :: cs => by
    rw [mulP, evP_addL, evP_smul]
    show c * evP E x + (0 + x * evP (mulP cs E) x) = (c + x * evP cs x) * evP E x
    rw [evP_mulP E x cs]; grind

/-! ### points -/
theorem apart_iff {xs : List Int} : Apart xs ↔ (∀ x, x ∈ xs → 0 ≤ x ∧ x ≤ 65520) ∧ xs.Nodup := by
  unfold Apart
  refine and_congr_right fun _ => ?_
  rw [List.nodup_iff_pairwise_ne, List.pairwise_iff_getElem]
  constructor
  · intro h i j hi hj hij
    have := h i j hij hj
    simpa [List.getD, hi, hj] using this
  · intro h i j hij hj
    have hi : i < xs.length := by omega
    have := h i j hi hj hij
    simpa [List.getD, hi, hj] using this
theorem Apart.sub {xs ys : List Int} (h : Apart xs) (hs : ys.Sublist xs) : Apart ys :=
  apart_iff.2 ⟨fun x hx => h.1 x (hs.subset hx), (apart_iff.1 h).2.sublist hs⟩

instance (a b : Int) : Decidable (Cg a b) := decidable_of_iff _ cg_iff.symm
/-- A polynomial has the value of a point. -/
def hits (c : List Int) (p : Int × Int) : Bool := decide (Cg (evP c p.1) p.2)
def faults (c : List Int) (ps : List (Int × Int)) : Nat := (ps.filter fun p => !hits c p).length
theorem hits_faults (c : List Int) (ps : List (Int × Int)) : (ps.filter (hits c)).length + faults c ps = ps.length := by
  unfold faults
  induction ps with
  | nil => rfl
  | cons p ps ih =>
    cases h : hits c p <;> simp [List.filter_cons, h] <;> omega
/-- A polynomial of words of a length that has at most some faults. -/
structure Good (k e : Nat) (ps : List (Int × Int)) (c : List Int) : Prop where
  len : c.length = k
  W : ∀ a, a ∈ c → 0 ≤ a ∧ a ≤ 65520
  few : faults c ps ≤ e
theorem Good.one {k e : Nat} {ps : List (Int × Int)} (hA : Apart (ps.map Prod.fst)) (hL : k + 2 * e ≤ ps.length) {c d : List Int} (hc : Good k e ps c) (hd : Good k e ps d) : c = d := by
  have h1 : (ps.filter fun p => hits c p && hits d p).length + (faults c ps + faults d ps) ≥ ps.length := by
    have hl : ∀ qs : List (Int × Int), (qs.filter fun p => hits c p && hits d p).length + (faults c qs + faults d qs) ≥ qs.length := by
      intro qs
      unfold faults
      induction qs with
      | nil => simp
      | cons p qs ih => cases h1 : hits c p <;> cases h2 : hits d p <;> simp [List.filter_cons, h1, h2] <;> omega
    exact hl ps
  have h2 := hc.few
  have h3 := hd.few
  refine only_one (xs := (ps.filter fun p => hits c p && hits d p).map Prod.fst) (by rw [hc.len, hd.len]) (by rw [hc.len, List.length_map]; omega) (hA.sub (List.filter_sublist.map _)) hc.W hd.W fun x hx => ?_
  obtain ⟨p, hp, rfl⟩ := List.mem_map.1 hx
  have hp2 := (List.mem_filter.1 hp).2
  simp only [hits, Bool.and_eq_true, decide_eq_true_eq] at hp2
  exact hp2.1.trans hp2.2.symm

/-- A solution of the key equations: q(x) is y E(x) at all points; E has a last coefficient of 1. -/
structure Key (k e : Nat) (ps : List (Int × Int)) (q E : List Int) : Prop where
  ql : q.length = k + e
  el : E.length = e + 1
  mon : E.getD e 0 = 1
  at_ : ∀ p, p ∈ ps → Cg (evP q p.1) (p.2 * evP E p.1)
/-- Then q is c times E, if c is good. -/
theorem Key.mul {k e : Nat} {ps : List (Int × Int)} {q E c : List Int} (hA : Apart (ps.map Prod.fst)) (hL : k + 2 * e ≤ ps.length) (h : Key k e ps q E) (hc : Good k e ps c) : ∀ a, a ∈ List.zipWith (· - ·) q (mulP c E) → Cg a 0 := by
  have hml : (mulP c E).length = k + e := by rw [mulP_len (by rw [h.el]; omega), hc.len, h.el]; omega
  have hh := hits_faults c ps
  have hf := hc.few
  refine roots_zero ((ps.filter (hits c)).map Prod.fst) _ (by simp [h.ql, hml]; omega) (hA.sub (List.filter_sublist.map _)) fun x hx => ?_
  obtain ⟨p, hp, rfl⟩ := List.mem_map.1 hx
  obtain ⟨hp1, hp2⟩ := List.mem_filter.1 hp
  rw [evP_sub _ (by rw [h.ql, hml]), evP_mulP]
  have h1 := h.at_ p hp1
  have h2 : Cg (evP c p.1) p.2 := by simpa [hits] using hp2
  have h3 := h1.sub (h2.mul (Cg.refl (evP E p.1)))
  simpa using h3
/-- The product of x less each of some numbers, and of further factors x. -/
def rootsP : List Int → Nat → List Int
  | [], 0 => [1]
  | [], n + 1 => mulP (rootsP [] n) [0, 1]
  | r :: rs, n => mulP (rootsP rs n) [-r, 1]
theorem last_mul (r : Int) : ∀ c : List Int, 0 < c.length → (mulP c [r, 1]).getD c.length 0 = c.getD (c.length - 1) 0
  | [], h => by simp at h
  | [a], _ => by simp [mulP, addL, smul]
  | a :: b :: c, _ => by
    have ih := last_mul r (b :: c) (by simp)
    have hl := mulP_len (E := [r, 1]) (by simp) (b :: c)
    simp only [mulP, smul, List.map_cons, List.map_nil, addL] at ih hl ⊢
    simpa using ih
theorem rootsP_mon : ∀ (rs : List Int) (n : Nat), (rootsP rs n).length = rs.length + n + 1 ∧ (rootsP rs n).getD (rs.length + n) 0 = 1
  | [], 0 => by simp [rootsP]
  | [], n + 1 => by
    obtain ⟨h1, h2⟩ := rootsP_mon [] n
    refine ⟨by rw [rootsP, mulP_len (by simp), h1]; simp, ?_⟩
    have := last_mul 0 (rootsP [] n) (by omega)
    rw [h1] at this
    rw [rootsP, show ([] : List Int).length + (n + 1) = [].length + n + 1 by omega, this]
    simpa using h2
  | r :: rs, n => by
    obtain ⟨h1, h2⟩ := rootsP_mon rs n
    refine ⟨by rw [rootsP, mulP_len (by simp), h1]; simp; omega, ?_⟩
    have := last_mul (-r) (rootsP rs n) (by omega)
    rw [h1] at this
    rw [rootsP, show (r :: rs).length + n = rs.length + n + 1 by simp; omega, this]
    simpa using h2
theorem rootsP_root (x : Int) : ∀ (rs : List Int) (n : Nat), x ∈ rs → evP (rootsP rs n) x = 0
  | [], _, h => by cases h
  | r :: rs, n, h => by
    rw [rootsP, evP_mulP]
    rcases List.mem_cons.1 h with e | e
    · subst e
      have e1 : evP [-x, 1] x = 0 := by simp [evP]; omega
      rw [e1]; simp
    · rw [rootsP_root x rs n e]; simp
/-- If a good one is there, the key equations have a solution. -/
theorem Good.key {k e : Nat} {ps : List (Int × Int)} {c : List Int} (hc : Good k e ps c) : ∃ q E, Key k e ps q E := by
  let bad := (ps.filter fun p => !hits c p).map Prod.fst
  have hb : bad.length ≤ e := by simpa [bad, faults] using hc.few
  obtain ⟨h1, h2⟩ := rootsP_mon bad (e - bad.length)
  rw [show bad.length + (e - bad.length) = e by omega] at h1 h2
  refine ⟨mulP c (rootsP bad (e - bad.length)), rootsP bad (e - bad.length), by rw [mulP_len (by omega), hc.len, h1]; omega, h1, h2, fun p hp => ?_⟩
  rw [evP_mulP]
  by_cases hh : hits c p = true
  · have : Cg (evP c p.1) p.2 := by simpa [hits] using hh
    exact this.mul (.refl _)
  · have : evP (rootsP bad (e - bad.length)) p.1 = 0 := rootsP_root _ _ _ (List.mem_map.2 ⟨p, List.mem_filter.2 ⟨hp, by simpa using hh⟩, rfl⟩)
    rw [this]; simp; exact .refl _
end Go.DM

/- Linear equations modulo 65521, solved by elimination. No program stands here. -/
namespace Go.DM

def dotP : List Int → List Int → Int
  | r :: rs, x :: xs => r * x + dotP rs xs
  | _, _ => 0
/-- A row holds of unknowns; its right side stands last. -/
def Holds (n : Nat) (r x : List Int) : Prop := Cg (dotP r x) (r.getD n 0)
def Sol (n : Nat) (M : List (List Int)) (x : List Int) : Prop := x.length = n ∧ ∀ r, r ∈ M → Holds n r x
def ent (M : List (List Int)) (i j : Nat) : Int := (M.getD i []).getD j 0

/-- What elimination has come to behind the first c columns. -/
structure Elim (L n : Nat) (M0 : List (List Int)) (c used : Nat) (at' : List Int) (M : List (List Int)) : Prop where
  ml : M.length = L
  rl : ∀ r, r ∈ M → r.length = n + 1 ∧ ∀ a, a ∈ r → 0 ≤ a ∧ a ≤ 65520
  ul : used ≤ L
  cl : c ≤ n
  al : at'.length = n
  /-- each column that is done has a row of its own or none -/
  a0 : ∀ j, j < n → (at'.getD j 0 = 0 ∨ (j < c ∧ ∃ r, r < used ∧ at'.getD j 0 = (r : Int) + 1))
  has : ∀ r, r < used → ∃ j, j < c ∧ at'.getD j 0 = (r : Int) + 1
  inj : ∀ {j q : Nat}, j < n → q < n → at'.getD j 0 = at'.getD q 0 → at'.getD j 0 ≠ 0 → j = q
  piv : ∀ j r, j < c → r < used → at'.getD j 0 = (r : Int) + 1 → ∀ i, i < L → ent M i j = if i = r then 1 else 0
  low : ∀ i j, used ≤ i → i < L → j < c → ent M i j = 0
  sol : ∀ x, Sol n M x ↔ Sol n M0 x

theorem ent_mem {M : List (List Int)} {i : Nat} (h : i < M.length) : M.getD i [] ∈ M := by
  simp [List.getD_eq_getElem?_getD, List.getElem?_eq_getElem h]
theorem dot_zero : ∀ (r x : List Int), (∀ j, j < x.length → r.getD j 0 = 0) → dotP r x = 0
  | [], _, _ => by simp [dotP]
  | _ :: _, [], _ => by simp [dotP]
  | a :: r, b :: x, h => by
    have h0 := h 0 (by simp)
    have ih := dot_zero r x fun j hj => by have := h (j + 1) (by simpa using hj); simpa using this
    simp only [List.getD_cons_zero] at h0
    simp [dotP, h0, ih]

theorem Elim.no {L n : Nat} {M0 M : List (List Int)} {used : Nat} {at' : List Int} (h : Elim L n M0 n used at' M) {i : Nat} (h1 : used ≤ i) (h2 : i < L) (h3 : ent M i n ≠ 0) : ∀ x, ¬ Sol n M0 x := fun x hx => by
  obtain ⟨hl, hh⟩ := (h.sol x).2 hx
  have hm := ent_mem (M := M) (i := i) (by rw [h.ml]; exact h2)
  have h4 := hh _ hm
  unfold Holds at h4
  rw [dot_zero _ _ fun j hj => h.low i j h1 h2 (by omega)] at h4
  obtain ⟨hr, hW⟩ := h.rl _ hm
  have h5 : ent M i n ∈ M.getD i [] := by
    simp only [ent, List.getD_eq_getElem?_getD (l := M.getD i [])]
    rw [List.getElem?_eq_getElem (by omega)]
    exact List.getElem_mem _
  have h6 := hW _ h5
  exact h3 (h4.symm.word h6 (by omega))
end Go.DM

/- Elimination, column by column. No program stands here. -/
namespace Go.DM

theorem Elim.none {L n c used : Nat} {M0 M : List (List Int)} {at' : List Int} (h : Elim L n M0 c used at' M) (hc : c < n) : at'.getD c 0 = 0 := by
  rcases h.a0 c hc with e | ⟨e, _⟩
  · exact e
  · omega
theorem Elim.skip {L n c used : Nat} {M0 M : List (List Int)} {at' : List Int} (h : Elim L n M0 c used at' M) (hc : c < n) (hz : ∀ i, used ≤ i → i < L → ent M i c = 0) : Elim L n M0 (c + 1) used at' M := by
  have hn := h.none hc
  refine ⟨h.ml, h.rl, h.ul, hc, h.al, fun j hj => ?_, fun r hr => ?_, h.inj, fun j r hj hr ha => ?_, fun i j h1 h2 h3 => ?_, h.sol⟩
  · rcases h.a0 j hj with e | ⟨e, q⟩
    · exact .inl e
    · exact .inr ⟨by omega, q⟩
  · obtain ⟨j, h1, h2⟩ := h.has r hr
    exact ⟨j, by omega, h2⟩
  · by_cases hjc : j = c
    · subst hjc; omega
    · exact h.piv j r (by omega) hr ha
  · by_cases hjc : j = c
    · subst hjc; exact hz i h1 h2
    · exact h.low i j h1 h2 (by omega)

section
variable {L n c used p : Nat} {M0 M : List (List Int)} {at' : List Int}
theorem Elim.row (h : Elim L n M0 c used at' M) {i : Nat} (hi : i < L) : (M.getD i []).length = n + 1 ∧ ∀ j, 0 ≤ ent M i j ∧ ent M i j ≤ 65520 := by
  obtain ⟨h1, h2⟩ := h.rl _ (ent_mem (M := M) (i := i) (by rw [h.ml]; exact hi))
  refine ⟨h1, fun j => ?_⟩
  by_cases hj : j < n + 1
  · refine h2 _ ?_
    simp only [ent, List.getD_eq_getElem?_getD (l := M.getD i [])]
    rw [List.getElem?_eq_getElem (by omega)]
    exact List.getElem_mem _
  · have : ent M i j = 0 := by
      simp only [ent, List.getD_eq_getElem?_getD (l := M.getD i [])]
      rw [List.getElem?_eq_none (by omega)]; rfl
    omega
end
end Go.DM

/- Berlekamp and Welch: the equations, and what solving and dividing them tells. No program stands here. -/
namespace Go.DM

/-- A power of a word, as a number. -/
def pw (x : Int) (j : Nat) : Int := ((powN x.toNat j : Nat) : Int)
end Go.DM

/- Sorting by insertion; lists of what is wrong, in order. No program stands here. -/
namespace Go.DM

def Srt (l : List Int) : Prop := l.Pairwise (· ≤ ·)
theorem Srt.one {a b : List Int} (ha : Srt a) (hb : Srt b) (h : a.Perm b) : a = b := h.eq_of_pairwise (fun x y _ _ h1 h2 => Int.le_antisymm h1 h2) ha hb
/-- In a sorted list the first elements are below what is above the last one of them. -/
theorem Srt.below {L : List Int} {v : Int} {j : Nat} (hs : Srt L) (hj : 0 < j) (hl : j ≤ L.length) (h : L.getD (j - 1) 0 ≤ v) : ∀ y, y ∈ L.take j → y ≤ v := by
  intro y hy
  obtain ⟨i, hi, rfl⟩ := List.getElem_of_mem hy
  have hi' : i < j := by simp at hi; omega
  rw [List.getElem_take]
  have hlast : L.getD (j - 1) 0 = L[j - 1] := by rw [List.getD_eq_getElem?_getD, List.getElem?_eq_getElem (by omega)]; rfl
  rw [hlast] at h
  by_cases he : i = j - 1
  · subst he; exact h
  · exact Int.le_trans (List.pairwise_iff_getElem.1 hs i (j - 1) (by omega) (by omega) (by omega)) h

section
variable {α : Type} (num : α → Int) (bad : α → Bool)
end
end Go.DM
