/- Plain arithmetic modulo 65521: powers, inverses, Euclid. No program stands here. -/
namespace Go.DM

theorem small_pow : ∀ n : Nat, n < 257 → n ≠ 0 → n ^ (2 * 32760) % 65521 = 1 := by decide +kernel
theorem small_div : ∀ n : Nat, n < 257 → 2 ≤ n → 65521 % n ≠ 0 := by decide +kernel

theorem sq_mod {m r : Nat} (h : m + r = 65521) : m * m % 65521 = r * r % 65521 := by
  have h1 : m * m + m * r = m * 65521 := by rw [← Nat.mul_add, h]
  have h2 : m * r + r * r = 65521 * r := by rw [← Nat.add_mul, h]
  have h3 : m * m + r * 65521 = r * r + m * 65521 := by omega
  have h4 : (m * m + r * 65521) % 65521 = (r * r + m * 65521) % 65521 := by rw [h3]
  simpa using h4

theorem pow_cong {a b : Nat} (h : a % 65521 = b % 65521) (n : Nat) : a ^ n % 65521 = b ^ n % 65521 := by
  rw [Nat.pow_mod, h, ← Nat.pow_mod]

theorem fermat_of (k : Nat) (small : ∀ n : Nat, n < 257 → n ≠ 0 → n ^ (2 * k) % 65521 = 1) : ∀ n : Nat, 0 < n → n < 65521 → n ^ (2 * k) % 65521 = 1 := fun n => by
  induction n using Nat.strongRecOn with
  | _ n ih =>
    intro h0 h1
    rcases Nat.lt_or_ge n 257 with hs | hs
    · exact small n hs (by omega)
    · have hd := Nat.div_add_mod 65521 n
      have hr : 65521 % n < n := Nat.mod_lt _ h0
      have hq : 65521 / n < 257 := by
        rw [Nat.div_lt_iff_lt_mul h0]; omega
      have hq0 : 0 < 65521 / n := Nat.div_pos (by omega) h0
      generalize hqe : 65521 / n = q at *
      generalize hre : 65521 % n = r at *
      have hr0 : 0 < r := by
        rcases Nat.eq_zero_or_pos r with e | e
        · exfalso
          subst e
          rcases Nat.lt_or_ge q 2 with h2 | h2
          · have : q = 1 := by omega
            subst this; omega
          · refine small_div q hq h2 ?_
            rw [← hd, Nat.add_zero, Nat.mul_comm]; exact Nat.mul_mod_right _ _
        · exact e
      have i1 := ih r hr hr0 (by omega)
      have i2 := small q hq (by omega)
      have e1 : (n * q) ^ (2 * k) % 65521 = r ^ (2 * k) % 65521 := by
        have hm := sq_mod hd
        have e2 : ∀ x : Nat, x ^ (2 * k) = (x * x) ^ k := fun x => by rw [Nat.pow_mul, Nat.pow_two]
        rw [e2 (n * q), e2 r]
        exact pow_cong hm _
      rw [Nat.mul_pow, Nat.mul_mod, i2, Nat.mul_one, Nat.mod_mod, i1] at e1
      exact e1

/-- A power of a word. -/
def powN (n e : Nat) : Nat := n ^ e % 65521
theorem powN_lt (n e : Nat) : powN n e < 65521 := Nat.mod_lt _ (by decide)

theorem mul_powN {n e k : Nat} (he : e + 1 = 2 * k) (small : ∀ n : Nat, n < 257 → n ≠ 0 → n ^ (2 * k) % 65521 = 1) (h0 : 0 < n) (h1 : n < 65521) : n * powN n e % 65521 = 1 := by
  rw [powN, Nat.mul_mod, Nat.mod_mod, ← Nat.mul_mod, ← Nat.pow_succ', Nat.succ_eq_add_one, he]
  exact fermat_of k small n h0 h1

/-- The inverse of a word. -/
def invN (n : Nat) : Nat := powN n 65519

theorem invN_lt (n : Nat) : invN n < 65521 := powN_lt n _
theorem mul_invN {n : Nat} (h0 : 0 < n) (h1 : n < 65521) : n * invN n % 65521 = 1 :=
  mul_powN (k := 32760) rfl small_pow h0 h1

theorem inv_unique {n a b : Nat} (ha : a < 65521) (hb : b < 65521) (h1 : n * a % 65521 = 1) (h2 : n * b % 65521 = 1) : a = b := by
  have e1 : a * (n * b) % 65521 = a := by rw [Nat.mul_mod, h2, Nat.mul_one, Nat.mod_mod, Nat.mod_eq_of_lt ha]
  have e2 : b * (n * a) % 65521 = b := by rw [Nat.mul_mod, h1, Nat.mul_one, Nat.mod_mod, Nat.mod_eq_of_lt hb]
  have e3 : a * (n * b) = b * (n * a) := by
    rw [Nat.mul_left_comm a n b, Nat.mul_left_comm b n a, Nat.mul_comm a b]
  rw [← e1, e3, e2]

theorem gcd_one {n : Nat} (h0 : 0 < n) (h1 : n < 65521) : Nat.gcd n 65521 = 1 := by
  have hd1 : Nat.gcd n 65521 ∣ n := Nat.gcd_dvd_left _ _
  have hd2 : Nat.gcd n 65521 ∣ 65521 := Nat.gcd_dvd_right _ _
  have h := mul_invN h0 h1
  have h2 : Nat.gcd n 65521 ∣ n * invN n % 65521 := (Nat.dvd_mod_iff hd2).2 (Nat.dvd_trans hd1 (Nat.dvd_mul_right _ _))
  rw [h] at h2
  exact Nat.dvd_one.1 h2

/-- What Euclid's algorithm keeps. -/
structure Euc (n : Nat) (a b : Nat) (x y : Int) : Prop where
  pos : 0 < a
  cx : (x * n - a) % 65521 = 0
  cy : (y * n - b) % 65521 = 0
  gcd : Nat.gcd a b = Nat.gcd n 65521
  big : x.natAbs * b + y.natAbs * a ≤ 65521
  la : a ≤ 65521
  lb : b ≤ 65521
  lx : x.natAbs ≤ 65521

theorem Euc.ly {n a b : Nat} {x y : Int} (h : Euc n a b x y) : y.natAbs ≤ 65521 := by
  have h1 := h.big
  have h2 := Nat.le_mul_of_pos_right y.natAbs h.pos
  omega

theorem Euc.start {n : Nat} (h0 : 0 < n) (h1 : n < 65521) : Euc n n 65521 1 0 :=
  ⟨h0, by simp, by simp, rfl, by simp, by omega, by decide, by decide⟩

theorem Euc.step {n a b : Nat} {x y : Int} (h : Euc n a b x y) (hb : b ≠ 0) : Euc n b (a % b) y (x - (a / b : Nat) * y) := by
  have hd := Nat.div_add_mod a b
  have hlt : a % b < b := Nat.mod_lt _ (Nat.pos_of_ne_zero hb)
  refine ⟨Nat.pos_of_ne_zero hb, h.cy, ?_, ?_, ?_, h.lb, by have := h.lb; omega, h.ly⟩
  · have e : ((x - ((a / b : Nat) : Int) * y) * n - ((a % b : Nat) : Int)) = (x * n - a) - ((a / b : Nat) : Int) * (y * n - b) := by
      have hd' : (a : Int) = b * ((a / b : Nat) : Int) + ((a % b : Nat) : Int) := by exact_mod_cast hd.symm
      generalize ((a / b : Nat) : Int) = q at *
      generalize ((a % b : Nat) : Int) = r at *
      rw [hd', Int.sub_mul, Int.mul_sub, Int.mul_comm q (b : Int), ← Int.mul_assoc]
      omega
    have h1 := h.cx
    have h2 := h.cy
    rw [e, Int.sub_emod, h1, Int.mul_emod, h2]; simp
  · rw [← h.gcd, Nat.gcd_comm a b, Nat.gcd_rec b a, Nat.gcd_comm]
  · have h1 : (x - ((a / b : Nat) : Int) * y).natAbs ≤ x.natAbs + (a / b) * y.natAbs := by
      have := Int.natAbs_sub_le x (((a / b : Nat) : Int) * y)
      rw [Int.natAbs_mul, Int.natAbs_natCast] at this
      exact this
    have h2 : (x - ((a / b : Nat) : Int) * y).natAbs * b ≤ (x.natAbs + (a / b) * y.natAbs) * b := Nat.mul_le_mul_right _ h1
    have h3 := h.big
    have e1 : (x.natAbs + (a / b) * y.natAbs) * b = x.natAbs * b + y.natAbs * (b * (a / b)) := by
      rw [Nat.add_mul]
      congr 1
      rw [Nat.mul_comm (a / b) y.natAbs, Nat.mul_assoc, Nat.mul_comm (a / b) b]
    have e2 : y.natAbs * a = y.natAbs * (b * (a / b)) + y.natAbs * (a % b) := by rw [← Nat.mul_add, hd]
    omega

theorem Euc.last {n a : Nat} {x y : Int} (h0 : 0 < n) (h1 : n < 65521) (h : Euc n a 0 x y) : x % 65521 = invN n := by
  have ha : a = 1 := by have := h.gcd; rw [Nat.gcd_zero_right, gcd_one h0 h1] at this; exact this
  subst ha
  have hx : 0 ≤ x % 65521 := Int.emod_nonneg _ (by decide)
  have hx2 : x % 65521 < 65521 := Int.emod_lt_of_pos _ (by decide)
  obtain ⟨m, hm⟩ := Int.eq_ofNat_of_zero_le hx
  rw [hm]
  congr 1
  refine inv_unique (n := n) (by omega) (invN_lt n) ?_ (mul_invN h0 h1)
  have h2 := h.cx
  have h3 : (x * n) % 65521 = 1 := by omega
  rw [Int.mul_emod, hm] at h3
  have h4 : ((n * m % 65521 : Nat) : Int) = 1 := by
    rw [← h3, Int.natCast_emod, Int.natCast_mul, Int.mul_comm (m : Int), Int.mul_emod]
    simp [Int.mul_emod]
  exact_mod_cast h4

/-- Powers by squares: what the loop keeps. -/
theorem pow_even {out base n : Nat} (h : n % 2 = 0) : out * (base * base % 65521) ^ (n / 2) % 65521 = out * base ^ n % 65521 := by
  have e : base ^ n = (base * base) ^ (n / 2) := by
    rw [← Nat.pow_two, ← Nat.pow_mul]; congr 1; omega
  rw [Nat.mul_mod, ← Nat.pow_mod, ← Nat.mul_mod, e]
theorem pow_odd {out base n : Nat} (h : n % 2 = 1) : (out * base % 65521) * (base * base % 65521) ^ (n / 2) % 65521 = out * base ^ n % 65521 := by
  have e : base ^ n = base * (base * base) ^ (n / 2) := by
    rw [← Nat.pow_two, ← Nat.pow_mul, ← Nat.pow_succ']; congr 1; omega
  rw [Nat.mul_mod, Nat.mod_mod, ← Nat.pow_mod, ← Nat.mul_mod, e, Nat.mul_assoc]
end Go.DM
