/- Fractions in lowest terms: plain. -/

set_option linter.all false

namespace Go.DL

/-- The greatest common divisor of numbers from 0 on. -/
def gcdS (a b : Int) : Int := (Nat.gcd a.toNat b.toNat : Nat)
def ratioS (a b : Int) : Int × Int := (a / gcdS a b, b / gcdS a b)
/-- Is a fraction a share? -/
def shareS (r : Int × Int) : Bool := decide (1 ≤ r.2 ∧ r.2 ≤ 16777216) && (decide (0 ≤ r.1 ∧ r.1 ≤ r.2) && decide (gcdS r.1 r.2 = 1))
def lessS (a b : Int × Int) : Bool := decide (a.1 * b.2 < b.1 * a.2)
def sumS (a b : Int × Int) : Int × Int := ratioS (a.1 * b.2 + b.1 * a.2) (a.2 * b.2)

theorem gcdS_pos {a b : Int} (hb : 1 ≤ b) : 1 ≤ gcdS a b := by
  have : 0 < Nat.gcd a.toNat b.toNat := Nat.gcd_pos_of_pos_right _ (by omega)
  unfold gcdS; omega
/-- One step of the loop. -/
theorem gcdS_step {a b : Int} (ha : 0 ≤ a) (hb : 0 < b) : gcdS b (a % b) = gcdS a b := by
  unfold gcdS
  have h1 : (a % b).toNat = a.toNat % b.toNat := by
    have h2 : a = (a.toNat : Int) := by omega
    have h3 : b = (b.toNat : Int) := by omega
    rw [h2, h3, ← Int.natCast_emod, Int.toNat_natCast, Int.toNat_natCast, Int.toNat_natCast]
  rw [h1, Nat.gcd_comm b.toNat, ← Nat.gcd_rec, Nat.gcd_comm]
theorem gcdS_zero {a : Int} (ha : 0 ≤ a) : gcdS a 0 = a := by
  unfold gcdS; simp; omega
/-- In lowest terms already. -/
theorem ratioS_eq {a b : Int} (hb : 1 ≤ b) : ratioS a b = (a, b) ↔ gcdS a b = 1 := by
  unfold ratioS
  constructor
  · intro h
    have h2 : b / gcdS a b = b := (Prod.mk.inj h).2
    have h1 := gcdS_pos (a := a) hb
    rcases Int.lt_or_le 1 (gcdS a b) with h3 | h3
    · have := Int.ediv_lt_self_of_pos_of_ne_one (x := b) (y := gcdS a b) (by omega) (by omega)
      omega
    · omega
  · intro h
    rw [h, Int.ediv_one, Int.ediv_one]
end Go.DL
