/- Values that speak of no own block from some number on. -/
import Derived.Test.YtmbbepdbjeciaaaGreatDl15
import Derived.Test.YtmbbepdbjeciaaaGreatDl14
set_option linter.all false
namespace Go.DL
open Go.RowKit Go.Proofs

noncomputable section

/-- A value that speaks of no own block from K on. -/
def lowB : Nat → Nat → D → Bool
  | _, K, .ms b _ _ _ => Nat.blt b K
  | _, K, .mp b _ _ => Nat.blt b K
  | k + 1, K, .agg cs => cs.all (lowB k K)
  | k + 1, K, .tup cs => cs.all (lowB k K)
  | k + 1, K, .fn _ a b => a.all (lowB k K) && b.all (lowB k K)
  | _, _, .v _ => true
  | _, _, .any => true
  | _, _, .nil => true
  | _, _, .sl _ => true
  | _, _, .fl _ => true
  | _, _, .rp _ => true
  | 0, _, _ => false
def cutφ (K : Nat) (φ : Nat → Loc) : Nat → Loc := fun b => if b < K then φ b else .free
theorem cutφ_lt {K b : Nat} {φ : Nat → Loc} (h : b < K) : cutφ K φ b = φ b := by simp [cutφ, h]
theorem V.cut {A : Rd} {w : World} {φ : Nat → Loc} {K : Nat} : ∀ (k : Nat) {d : D} {u : Value}, V A w φ d u → lowB k K d = true → V A w (cutφ K φ) d u := by
  have blt : ∀ {b : Nat}, Nat.blt b K = true → b < K := fun h => by simpa [Nat.blt_eq] using h
  intro k
  induction k with
  | zero =>
    intro d u h hb
    cases h with
    | ms _ b off len cap cap' a h1 h2 h3 => exact .ms _ _ _ _ _ _ _ h1 h2 (by rw [cutφ_lt (blt hb)]; exact h3)
    | mp _ b i f x h1 => exact .mp _ _ _ _ _ (by rw [cutφ_lt (blt hb)]; exact h1)
    | v => exact .v _ _
    | any => exact .any _ _
    | nil => exact .nil _ _
    | sl0 => exact .sl0 _ _ _
    | sl _ es n off sz cap u a b c d e => exact .sl _ es n off sz cap u a b c d e
    | fl0 => exact .fl0 _ _ _
    | fl _ es n off sz cap u a b c d e => exact .fl _ es n off sz cap u a b c d e
    | rp _ cs n off u a b c => exact .rp _ cs n off u a b c
    | agg => simp [lowB] at hb
    | tup => simp [lowB] at hb
    | fn => simp [lowB] at hb
  | succ k ih =>
    intro d u h hb
    have all : ∀ {cs : List D} {i : Nat} {d : D}, cs.all (lowB k K) = true → cs[i]? = some d → lowB k K d = true := fun h1 h2 =>
      List.all_eq_true.1 h1 _ (List.mem_of_getElem? h2)
    cases h with
    | ms _ b off len cap cap' a h1 h2 h3 => exact .ms _ _ _ _ _ _ _ h1 h2 (by rw [cutφ_lt (blt hb)]; exact h3)
    | mp _ b i f x h1 => exact .mp _ _ _ _ _ (by rw [cutφ_lt (blt hb)]; exact h1)
    | v => exact .v _ _
    | any => exact .any _ _
    | nil => exact .nil _ _
    | sl0 => exact .sl0 _ _ _
    | sl _ es n off sz cap u a b c d e => exact .sl _ es n off sz cap u a b c d e
    | fl0 => exact .fl0 _ _ _
    | fl _ es n off sz cap u a b c d e => exact .fl _ es n off sz cap u a b c d e
    | rp _ cs n off u a b c => exact .rp _ cs n off u a b c
    | agg _ cs vs hl h => exact .agg _ _ _ hl fun i d u h1 h2 => ih (h i d u h1 h2) (all hb h1)
    | tup _ cs vs hl h => exact .tup _ _ _ hl fun i d u h1 h2 => ih (h i d u h1 h2) (all hb h1)
    | fn _ f first caps vs us hl hl' h h' =>
      simp only [lowB, Bool.and_eq_true] at hb
      exact .fn _ f _ _ _ _ hl hl' (fun i d u h1 h2 => ih (h i d u h1 h2) (all hb.1 h1)) fun i d u h1 h2 => ih (h' i d u h1 h2) (all hb.2 h1)

def BlkBelow (K : Nat) : Blk → Prop
  | .live _ es => ∀ e ∈ es, ∀ d ∈ e, lowB 4 K d = true
  | _ => True


/-! A scope through which the run goes without a goto. -/
section
variable {P : Program} {b : Frame} {a : Act} {k : List Item} {cs : List Frame} {w : World}
theorem stepR_scope {c : Code} : step P (lone (b.atR a (.code (.scope c) :: k)) cs w) = .next (lone (b.atR a (.code c :: .inScope c :: k)) cs w) :=
  step_lone_go (by simp [stepG, stepG.exec, Frame.atR])
theorem stepR_inScope {c : Code} : step P (lone (b.atR a (.inScope c :: k)) cs w) = .next (lone (b.atR a k) cs w) :=
  step_lone_go (by simp [stepG, stepG.exec, Frame.atR])
end
theorem wpIn_scope {F : Fence} {n : Nat} {P : Program} {Q : Exit → Act → World → Prop} {a : Act} {w : World} {c : Code} (h : c.wpIn F n P (fun e a w => (∀ l, e ≠ .goto l) ∧ Q e a w) a w) : (Code.scope c).wpIn F n P Q a w := by
  intro b k cs hro hb hr
  have h0 : (lone (b.atR a (.code (.scope c) :: k)) cs w).fenced P F := fenced_calm hb hr rfl
  obtain ⟨e, a₁, w₁, ⟨hg, hq⟩, harr⟩ := h b (.inScope c :: k) cs hro hb hr
  cases e with
  | normal => exact ⟨.normal, a₁, w₁, hq, .head h0 stepR_scope (StepsIn.trans harr (.one (fenced_calm hb hr rfl) stepR_inScope))⟩
  | exit id =>
    have hx : exitTo id (.inScope c :: k) = exitTo id k := by simp [exitTo]
    exact ⟨.exit id, a₁, w₁, hq, fun k' hk => .head h0 stepR_scope (harr.1 k' (by rw [hx]; exact hk)),
      fun hr' hk => let ⟨k₁, h1, h2⟩ := harr.2 hr' (by rw [hx]; exact hk); ⟨k₁, h1, .head h0 stepR_scope h2⟩⟩
  | goto l => exact absurd rfl (hg l)
  | ret => exact ⟨_, a₁, w₁, hq, .of_steps (.one h0 stepR_scope) harr⟩
  | panic ch => exact ⟨_, a₁, w₁, hq, .of_steps (.one h0 stepR_scope) harr⟩
  | outgrown => exact ⟨_, a₁, w₁, hq, .of_steps (.one h0 stepR_scope) harr⟩
theorem Sp_scope {P : Program} {ro : Option Nat} {G : Gh} {c : Code} {st : St} {Q : Exit → St → Prop} (h : Sp P ro G c st fun e s => (∀ l, e ≠ .goto l) ∧ Q e s) : Sp P ro G (.scope c) st Q :=
  fun a w hr => wpIn_scope (wpIn_mono (h a w hr) fun e a w ⟨s, ⟨h1, h2⟩, h3⟩ => ⟨h1, s, h2, h3⟩)
end
end Go.DL
