/- The functions of leaves/words.go, and those of Go's library that they call: what they compute. -/
import Derived.Test.YtmbbepdbjeciaaaGreatProg
import Derived.Test.YtmbbepdbjeciaaaGreatE12
import Derived.Test.YtmbbepdbjeciaaaGreatP1
import Derived.KernelRfl
set_option maxRecDepth 100000
set_option maxHeartbeats 16000000
namespace Go.DL
open Go.Proofs Go

theorem pok : POk Tryz.prog := ⟨by kernel_rfl, by kernel_rfl⟩
abbrev W (x : Int) : Prop := 0 ≤ x ∧ x ≤ 65520

theorem wB_eq {p : Prop} [Decidable p] {b : Bool} (h : b = true ↔ p) : wB b = wB (decide p) := by
  have : b = decide p := by rw [Bool.eq_iff_iff, h, decide_eq_true_eq]
  rw [this]

theorem m_within (a b c : Int) : Maps Tryz.prog 74 [wI a, wI b, wI c] (wB (decide (b ≤ a ∧ a ≤ c))) := by
  refine Maps.vt pok Tryz.f74 (n := 15) (rs := [.tmp 6]) rfl rfl rfl rfl rfl rfl fun g => ?_
  repeat (any_goals (first | (refine d_RT ?_; (first | refine RT.nil ?_ | (refine d_g ?_; (first | refine RT.gy rfl ?_ | refine RT.gn rfl rfl ?_ | refine RT.gc rfl rfl rfl (fun hc => ?_) (fun hc => ?_))) | refine RT.mvA ?_ | refine RT.asA ?_ | refine RT.bnA ?_ | refine RT.pkA ?_)) | (refine d_VT ?_; (first | refine VT.seq rfl ?_ | refine VT.reg rfl ?_ | refine VT.ret rfl ?_)) | (with_reducible refine d_kEr ?_; refine kEr rfl ?_)))
  all_goals (refine wB_eq ?_; simp; omega)
theorem m_in (a b c : Int) : Maps Tryz.prog 75 [wI a, wI b, wI c] (wB (decide (b ≤ a ∧ a ≤ c))) := by
  refine Maps.vt pok Tryz.f75 (n := 15) (rs := [.tmp 6]) rfl rfl rfl rfl rfl rfl fun g => ?_
  repeat (any_goals (first | (refine d_RT ?_; (first | refine RT.nil ?_ | (refine d_g ?_; (first | refine RT.gy rfl ?_ | refine RT.gn rfl rfl ?_ | refine RT.gc rfl rfl rfl (fun hc => ?_) (fun hc => ?_))) | refine RT.mvA ?_ | refine RT.asA ?_ | refine RT.bnA ?_ | refine RT.pkA ?_)) | (refine d_VT ?_; (first | refine VT.seq rfl ?_ | refine VT.reg rfl ?_ | refine VT.ret rfl ?_)) | (with_reducible refine d_kEr ?_; refine kEr rfl ?_)))
  all_goals (refine wB_eq ?_; simp; omega)
theorem tmod_p (a : Int) : (a.tmod 65521 < 0 → a.tmod 65521 + 65521 = a % 65521) ∧ (¬ a.tmod 65521 < 0 → a.tmod 65521 = a % 65521) ∧ -65521 < a.tmod 65521 ∧ a.tmod 65521 < 65521 := by
  have h := Int.tmod_eq_emod (a := a) (b := 65521)
  have h2 : a % 65521 = 0 → (65521 : Int) ∣ a := fun h => Int.dvd_of_emod_eq_zero h
  have h3 : (65521 : Int) ∣ a → a % 65521 = 0 := fun h => Int.emod_eq_zero_of_dvd h
  by_cases hc : 0 ≤ a ∨ (65521 : Int) ∣ a
  · rw [if_pos hc] at h; omega
  · rw [if_neg hc] at h
    have : a % 65521 ≠ 0 := fun e => hc (.inr (h2 e))
    have e : ((65521 : Int).natAbs : Int) = 65521 := rfl
    omega
theorem m_mod (a : Int) : Maps Tryz.prog 144 [wI a] (wI (a % 65521)) := by
  refine Maps.vt pok Tryz.f144 (n := 10) (rs := [.tmp 2]) rfl rfl rfl rfl rfl rfl fun g => ?_
  obtain ⟨q1, q2, q3, q4⟩ := tmod_p a
  repeat (any_goals (first | (refine d_RT ?_; (first | refine RT.nil ?_ | refine RT.v (f_remG rfl rfl (by decide)) ?_ | refine RT.mvA ?_ | refine RT.asA ?_ | refine RT.bnA ?_)) | (refine d_VT ?_; (first | refine VT.seq rfl ?_ | refine VT.reg rfl ?_ | refine VT.condD rfl rfl (fun hc => ?_) (fun hc => ?_) | refine VT.skip rfl ?_ | refine VT.ret rfl ?_)) | (with_reducible refine d_kEr ?_; refine kEr rfl ?_)))
  · exact congrArg wI (q1 hc)
  · exact congrArg wI (q2 hc)

/-! ### power, inverse -/
theorem mulN {a b : Nat} (h1 : a < 65521) (h2 : b < 65521) : 0 ≤ (a : Int) * b ∧ (a : Int) * b ≤ 4292870400 := by
  have h := Nat.mul_le_mul (Nat.le_of_lt_succ h1) (Nat.le_of_lt_succ h2)
  rw [← Int.natCast_mul]; omega
theorem mulB {a b : Int} (h1 : W a) (h2 : W b) : 0 ≤ a * b ∧ a * b ≤ 4292870400 := ⟨Int.mul_nonneg h1.1 h2.1, Int.le_trans (Int.mul_le_mul h1.2 h2.2 h2.1 (by decide)) (by decide)⟩
theorem mixedOk : Tryz.prog.follows .mixedOrders = true := by kernel_rfl
theorem m_power1 (x e : Nat) (hx : x < 65521) (he : e ≤ 4611686018427387904) : Maps Tryz.prog 143 [wI e, .rp [wI x]] (wI (DM.powN x e : Nat)) := by
  refine Maps.vt pok Tryz.f143 (n := 23) (rs := [.tmp 3]) rfl rfl rfl rfl rfl rfl fun g => ?_
  repeat (any_goals (first | (refine d_RT ?_; (first | refine RT.nil ?_ | refine RT.asA ?_)) | (refine d_VT ?_; (first | refine VT.seq rfl ?_ | refine VT.reg rfl ?_ | refine VT.draw [(0, []), (0, []), (0, [])] 1 mixedOk rfl (by decide +kernel) (by decide +kernel) (by decide +kernel) (by first | (simp only [nrm]; rfl) | (simp only [nrm, Nat.reduceAdd, Nat.zero_add]; rfl) | rfl) (by first | (simp only [nrm]; rfl) | (simp only [nrm, Nat.reduceAdd, Nat.zero_add]; rfl) | rfl) ?_ | refine VT.block rfl ?_)) | (refine d_PT ?_; (first | refine PT.done (by first | (simp only [nrm]; rfl) | (simp only [nrm, Nat.reduceAdd, Nat.zero_add]; rfl) | rfl) ?_ | refine PT.asA ?_ | refine PT.ldA ?_))))
  refine VT.loop (fun j a H g' => ∃ n o b : Nat, j = n ∧ n ≤ 4611686018427387904 ∧ o < 65521 ∧ b < 65521 ∧ o * b ^ n % 65521 = DM.powN x e ∧ a = [(0, wI n), (4, wI o), (5, wI b)] ∧ H = [] ∧ g' = g) rfl
    ⟨e, _, _, ⟨e, 1, x, rfl, he, by decide, hx, by rw [Nat.one_mul]; rfl, rfl, rfl, rfl⟩, fgA⟩ ?_
  rintro j a H g' ⟨n, o, b, rfl, hn, ho, hb, hp, rfl, rfl, rfl⟩
  have hm1 := mulN ho hb
  have hm2 := mulN hb hb
  repeat (any_goals (first | (refine d_RT ?_; (first | refine RT.nil ?_ | refine RT.mvA ?_ | refine RT.asA ?_ | refine RT.bnA ?_ | refine RT.callM rfl (m_mod _) rfl rfl ?_)) | (refine d_VT ?_; (first | refine VT.seq rfl ?_ | refine VT.reg rfl ?_ | refine VT.condD rfl rfl (fun hc => ?_) (fun hc => ?_) | refine VT.block rfl ?_ | refine VT.skip rfl ?_ | refine VT.exit rfl ?_ | refine VT.ret rfl ?_)) | with_reducible (refine kLn ?_) | (with_reducible refine d_kEr ?_; refine kEr rfl ?_)))
  · refine ⟨j / 2, by omega, _, _, ⟨j / 2, o * b % 65521, b * b % 65521, rfl, by omega, Nat.mod_lt _ (by decide), Nat.mod_lt _ (by decide), by rw [DM.pow_odd (by omega)]; exact hp, rfl, rfl, rfl⟩, fgA⟩
  · refine ⟨j / 2, by omega, _, _, ⟨j / 2, o, b * b % 65521, rfl, by omega, ho, Nat.mod_lt _ (by decide), by rw [DM.pow_even (by omega)]; exact hp, rfl, rfl, rfl⟩, fgA⟩
  · have : j = 0 := by omega
    subst this
    refine congrArg wI ?_
    rw [← hp, Nat.pow_zero, Nat.mul_one, Nat.mod_eq_of_lt ho]
theorem c_power (H : List Blk) (x : Int) : CallSp Tryz.prog 96 [wI x] H fun d H' => d = .fn (.func 143) [] [.mp H.length 0 0] ∧ H' = H ++ [.live 1 [[wI x]]] := by
  refine CallSp.vt pok Tryz.f96 (n := 4) (rs := [.tmp 2]) rfl rfl rfl rfl rfl rfl rfl fun g => ?_
  repeat (any_goals (first | (refine d_RT ?_; (first | refine RT.nil ?_ | refine RT.asA ?_ | refine RT.nwA ?_ | refine RT.msA ?_)) | (refine d_VT ?_; (first | refine VT.seq rfl ?_ | refine VT.reg rfl ?_ | refine VT.ret rfl ?_)) | (with_reducible refine d_kEr ?_; refine kEr rfl ?_)))
  exact ⟨rfl, rfl⟩
/-! ### slices.IndexFunc, slices.ContainsFunc, all -/
structure Dot where
  X : Int
  Y : Int
structure Leaf where
  Number : Int
  Words : List Int
structure Line where
  ID : Int
  Day : Int
  What : Int
  Worth : Int
abbrev eDot (d : Dot) : List D := [wI d.X, wI d.Y]
abbrev eLine (x : Line) : List D := [wI x.ID, wI x.Day, wI x.What, wI x.Worth]
abbrev eRow (x : List Int) : List D := [.sl (x.map eI)]
def fidx {α : Type} (p : α → Bool) (l : List α) : Int := if l.any p then (l.findIdx p : Int) else -1
theorem fidx_hit {α : Type} {p : α → Bool} {l : List α} {k : Nat} (hk : k < l.length) (h : (l.take k).any p = false) (hp : p l[k] = true) : fidx p l = k := by
  have h1 : l.any p = true := List.any_eq_true.2 ⟨_, List.getElem_mem hk, hp⟩
  have h2 : l.findIdx p = k := by
    rw [List.findIdx_eq hk]
    refine ⟨hp, fun j hj => ?_⟩
    have := List.any_eq_false.1 h l[j] (List.mem_take_iff_getElem.2 ⟨j, by omega, rfl⟩)
    simpa using this
  rw [fidx, if_pos h1, h2]
theorem any_snoc {α : Type} {p : α → Bool} {l : List α} {k : Nat} (hk : k < l.length) (h : (l.take k).any p = false) (hp : p l[k] = false) : (l.take (k + 1)).any p = false := by
  rw [List.take_succ_eq_append_getElem hk, List.any_append, h]; simp [hp]
theorem fidx_none {α : Type} {p : α → Bool} {l : List α} {k : Nat} (hk : ¬ k < l.length) (h : (l.take k).any p = false) : fidx p l = -1 := by
  rw [List.take_of_length_le (by omega)] at h
  rw [fidx, h]; rfl
theorem fidx_any {α : Type} (p : α → Bool) (l : List α) : decide (0 ≤ fidx p l) = l.any p := by
  unfold fidx
  cases h : l.any p <;> simp
end Go.DL
