/- The functions of leaves/words.go, and those of Go's library that they call: what they compute. -/
import Derived.Test.YtmbbepdbjeciaaaGreatProg
import Derived.Test.YtmbbepdbjeciaaaGreatE11
import Derived.Test.YtmbbepdbjeciaaaGreatP1
import Derived.KernelRfl
set_option linter.all false
set_option maxRecDepth 100000
set_option maxHeartbeats 16000000
namespace Go.DL
open Go.Proofs Go

theorem pok : POk Tryz.prog := ⟨by kernel_rfl, by kernel_rfl⟩
abbrev W (x : Int) : Prop := 0 ≤ x ∧ x ≤ 65520

theorem wB_eq {p : Prop} [Decidable p] {b : Bool} (h : b = true ↔ p) : wB b = wB (decide p) := by
  have : b = decide p := by rw [Bool.eq_iff_iff, h, decide_eq_true_eq]
  rw [this]

theorem m_within (a b c : Int) : Maps Tryz.prog 74 [wI a, wI b, wI c] (wB (decide (b ≤ a ∧ a ≤ c))) := by
  refine Maps.vt pok Tryz.f74 (n := 15) (rs := [.tmp 6]) rfl rfl rfl rfl rfl rfl fun g => ?_
  repeat (any_goals (first | (refine d_RT ?_; (first | refine RT.nil ?_ | (refine d_g ?_; (first | refine RT.gy rfl ?_ | refine RT.gn rfl rfl ?_ | refine RT.gc rfl rfl rfl (fun hc => ?_) (fun hc => ?_))) | refine RT.mvA ?_ | refine RT.asA ?_ | refine RT.bnA ?_ | refine RT.pkA ?_)) | (refine d_VT ?_; (first | refine VT.seq rfl ?_ | refine VT.reg rfl ?_ | refine VT.ret rfl ?_)) | (with_reducible refine d_kEr ?_; refine kEr rfl ?_)))
  all_goals (refine wB_eq ?_; simp; omega)
theorem m_in (a b c : Int) : Maps Tryz.prog 75 [wI a, wI b, wI c] (wB (decide (b ≤ a ∧ a ≤ c))) := by
  refine Maps.vt pok Tryz.f75 (n := 15) (rs := [.tmp 6]) rfl rfl rfl rfl rfl rfl fun g => ?_
  repeat (any_goals (first | (refine d_RT ?_; (first | refine RT.nil ?_ | (refine d_g ?_; (first | refine RT.gy rfl ?_ | refine RT.gn rfl rfl ?_ | refine RT.gc rfl rfl rfl (fun hc => ?_) (fun hc => ?_))) | refine RT.mvA ?_ | refine RT.asA ?_ | refine RT.bnA ?_ | refine RT.pkA ?_)) | (refine d_VT ?_; (first | refine VT.seq rfl ?_ | refine VT.reg rfl ?_ | refine VT.ret rfl ?_)) | (with_reducible refine d_kEr ?_; refine kEr rfl ?_)))
  all_goals (refine wB_eq ?_; simp; omega)
theorem m_word (a : Int) : Maps Tryz.prog 77 [wI a] (wB (decide (W a))) := by
  refine Maps.vt pok Tryz.f77 (n := 5) (rs := [.tmp 2]) rfl rfl rfl rfl rfl rfl fun g => ?_
  repeat (any_goals (first | (refine d_RT ?_; (first | refine RT.nil ?_ | refine RT.mvA ?_ | refine RT.asA ?_ | refine RT.callM rfl (m_within _ _ _) rfl rfl ?_)) | (refine d_VT ?_; (first | refine VT.seq rfl ?_ | refine VT.reg rfl ?_ | refine VT.ret rfl ?_)) | (with_reducible refine d_kEr ?_; refine kEr rfl ?_)))
  rfl
theorem m_rword (a : Int) : Maps Tryz.prog 113 [wI a] (wB (decide (W a))) := by
  refine Maps.vt pok Tryz.f113 (n := 5) (rs := [.tmp 2]) rfl rfl rfl rfl rfl rfl fun g => ?_
  repeat (any_goals (first | (refine d_RT ?_; (first | refine RT.nil ?_ | refine RT.mvA ?_ | refine RT.asA ?_ | refine RT.callM rfl (m_in _ _ _) rfl rfl ?_)) | (refine d_VT ?_; (first | refine VT.seq rfl ?_ | refine VT.reg rfl ?_ | refine VT.ret rfl ?_)) | (with_reducible refine d_kEr ?_; refine kEr rfl ?_)))
  rfl
theorem tmod_p (a : Int) : (a.tmod 65521 < 0 → a.tmod 65521 + 65521 = a % 65521) ∧ (¬ a.tmod 65521 < 0 → a.tmod 65521 = a % 65521) ∧ -65521 < a.tmod 65521 ∧ a.tmod 65521 < 65521 := by
  have h := Int.tmod_eq_emod (a := a) (b := 65521)
  have h2 : a % 65521 = 0 → (65521 : Int) ∣ a := fun h => Int.dvd_of_emod_eq_zero h
  have h3 : (65521 : Int) ∣ a → a % 65521 = 0 := fun h => Int.emod_eq_zero_of_dvd h
  by_cases hc : 0 ≤ a ∨ (65521 : Int) ∣ a
  · rw [if_pos hc] at h; omega
  · rw [if_neg hc] at h
    have : a % 65521 ≠ 0 := fun e => hc (.inr (h2 e))
    have e : ((65521 : Int).natAbs : Int) = 65521 := rfl
    omega
theorem m_mod (a : Int) : Maps Tryz.prog 144 [wI a] (wI (a % 65521)) := by
  refine Maps.vt pok Tryz.f144 (n := 10) (rs := [.tmp 2]) rfl rfl rfl rfl rfl rfl fun g => ?_
  obtain ⟨q1, q2, q3, q4⟩ := tmod_p a
  repeat (any_goals (first | (refine d_RT ?_; (first | refine RT.nil ?_ | refine RT.v (f_remG rfl rfl (by decide)) ?_ | refine RT.mvA ?_ | refine RT.asA ?_ | refine RT.bnA ?_)) | (refine d_VT ?_; (first | refine VT.seq rfl ?_ | refine VT.reg rfl ?_ | refine VT.condD rfl rfl (fun hc => ?_) (fun hc => ?_) | refine VT.skip rfl ?_ | refine VT.ret rfl ?_)) | (with_reducible refine d_kEr ?_; refine kEr rfl ?_)))
  · exact congrArg wI (q1 hc)
  · exact congrArg wI (q2 hc)

/-! ### power, inverse -/
theorem mulN {a b : Nat} (h1 : a < 65521) (h2 : b < 65521) : 0 ≤ (a : Int) * b ∧ (a : Int) * b ≤ 4292870400 := by
  have h := Nat.mul_le_mul (Nat.le_of_lt_succ h1) (Nat.le_of_lt_succ h2)
  rw [← Int.natCast_mul]; omega
theorem mulB {a b : Int} (h1 : W a) (h2 : W b) : 0 ≤ a * b ∧ a * b ≤ 4292870400 := ⟨Int.mul_nonneg h1.1 h2.1, Int.le_trans (Int.mul_le_mul h1.2 h2.2 h2.1 (by decide)) (by decide)⟩
theorem mixedOk : Tryz.prog.follows .mixedOrders = true := by kernel_rfl
theorem m_power1 (x e : Nat) (hx : x < 65521) (he : e ≤ 4611686018427387904) : Maps Tryz.prog 143 [wI e, .rp [wI x]] (wI (DM.powN x e : Nat)) := by
  refine Maps.vt pok Tryz.f143 (n := 23) (rs := [.tmp 3]) rfl rfl rfl rfl rfl rfl fun g => ?_
  repeat (any_goals (first | (refine d_RT ?_; (first | refine RT.nil ?_ | refine RT.asA ?_)) | (refine d_VT ?_; (first | refine VT.seq rfl ?_ | refine VT.reg rfl ?_ | refine VT.draw [(0, []), (0, []), (0, [])] 1 mixedOk rfl (by decide +kernel) (by decide +kernel) (by decide +kernel) (by first | (simp only [nrm]; rfl) | (simp only [nrm, Nat.reduceAdd, Nat.zero_add]; rfl) | rfl) (by first | (simp only [nrm]; rfl) | (simp only [nrm, Nat.reduceAdd, Nat.zero_add]; rfl) | rfl) ?_ | refine VT.block rfl ?_)) | (refine d_PT ?_; (first | refine PT.done (by first | (simp only [nrm]; rfl) | (simp only [nrm, Nat.reduceAdd, Nat.zero_add]; rfl) | rfl) ?_ | refine PT.asA ?_ | refine PT.ldA ?_))))
  refine VT.loop (fun j a H g' => ∃ n o b : Nat, j = n ∧ n ≤ 4611686018427387904 ∧ o < 65521 ∧ b < 65521 ∧ o * b ^ n % 65521 = DM.powN x e ∧ a = [(0, wI n), (4, wI o), (5, wI b)] ∧ H = [] ∧ g' = g) rfl
    ⟨e, _, _, ⟨e, 1, x, rfl, he, by decide, hx, by rw [Nat.one_mul]; rfl, rfl, rfl, rfl⟩, fgA⟩ ?_
  rintro j a H g' ⟨n, o, b, rfl, hn, ho, hb, hp, rfl, rfl, rfl⟩
  have hm1 := mulN ho hb
  have hm2 := mulN hb hb
  repeat (any_goals (first | (refine d_RT ?_; (first | refine RT.nil ?_ | refine RT.mvA ?_ | refine RT.asA ?_ | refine RT.bnA ?_ | refine RT.callM rfl (m_mod _) rfl rfl ?_)) | (refine d_VT ?_; (first | refine VT.seq rfl ?_ | refine VT.reg rfl ?_ | refine VT.condD rfl rfl (fun hc => ?_) (fun hc => ?_) | refine VT.block rfl ?_ | refine VT.skip rfl ?_ | refine VT.exit rfl ?_ | refine VT.ret rfl ?_)) | with_reducible (refine kLn ?_) | (with_reducible refine d_kEr ?_; refine kEr rfl ?_)))
  · refine ⟨j / 2, by omega, _, _, ⟨j / 2, o * b % 65521, b * b % 65521, rfl, by omega, Nat.mod_lt _ (by decide), Nat.mod_lt _ (by decide), by rw [DM.pow_odd (by omega)]; exact hp, rfl, rfl, rfl⟩, fgA⟩
  · refine ⟨j / 2, by omega, _, _, ⟨j / 2, o, b * b % 65521, rfl, by omega, ho, Nat.mod_lt _ (by decide), by rw [DM.pow_even (by omega)]; exact hp, rfl, rfl, rfl⟩, fgA⟩
  · have : j = 0 := by omega
    subst this
    refine congrArg wI ?_
    rw [← hp, Nat.pow_zero, Nat.mul_one, Nat.mod_eq_of_lt ho]
theorem c_power (H : List Blk) (x : Int) : CallSp Tryz.prog 96 [wI x] H fun d H' => d = .fn (.func 143) [] [.mp H.length 0 0] ∧ H' = H ++ [.live 1 [[wI x]]] := by
  refine CallSp.vt pok Tryz.f96 (n := 4) (rs := [.tmp 2]) rfl rfl rfl rfl rfl rfl rfl fun g => ?_
  repeat (any_goals (first | (refine d_RT ?_; (first | refine RT.nil ?_ | refine RT.asA ?_ | refine RT.nwA ?_ | refine RT.msA ?_)) | (refine d_VT ?_; (first | refine VT.seq rfl ?_ | refine VT.reg rfl ?_ | refine VT.ret rfl ?_)) | (with_reducible refine d_kEr ?_; refine kEr rfl ?_)))
  exact ⟨rfl, rfl⟩
abbrev inv (x : Int) : Int := DM.invI x
theorem inv_W (x : Int) : W (inv x) := DM.invI_W x
theorem m_inverseN (x : Nat) (hx : x < 65521) : Maps Tryz.prog 117 [wI x] (wI (DM.invN x : Nat)) := by
  refine Maps.vt pok Tryz.f117 (n := 6) (rs := [.tmp 2]) rfl rfl rfl rfl rfl rfl fun g => ?_
  repeat (any_goals (first | (refine d_RT ?_; (first | refine RT.nil ?_ | refine RT.mvA ?_ | refine RT.asA ?_ | (refine d_call ?_; (first | refine RT.callM rfl (m_power1 x 65519 hx (by decide)) rfl rfl ?_ | refine RT.callS rfl (c_power _ _) rfl (by first | (simp only [nrm]; rfl) | (simp only [nrm, Nat.reduceAdd, Nat.zero_add]; rfl) | rfl) (by first | (simp only [nrm]; rfl) | (simp only [nrm, Nat.reduceAdd, Nat.zero_add]; rfl) | rfl) ?_)))) | (refine d_VT ?_; (first | refine VT.seq rfl ?_ | refine VT.reg rfl ?_ | refine VT.ret rfl ?_)) | (with_reducible refine d_kEr ?_; refine kEr rfl ?_)))
  rfl
theorem m_inverse (x : Int) (hx : W x) : Maps Tryz.prog 117 [wI x] (wI (inv x)) := by
  have e : x = (x.toNat : Int) := by have := hx.1; omega
  have h := m_inverseN x.toNat (by have := hx.1; have := hx.2; omega)
  rw [← e] at h; exact h
/-! ### slices.IndexFunc, slices.ContainsFunc, all -/
structure Dot where
  X : Int
  Y : Int
structure Leaf where
  Number : Int
  Words : List Int
structure Line where
  ID : Int
  Day : Int
  What : Int
  Worth : Int
abbrev eDot (d : Dot) : List D := [wI d.X, wI d.Y]
abbrev eLeaf (x : Leaf) : List D := [wI x.Number, .sl (x.Words.map eI)]
abbrev eLine (x : Line) : List D := [wI x.ID, wI x.Day, wI x.What, wI x.Worth]
abbrev eRow (x : List Int) : List D := [.sl (x.map eI)]
def fidx {α : Type} (p : α → Bool) (l : List α) : Int := if l.any p then (l.findIdx p : Int) else -1
theorem fidx_hit {α : Type} {p : α → Bool} {l : List α} {k : Nat} (hk : k < l.length) (h : (l.take k).any p = false) (hp : p l[k] = true) : fidx p l = k := by
  have h1 : l.any p = true := List.any_eq_true.2 ⟨_, List.getElem_mem hk, hp⟩
  have h2 : l.findIdx p = k := by
    rw [List.findIdx_eq hk]
    refine ⟨hp, fun j hj => ?_⟩
    have := List.any_eq_false.1 h l[j] (List.mem_take_iff_getElem.2 ⟨j, by omega, rfl⟩)
    simpa using this
  rw [fidx, if_pos h1, h2]
theorem any_snoc {α : Type} {p : α → Bool} {l : List α} {k : Nat} (hk : k < l.length) (h : (l.take k).any p = false) (hp : p l[k] = false) : (l.take (k + 1)).any p = false := by
  rw [List.take_succ_eq_append_getElem hk, List.any_append, h]; simp [hp]
theorem fidx_none {α : Type} {p : α → Bool} {l : List α} {k : Nat} (hk : ¬ k < l.length) (h : (l.take k).any p = false) : fidx p l = -1 := by
  rw [List.take_of_length_le (by omega)] at h
  rw [fidx, h]; rfl
theorem fidx_any {α : Type} (p : α → Bool) (l : List α) : decide (0 ≤ fidx p l) = l.any p := by
  unfold fidx
  cases h : l.any p <;> simp
/-- slices.IndexFunc. -/
theorem m_idx_Int {p : Int → Bool} {F : FuncId} {cs : List D} {l : List (Int)} (hl : l.length ≤ 4611686018427387904) (hcs : cs.all stab1 = true) (hp : ∀ x, x ∈ l → Maps Tryz.prog F ([wI x] ++ cs) (wB (p x))) : Maps Tryz.prog 165 [.sl (l.map eI), .fn (.func F) [] cs] (wI (fidx p l)) := by
  refine Maps.vt pok Tryz.f165 (n := 19) (rs := [.tmp 4]) rfl rfl rfl rfl rfl rfl fun g => ?_
  have hcb := stab_low hcs 2 0
  repeat (any_goals (first | (refine d_RT ?_; (first | refine RT.nil ?_ | refine RT.mvA ?_ | refine RT.asA ?_ | refine RT.clA ?_)) | (refine d_VT ?_; (first | refine VT.seq rfl ?_ | refine VT.reg rfl ?_ | refine VT.block rfl ?_))))
  refine VT.loop (fun j a H g' => ∃ k : Nat, j = l.length - k ∧ k ≤ l.length ∧ (l.take k).any p = false ∧ a = [(0, .sl (l.map eI)), (1, .fn (.func F) [] cs), (7, wI l.length), (8, wI k)] ∧ H = [] ∧ g' = g) rfl
    ⟨_, _, _, ⟨0, rfl, Nat.zero_le _, rfl, rfl, rfl, rfl⟩, Wk.fg ⟨by (repeat first | exact True.intro | refine And.intro ?_ ?_ | exact Or.inr (Or.inl rfl) | exact Or.inl rfl | (refine DLe.i rfl ?_; omega) | exact Or.inr (Or.inl rfl) | (refine DLe.i rfl ?_; simp; done)), rfl, (by first | decide | exact Nat.zero_le _ | exact Nat.le_refl _ | (first | omega | (simp only [List.length_set, List.length_replicate, List.length_append, List.length_map, List.length_cons, List.length_nil]; omega))), (by first | rfl | simp_all [lowB]), by (repeat first | exact bb_nil | refine bb_cons ?_ ?_ | exact eI_low _ _ | exact eDot_low _ _ | exact bb_dead | exact bb_free | exact bb_lit rfl | (simp [BlkBelow, lowB]; done))⟩⟩ ?_
  rintro j a H g' ⟨k, rfl, hk, hn, rfl, rfl, rfl⟩
  by_cases hlt : k < l.length
  · have hsn : ∀ lk, ([wI l[k]] ++ cs).map (snap lk 5) = [wI l[k]] ++ cs := fun lk => by rw [List.map_append, stab_snap hcs]; rfl
    repeat (any_goals (first | (refine d_RT ?_; (first | refine RT.nil ?_ | refine RT.callM rfl (hp l[k] (List.getElem_mem hlt)) (hsn _) rfl ?_ | refine RT.mvA ?_ | refine RT.asA ?_ | refine RT.ldA ?_ | refine RT.bnA ?_ | refine RT.ixA ?_)) | (refine d_VT ?_; (first | refine VT.seq rfl ?_ | refine VT.reg rfl ?_ | refine VT.condY rfl rfl (by first | assumption | omega) ?_ | refine VT.cond rfl rfl (fun hc => ?_) (fun hc => ?_) | refine VT.block rfl ?_ | refine VT.skip rfl ?_ | refine VT.ret rfl ?_)) | (with_reducible first | refine kSr ?_ | refine kBr ?_ | refine kLn ?_ | refine kLr ?_) | (with_reducible refine d_kEr ?_; refine kEr rfl ?_)))
    · rw [fidx_hit hlt hn hc]; rfl
    · exact ⟨l.length - (k + 1), by omega, _, _, ⟨k + 1, rfl, hlt, any_snoc hlt hn hc, rfl, rfl, rfl⟩, Wk.fg ⟨by (repeat first | exact True.intro | refine And.intro ?_ ?_ | exact Or.inr (Or.inl rfl) | exact Or.inl rfl | (refine DLe.i rfl ?_; omega) | exact Or.inr (Or.inl rfl) | (refine DLe.i rfl ?_; simp; done)), rfl, (by first | decide | exact Nat.zero_le _ | exact Nat.le_refl _ | (first | omega | (simp only [List.length_set, List.length_replicate, List.length_append, List.length_map, List.length_cons, List.length_nil]; omega))), (by first | rfl | simp_all [lowB]), by (repeat first | exact bb_nil | refine bb_cons ?_ ?_ | exact eI_low _ _ | exact eDot_low _ _ | exact bb_dead | exact bb_free | exact bb_lit rfl | (simp [BlkBelow, lowB]; done))⟩⟩
  · repeat (any_goals (first | (refine d_RT ?_; (first | refine RT.nil ?_ | refine RT.asA ?_ | refine RT.bnA ?_)) | (refine d_VT ?_; (first | refine VT.seq rfl ?_ | refine VT.reg rfl ?_ | refine VT.condN rfl rfl (by first | assumption | omega) ?_ | refine VT.exit rfl ?_ | refine VT.ret rfl ?_)) | (with_reducible refine d_kEr ?_; refine kEr rfl ?_)))
    rw [fidx_none hlt hn]; rfl

/-- slices.ContainsFunc. -/
theorem m_has_Int {p : Int → Bool} {F : FuncId} {cs : List D} {l : List (Int)} (hl : l.length ≤ 4611686018427387904) (hcs : cs.all stab1 = true) (hp : ∀ x, x ∈ l → Maps Tryz.prog F ([wI x] ++ cs) (wB (p x))) : Maps Tryz.prog 129 [.sl (l.map eI), .fn (.func F) [] cs] (wB (l.any p)) := by
  refine Maps.vt pok Tryz.f129 (n := 9) (rs := [.tmp 4]) rfl rfl rfl rfl rfl rfl fun g => ?_
  have hsn : ∀ lk, ([.sl (l.map eI), .fn (.func F) [] cs] : List D).map (snap lk 5) = [.sl (l.map eI), .fn (.func F) [] cs] := fun lk => by
    simp only [List.map_cons, List.map_nil, snap, stab_snap hcs]
  repeat (any_goals (first | (refine d_RT ?_; (first | refine RT.nil ?_ | refine RT.callM rfl (m_idx_Int hl hcs hp) (hsn _) rfl ?_ | refine RT.mvA ?_ | refine RT.asA ?_ | refine RT.bnA ?_)) | (refine d_VT ?_; (first | refine VT.seq rfl ?_ | refine VT.reg rfl ?_ | refine VT.ret rfl ?_)) | (with_reducible refine d_kEr ?_; refine kEr rfl ?_)))
  rw [← fidx_any]; rfl

/-- all. -/
theorem m_all1_Int {p : Int → Bool} {F : FuncId} {cs : List D} (hcs : cs.all stab1 = true) (x : Int) (hp : Maps Tryz.prog F ([wI x] ++ cs) (wB (p x))) : Maps Tryz.prog 130 ([wI x] ++ [.rp [.fn (.func F) [] cs]]) (wB (!p x)) := by
  refine Maps.vt pok Tryz.f130 (n := 8) (rs := [.tmp 3]) rfl rfl rfl rfl rfl rfl fun g => ?_
  have hsn : ∀ lk, ([wI x] ++ cs).map (snap lk 5) = [wI x] ++ cs := fun lk => by rw [List.map_append, stab_snap hcs]; rfl
  repeat (any_goals (first | (refine d_RT ?_; (first | refine RT.nil ?_ | refine RT.callM rfl hp (hsn _) rfl ?_ | refine RT.v (f_ldG rfl rfl (flat_fn hcs)) ?_ | refine RT.mvA ?_ | refine RT.asA ?_ | refine RT.unA ?_)) | (refine d_VT ?_; (first | refine VT.seq rfl ?_ | refine VT.reg rfl ?_ | refine VT.ret rfl ?_)) | (with_reducible refine d_kEr ?_; refine kEr rfl ?_)))
  rfl
theorem m_all_Int {p : Int → Bool} {F : FuncId} {cs : List D} {l : List (Int)} (hl : l.length ≤ 4611686018427387904) (hcs : cs.all stab1 = true) (hp : ∀ x, x ∈ l → Maps Tryz.prog F ([wI x] ++ cs) (wB (p x))) : Maps Tryz.prog 76 [.sl (l.map eI), .fn (.func F) [] cs] (wB (l.all p)) := by
  refine Maps.vt pok Tryz.f76 (n := 9) (rs := [.tmp 4]) rfl rfl rfl rfl rfl rfl fun g => ?_
  have e : (!(l.any fun x => !p x)) = l.all p := by rw [List.not_any_eq_all_not]; simp
  have hsn : ∀ lk : Nat → Option Blk, lk 0 = some (.live 1 [[.fn (.func F) [] cs]]) → ([.sl (l.map eI), .fn (.func 130) [] [.mp 0 0 0]] : List D).map (snap lk 5) = [.sl (l.map eI), .fn (.func 130) [] [.rp [.fn (.func F) [] cs]]] := fun lk h => by
    simp [snap, h]; exact stab_snap hcs lk _
  repeat (any_goals (first | (refine d_RT ?_; (first | refine RT.nil ?_ | refine RT.callM rfl (m_has_Int (p := fun x => !p x) (F := 130) (cs := [.rp [.fn (.func F) [] cs]]) hl rfl fun x hx => m_all1_Int hcs x (hp x hx)) (hsn _ rfl) rfl ?_ | refine RT.mvA ?_ | refine RT.asA ?_ | refine RT.unA ?_ | refine RT.nwA ?_ | refine RT.msA ?_)) | (refine d_VT ?_; (first | refine VT.seq rfl ?_ | refine VT.reg rfl ?_ | refine VT.ret rfl ?_)) | (with_reducible refine d_kEr ?_; refine kEr rfl ?_)))
  exact congrArg wB e

end Go.DL
