/- Shapes, leaves and data: their checks, and which are small. -/
import Derived.Test.YtmbbepdbjeciaaaGreatZc
set_option linter.all false
set_option maxRecDepth 100000
set_option maxHeartbeats 16000000
namespace Go.DL
open Go.Proofs Go

structure Shape where
  Data : Int
  Checks : Int
  Width : Int
abbrev eShape (s : Shape) : List D := [wI s.Data, wI s.Checks, wI s.Width]
abbrev dSh (s : Shape) : D := .agg (eShape s)
abbrev CkOk (s : Shape) : Prop := (1 ≤ s.Data ∧ s.Data ≤ 20) ∧ (0 ≤ s.Checks ∧ s.Checks ≤ 20) ∧ (1 ≤ s.Width ∧ s.Width ≤ 32)
def CheckS (s : Shape) : Int := if CkOk s then 0 else 1
theorem m_Check (s : Shape) : Maps Tryz.prog 21 [dSh s] (wI (CheckS s)) := by
  refine Maps.vt pok Tryz.f21 (n := 19) (rs := [.tmp 2]) rfl rfl rfl rfl rfl rfl fun g => ?_
  unfold CheckS
  by_cases h1 : 1 ≤ s.Data ∧ s.Data ≤ 20
  · by_cases h2 : 0 ≤ s.Checks ∧ s.Checks ≤ 20
    · by_cases h3 : 1 ≤ s.Width ∧ s.Width ≤ 32
      · rw [if_pos ⟨h1, h2, h3⟩]
        repeat (any_goals (first | (refine d_RT ?_; (first | refine RT.nil ?_ | (refine d_g ?_; (first | refine RT.gy rfl ?_ | refine RT.gcN rfl rfl rfl (by first | assumption | omega) ?_)) | refine RT.mvA ?_ | refine RT.asA ?_ | refine RT.ldA ?_ | refine RT.faA ?_ | refine RT.callM rfl (m_within _ _ _) rfl rfl ?_ | refine RT.pkA ?_ | refine RT.unA ?_ | refine RT.nwA ?_)) | (refine d_VT ?_; (first | refine VT.seq rfl ?_ | refine VT.reg rfl ?_ | refine VT.condN rfl rfl (by first | assumption | omega) ?_ | refine VT.skip rfl ?_ | refine VT.ret rfl ?_)) | (with_reducible refine d_kEr ?_; refine kEr rfl ?_)))
        rfl
      · rw [if_neg fun h => h3 h.2.2]
        repeat (any_goals (first | (refine d_RT ?_; (first | refine RT.nil ?_ | (refine d_g ?_; (first | refine RT.gy rfl ?_ | refine RT.gcN rfl rfl rfl (by first | assumption | omega) ?_)) | refine RT.mvA ?_ | refine RT.asA ?_ | refine RT.ldA ?_ | refine RT.faA ?_ | refine RT.callM rfl (m_within _ _ _) rfl rfl ?_ | refine RT.pkA ?_ | refine RT.unA ?_ | refine RT.nwA ?_)) | (refine d_VT ?_; (first | refine VT.seq rfl ?_ | refine VT.reg rfl ?_ | refine VT.condY rfl rfl (by first | assumption | omega) ?_ | refine VT.ret rfl ?_)) | with_reducible (refine kSr ?_) | (with_reducible refine d_kEr ?_; refine kEr rfl ?_)))
        rfl
    · rw [if_neg fun h => h2 h.2.1]
      repeat (any_goals (first | (refine d_RT ?_; (first | refine RT.nil ?_ | (refine d_g ?_; (first | refine RT.gy rfl ?_ | refine RT.gn rfl rfl ?_ | refine RT.gcY rfl rfl rfl (by first | assumption | omega) ?_ | refine RT.gcN rfl rfl rfl (by first | assumption | omega) ?_)) | refine RT.mvA ?_ | refine RT.asA ?_ | refine RT.ldA ?_ | refine RT.faA ?_ | refine RT.callM rfl (m_within _ _ _) rfl rfl ?_ | refine RT.pkA ?_ | refine RT.unA ?_ | refine RT.nwA ?_)) | (refine d_VT ?_; (first | refine VT.seq rfl ?_ | refine VT.reg rfl ?_ | refine VT.condT rfl rfl ?_ | refine VT.ret rfl ?_)) | with_reducible (refine kSr ?_) | (with_reducible refine d_kEr ?_; refine kEr rfl ?_)))
      rfl
  · rw [if_neg fun h => h1 h.1]
    repeat (any_goals (first | (refine d_RT ?_; (first | refine RT.nil ?_ | (refine d_g ?_; (first | refine RT.gn rfl rfl ?_ | refine RT.gcY rfl rfl rfl (by first | assumption | omega) ?_)) | refine RT.mvA ?_ | refine RT.asA ?_ | refine RT.ldA ?_ | refine RT.faA ?_ | refine RT.callM rfl (m_within _ _ _) rfl rfl ?_ | refine RT.pkA ?_ | refine RT.unA ?_ | refine RT.nwA ?_)) | (refine d_VT ?_; (first | refine VT.seq rfl ?_ | refine VT.reg rfl ?_ | refine VT.condT rfl rfl ?_ | refine VT.ret rfl ?_)) | with_reducible (refine kSr ?_) | (with_reducible refine d_kEr ?_; refine kEr rfl ?_)))
    rfl
theorem m_RCheck (s : Shape) : Maps Tryz.prog 22 [dSh s] (wI (CheckS s)) := by
  refine Maps.vt pok Tryz.f22 (n := 19) (rs := [.tmp 2]) rfl rfl rfl rfl rfl rfl fun g => ?_
  unfold CheckS
  by_cases h1 : 1 ≤ s.Data ∧ s.Data ≤ 20
  · by_cases h2 : 0 ≤ s.Checks ∧ s.Checks ≤ 20
    · by_cases h3 : 1 ≤ s.Width ∧ s.Width ≤ 32
      · rw [if_pos ⟨h1, h2, h3⟩]
        repeat (any_goals (first | (refine d_RT ?_; (first | refine RT.nil ?_ | (refine d_g ?_; (first | refine RT.gy rfl ?_ | refine RT.gcN rfl rfl rfl (by first | assumption | omega) ?_)) | refine RT.mvA ?_ | refine RT.asA ?_ | refine RT.ldA ?_ | refine RT.faA ?_ | refine RT.callM rfl (m_in _ _ _) rfl rfl ?_ | refine RT.pkA ?_ | refine RT.unA ?_ | refine RT.nwA ?_)) | (refine d_VT ?_; (first | refine VT.seq rfl ?_ | refine VT.reg rfl ?_ | refine VT.condN rfl rfl (by first | assumption | omega) ?_ | refine VT.skip rfl ?_ | refine VT.ret rfl ?_)) | (with_reducible refine d_kEr ?_; refine kEr rfl ?_)))
        rfl
      · rw [if_neg fun h => h3 h.2.2]
        repeat (any_goals (first | (refine d_RT ?_; (first | refine RT.nil ?_ | (refine d_g ?_; (first | refine RT.gy rfl ?_ | refine RT.gcN rfl rfl rfl (by first | assumption | omega) ?_)) | refine RT.mvA ?_ | refine RT.asA ?_ | refine RT.ldA ?_ | refine RT.faA ?_ | refine RT.callM rfl (m_in _ _ _) rfl rfl ?_ | refine RT.pkA ?_ | refine RT.unA ?_ | refine RT.nwA ?_)) | (refine d_VT ?_; (first | refine VT.seq rfl ?_ | refine VT.reg rfl ?_ | refine VT.condY rfl rfl (by first | assumption | omega) ?_ | refine VT.ret rfl ?_)) | with_reducible (refine kSr ?_) | (with_reducible refine d_kEr ?_; refine kEr rfl ?_)))
        rfl
    · rw [if_neg fun h => h2 h.2.1]
      repeat (any_goals (first | (refine d_RT ?_; (first | refine RT.nil ?_ | (refine d_g ?_; (first | refine RT.gy rfl ?_ | refine RT.gn rfl rfl ?_ | refine RT.gcY rfl rfl rfl (by first | assumption | omega) ?_ | refine RT.gcN rfl rfl rfl (by first | assumption | omega) ?_)) | refine RT.mvA ?_ | refine RT.asA ?_ | refine RT.ldA ?_ | refine RT.faA ?_ | refine RT.callM rfl (m_in _ _ _) rfl rfl ?_ | refine RT.pkA ?_ | refine RT.unA ?_ | refine RT.nwA ?_)) | (refine d_VT ?_; (first | refine VT.seq rfl ?_ | refine VT.reg rfl ?_ | refine VT.condT rfl rfl ?_ | refine VT.ret rfl ?_)) | with_reducible (refine kSr ?_) | (with_reducible refine d_kEr ?_; refine kEr rfl ?_)))
      rfl
  · rw [if_neg fun h => h1 h.1]
    repeat (any_goals (first | (refine d_RT ?_; (first | refine RT.nil ?_ | (refine d_g ?_; (first | refine RT.gn rfl rfl ?_ | refine RT.gcY rfl rfl rfl (by first | assumption | omega) ?_)) | refine RT.mvA ?_ | refine RT.asA ?_ | refine RT.ldA ?_ | refine RT.faA ?_ | refine RT.callM rfl (m_in _ _ _) rfl rfl ?_ | refine RT.pkA ?_ | refine RT.unA ?_ | refine RT.nwA ?_)) | (refine d_VT ?_; (first | refine VT.seq rfl ?_ | refine VT.reg rfl ?_ | refine VT.condT rfl rfl ?_ | refine VT.ret rfl ?_)) | with_reducible (refine kSr ?_) | (with_reducible refine d_kEr ?_; refine kEr rfl ?_)))
    rfl
theorem CheckS_cases (s : Shape) : (CheckS s = 0 ∧ CkOk s) ∨ (CheckS s = 1 ∧ ¬ CkOk s) := by
  unfold CheckS
  by_cases h : CkOk s
  · rw [if_pos h]; exact .inl ⟨rfl, h⟩
  · rw [if_neg h]; exact .inr ⟨rfl, h⟩
def SmallS (s : Shape) : Bool := decide (CkOk s → s.Data ≤ 4 ∧ s.Checks ≤ 4 ∧ s.Width ≤ 10)
theorem m_small1 (s : Shape) : Maps Tryz.prog 15 [dSh s] (wB (SmallS s)) := by
  refine Maps.vt pok Tryz.f15 (n := 21) (rs := [.tmp 2]) rfl rfl rfl rfl rfl rfl fun g => ?_
  have hk := m_RCheck s
  rcases CheckS_cases s with ⟨e, h⟩ | ⟨e, h⟩
  · rw [e] at hk
    repeat (any_goals (first | (refine d_RT ?_; (first | refine RT.nil ?_ | (refine d_g ?_; (first | refine RT.gy rfl ?_ | refine RT.gn rfl rfl ?_ | refine RT.gc rfl rfl rfl (fun hc => ?_) (fun hc => ?_))) | refine RT.mvA ?_ | refine RT.asA ?_ | refine RT.ldA ?_ | refine RT.faA ?_ | refine RT.bnA ?_ | refine RT.callM rfl (hk) rfl rfl ?_ | refine RT.pkA ?_ | refine RT.nwA ?_)) | (refine d_VT ?_; (first | refine VT.seq rfl ?_ | refine VT.reg rfl ?_ | refine VT.ret rfl ?_)) | (with_reducible refine d_kEr ?_; refine kEr rfl ?_)))
    all_goals first
      | exact congrArg wB (show true = SmallS s from (decide_eq_true (fun _ => by omega)).symm)
      | exact congrArg wB (show false = SmallS s from (decide_eq_false (fun q => by have := q h; omega)).symm)
      | exact congrArg wB (show decide (s.Width ≤ 10) = SmallS s from decide_eq_decide.2 ⟨fun q _ => by omega, fun q => by have := q h; omega⟩)
  · rw [e] at hk
    repeat (any_goals (first | (refine d_RT ?_; (first | refine RT.nil ?_ | (refine d_g ?_; (first | refine RT.gn rfl rfl ?_ | refine RT.gu rfl ?_)) | refine RT.mvA ?_ | refine RT.asA ?_ | refine RT.ldA ?_ | refine RT.bnA ?_ | refine RT.callM rfl (hk) rfl rfl ?_ | refine RT.pkA ?_ | refine RT.nwA ?_)) | (refine d_VT ?_; (first | refine VT.seq rfl ?_ | refine VT.reg rfl ?_ | refine VT.ret rfl ?_)) | (with_reducible refine d_kEr ?_; refine kEr rfl ?_)))
    exact congrArg wB (show true = SmallS s from (decide_eq_true (fun q => absurd q h)).symm)
def rowsS (d : List (List Int)) : Bool := d.all (fun r => decide (r.length ≤ 40)) && decide (d.length ≤ 30)
theorem all_snoc {α : Type} {p : α → Bool} {l : List α} {k : Nat} (hlt : k < l.length) (h : (l.take k).all p = true) (h2 : p l[k] = true) : (l.take (k + 1)).all p = true := by
  rw [List.take_succ_eq_append_getElem hlt, List.all_append, h]; simp [h2]
theorem m_rows (d : List (List Int)) (hl : d.length ≤ 4611686018427387904) : Maps Tryz.prog 17 [.sl (d.map eRow)] (wB (rowsS d)) := by
  refine Maps.vt pok Tryz.f17 (n := 19) (rs := [.tmp 2]) rfl rfl rfl rfl rfl rfl fun g => ?_
  repeat (any_goals (first | (refine d_RT ?_; (first | refine RT.nil ?_ | refine RT.asA ?_)) | (refine d_VT ?_; (first | refine VT.seq rfl ?_ | refine VT.reg rfl ?_ | refine VT.block rfl ?_))))
  refine VT.loop (fun j a H g' => ∃ k : Nat, j = d.length - k ∧ k ≤ d.length ∧ (d.take k).all (fun r => decide (r.length ≤ 40)) = true ∧ a = [(0, .sl (d.map eRow)), (3, wI k)] ∧ H = [] ∧ g' = g) rfl
    ⟨_, _, _, ⟨0, rfl, Nat.zero_le _, rfl, rfl, rfl, rfl⟩, fgA⟩ ?_
  rintro j a H g' ⟨k, rfl, hk, hn, rfl, rfl, rfl⟩
  by_cases hlt : k < d.length
  · by_cases h4 : d[k].length ≤ 40
    · repeat (any_goals (first | (refine d_RT ?_; (first | refine RT.nil ?_ | refine RT.mvA ?_ | refine RT.asA ?_ | refine RT.ldA ?_ | refine RT.bnA ?_ | refine RT.clA ?_ | refine RT.ixA ?_)) | (refine d_VT ?_; (first | refine VT.seq rfl ?_ | refine VT.reg rfl ?_ | refine VT.condY rfl rfl (by first | assumption | omega) ?_ | refine VT.condN rfl rfl (by first | assumption | omega) ?_ | refine VT.block rfl ?_ | refine VT.skip rfl ?_)) | with_reducible (refine kLn ?_)))
      exact ⟨d.length - (k + 1), by omega, _, _, ⟨k + 1, rfl, hlt, all_snoc hlt hn (decide_eq_true h4), rfl, rfl, rfl⟩, fgA⟩
    · repeat (any_goals (first | (refine d_RT ?_; (first | refine RT.nil ?_ | refine RT.mvA ?_ | refine RT.asA ?_ | refine RT.ldA ?_ | refine RT.bnA ?_ | refine RT.clA ?_ | refine RT.ixA ?_)) | (refine d_VT ?_; (first | refine VT.seq rfl ?_ | refine VT.reg rfl ?_ | refine VT.condY rfl rfl (by first | assumption | omega) ?_ | refine VT.block rfl ?_ | refine VT.skip rfl ?_ | refine VT.ret rfl ?_)) | (with_reducible first | refine kSr ?_ | refine kBr ?_ | refine kLr ?_) | (with_reducible refine d_kEr ?_; refine kEr rfl ?_)))
      have e : d.all (fun r => decide (r.length ≤ 40)) = false := List.all_eq_false.2 ⟨d[k], List.getElem_mem hlt, by simpa using h4⟩
      exact congrArg wB (show false = rowsS d by rw [rowsS, e]; rfl)
  · rw [List.take_of_length_le (by omega)] at hn
    repeat (any_goals (first | (refine d_RT ?_; (first | refine RT.nil ?_ | refine RT.mvA ?_ | refine RT.asA ?_ | refine RT.bnA ?_ | refine RT.clA ?_)) | (refine d_VT ?_; (first | refine VT.seq rfl ?_ | refine VT.reg rfl ?_ | refine VT.condN rfl rfl (by first | assumption | omega) ?_ | refine VT.exit rfl ?_ | refine VT.ret rfl ?_)) | (with_reducible refine d_kEr ?_; refine kEr rfl ?_)))
    exact congrArg wB (show decide ((d.length : Int) ≤ 30) = rowsS d by rw [rowsS, hn, Bool.true_and]; exact decide_eq_decide.2 ⟨fun h => by omega, fun h => by omega⟩)
def fewS (l : List Leaf) : Bool := l.all (fun x => decide (x.Words.length ≤ 40)) && decide (l.length ≤ 10 ∨ 40 < l.length ∧ l.length ≤ 50)
theorem m_few (l : List Leaf) (hl : l.length ≤ 4611686018427387904) : Maps Tryz.prog 16 [.sl (l.map eLeaf)] (wB (fewS l)) := by
  refine Maps.vt pok Tryz.f16 (n := 30) (rs := [.tmp 2]) rfl rfl rfl rfl rfl rfl fun g => ?_
  repeat (any_goals (first | (refine d_RT ?_; (first | refine RT.nil ?_ | refine RT.asA ?_)) | (refine d_VT ?_; (first | refine VT.seq rfl ?_ | refine VT.reg rfl ?_ | refine VT.block rfl ?_))))
  refine VT.loop (fun j a H g' => ∃ k : Nat, j = l.length - k ∧ k ≤ l.length ∧ (l.take k).all (fun x => decide (x.Words.length ≤ 40)) = true ∧ a = [(0, .sl (l.map eLeaf)), (3, wI k)] ∧ H = [] ∧ g' = g) rfl
    ⟨_, _, _, ⟨0, rfl, Nat.zero_le _, rfl, rfl, rfl, rfl⟩, fgA⟩ ?_
  rintro j a H g' ⟨k, rfl, hk, hn, rfl, rfl, rfl⟩
  by_cases hlt : k < l.length
  · by_cases h4 : l[k].Words.length ≤ 40
    · repeat (any_goals (first | (refine d_RT ?_; (first | refine RT.nil ?_ | refine RT.mvA ?_ | refine RT.asA ?_ | refine RT.ldA ?_ | refine RT.faA ?_ | refine RT.bnA ?_ | refine RT.clA ?_ | refine RT.ixA ?_)) | (refine d_VT ?_; (first | refine VT.seq rfl ?_ | refine VT.reg rfl ?_ | refine VT.condY rfl rfl (by first | assumption | omega) ?_ | refine VT.condN rfl rfl (by first | assumption | omega) ?_ | refine VT.block rfl ?_ | refine VT.skip rfl ?_)) | with_reducible (refine kLn ?_)))
      exact ⟨l.length - (k + 1), by omega, _, _, ⟨k + 1, rfl, hlt, all_snoc hlt hn (decide_eq_true h4), rfl, rfl, rfl⟩, fgA⟩
    · repeat (any_goals (first | (refine d_RT ?_; (first | refine RT.nil ?_ | refine RT.mvA ?_ | refine RT.asA ?_ | refine RT.ldA ?_ | refine RT.faA ?_ | refine RT.bnA ?_ | refine RT.clA ?_ | refine RT.ixA ?_)) | (refine d_VT ?_; (first | refine VT.seq rfl ?_ | refine VT.reg rfl ?_ | refine VT.condY rfl rfl (by first | assumption | omega) ?_ | refine VT.block rfl ?_ | refine VT.skip rfl ?_ | refine VT.ret rfl ?_)) | (with_reducible first | refine kSr ?_ | refine kBr ?_ | refine kLr ?_) | (with_reducible refine d_kEr ?_; refine kEr rfl ?_)))
      have e : l.all (fun x => decide (x.Words.length ≤ 40)) = false := List.all_eq_false.2 ⟨l[k], List.getElem_mem hlt, by simpa using h4⟩
      exact congrArg wB (show false = fewS l by rw [fewS, e]; rfl)
  · rw [List.take_of_length_le (by omega)] at hn
    have e : fewS l = decide (l.length ≤ 10 ∨ 40 < l.length ∧ l.length ≤ 50) := by rw [fewS, hn, Bool.true_and]
    rw [e]
    repeat (any_goals (first | (refine d_RT ?_; (first | refine RT.nil ?_ | (refine d_g ?_; (first | refine RT.gy rfl ?_ | refine RT.gn rfl rfl ?_ | refine RT.gu rfl ?_ | refine RT.gc rfl rfl rfl (fun hc => ?_) (fun hc => ?_))) | refine RT.mvA ?_ | refine RT.asA ?_ | refine RT.bnA ?_ | refine RT.clA ?_ | refine RT.pkA ?_)) | (refine d_VT ?_; (first | refine VT.seq rfl ?_ | refine VT.reg rfl ?_ | refine VT.condN rfl rfl (by first | assumption | omega) ?_ | refine VT.exit rfl ?_ | refine VT.ret rfl ?_)) | (with_reducible refine d_kEr ?_; refine kEr rfl ?_)))
    all_goals first
      | exact congrArg wB (show true = _ from (decide_eq_true (by omega)).symm)
      | exact congrArg wB (show false = _ from (decide_eq_false (by omega)).symm)
      | exact congrArg wB (show decide ((l.length : Int) ≤ 50) = _ from decide_eq_decide.2 ⟨fun q => by omega, fun q => by omega⟩)
/-! ### data -/
/-- slices.IndexFunc. -/
theorem m_idx_Row {p : List Int → Bool} {F : FuncId} {cs : List D} {l : List (List Int)} (hl : l.length ≤ 4611686018427387904) (hcs : cs.all stab1 = true) (hp : ∀ x, x ∈ l → Maps Tryz.prog F ([D.sl (x.map eI)] ++ cs) (wB (p x))) : Maps Tryz.prog 176 [.sl (l.map eRow), .fn (.func F) [] cs] (wI (fidx p l)) := by
  refine Maps.vt pok Tryz.f176 (n := 19) (rs := [.tmp 4]) rfl rfl rfl rfl rfl rfl fun g => ?_
  have hcb := stab_low hcs 2 0
  repeat (any_goals (first | (refine d_RT ?_; (first | refine RT.nil ?_ | refine RT.mvA ?_ | refine RT.asA ?_ | refine RT.clA ?_)) | (refine d_VT ?_; (first | refine VT.seq rfl ?_ | refine VT.reg rfl ?_ | refine VT.block rfl ?_))))
  refine VT.loop (fun j a H g' => ∃ k : Nat, j = l.length - k ∧ k ≤ l.length ∧ (l.take k).any p = false ∧ a = [(0, .sl (l.map eRow)), (1, .fn (.func F) [] cs), (7, wI l.length), (8, wI k)] ∧ H = [] ∧ g' = g) rfl
    ⟨_, _, _, ⟨0, rfl, Nat.zero_le _, rfl, rfl, rfl, rfl⟩, Wk.fg ⟨by (repeat first | exact True.intro | refine And.intro ?_ ?_ | exact Or.inr (Or.inl rfl) | exact Or.inl rfl | (refine DLe.i rfl ?_; omega) | exact Or.inr (Or.inl rfl) | (refine DLe.i rfl ?_; simp; done)), rfl, (by first | decide | exact Nat.zero_le _ | exact Nat.le_refl _ | (first | omega | (simp only [List.length_set, List.length_replicate, List.length_append, List.length_map, List.length_cons, List.length_nil]; omega))), (by first | rfl | simp_all [lowB]), by (repeat first | exact bb_nil | refine bb_cons ?_ ?_ | exact eI_low _ _ | exact eDot_low _ _ | exact bb_dead | exact bb_free | exact bb_lit rfl | (simp [BlkBelow, lowB]; done))⟩⟩ ?_
  rintro j a H g' ⟨k, rfl, hk, hn, rfl, rfl, rfl⟩
  by_cases hlt : k < l.length
  · have hsn : ∀ lk, ([D.sl (l[k].map eI)] ++ cs).map (snap lk 5) = [D.sl (l[k].map eI)] ++ cs := fun lk => by rw [List.map_append, stab_snap hcs]; rfl
    repeat (any_goals (first | (refine d_RT ?_; (first | refine RT.nil ?_ | refine RT.callM rfl (hp l[k] (List.getElem_mem hlt)) (hsn _) rfl ?_ | refine RT.mvA ?_ | refine RT.asA ?_ | refine RT.ldA ?_ | refine RT.bnA ?_ | refine RT.ixA ?_)) | (refine d_VT ?_; (first | refine VT.seq rfl ?_ | refine VT.reg rfl ?_ | refine VT.condY rfl rfl (by first | assumption | omega) ?_ | refine VT.cond rfl rfl (fun hc => ?_) (fun hc => ?_) | refine VT.block rfl ?_ | refine VT.skip rfl ?_ | refine VT.ret rfl ?_)) | (with_reducible first | refine kSr ?_ | refine kBr ?_ | refine kLn ?_ | refine kLr ?_) | (with_reducible refine d_kEr ?_; refine kEr rfl ?_)))
    · rw [fidx_hit hlt hn hc]; rfl
    · exact ⟨l.length - (k + 1), by omega, _, _, ⟨k + 1, rfl, hlt, any_snoc hlt hn hc, rfl, rfl, rfl⟩, Wk.fg ⟨by (repeat first | exact True.intro | refine And.intro ?_ ?_ | exact Or.inr (Or.inl rfl) | exact Or.inl rfl | (refine DLe.i rfl ?_; omega) | exact Or.inr (Or.inl rfl) | (refine DLe.i rfl ?_; simp; done)), rfl, (by first | decide | exact Nat.zero_le _ | exact Nat.le_refl _ | (first | omega | (simp only [List.length_set, List.length_replicate, List.length_append, List.length_map, List.length_cons, List.length_nil]; omega))), (by first | rfl | simp_all [lowB]), by (repeat first | exact bb_nil | refine bb_cons ?_ ?_ | exact eI_low _ _ | exact eDot_low _ _ | exact bb_dead | exact bb_free | exact bb_lit rfl | (simp [BlkBelow, lowB]; done))⟩⟩
  · repeat (any_goals (first | (refine d_RT ?_; (first | refine RT.nil ?_ | refine RT.asA ?_ | refine RT.bnA ?_)) | (refine d_VT ?_; (first | refine VT.seq rfl ?_ | refine VT.reg rfl ?_ | refine VT.condN rfl rfl (by first | assumption | omega) ?_ | refine VT.exit rfl ?_ | refine VT.ret rfl ?_)) | (with_reducible refine d_kEr ?_; refine kEr rfl ?_)))
    rw [fidx_none hlt hn]; rfl

/-- slices.ContainsFunc. -/
theorem m_has_Row {p : List Int → Bool} {F : FuncId} {cs : List D} {l : List (List Int)} (hl : l.length ≤ 4611686018427387904) (hcs : cs.all stab1 = true) (hp : ∀ x, x ∈ l → Maps Tryz.prog F ([D.sl (x.map eI)] ++ cs) (wB (p x))) : Maps Tryz.prog 161 [.sl (l.map eRow), .fn (.func F) [] cs] (wB (l.any p)) := by
  refine Maps.vt pok Tryz.f161 (n := 9) (rs := [.tmp 4]) rfl rfl rfl rfl rfl rfl fun g => ?_
  have hsn : ∀ lk, ([.sl (l.map eRow), .fn (.func F) [] cs] : List D).map (snap lk 5) = [.sl (l.map eRow), .fn (.func F) [] cs] := fun lk => by
    simp only [List.map_cons, List.map_nil, snap, stab_snap hcs]
  repeat (any_goals (first | (refine d_RT ?_; (first | refine RT.nil ?_ | refine RT.callM rfl (m_idx_Row hl hcs hp) (hsn _) rfl ?_ | refine RT.mvA ?_ | refine RT.asA ?_ | refine RT.bnA ?_)) | (refine d_VT ?_; (first | refine VT.seq rfl ?_ | refine VT.reg rfl ?_ | refine VT.ret rfl ?_)) | (with_reducible refine d_kEr ?_; refine kEr rfl ?_)))
  rw [← fidx_any]; rfl

def rowOk (s : Shape) (x : List Int) : Bool := decide ((x.length : Int) = s.Width) && x.all (fun a => decide (W a))
def DataS (s : Shape) (d : List (List Int)) : Bool := decide ((d.length : Int) = s.Data) && d.all (rowOk s)
/-! ### leaves -/
/-- slices.IndexFunc. -/
theorem m_idx_Leaf {p : Leaf → Bool} {F : FuncId} {cs : List D} {l : List (Leaf)} (hl : l.length ≤ 4611686018427387904) (hcs : cs.all stab1 = true) (hp : ∀ x, x ∈ l → Maps Tryz.prog F ([D.agg (eLeaf x)] ++ cs) (wB (p x))) : Maps Tryz.prog 131 [.sl (l.map eLeaf), .fn (.func F) [] cs] (wI (fidx p l)) := by
  refine Maps.vt pok Tryz.f131 (n := 19) (rs := [.tmp 4]) rfl rfl rfl rfl rfl rfl fun g => ?_
  have hcb := stab_low hcs 2 0
  repeat (any_goals (first | (refine d_RT ?_; (first | refine RT.nil ?_ | refine RT.mvA ?_ | refine RT.asA ?_ | refine RT.clA ?_)) | (refine d_VT ?_; (first | refine VT.seq rfl ?_ | refine VT.reg rfl ?_ | refine VT.block rfl ?_))))
  refine VT.loop (fun j a H g' => ∃ k : Nat, j = l.length - k ∧ k ≤ l.length ∧ (l.take k).any p = false ∧ a = [(0, .sl (l.map eLeaf)), (1, .fn (.func F) [] cs), (7, wI l.length), (8, wI k)] ∧ H = [] ∧ g' = g) rfl
    ⟨_, _, _, ⟨0, rfl, Nat.zero_le _, rfl, rfl, rfl, rfl⟩, Wk.fg ⟨by (repeat first | exact True.intro | refine And.intro ?_ ?_ | exact Or.inr (Or.inl rfl) | exact Or.inl rfl | (refine DLe.i rfl ?_; omega) | exact Or.inr (Or.inl rfl) | (refine DLe.i rfl ?_; simp; done)), rfl, (by first | decide | exact Nat.zero_le _ | exact Nat.le_refl _ | (first | omega | (simp only [List.length_set, List.length_replicate, List.length_append, List.length_map, List.length_cons, List.length_nil]; omega))), (by first | rfl | simp_all [lowB]), by (repeat first | exact bb_nil | refine bb_cons ?_ ?_ | exact eI_low _ _ | exact eDot_low _ _ | exact bb_dead | exact bb_free | exact bb_lit rfl | (simp [BlkBelow, lowB]; done))⟩⟩ ?_
  rintro j a H g' ⟨k, rfl, hk, hn, rfl, rfl, rfl⟩
  by_cases hlt : k < l.length
  · have hsn : ∀ lk, ([D.agg (eLeaf l[k])] ++ cs).map (snap lk 5) = [D.agg (eLeaf l[k])] ++ cs := fun lk => by rw [List.map_append, stab_snap hcs]; rfl
    repeat (any_goals (first | (refine d_RT ?_; (first | refine RT.nil ?_ | refine RT.callM rfl (hp l[k] (List.getElem_mem hlt)) (hsn _) rfl ?_ | refine RT.mvA ?_ | refine RT.asA ?_ | refine RT.ldA ?_ | refine RT.bnA ?_ | refine RT.ixA ?_)) | (refine d_VT ?_; (first | refine VT.seq rfl ?_ | refine VT.reg rfl ?_ | refine VT.condY rfl rfl (by first | assumption | omega) ?_ | refine VT.cond rfl rfl (fun hc => ?_) (fun hc => ?_) | refine VT.block rfl ?_ | refine VT.skip rfl ?_ | refine VT.ret rfl ?_)) | (with_reducible first | refine kSr ?_ | refine kBr ?_ | refine kLn ?_ | refine kLr ?_) | (with_reducible refine d_kEr ?_; refine kEr rfl ?_)))
    · rw [fidx_hit hlt hn hc]; rfl
    · exact ⟨l.length - (k + 1), by omega, _, _, ⟨k + 1, rfl, hlt, any_snoc hlt hn hc, rfl, rfl, rfl⟩, Wk.fg ⟨by (repeat first | exact True.intro | refine And.intro ?_ ?_ | exact Or.inr (Or.inl rfl) | exact Or.inl rfl | (refine DLe.i rfl ?_; omega) | exact Or.inr (Or.inl rfl) | (refine DLe.i rfl ?_; simp; done)), rfl, (by first | decide | exact Nat.zero_le _ | exact Nat.le_refl _ | (first | omega | (simp only [List.length_set, List.length_replicate, List.length_append, List.length_map, List.length_cons, List.length_nil]; omega))), (by first | rfl | simp_all [lowB]), by (repeat first | exact bb_nil | refine bb_cons ?_ ?_ | exact eI_low _ _ | exact eDot_low _ _ | exact bb_dead | exact bb_free | exact bb_lit rfl | (simp [BlkBelow, lowB]; done))⟩⟩
  · repeat (any_goals (first | (refine d_RT ?_; (first | refine RT.nil ?_ | refine RT.asA ?_ | refine RT.bnA ?_)) | (refine d_VT ?_; (first | refine VT.seq rfl ?_ | refine VT.reg rfl ?_ | refine VT.condN rfl rfl (by first | assumption | omega) ?_ | refine VT.exit rfl ?_ | refine VT.ret rfl ?_)) | (with_reducible refine d_kEr ?_; refine kEr rfl ?_)))
    rw [fidx_none hlt hn]; rfl

/-- slices.ContainsFunc. -/
theorem m_has_Leaf {p : Leaf → Bool} {F : FuncId} {cs : List D} {l : List (Leaf)} (hl : l.length ≤ 4611686018427387904) (hcs : cs.all stab1 = true) (hp : ∀ x, x ∈ l → Maps Tryz.prog F ([D.agg (eLeaf x)] ++ cs) (wB (p x))) : Maps Tryz.prog 78 [.sl (l.map eLeaf), .fn (.func F) [] cs] (wB (l.any p)) := by
  refine Maps.vt pok Tryz.f78 (n := 9) (rs := [.tmp 4]) rfl rfl rfl rfl rfl rfl fun g => ?_
  have hsn : ∀ lk, ([.sl (l.map eLeaf), .fn (.func F) [] cs] : List D).map (snap lk 5) = [.sl (l.map eLeaf), .fn (.func F) [] cs] := fun lk => by
    simp only [List.map_cons, List.map_nil, snap, stab_snap hcs]
  repeat (any_goals (first | (refine d_RT ?_; (first | refine RT.nil ?_ | refine RT.callM rfl (m_idx_Leaf hl hcs hp) (hsn _) rfl ?_ | refine RT.mvA ?_ | refine RT.asA ?_ | refine RT.bnA ?_)) | (refine d_VT ?_; (first | refine VT.seq rfl ?_ | refine VT.reg rfl ?_ | refine VT.ret rfl ?_)) | (with_reducible refine d_kEr ?_; refine kEr rfl ?_)))
  rw [← fidx_any]; rfl

theorem m_leafNo (x y : Leaf) : Maps Tryz.prog 79 ([.agg (eLeaf y)] ++ [.rp (eLeaf x)]) (wB (decide (y.Number = x.Number))) := by
  refine Maps.vt pok Tryz.f79 (n := 9) (rs := [.tmp 3]) rfl rfl rfl rfl rfl rfl fun g => ?_
  repeat (any_goals (first | (refine d_RT ?_; (first | refine RT.nil ?_ | refine RT.asA ?_ | refine RT.ldA ?_ | refine RT.faA ?_ | refine RT.bnA ?_ | refine RT.nwA ?_)) | (refine d_VT ?_; (first | refine VT.seq rfl ?_ | refine VT.reg rfl ?_ | refine VT.ret rfl ?_)) | (with_reducible refine d_kEr ?_; refine kEr rfl ?_)))
  rfl
def leafOk (s : Shape) (x : Leaf) : Bool := decide (1 ≤ x.Number ∧ x.Number ≤ s.Data + s.Checks) && (decide ((x.Words.length : Int) = s.Width) && x.Words.all (fun a => decide (W a)))
def numIn (l : List Leaf) (n : Int) : Bool := l.any fun y => decide (y.Number = n)
/-- The first error of leaves, behind some that are right. -/
def cklS (s : Shape) : List Leaf → List Leaf → Int
  | _, [] => 0
  | seen, x :: r => if leafOk s x = true then (if numIn seen x.Number = true then 6 else cklS s (seen ++ [x]) r) else 1
def CheckLeavesS (s : Shape) (l : List Leaf) : Int := if CheckS s = 0 then (if 40 < l.length then 2 else cklS s [] l) else CheckS s
theorem m_CheckLeaves (s : Shape) (l : List Leaf) (hl : l.length ≤ 4611686018427387904) (hw : ∀ x, x ∈ l → x.Words.length ≤ 4611686018427387904) : Maps Tryz.prog 23 [dSh s, .sl (l.map eLeaf)] (wI (CheckLeavesS s l)) := by
  refine Maps.vt pok Tryz.f23 (n := 52) (rs := [.tmp 4]) rfl rfl rfl rfl rfl rfl fun g => ?_
  have hk := m_Check s
  unfold CheckLeavesS
  rcases CheckS_cases s with ⟨e, h⟩ | ⟨e, h⟩
  · rw [e] at hk ⊢
    rw [if_pos rfl]
    by_cases h4 : 40 < l.length
    · rw [if_pos h4]
      repeat (any_goals (first | (refine d_RT ?_; (first | refine RT.nil ?_ | refine RT.mvA ?_ | refine RT.asA ?_ | refine RT.ldA ?_ | refine RT.bnA ?_ | (refine d_call ?_; (first | refine RT.callM rfl (hk) rfl rfl ?_ | refine RT.clA ?_)) | refine RT.nwA ?_)) | (refine d_VT ?_; (first | refine VT.seq rfl ?_ | refine VT.reg rfl ?_ | refine VT.condF rfl rfl ?_ | refine VT.condY rfl rfl (by first | assumption | omega) ?_ | refine VT.skip rfl ?_ | refine VT.ret rfl ?_)) | with_reducible (refine kSr ?_) | (with_reducible refine d_kEr ?_; refine kEr rfl ?_)))
      rfl
    · rw [if_neg h4]
      repeat (any_goals (first | (refine d_RT ?_; (first | refine RT.nil ?_ | refine RT.mvA ?_ | refine RT.asA ?_ | refine RT.ldA ?_ | refine RT.bnA ?_ | (refine d_call ?_; (first | refine RT.callM rfl (hk) rfl rfl ?_ | refine RT.clA ?_)) | refine RT.nwA ?_)) | (refine d_VT ?_; (first | refine VT.seq rfl ?_ | refine VT.reg rfl ?_ | refine VT.condF rfl rfl ?_ | refine VT.condN rfl rfl (by first | assumption | omega) ?_ | refine VT.block rfl ?_ | refine VT.skip rfl ?_))))
      refine VT.loop (fun j a H g' => ∃ k : Nat, j = l.length - k ∧ k ≤ l.length ∧ cklS s [] l = cklS s (l.take k) (l.drop k) ∧ a = [(1, .sl (l.map eLeaf)), (2, .mp 0 0 0), (16, .sl (l.map eLeaf)), (17, wI l.length), (18, wI k)] ∧ H = [.live 3 [eShape s]] ∧ g' = g) rfl
        ⟨_, _, _, ⟨0, rfl, Nat.zero_le _, rfl, rfl, rfl, rfl⟩, fgA⟩ ?_
      rintro j a H g' ⟨k, rfl, hkl, hn, rfl, rfl, rfl⟩
      by_cases hlt : k < l.length
      · rw [List.drop_eq_getElem_cons hlt, cklS] at hn
        rw [hn]
        have ha := m_all_Int (p := fun a => decide (W a)) (F := 77) (cs := []) (hw l[k] (List.getElem_mem hlt)) rfl fun y _ => m_word y
        have hc2 := m_has_Leaf (p := fun y => decide (y.Number = l[k].Number)) (F := 79) (cs := [.rp (eLeaf l[k])]) (l := l.take k) (by simp; omega) rfl fun y _ => m_leafNo l[k] y
        change Maps _ _ _ (wB (numIn (l.take k) l[k].Number)) at hc2
        by_cases q1 : 1 ≤ l[k].Number ∧ l[k].Number ≤ s.Data + s.Checks
        · by_cases q2 : (l[k].Words.length : Int) = s.Width
          · cases q3 : l[k].Words.all (fun a => decide (W a)) with
            | true =>
              have eo : leafOk s l[k] = true := by rw [leafOk, decide_eq_true q1, decide_eq_true q2, q3]; rfl
              rw [if_pos eo]
              rw [q3] at ha
              cases q4 : numIn (l.take k) l[k].Number with
              | true =>
                rw [if_pos rfl]
                rw [q4] at hc2
                repeat (any_goals (first | (refine d_RT ?_; (first | refine RT.nil ?_ | (refine d_g ?_; (first | refine RT.gy rfl ?_ | refine RT.gcN rfl rfl rfl (by first | assumption | omega) ?_)) | refine RT.mvA ?_ | refine RT.asA ?_ | refine RT.ldA ?_ | refine RT.faA ?_ | refine RT.bnA ?_ | (refine d_call ?_; (first | refine RT.callM rfl (m_within _ _ _) rfl rfl ?_ | refine RT.callM rfl (ha) rfl rfl ?_ | refine RT.callM rfl (hc2) rfl rfl ?_ | refine RT.clA ?_)) | refine RT.pkA ?_ | refine RT.ixA ?_ | refine RT.unA ?_ | refine RT.stA ?_ | refine RT.nwA ?_ | refine RT.msA ?_)) | (refine d_VT ?_; (first | refine VT.seq rfl ?_ | refine VT.reg rfl ?_ | refine VT.condT rfl rfl ?_ | refine VT.condF rfl rfl ?_ | refine VT.condY rfl rfl (by first | assumption | omega) ?_ | refine VT.block rfl ?_ | refine VT.skip rfl ?_ | refine VT.ret rfl ?_)) | (with_reducible first | refine kSr ?_ | refine kBr ?_ | refine kLr ?_) | (with_reducible refine d_kEr ?_; refine kEr rfl ?_)))
                rfl
              | false =>
                rw [if_neg (by simp)]
                rw [q4] at hc2
                repeat (any_goals (first | (refine d_RT ?_; (first | refine RT.nil ?_ | (refine d_g ?_; (first | refine RT.gy rfl ?_ | refine RT.gcN rfl rfl rfl (by first | assumption | omega) ?_)) | refine RT.mvA ?_ | refine RT.asA ?_ | refine RT.ldA ?_ | refine RT.faA ?_ | refine RT.bnA ?_ | (refine d_call ?_; (first | refine RT.callM rfl (m_within _ _ _) rfl rfl ?_ | refine RT.callM rfl (ha) rfl rfl ?_ | refine RT.callM rfl (hc2) rfl rfl ?_ | refine RT.clA ?_)) | refine RT.pkA ?_ | refine RT.ixA ?_ | refine RT.unA ?_ | refine RT.stA ?_ | refine RT.nwA ?_ | refine RT.msA ?_)) | (refine d_VT ?_; (first | refine VT.seq rfl ?_ | refine VT.reg rfl ?_ | refine VT.condF rfl rfl ?_ | refine VT.condY rfl rfl (by first | assumption | omega) ?_ | refine VT.block rfl ?_ | refine VT.skip rfl ?_)) | with_reducible (refine kLn ?_)))
                exact ⟨l.length - (k + 1), by omega, _, _, ⟨k + 1, rfl, hlt, by rw [List.take_succ_eq_append_getElem hlt], rfl, rfl, rfl⟩, fgA⟩
            | false =>
              have eo : leafOk s l[k] = false := by rw [leafOk, q3]; simp
              rw [if_neg (by rw [eo]; simp)]
              rw [q3] at ha
              repeat (any_goals (first | (refine d_RT ?_; (first | refine RT.nil ?_ | (refine d_g ?_; (first | refine RT.gy rfl ?_ | refine RT.gcN rfl rfl rfl (by first | assumption | omega) ?_)) | refine RT.mvA ?_ | refine RT.asA ?_ | refine RT.ldA ?_ | refine RT.faA ?_ | refine RT.bnA ?_ | (refine d_call ?_; (first | refine RT.callM rfl (m_within _ _ _) rfl rfl ?_ | refine RT.callM rfl (ha) rfl rfl ?_ | refine RT.clA ?_)) | refine RT.pkA ?_ | refine RT.ixA ?_ | refine RT.unA ?_ | refine RT.stA ?_ | refine RT.nwA ?_)) | (refine d_VT ?_; (first | refine VT.seq rfl ?_ | refine VT.reg rfl ?_ | refine VT.condT rfl rfl ?_ | refine VT.condY rfl rfl (by first | assumption | omega) ?_ | refine VT.block rfl ?_ | refine VT.skip rfl ?_ | refine VT.ret rfl ?_)) | (with_reducible first | refine kSr ?_ | refine kBr ?_ | refine kLr ?_) | (with_reducible refine d_kEr ?_; refine kEr rfl ?_)))
              rfl
          · have eo : leafOk s l[k] = false := by rw [leafOk, decide_eq_false q2]; simp
            rw [if_neg (by rw [eo]; simp)]
            repeat (any_goals (first | (refine d_RT ?_; (first | refine RT.nil ?_ | (refine d_g ?_; (first | refine RT.gy rfl ?_ | refine RT.gn rfl rfl ?_ | refine RT.gcY rfl rfl rfl (by first | assumption | omega) ?_ | refine RT.gcN rfl rfl rfl (by first | assumption | omega) ?_)) | refine RT.mvA ?_ | refine RT.asA ?_ | refine RT.ldA ?_ | refine RT.faA ?_ | refine RT.bnA ?_ | (refine d_call ?_; (first | refine RT.callM rfl (m_within _ _ _) rfl rfl ?_ | refine RT.clA ?_)) | refine RT.pkA ?_ | refine RT.ixA ?_ | refine RT.unA ?_ | refine RT.stA ?_ | refine RT.nwA ?_)) | (refine d_VT ?_; (first | refine VT.seq rfl ?_ | refine VT.reg rfl ?_ | refine VT.condT rfl rfl ?_ | refine VT.condY rfl rfl (by first | assumption | omega) ?_ | refine VT.block rfl ?_ | refine VT.skip rfl ?_ | refine VT.ret rfl ?_)) | (with_reducible first | refine kSr ?_ | refine kBr ?_ | refine kLr ?_) | (with_reducible refine d_kEr ?_; refine kEr rfl ?_)))
            rfl
        · have eo : leafOk s l[k] = false := by rw [leafOk, decide_eq_false q1]; simp
          rw [if_neg (by rw [eo]; simp)]
          repeat (any_goals (first | (refine d_RT ?_; (first | refine RT.nil ?_ | (refine d_g ?_; (first | refine RT.gn rfl rfl ?_ | refine RT.gcY rfl rfl rfl (by first | assumption | omega) ?_)) | refine RT.mvA ?_ | refine RT.asA ?_ | refine RT.ldA ?_ | refine RT.faA ?_ | refine RT.bnA ?_ | refine RT.callM rfl (m_within _ _ _) rfl rfl ?_ | refine RT.pkA ?_ | refine RT.ixA ?_ | refine RT.unA ?_ | refine RT.stA ?_ | refine RT.nwA ?_)) | (refine d_VT ?_; (first | refine VT.seq rfl ?_ | refine VT.reg rfl ?_ | refine VT.condT rfl rfl ?_ | refine VT.condY rfl rfl (by first | assumption | omega) ?_ | refine VT.block rfl ?_ | refine VT.skip rfl ?_ | refine VT.ret rfl ?_)) | (with_reducible first | refine kSr ?_ | refine kBr ?_ | refine kLr ?_) | (with_reducible refine d_kEr ?_; refine kEr rfl ?_)))
          rfl
      · rw [hn, List.drop_eq_nil_of_le (by omega), cklS]
        repeat (any_goals (first | (refine d_RT ?_; (first | refine RT.nil ?_ | refine RT.asA ?_ | refine RT.bnA ?_)) | (refine d_VT ?_; (first | refine VT.seq rfl ?_ | refine VT.reg rfl ?_ | refine VT.condN rfl rfl (by first | assumption | omega) ?_ | refine VT.exit rfl ?_ | refine VT.ret rfl ?_)) | (with_reducible refine d_kEr ?_; refine kEr rfl ?_)))
        rfl
  · rw [e] at hk ⊢
    rw [if_neg (by decide)]
    repeat (any_goals (first | (refine d_RT ?_; (first | refine RT.nil ?_ | refine RT.mvA ?_ | refine RT.asA ?_ | refine RT.ldA ?_ | refine RT.bnA ?_ | refine RT.callM rfl (hk) rfl rfl ?_ | refine RT.nwA ?_)) | (refine d_VT ?_; (first | refine VT.seq rfl ?_ | refine VT.reg rfl ?_ | refine VT.condT rfl rfl ?_ | refine VT.ret rfl ?_)) | with_reducible (refine kSr ?_) | (with_reducible refine d_kEr ?_; refine kEr rfl ?_)))
    rfl
end Go.DL
