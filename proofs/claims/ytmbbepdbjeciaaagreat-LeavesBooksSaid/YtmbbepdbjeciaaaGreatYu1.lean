/- CheckLines of both programs; lines compared. -/
import Derived.Test.YtmbbepdbjeciaaaGreatZs
import Derived.Test.YtmbbepdbjeciaaaGreatZx
import Derived.Test.YtmbbepdbjeciaaaGreatE6
set_option maxRecDepth 100000
set_option maxHeartbeats 16000000
namespace Go.DL
open Go.Proofs Go

/-- slices.IndexFunc. -/
theorem m_idx_Line {p : Line → Bool} {F : FuncId} {cs : List D} {l : List (Line)} (hl : l.length ≤ 4611686018427387904) (hcs : cs.all stab1 = true) (hp : ∀ x, x ∈ l → Maps Tryz.prog F ([D.agg (eLine x)] ++ cs) (wB (p x))) : Maps Tryz.prog 142 [.sl (l.map eLine), .fn (.func F) [] cs] (wI (fidx p l)) := by
  refine Maps.vt pok Tryz.f142 (n := 19) (rs := [.tmp 4]) rfl rfl rfl rfl rfl rfl fun g => ?_
  have hcb := stab_low hcs 2 0
  repeat (any_goals (first | (apply w_any; (first | refine RT.nil ?_ | refine RT.mvA ?_ | refine RT.asA ?_ | refine RT.clA ?_)) | (apply v_any; (first | refine VT.seq rfl ?_ | refine VT.reg rfl ?_ | refine VT.block rfl ?_))))
  refine VT.loop (fun j a H g' => ∃ k : Nat, j = l.length - k ∧ k ≤ l.length ∧ (l.take k).any p = false ∧ a = [(0, .sl (l.map eLine)), (1, .fn (.func F) [] cs), (7, wI l.length), (8, wI k)] ∧ H = [] ∧ g' = g) rfl
    ⟨_, _, _, ⟨0, rfl, Nat.zero_le _, rfl, rfl, rfl, rfl⟩, Wk.fg ⟨by (repeat first | exact True.intro | refine And.intro ?_ ?_ | exact Or.inr (Or.inl rfl) | exact Or.inl rfl | (refine DLe.i rfl ?_; omega) | exact Or.inr (Or.inl rfl) | (refine DLe.i rfl ?_; simp; done)), rfl, (by first | decide | exact Nat.zero_le _ | exact Nat.le_refl _ | (first | omega | (simp only [List.length_set, List.length_replicate, List.length_append, List.length_map, List.length_cons, List.length_nil]; omega))), (by first | rfl | simp_all [lowB]), by (repeat first | exact bb_nil | refine bb_cons ?_ ?_ | exact eI_low _ _ | exact eDot_low _ _ | exact bb_dead | exact bb_free | exact bb_lit rfl | (simp [BlkBelow, lowB]; done))⟩⟩ ?_
  rintro j a H g' ⟨k, rfl, hk, hn, rfl, rfl, rfl⟩
  by_cases hlt : k < l.length
  · have hsn : ∀ lk, ([D.agg (eLine l[k])] ++ cs).map (snap lk 5) = [D.agg (eLine l[k])] ++ cs := fun lk => by rw [List.map_append, stab_snap hcs]; rfl
    repeat (any_goals (first | (apply w_any; (first | refine RT.nil ?_ | refine RT.mvA ?_ | refine RT.asA ?_ | refine RT.ldA ?_ | refine RT.bnA ?_ | refine RT.callM rfl (hp l[k] (List.getElem_mem hlt)) (hsn _) rfl ?_ | refine RT.ixA ?_)) | (apply v_any; (first | refine VT.seq rfl ?_ | refine VT.reg rfl ?_ | refine VT.block rfl ?_ | refine VT.skip rfl ?_ | refine VT.ret rfl ?_ | refine VT.condY rfl rfl (by first | assumption | omega) ?_ | refine VT.cond rfl rfl (fun hc => ?_) (fun hc => ?_))) | (with_reducible first | refine kSr ?_ | refine kBr ?_ | refine kLn ?_ | refine kLr ?_) | (with_reducible refine d_kEr ?_; refine kEr rfl ?_)))
    · rw [fidx_hit hlt hn hc]; rfl
    · exact ⟨l.length - (k + 1), by omega, _, _, ⟨k + 1, rfl, hlt, any_snoc hlt hn hc, rfl, rfl, rfl⟩, Wk.fg ⟨by (repeat first | exact True.intro | refine And.intro ?_ ?_ | exact Or.inr (Or.inl rfl) | exact Or.inl rfl | (refine DLe.i rfl ?_; omega) | exact Or.inr (Or.inl rfl) | (refine DLe.i rfl ?_; simp; done)), rfl, (by first | decide | exact Nat.zero_le _ | exact Nat.le_refl _ | (first | omega | (simp only [List.length_set, List.length_replicate, List.length_append, List.length_map, List.length_cons, List.length_nil]; omega))), (by first | rfl | simp_all [lowB]), by (repeat first | exact bb_nil | refine bb_cons ?_ ?_ | exact eI_low _ _ | exact eDot_low _ _ | exact bb_dead | exact bb_free | exact bb_lit rfl | (simp [BlkBelow, lowB]; done))⟩⟩
  · repeat (any_goals (first | (apply w_any; (first | refine RT.nil ?_ | refine RT.asA ?_ | refine RT.bnA ?_)) | (apply v_any; (first | refine VT.seq rfl ?_ | refine VT.reg rfl ?_ | refine VT.exit rfl ?_ | refine VT.ret rfl ?_ | refine VT.condN rfl rfl (by first | assumption | omega) ?_)) | (with_reducible refine d_kEr ?_; refine kEr rfl ?_)))
    rw [fidx_none hlt hn]; rfl

/-- slices.ContainsFunc. -/
theorem m_has_Line {p : Line → Bool} {F : FuncId} {cs : List D} {l : List (Line)} (hl : l.length ≤ 4611686018427387904) (hcs : cs.all stab1 = true) (hp : ∀ x, x ∈ l → Maps Tryz.prog F ([D.agg (eLine x)] ++ cs) (wB (p x))) : Maps Tryz.prog 93 [.sl (l.map eLine), .fn (.func F) [] cs] (wB (l.any p)) := by
  refine Maps.vt pok Tryz.f93 (n := 9) (rs := [.tmp 4]) rfl rfl rfl rfl rfl rfl fun g => ?_
  have hsn : ∀ lk, ([.sl (l.map eLine), .fn (.func F) [] cs] : List D).map (snap lk 5) = [.sl (l.map eLine), .fn (.func F) [] cs] := fun lk => by
    simp only [List.map_cons, List.map_nil, snap, stab_snap hcs]
  repeat (any_goals (first | (apply w_any; (first | refine RT.nil ?_ | refine RT.mvA ?_ | refine RT.asA ?_ | refine RT.bnA ?_ | refine RT.callM rfl (m_idx_Line hl hcs hp) (hsn _) rfl ?_)) | (apply v_any; (first | refine VT.seq rfl ?_ | refine VT.reg rfl ?_ | refine VT.ret rfl ?_)) | (with_reducible refine d_kEr ?_; refine kEr rfl ?_)))
  rw [← fidx_any]; rfl

def lineV (x : Line) : Bool := decide (1 ≤ x.ID ∧ x.ID ≤ 1099511627776) && (decide (0 ≤ x.Day ∧ x.Day ≤ 728) && (decide (0 ≤ x.What ∧ x.What ≤ 1000) && decide (0 ≤ x.Worth ∧ x.Worth ≤ 2147483647)))
def idIn (l : List Line) (n : Int) : Bool := l.any fun y => decide (y.ID = n)
/-- The first error of lines, behind some that are right. -/
def clS : List Line → List Line → Int
  | _, [] => 0
  | seen, x :: r => if lineV x = true then (if idIn seen x.ID = true then 6 else clS (seen ++ [x]) r) else 1
def CheckLinesS (l : List Line) : Int := if 60 < l.length then 2 else clS [] l
theorem m_valid (x : Line) : Maps Tryz.prog 92 [.agg (eLine x)] (wB (lineV x)) := by
  refine Maps.vt pok Tryz.f92 (n := 21) (rs := [.tmp 2]) rfl rfl rfl rfl rfl rfl fun g => ?_
  unfold lineV
  by_cases q0 : 1 ≤ x.ID ∧ x.ID ≤ 1099511627776
  · rw [decide_eq_true q0, Bool.true_and]
    by_cases q1 : 0 ≤ x.Day ∧ x.Day ≤ 728
    · rw [decide_eq_true q1, Bool.true_and]
      by_cases q2 : 0 ≤ x.What ∧ x.What ≤ 1000
      · rw [decide_eq_true q2, Bool.true_and]
        repeat (any_goals (first | (apply w_any; (first | refine RT.nil ?_ | (apply w_g; (first | refine RT.gy rfl ?_ | refine RT.gcY rfl rfl rfl (by first | assumption | omega) ?_)) | refine RT.mvA ?_ | refine RT.asA ?_ | refine RT.ldA ?_ | refine RT.faA ?_ | refine RT.callM rfl (m_within _ _ _) rfl rfl ?_ | refine RT.pkA ?_ | refine RT.nwA ?_)) | (apply v_any; (first | refine VT.seq rfl ?_ | refine VT.reg rfl ?_ | refine VT.ret rfl ?_)) | (with_reducible refine d_kEr ?_; refine kEr rfl ?_)))
        rfl
      · rw [decide_eq_false q2, Bool.false_and]
        repeat (any_goals (first | (apply w_any; (first | refine RT.nil ?_ | (apply w_g; (first | refine RT.gy rfl ?_ | refine RT.gn rfl rfl ?_ | refine RT.gcY rfl rfl rfl (by first | assumption | omega) ?_ | refine RT.gcN rfl rfl rfl (by first | assumption | omega) ?_)) | refine RT.mvA ?_ | refine RT.asA ?_ | refine RT.ldA ?_ | refine RT.faA ?_ | refine RT.callM rfl (m_within _ _ _) rfl rfl ?_ | refine RT.pkA ?_ | refine RT.nwA ?_)) | (apply v_any; (first | refine VT.seq rfl ?_ | refine VT.reg rfl ?_ | refine VT.ret rfl ?_)) | (with_reducible refine d_kEr ?_; refine kEr rfl ?_)))
        rfl
    · rw [decide_eq_false q1, Bool.false_and]
      repeat (any_goals (first | (apply w_any; (first | refine RT.nil ?_ | (apply w_g; (first | refine RT.gy rfl ?_ | refine RT.gn rfl rfl ?_ | refine RT.gcY rfl rfl rfl (by first | assumption | omega) ?_ | refine RT.gcN rfl rfl rfl (by first | assumption | omega) ?_)) | refine RT.mvA ?_ | refine RT.asA ?_ | refine RT.ldA ?_ | refine RT.faA ?_ | refine RT.callM rfl (m_within _ _ _) rfl rfl ?_ | refine RT.pkA ?_ | refine RT.nwA ?_)) | (apply v_any; (first | refine VT.seq rfl ?_ | refine VT.reg rfl ?_ | refine VT.ret rfl ?_)) | (with_reducible refine d_kEr ?_; refine kEr rfl ?_)))
      rfl
  · rw [decide_eq_false q0, Bool.false_and]
    repeat (any_goals (first | (apply w_any; (first | refine RT.nil ?_ | (apply w_g; (first | refine RT.gn rfl rfl ?_ | refine RT.gcN rfl rfl rfl (by first | assumption | omega) ?_)) | refine RT.mvA ?_ | refine RT.asA ?_ | refine RT.ldA ?_ | refine RT.faA ?_ | refine RT.callM rfl (m_within _ _ _) rfl rfl ?_ | refine RT.pkA ?_ | refine RT.nwA ?_)) | (apply v_any; (first | refine VT.seq rfl ?_ | refine VT.reg rfl ?_ | refine VT.ret rfl ?_)) | (with_reducible refine d_kEr ?_; refine kEr rfl ?_)))
    rfl
theorem m_lineNo (x y : Line) : Maps Tryz.prog 94 ([.agg (eLine y)] ++ [.rp (eLine x)]) (wB (decide (y.ID = x.ID))) := by
  refine Maps.vt pok Tryz.f94 (n := 9) (rs := [.tmp 3]) rfl rfl rfl rfl rfl rfl fun g => ?_
  repeat (any_goals (first | (apply w_any; (first | refine RT.nil ?_ | refine RT.asA ?_ | refine RT.ldA ?_ | refine RT.faA ?_ | refine RT.bnA ?_ | refine RT.nwA ?_)) | (apply v_any; (first | refine VT.seq rfl ?_ | refine VT.reg rfl ?_ | refine VT.ret rfl ?_)) | (with_reducible refine d_kEr ?_; refine kEr rfl ?_)))
  rfl
theorem m_CheckLines (l : List Line) (hl : l.length ≤ 4611686018427387904) : Maps Tryz.prog 39 [.sl (l.map eLine)] (wI (CheckLinesS l)) := by
  refine Maps.vt pok Tryz.f39 (n := 24) (rs := [.tmp 2]) rfl rfl rfl rfl rfl rfl fun g => ?_
  unfold CheckLinesS
  by_cases h4 : 60 < l.length
  · rw [if_pos h4]
    repeat (any_goals (first | (apply w_any; (first | refine RT.nil ?_ | refine RT.mvA ?_ | refine RT.asA ?_ | refine RT.v (f_gtrT rfl rfl (by omega)) ?_ | refine RT.clA ?_)) | (apply v_any; (first | refine VT.seq rfl ?_ | refine VT.reg rfl ?_ | refine VT.condT rfl rfl ?_ | refine VT.ret rfl ?_)) | with_reducible (refine kSr ?_) | (with_reducible refine d_kEr ?_; refine kEr rfl ?_)))
    rfl
  · rw [if_neg h4]
    repeat (any_goals (first | (apply w_any; (first | refine RT.nil ?_ | refine RT.mvA ?_ | refine RT.asA ?_ | refine RT.v (f_gtrF rfl rfl (by omega)) ?_ | refine RT.clA ?_)) | (apply v_any; (first | refine VT.seq rfl ?_ | refine VT.reg rfl ?_ | refine VT.condF rfl rfl ?_ | refine VT.block rfl ?_ | refine VT.skip rfl ?_))))
    refine VT.loop (fun j a H g' => ∃ k : Nat, j = l.length - k ∧ k ≤ l.length ∧ clS [] l = clS (l.take k) (l.drop k) ∧ a = [(0, .sl (l.map eLine)), (8, .sl (l.map eLine)), (9, wI l.length), (10, wI k)] ∧ H = [] ∧ g' = g) rfl
      ⟨_, _, _, ⟨0, rfl, Nat.zero_le _, rfl, rfl, rfl, rfl⟩, fgA⟩ ?_
    rintro j a H g' ⟨k, rfl, hkl, hn, rfl, rfl, rfl⟩
    by_cases hlt : k < l.length
    · rw [List.drop_eq_getElem_cons hlt, clS] at hn
      rw [hn]
      have ha := m_valid l[k]
      have hc2 := m_has_Line (p := fun y => decide (y.ID = l[k].ID)) (F := 94) (cs := [.rp (eLine l[k])]) (l := l.take k) (by simp; omega) rfl fun y _ => m_lineNo l[k] y
      change Maps _ _ _ (wB (idIn (l.take k) l[k].ID)) at hc2
      cases q3 : lineV l[k] with
      | true =>
        rw [if_pos rfl]
        rw [q3] at ha
        cases q4 : idIn (l.take k) l[k].ID with
        | true =>
          rw [if_pos rfl]
          rw [q4] at hc2
          repeat (any_goals (first | (apply w_any; (first | refine RT.nil ?_ | refine RT.mvA ?_ | refine RT.asA ?_ | refine RT.ldA ?_ | refine RT.bnA ?_ | (apply w_cl; (first | refine RT.callM rfl (ha) rfl rfl ?_ | refine RT.callM rfl (hc2) rfl rfl ?_)) | refine RT.ixA ?_ | refine RT.unA ?_ | refine RT.stA ?_ | refine RT.nwA ?_ | refine RT.msA ?_ | refine RT.msA ?_)) | (apply v_any; (first | refine VT.seq rfl ?_ | refine VT.reg rfl ?_ | refine VT.condT rfl rfl ?_ | refine VT.condF rfl rfl ?_ | refine VT.block rfl ?_ | refine VT.skip rfl ?_ | refine VT.ret rfl ?_ | refine VT.condY rfl rfl (by first | assumption | omega) ?_)) | (with_reducible first | refine kSr ?_ | refine kBr ?_ | refine kLr ?_) | (with_reducible refine d_kEr ?_; refine kEr rfl ?_)))
          rfl
        | false =>
          rw [if_neg (by simp)]
          rw [q4] at hc2
          repeat (any_goals (first | (apply w_any; (first | refine RT.nil ?_ | refine RT.mvA ?_ | refine RT.asA ?_ | refine RT.ldA ?_ | refine RT.bnA ?_ | (apply w_cl; (first | refine RT.callM rfl (ha) rfl rfl ?_ | refine RT.callM rfl (hc2) rfl rfl ?_)) | refine RT.ixA ?_ | refine RT.unA ?_ | refine RT.stA ?_ | refine RT.nwA ?_ | refine RT.msA ?_ | refine RT.msA ?_)) | (apply v_any; (first | refine VT.seq rfl ?_ | refine VT.reg rfl ?_ | refine VT.condF rfl rfl ?_ | refine VT.block rfl ?_ | refine VT.skip rfl ?_ | refine VT.condY rfl rfl (by first | assumption | omega) ?_)) | with_reducible (refine kLn ?_)))
          exact ⟨l.length - (k + 1), by omega, _, _, ⟨k + 1, rfl, hlt, by rw [List.take_succ_eq_append_getElem hlt], rfl, rfl, rfl⟩, fgA⟩
      | false =>
        rw [if_neg (by simp)]
        rw [q3] at ha
        repeat (any_goals (first | (apply w_any; (first | refine RT.nil ?_ | refine RT.mvA ?_ | refine RT.asA ?_ | refine RT.ldA ?_ | refine RT.bnA ?_ | refine RT.callM rfl (ha) rfl rfl ?_ | refine RT.ixA ?_ | refine RT.unA ?_ | refine RT.stA ?_ | refine RT.nwA ?_)) | (apply v_any; (first | refine VT.seq rfl ?_ | refine VT.reg rfl ?_ | refine VT.condT rfl rfl ?_ | refine VT.block rfl ?_ | refine VT.skip rfl ?_ | refine VT.ret rfl ?_ | refine VT.condY rfl rfl (by first | assumption | omega) ?_)) | (with_reducible first | refine kSr ?_ | refine kBr ?_ | refine kLr ?_) | (with_reducible refine d_kEr ?_; refine kEr rfl ?_)))
        rfl
    · rw [hn, List.drop_eq_nil_of_le (by omega), clS]
      repeat (any_goals (first | (apply w_any; (first | refine RT.nil ?_ | refine RT.asA ?_ | refine RT.bnA ?_)) | (apply v_any; (first | refine VT.seq rfl ?_ | refine VT.reg rfl ?_ | refine VT.exit rfl ?_ | refine VT.ret rfl ?_ | refine VT.condN rfl rfl (by first | assumption | omega) ?_)) | (with_reducible refine d_kEr ?_; refine kEr rfl ?_)))
      rfl
def linesS (l : List Line) : Bool := decide (l.length ≤ 8 ∨ 60 < l.length ∧ l.length ≤ 70)
theorem m_lines (l : List Line) (hl : l.length ≤ 4611686018427387904) : Maps Tryz.prog 33 [.sl (l.map eLine)] (wB (linesS l)) := by
  refine Maps.vt pok Tryz.f33 (n := 16) (rs := [.tmp 2]) rfl rfl rfl rfl rfl rfl fun g => ?_
  unfold linesS
  by_cases h1 : l.length ≤ 8
  · rw [decide_eq_true (.inl h1)]
    repeat (any_goals (first | (apply w_any; (first | refine RT.nil ?_ | (apply w_g; (first | refine RT.gn rfl rfl ?_ | refine RT.gu rfl ?_ | refine RT.gcY rfl rfl rfl (by first | assumption | omega) ?_)) | refine RT.mvA ?_ | refine RT.asA ?_ | refine RT.bnA ?_ | refine RT.clA ?_ | refine RT.pkA ?_)) | (apply v_any; (first | refine VT.seq rfl ?_ | refine VT.reg rfl ?_ | refine VT.ret rfl ?_)) | (with_reducible refine d_kEr ?_; refine kEr rfl ?_)))
    rfl
  · by_cases h2 : 60 < l.length
    · by_cases h3 : l.length ≤ 70
      · rw [decide_eq_true (.inr ⟨h2, h3⟩)]
        repeat (any_goals (first | (apply w_any; (first | refine RT.nil ?_ | refine RT.gy rfl ?_ | refine RT.mvA ?_ | refine RT.asA ?_ | (apply w_bn; (first | refine RT.v (f_leqT rfl rfl (by omega)) ?_ | refine RT.v (f_leqF rfl rfl (by omega)) ?_ | refine RT.v (f_gtrT rfl rfl (by omega)) ?_)) | refine RT.clA ?_ | refine RT.pkA ?_)) | (apply v_any; (first | refine VT.seq rfl ?_ | refine VT.reg rfl ?_ | refine VT.ret rfl ?_)) | (with_reducible refine d_kEr ?_; refine kEr rfl ?_)))
        rfl
      · rw [decide_eq_false (by omega)]
        repeat (any_goals (first | (apply w_any; (first | refine RT.nil ?_ | refine RT.gy rfl ?_ | refine RT.mvA ?_ | refine RT.asA ?_ | (apply w_bn; (first | refine RT.v (f_leqF rfl rfl (by omega)) ?_ | refine RT.v (f_gtrT rfl rfl (by omega)) ?_)) | refine RT.clA ?_ | refine RT.pkA ?_)) | (apply v_any; (first | refine VT.seq rfl ?_ | refine VT.reg rfl ?_ | refine VT.ret rfl ?_)) | (with_reducible refine d_kEr ?_; refine kEr rfl ?_)))
        rfl
    · rw [decide_eq_false (by omega)]
      repeat (any_goals (first | (apply w_any; (first | refine RT.nil ?_ | (apply w_g; (first | refine RT.gy rfl ?_ | refine RT.gn rfl rfl ?_)) | refine RT.mvA ?_ | refine RT.asA ?_ | (apply w_bn; (first | refine RT.v (f_leqF rfl rfl (by omega)) ?_ | refine RT.v (f_gtrF rfl rfl (by omega)) ?_)) | refine RT.clA ?_ | refine RT.pkA ?_)) | (apply v_any; (first | refine VT.seq rfl ?_ | refine VT.reg rfl ?_ | refine VT.ret rfl ?_)) | (with_reducible refine d_kEr ?_; refine kEr rfl ?_)))
      rfl
end Go.DL
