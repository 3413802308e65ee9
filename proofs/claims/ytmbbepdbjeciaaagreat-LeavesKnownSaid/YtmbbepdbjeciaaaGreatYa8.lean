/- Forks of both programs. -/
import Derived.Test.YtmbbepdbjeciaaaGreatYa7
set_option maxRecDepth 100000
set_option maxHeartbeats 16000000
namespace Go.DL
open Go.Proofs Go
def ForksS (a b : List Line) : List Int × Int := if lined a b = 0 then (sortI (forkW a b), 0) else ([], lined a b)
theorem lined_ok {a b : List Line} (h : lined a b = 0) : LinesOk a ∧ LinesOk b := by
  unfold lined at h
  by_cases ha : CheckLinesS a = 0
  · rw [if_pos ha] at h; exact ⟨(checkLines_iff a).1 ha, (checkLines_iff b).1 h⟩
  · rw [if_neg ha] at h; exact absurd h ha
theorem m_Forks (a b : List Line) (hl : a.length ≤ 4611686018427387904) (hl' : b.length ≤ 4611686018427387904) : Maps Tryz.prog 51 [.sl (a.map eLine), .sl (b.map eLine)] (.tup [.fl ((ForksS a b).1.map eI), wI (ForksS a b).2]) := by
  refine Maps.vt pok Tryz.f51 (n := 16) (rs := [.tmp 4, .tmp 5]) rfl rfl rfl rfl rfl rfl fun g => ?_
  have hd := m_lined a b hl hl'
  unfold ForksS
  by_cases h : lined a b = 0
  · obtain ⟨ha, hb⟩ := lined_ok h
    have hm := m_forks a b ha (by have := hb.1; omega)
    rw [h] at hd
    rw [if_pos h]
    repeat (any_goals (first | (apply w_any; (first | refine RT.nil ?_ | refine RT.mvA ?_ | refine RT.asA ?_ | refine RT.bnA ?_ | (apply w_cl; (first | refine RT.callM rfl (hd) rfl rfl ?_ | refine RT.callM rfl (hm) rfl rfl ?_)))) | (apply v_any; (first | refine VT.seq rfl ?_ | refine VT.reg rfl ?_ | refine VT.condF rfl rfl ?_ | refine VT.skip rfl ?_ | refine VT.ret rfl ?_)) | (with_reducible refine d_kEr ?_; refine kEr rfl ?_)))
    rfl
  · rw [if_neg h]
    repeat (any_goals (first | (apply w_any; (first | refine RT.nil ?_ | refine RT.mvA ?_ | refine RT.asA ?_ | refine RT.bnA ?_ | refine RT.callM rfl (hd) rfl rfl ?_)) | (apply v_any; (first | refine VT.seq rfl ?_ | refine VT.reg rfl ?_ | refine VT.ret rfl ?_ | refine VT.condY rfl rfl (by first | assumption | omega) ?_)) | with_reducible (refine kSr ?_) | (with_reducible refine d_kEr ?_; refine kEr rfl ?_)))
    rfl
/-! ### what the document finds -/
def forkQ (x : Line) (b : List Line) : List Int := (b.filter fun y => decide (x.ID = y.ID) && !decide (x = y)).map fun _ => x.ID
def forkR (a b : List Line) : List Int := a.flatMap fun x => forkQ x b
theorem forkQ_eq (x : Line) (b : List Line) : forkQ x b = (b.filter fun y => decide (x.ID = y.ID) && !decide (x = y)).map Line.ID :=
  List.map_congr_left fun y hy => by
    have := (List.mem_filter.1 hy).2
    simp only [Bool.and_eq_true, decide_eq_true_eq] at this
    exact this.1
theorem ids_nodup {b : List Line} (h : b.Pairwise (fun x y => ¬ x.ID = y.ID)) (p : Line → Bool) : ((b.filter p).map Line.ID).Nodup := by
  rw [List.Nodup, List.pairwise_map]
  exact (h.sublist List.filter_sublist).imp fun h e => h e
theorem forkR_nodup {b : List Line} (hb : b.Pairwise (fun x y => ¬ x.ID = y.ID)) : ∀ a : List Line, a.Pairwise (fun x y => ¬ x.ID = y.ID) → (forkR a b).Nodup
  | [], _ => List.nodup_nil
  | x :: a, h => by
    obtain ⟨h1, h2⟩ := List.pairwise_cons.1 h
    rw [forkR, List.flatMap_cons]
    refine List.nodup_append.2 ⟨by rw [forkQ_eq]; exact ids_nodup hb _, forkR_nodup hb a h2, fun n hn m hm e => ?_⟩
    subst e
    obtain ⟨_, _, rfl⟩ := List.mem_map.1 hn
    obtain ⟨x', hx', hm2⟩ := List.mem_flatMap.1 hm
    obtain ⟨_, _, e2⟩ := List.mem_map.1 hm2
    exact h1 x' hx' e2.symm
theorem fork_perm {a b : List Line} (ha : LinesOk a) (hb : LinesOk b) : (forkR a b).Perm (forkW a b) := by
  refine (List.perm_ext_iff_of_nodup (forkR_nodup hb.2.2 a ha.2.2) (ids_nodup hb.2.2 _)).2 fun n => ?_
  constructor
  · intro h
    obtain ⟨x, hx, h2⟩ := List.mem_flatMap.1 h
    rw [forkQ_eq] at h2
    obtain ⟨y, hy, rfl⟩ := List.mem_map.1 h2
    obtain ⟨hy1, hy2⟩ := List.mem_filter.1 hy
    simp only [Bool.and_eq_true, decide_eq_true_eq, Bool.not_eq_true', decide_eq_false_iff_not] at hy2
    refine List.mem_map.2 ⟨y, List.mem_filter.2 ⟨hy1, ?_⟩, rfl⟩
    unfold fkB
    cases hf : a.find? (fun x => decide (x.ID = y.ID)) with
    | none => exact absurd hy2.1 (by simpa using List.find?_eq_none.1 hf x hx)
    | some x' =>
      have h3 := List.find?_some hf
      have h4 := List.mem_of_find?_eq_some hf
      have := pair_eq ha.2.2 h4 hx ((by simpa using h3 : x'.ID = y.ID).trans hy2.1.symm)
      subst this
      simpa using fun e => hy2.2 e.symm
  · intro h
    obtain ⟨y, hy, rfl⟩ := List.mem_map.1 h
    obtain ⟨hy1, hy2⟩ := List.mem_filter.1 hy
    unfold fkB at hy2
    cases hf : a.find? (fun x => decide (x.ID = y.ID)) with
    | none => rw [hf] at hy2; cases hy2
    | some x =>
      rw [hf] at hy2
      have h3 : x.ID = y.ID := by simpa using List.find?_some hf
      refine List.mem_flatMap.2 ⟨x, List.mem_of_find?_eq_some hf, ?_⟩
      rw [forkQ_eq]
      refine List.mem_map.2 ⟨y, List.mem_filter.2 ⟨hy1, ?_⟩, rfl⟩
      simp only [Bool.not_eq_true', decide_eq_false_iff_not] at hy2
      simp only [Bool.and_eq_true, decide_eq_true_eq, Bool.not_eq_true', decide_eq_false_iff_not]
      exact ⟨h3, fun e => hy2 e.symm⟩
theorem sortI_one {l o : List Int} (ho : o.Pairwise (· ≤ ·)) (hp : o.Perm l) : o = sortI l := by
  have h := List.pairwise_mergeSort (le := fun x y : Int => decide (x ≤ y)) (fun a b c h1 h2 => by
    simp only [decide_eq_true_eq] at *; omega) (fun a b => by
      have : a ≤ b ∨ b ≤ a := by omega
      rcases this with h | h <;> simp [h]) l
  have h2 : (sortI l).Pairwise (· ≤ ·) := h.imp fun {a b} h => by simpa using h
  exact (hp.trans (List.mergeSort_perm l _).symm).eq_of_pairwise (fun x y _ _ h1 h2 => by omega) ho h2
theorem insI {L : List Int} {v : Int} {j : Nat} (hs : L.Pairwise (· ≤ ·)) (h1 : ∀ y, y ∈ L.take j → y ≤ v) (h2 : ∀ y, y ∈ L.drop j → v ≤ y) : (L.take j ++ v :: L.drop j).Pairwise (· ≤ ·) := by
  have e := List.take_append_drop j L
  rw [← e] at hs
  obtain ⟨a1, a2, a3⟩ := List.pairwise_append.1 hs
  refine List.pairwise_append.2 ⟨a1, List.pairwise_cons.2 ⟨h2, a2⟩, fun x hx y hy => ?_⟩
  rcases List.mem_cons.1 hy with rfl | hy
  · exact h1 x hx
  · exact a3 x hx y hy
end Go.DL
