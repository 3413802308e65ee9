/- Mend and Spare. -/
import Derived.Test.YtmbbepdbjeciaaaGreatZm
set_option linter.all false
set_option maxRecDepth 100000
set_option maxHeartbeats 16000000
namespace Go.DL
open Go.Proofs Go

theorem ckl_ok {s : Shape} : ∀ {l seen : List Leaf}, cklS s seen l = 0 → (∀ x, x ∈ l → leafOk s x = true ∧ numIn seen x.Number = false) ∧ l.Pairwise (fun x y => x.Number ≠ y.Number)
  | [], _, _ => ⟨fun x h => (by cases h), List.Pairwise.nil⟩
  | x :: r, seen, h => by
    rw [cklS] at h
    split at h
    · rename_i h1
      split at h
      · cases h
      · rename_i h2
        obtain ⟨i1, i2⟩ := ckl_ok h
        have h3 : ∀ y, y ∈ r → numIn seen y.Number = false ∧ x.Number ≠ y.Number := fun y hy => by
          have := (i1 y hy).2
          simp only [numIn, List.any_append, Bool.or_eq_false_iff, List.any_cons, List.any_nil, decide_eq_false_iff_not, and_true] at this
          exact ⟨this.1, this.2⟩
        refine ⟨fun y hy => ?_, List.pairwise_cons.2 ⟨fun y hy => (h3 y hy).2, i2⟩⟩
        rcases List.mem_cons.1 hy with rfl | hy
        · exact ⟨h1, by simpa using h2⟩
        · exact ⟨(i1 y hy).1, (h3 y hy).1⟩
    · cases h
theorem lv_of {s : Shape} {l : List Leaf} (h : CheckLeavesS s l = 0) (hl : l.length ≤ 12) : CkOk s ∧ LvOk s.Data.toNat s.Checks.toNat s.Width.toNat l := by
  unfold CheckLeavesS at h
  rcases CheckS_cases s with ⟨e, hk⟩ | ⟨e, hk⟩
  · rw [if_pos e, if_neg (by omega)] at h
    obtain ⟨h1, h2⟩ := ckl_ok h
    have key : ∀ x, x ∈ l → (1 ≤ x.Number ∧ x.Number ≤ s.Data + s.Checks) ∧ (x.Words.length : Int) = s.Width ∧ allW x.Words := fun x hx => by
      have := (h1 x hx).1
      simp only [leafOk, Bool.and_eq_true, decide_eq_true_eq] at this
      exact ⟨this.1, this.2.1, allW_of this.2.2⟩
    refine ⟨hk, by omega, by omega, by omega, by omega, by omega, hl, fun x hx => ?_, fun x hx => ?_, fun n hn => ?_, fun i j hij hj => ?_⟩
    · have := (key x hx).1; omega
    · have := (key x hx).2; exact ⟨by omega, this.2⟩
    · obtain ⟨x, hx, rfl⟩ := List.mem_map.1 hn
      have := (key x hx).1; omega
    · rw [List.length_map] at hj
      simp only [List.getD_eq_getElem?_getD, List.getElem?_map]
      rw [List.getElem?_eq_getElem (by omega), List.getElem?_eq_getElem hj]
      exact List.pairwise_iff_getElem.1 h2 i j (by omega) hj hij
  · rw [if_neg (by omega), e] at h; cases h
theorem shape_nat {s : Shape} (h : CkOk s) : s = ⟨(s.Data.toNat : Nat), (s.Checks.toNat : Nat), (s.Width.toNat : Nat)⟩ := by
  obtain ⟨a, b, c⟩ := s
  simp only [Shape.mk.injEq]
  simp only [CkOk] at h
  omega
/-- What Mend answers. -/
noncomputable def MendS (s : Shape) (l : List Leaf) : (List (List Int) × List Int) × Int :=
  if CheckLeavesS s l = 0 then
    if (l.length : Int) < s.Data then (([], []), 5) else
    match colsM s.Data.toNat ((l.length - s.Data.toNat) / 2) l s.Width.toNat with
    | none => (([], []), 9)
    | some cs => if 2 * ((wrongM (wholeL (s.Data.toNat + s.Checks.toNat) s.Width.toNat (rowsM cs s.Data.toNat)) l (s.Data.toNat + s.Checks.toNat)).length : Int) + s.Data.toNat ≤ l.length then
        ((rowsM cs s.Data.toNat, wrongM (wholeL (s.Data.toNat + s.Checks.toNat) s.Width.toNat (rowsM cs s.Data.toNat)) l (s.Data.toNat + s.Checks.toNat)), 0) else (([], []), 9)
  else (([], []), CheckLeavesS s l)
abbrev dM (r : List (List Int) × List Int) : D := .agg [.fl (r.1.map eRow), .fl (r.2.map eI)]
theorem m_Mend (s : Shape) (l : List Leaf) (hl : l.length ≤ 4611686018427387904) (hw : ∀ x, x ∈ l → x.Words.length ≤ 4611686018427387904) (hsm : CheckLeavesS s l = 0 → l.length ≤ 12) : Maps Tryz.prog 25 [dSh s, .sl (l.map eLeaf)] (.tup [dM (MendS s l).1, wI (MendS s l).2]) := by
  refine Maps.vt pok Tryz.f25 (n := 32) (rs := [.cell 4 42, .tmp 5]) rfl rfl rfl rfl rfl rfl fun g => ?_
  have hk := m_CheckLeaves s l hl hw
  unfold MendS
  by_cases h0 : CheckLeavesS s l = 0
  · obtain ⟨hck, hv⟩ := lv_of h0 (hsm h0)
    rw [h0] at hk
    rw [if_pos h0]
    by_cases h1 : (l.length : Int) < s.Data
    · rw [if_pos h1]
      repeat (any_goals (first | (refine d_RT ?_; (first | refine RT.nil ?_ | refine RT.mvA ?_ | refine RT.asA ?_ | refine RT.ldA ?_ | refine RT.faA ?_ | refine RT.bnA ?_ | (refine d_call ?_; (first | refine RT.callM rfl (hk) rfl rfl ?_ | refine RT.clA ?_)) | refine RT.stA ?_ | refine RT.nwA ?_ | refine RT.msA ?_)) | (refine d_VT ?_; (first | refine VT.seq rfl ?_ | refine VT.reg rfl ?_ | refine VT.condF rfl rfl ?_ | refine VT.condY rfl rfl (by first | assumption | omega) ?_ | refine VT.skip rfl ?_ | refine VT.ret rfl ?_)) | with_reducible (refine kSr ?_) | (with_reducible refine d_kEr ?_; refine kEr rfl ?_)))
      rfl
    · rw [if_neg h1]
      have hsn := shape_nat hck
      have hm := m_mend (e := (l.length - s.Data.toNat) / 2) hv (by omega) (by omega)
      rw [← hsn] at hm
      cases hc : colsM s.Data.toNat ((l.length - s.Data.toNat) / 2) l s.Width.toNat with
      | none =>
        have hm2 := hm.1 hc
        repeat (any_goals (first | (refine d_RT ?_; (first | refine RT.nil ?_ | refine RT.mvA ?_ | refine RT.asA ?_ | refine RT.ldA ?_ | refine RT.faA ?_ | refine RT.bnA ?_ | (refine d_call ?_; (first | refine RT.callM rfl (hk) rfl rfl ?_ | refine RT.callM rfl (hm2) rfl rfl ?_ | refine RT.clA ?_)) | refine RT.exA ?_ | refine RT.unA ?_ | refine RT.stA ?_ | refine RT.nwA ?_ | refine RT.msA ?_)) | (refine d_VT ?_; (first | refine VT.seq rfl ?_ | refine VT.reg rfl ?_ | refine VT.condT rfl rfl ?_ | refine VT.condF rfl rfl ?_ | refine VT.condN rfl rfl (by first | assumption | omega) ?_ | refine VT.skip rfl ?_ | refine VT.ret rfl ?_)) | with_reducible (refine kSr ?_) | (with_reducible refine d_kEr ?_; refine kEr rfl ?_)))
        rfl
      | some cs =>
        obtain ⟨wr, hwr⟩ : ∃ wr, wr = wrongM (wholeL (s.Data.toNat + s.Checks.toNat) s.Width.toNat (rowsM cs s.Data.toNat)) l (s.Data.toNat + s.Checks.toNat) := ⟨_, rfl⟩
        have hm2 := hm.2 cs wr hc hwr
        dsimp only
        rw [← hwr]
        by_cases h2 : 2 * (wr.length : Int) + s.Data.toNat ≤ l.length
        · rw [decide_eq_true h2] at hm2
          rw [if_pos h2]
          repeat (any_goals (first | (refine d_RT ?_; (first | refine RT.nil ?_ | refine RT.mvA ?_ | refine RT.asA ?_ | refine RT.ldA ?_ | refine RT.faA ?_ | refine RT.bnA ?_ | (refine d_call ?_; (first | refine RT.callM rfl (hk) rfl rfl ?_ | refine RT.callM rfl (hm2) rfl rfl ?_ | refine RT.clA ?_)) | refine RT.exA ?_ | refine RT.unA ?_ | refine RT.stA ?_ | refine RT.nwA ?_)) | (refine d_VT ?_; (first | refine VT.seq rfl ?_ | refine VT.reg rfl ?_ | refine VT.condF rfl rfl ?_ | refine VT.condN rfl rfl (by first | assumption | omega) ?_ | refine VT.skip rfl ?_ | refine VT.ret rfl ?_)) | (with_reducible refine d_kEr ?_; refine kEr rfl ?_)))
          rfl
        · rw [decide_eq_false h2] at hm2
          rw [if_neg h2]
          repeat (any_goals (first | (refine d_RT ?_; (first | refine RT.nil ?_ | refine RT.mvA ?_ | refine RT.asA ?_ | refine RT.ldA ?_ | refine RT.faA ?_ | refine RT.bnA ?_ | (refine d_call ?_; (first | refine RT.callM rfl (hk) rfl rfl ?_ | refine RT.callM rfl (hm2) rfl rfl ?_ | refine RT.clA ?_)) | refine RT.exA ?_ | refine RT.unA ?_ | refine RT.stA ?_ | refine RT.nwA ?_ | refine RT.msA ?_)) | (refine d_VT ?_; (first | refine VT.seq rfl ?_ | refine VT.reg rfl ?_ | refine VT.condT rfl rfl ?_ | refine VT.condF rfl rfl ?_ | refine VT.condN rfl rfl (by first | assumption | omega) ?_ | refine VT.skip rfl ?_ | refine VT.ret rfl ?_)) | with_reducible (refine kSr ?_) | (with_reducible refine d_kEr ?_; refine kEr rfl ?_)))
          rfl
  · rw [if_neg h0]
    repeat (any_goals (first | (refine d_RT ?_; (first | refine RT.nil ?_ | refine RT.mvA ?_ | refine RT.asA ?_ | refine RT.ldA ?_ | refine RT.bnA ?_ | refine RT.callM rfl (hk) rfl rfl ?_ | refine RT.stA ?_ | refine RT.nwA ?_ | refine RT.msA ?_)) | (refine d_VT ?_; (first | refine VT.seq rfl ?_ | refine VT.reg rfl ?_ | refine VT.condY rfl rfl (by first | assumption | omega) ?_ | refine VT.ret rfl ?_)) | with_reducible (refine kSr ?_) | (with_reducible refine d_kEr ?_; refine kEr rfl ?_)))
    rfl
end Go.DL
