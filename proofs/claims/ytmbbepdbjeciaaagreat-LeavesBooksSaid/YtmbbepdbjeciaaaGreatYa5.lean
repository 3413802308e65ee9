/- Sorted and Known of both programs. -/
import Derived.Test.YtmbbepdbjeciaaaGreatYa4
import Derived.Test.YtmbbepdbjeciaaaGreatYw3
set_option maxRecDepth 100000
set_option maxHeartbeats 16000000
namespace Go.DL
open Go.Proofs Go
instance : DecidableRel LLe := fun x y => by unfold LLe; infer_instance
def sortL (l : List Line) : List Line := l.mergeSort fun x y => decide (LLe x y)
theorem sortL_perm (l : List Line) : (sortL l).Perm l := List.mergeSort_perm _ _
theorem sortL_srt (l : List Line) : LSrt (sortL l) := by
  have h := List.pairwise_mergeSort (le := fun x y : Line => decide (LLe x y)) (fun a b c h1 h2 => by
    simp only [decide_eq_true_eq] at *; exact LLe.trans h1 h2) (fun a b => by
      have : LLe a b ∨ LLe b a := by unfold LLe; omega
      rcases this with h | h <;> simp [h]) l
  exact h.imp fun {a b} h => by simpa using h
theorem sortL_len (l : List Line) : (sortL l).length = l.length := (sortL_perm l).length_eq
/-- No two lines with one number, but the same. -/
def NoFk (l : List Line) : Prop := ∀ x, x ∈ l → ∀ y, y ∈ l → x.ID = y.ID → x = y
theorem LinesOk.noFk {l : List Line} (h : LinesOk l) : NoFk l := fun _ hx _ hy e => pair_eq h.2.2 hx hy e
theorem sortL_one {l z : List Line} (h : NoFk l) (hz : LSrt z) (hp : z.Perm l) : z = sortL l :=
  (hp.trans (sortL_perm l).symm).eq_of_pairwise (fun x y hx hy h1 h2 => h x (hp.mem_iff.1 hx) y ((sortL_perm l).mem_iff.1 hy) (by unfold LLe at h1 h2; omega)) hz (sortL_srt l)
theorem helmL (H : List Blk) (l : List Line) : elemsD H (.sl (l.map eLine)) = some (l.map eLine) := by
  simp only [elemsD]
  refine congrArg some ?_
  rw [List.map_map]
  exact List.map_congr_left fun x _ => rfl
theorem snapRL5 {lk : Nat → Option Blk} {b m cap k : Nat} {o F : List Line} (h : lk b = some (.live 4 (F.map eLine))) (hm : m = o.length) (ht : F.take m = o) (hle : m ≤ F.length) : snapR lk (k + 1) (.ms b 0 m cap) = .fl (o.map eLine) := by
  subst hm
  simp only [snapR, h, Nat.zero_add, List.length_map, hle, if_true, List.drop_zero]
  rw [if_pos (List.all_eq_true.2 fun e he => by obtain ⟨x, _, rfl⟩ := List.mem_map.1 he; cases k <;> rfl), ← List.map_take, ht, List.map_map]
  exact congrArg D.fl (List.map_congr_left fun x _ => by cases k <;> rfl)
def KnownS (l : List Line) (day : Int) : List Line × Int := if CheckLinesS l = 0 then (if 0 ≤ day ∧ day ≤ 728 then ((sortL l).filter (fun x => !lateB day x), 0) else ([], 1)) else ([], CheckLinesS l)
theorem m_Known (l : List Line) (day : Int) (hl : l.length ≤ 4611686018427387904) : Maps Tryz.prog 47 [.sl (l.map eLine), wI day] (.tup [.fl ((KnownS l day).1.map eLine), wI (KnownS l day).2]) := by
  refine Maps.vt pok Tryz.f47 (n := 19) (rs := [.tmp 4, .tmp 5]) rfl rfl rfl rfl rfl rfl fun g => ?_
  have hc := m_CheckLines l hl
  have hw := m_within day 0 728
  unfold KnownS
  by_cases h : CheckLinesS l = 0
  · rw [h] at hc
    rw [if_pos h]
    have hok := (checkLines_iff l).1 h
    have hl60 := hok.1
    by_cases hd : 0 ≤ day ∧ day ≤ 728
    · rw [decide_eq_true hd] at hw
      rw [if_pos hd]
      repeat (any_goals (first | (apply w_any; (first | refine RT.nil ?_ | refine RT.mvA ?_ | refine RT.asA ?_ | refine RT.ldA ?_ | refine RT.bnA ?_ | (apply w_cl; (first | (refine d_call ?_; refine RT.callG rfl ((c_sortedL (H := [.live 1 [[wI day]]]) (x := .sl (l.map eLine)) (.inr (.inl ⟨_, rfl⟩)) (helmL _ _) (by omega)).mono ?_)) | refine RT.callM rfl (hc) rfl rfl ?_ | refine RT.callM rfl (hw) rfl rfl ?_)) | refine RT.unA ?_ | refine RT.nwA ?_)) | (apply v_any; (first | refine VT.seq rfl ?_ | refine VT.reg rfl ?_ | refine VT.condF rfl rfl ?_ | refine VT.skip rfl ?_))))
      rintro d H4 ⟨rfl, y, hy, hp, rfl⟩
      change RT _ _ _ _ ((16, D.ms 2 0 l.length l.length) :: _) _ _ _
      obtain rfl := sortL_one hok.noFk hy hp
      have hsl := sortL_len l
      have hdel := c_deleteL (H := [.live 1 [[wI day]]] ++ [.dead, .live 4 ((sortL l).map eLine)]) (b := 2) (pb := 0) (c := l.length) (l := sortL l) (day := day) rfl rfl (by omega) (by omega)
      rw [hsl] at hdel
      repeat (any_goals (first | (apply w_any; (first | (refine d_call ?_; refine RT.callG rfl (hdel.mono ?_)) | refine RT.v (f_mkf (ds := []) (es := [.mp 0 0 0]) rfl rfl) ?_))))
      rintro d H5 ⟨z, F, rfl, rfl, hz1, hz2, hz3⟩
      change RT _ _ _ _ ((18, D.ms 2 0 _ _) :: _) _ _ _
      repeat (any_goals (first | (apply w_any; (first | refine RT.nil ?_ | refine RT.asA ?_)) | refine VT.ret rfl ?_ | (with_reducible refine d_kEr ?_; refine kEr rfl ?_)))
      exact congrArg (fun x => DL.D.tup [x, wI 0]) (snapRL5 (k := 3) hz1 rfl hz2 hz3)
    · rw [decide_eq_false hd] at hw
      rw [if_neg hd]
      repeat (any_goals (first | (apply w_any; (first | refine RT.nil ?_ | refine RT.mvA ?_ | refine RT.asA ?_ | refine RT.ldA ?_ | refine RT.bnA ?_ | (apply w_cl; (first | refine RT.callM rfl (hc) rfl rfl ?_ | refine RT.callM rfl (hw) rfl rfl ?_)) | refine RT.unA ?_ | refine RT.nwA ?_)) | (apply v_any; (first | refine VT.seq rfl ?_ | refine VT.reg rfl ?_ | refine VT.condT rfl rfl ?_ | refine VT.condF rfl rfl ?_ | refine VT.skip rfl ?_ | refine VT.ret rfl ?_)) | with_reducible (refine kSr ?_) | (with_reducible refine d_kEr ?_; refine kEr rfl ?_)))
      rfl
  · rw [if_neg h]
    repeat (any_goals (first | (apply w_any; (first | refine RT.nil ?_ | refine RT.mvA ?_ | refine RT.asA ?_ | refine RT.bnA ?_ | refine RT.callM rfl (hc) rfl rfl ?_ | refine RT.nwA ?_)) | (apply v_any; (first | refine VT.seq rfl ?_ | refine VT.reg rfl ?_ | refine VT.ret rfl ?_ | refine VT.condY rfl rfl (by first | assumption | omega) ?_)) | with_reducible (refine kSr ?_) | (with_reducible refine d_kEr ?_; refine kEr rfl ?_)))
    rfl
end Go.DL
