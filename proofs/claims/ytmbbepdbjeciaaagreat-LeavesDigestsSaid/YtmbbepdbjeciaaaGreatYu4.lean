/- Digest. -/
import Derived.Test.YtmbbepdbjeciaaaGreatYu3
set_option maxRecDepth 100000
set_option maxHeartbeats 16000000
namespace Go.DL
open Go.Proofs Go
theorem clS_iff : ∀ (seen l : List Line), clS seen l = 0 ↔ (∀ x, x ∈ l → lineV x = true) ∧ l.Pairwise (fun x y => ¬ x.ID = y.ID) ∧ ∀ x, x ∈ l → idIn seen x.ID = false
  | seen, [] => by simp [clS]
  | seen, x :: r => by
    have ih := clS_iff (seen ++ [x]) r
    rw [clS]
    by_cases h1 : lineV x = true
    · rw [if_pos h1]
      by_cases h2 : idIn seen x.ID = true
      · rw [if_pos h2]
        constructor
        · intro h; exact absurd h (by decide)
        · intro ⟨_, _, h⟩
          rw [h x (List.mem_cons_self ..)] at h2; cases h2
      · rw [if_neg h2, ih]
        have e : ∀ y, idIn (seen ++ [x]) y = (idIn seen y || decide (x.ID = y)) := fun y => by simp [idIn]
        constructor
        · intro ⟨a, b, c⟩
          refine ⟨List.forall_mem_cons.2 ⟨h1, a⟩, List.pairwise_cons.2 ⟨fun y hy => ?_, b⟩, List.forall_mem_cons.2 ⟨by simpa using h2, fun y hy => ?_⟩⟩
          · have := c y hy; rw [e, Bool.or_eq_false_iff] at this; simpa using this.2
          · have := c y hy; rw [e, Bool.or_eq_false_iff] at this; exact this.1
        · intro ⟨a, b, c⟩
          rw [List.pairwise_cons] at b
          refine ⟨fun y hy => a y (List.mem_cons_of_mem _ hy), b.2, fun y hy => ?_⟩
          rw [e, c y (List.mem_cons_of_mem _ hy), Bool.false_or]
          exact decide_eq_false (b.1 y hy)
    · rw [if_neg h1]
      constructor
      · intro h; exact absurd h (by decide)
      · intro ⟨a, _⟩; exact absurd (a x (List.mem_cons_self ..)) h1
/-- Lines that are right. -/
def LinesOk (l : List Line) : Prop := l.length ≤ 60 ∧ (∀ x, x ∈ l → lineV x = true) ∧ l.Pairwise (fun x y => ¬ x.ID = y.ID)
theorem checkLines_iff (l : List Line) : CheckLinesS l = 0 ↔ LinesOk l := by
  unfold CheckLinesS LinesOk
  by_cases h : 60 < l.length
  · rw [if_pos h]
    exact ⟨fun h => absurd h (by decide), fun h => by omega⟩
  · rw [if_neg h, clS_iff]
    exact ⟨fun ⟨a, b, _⟩ => ⟨by omega, a, b⟩, fun ⟨_, a, b⟩ => ⟨a, b, fun _ _ => rfl⟩⟩
theorem LinesOk.perm {l m : List Line} (h : LinesOk l) (hp : m.Perm l) : LinesOk m :=
  ⟨by rw [hp.length_eq]; exact h.1, fun x hx => h.2.1 x (hp.mem_iff.1 hx), (hp.pairwise_iff (fun {x y} h e => h e.symm)).2 h.2.2⟩
theorem LinesOk.ok {l : List Line} (h : LinesOk l) : ∀ x, x ∈ l → lineOk x := fun x hx => by
  have := h.2.1 x hx
  simp only [lineV, Bool.and_eq_true, decide_eq_true_eq] at this
  refine ⟨?_, ?_, ?_, ?_⟩ <;> omega
theorem pair_eq {l : List Line} (h : l.Pairwise (fun x y => ¬ x.ID = y.ID)) {x y : Line} (hx : x ∈ l) (hy : y ∈ l) (e : x.ID = y.ID) : x = y := by
  induction l with
  | nil => cases hx
  | cons z l ih =>
    obtain ⟨h1, h2⟩ := List.pairwise_cons.1 h
    rcases List.mem_cons.1 hx with e1 | hx'
    · rcases List.mem_cons.1 hy with e2 | hy'
      · rw [e1, e2]
      · exact absurd (by rw [← e1]; exact e) (h1 _ hy')
    · rcases List.mem_cons.1 hy with e2 | hy'
      · exact absurd (by rw [← e2]; exact e.symm) (h1 _ hx')
      · exact ih h2 hx' hy'
/-- There is just one order. -/
theorem LSrt.one {l a b : List Line} (h : LinesOk l) (ha : LSrt a) (hb : LSrt b) (pa : a.Perm l) (pb : b.Perm l) : a = b :=
  (pa.trans pb.symm).eq_of_pairwise (fun x y hx hy h1 h2 => pair_eq h.2.2 (pa.mem_iff.1 hx) (pb.mem_iff.1 hy) (by unfold LLe at h1 h2; omega)) ha hb
theorem snapLn {lk : Nat → Option Blk} {b m cap k : Nat} {o : List Line} (h : lk b = some (.live 4 (o.map eLine))) (hm : m = o.length) : snap lk (k + 1) (.ms b 0 m cap) = .sl (o.map eLine) := by
  subst hm
  simp only [snap, h, Nat.zero_add, List.length_map, Nat.le_refl, if_true, List.drop_zero]
  rw [List.take_of_length_le (by simp), List.map_map]
  refine congrArg D.sl (List.map_congr_left fun x _ => ?_)
  cases k <;> rfl
theorem wordsOf_W {x : Line} (h : lineV x = true) : ∀ w, w ∈ wordsOf x → W w := by
  simp only [lineV, Bool.and_eq_true, decide_eq_true_eq] at h
  intro w hw
  simp only [wordsOf, List.mem_cons, List.not_mem_nil, or_false] at hw
  rcases hw with rfl | rfl | rfl | rfl | rfl | rfl | rfl <;> (constructor <;> omega)
theorem words_W {l : List Line} (h : LinesOk l) : ∀ w, w ∈ wordsS l → W w := by
  intro w hw
  rcases List.mem_cons.1 hw with rfl | hw
  · have := h.1; constructor <;> omega
  · obtain ⟨x, hx, hw⟩ := List.mem_flatMap.1 hw
    exact wordsOf_W (h.2.1 x hx) w hw
theorem words_len1 {l : List Line} (h : l.length ≤ 1000) : (wordsS l).length ≤ 7001 := by
  show ((l.length : Int) :: l.flatMap wordsOf).length ≤ _
  rw [List.length_cons, words_len]; omega
theorem m_DigestNo {l : List Line} (h : ¬ CheckLinesS l = 0) (hl : l.length ≤ 1000000) : Maps Tryz.prog 41 [.sl (l.map eLine)] (.tup [wI 0, wI (CheckLinesS l)]) := by
  refine Maps.vt pok Tryz.f41 (n := 17) (rs := [.tmp 2, .tmp 3]) rfl rfl rfl rfl rfl rfl fun g => ?_
  repeat (any_goals (first | (apply w_any; (first | refine RT.nil ?_ | refine RT.mvA ?_ | refine RT.asA ?_ | refine RT.bnA ?_ | refine RT.callM rfl (m_CheckLines l (by omega)) rfl rfl ?_)) | (apply v_any; (first | refine VT.seq rfl ?_ | refine VT.reg rfl ?_ | refine VT.ret rfl ?_ | refine VT.condY rfl rfl (by first | assumption | omega) ?_)) | with_reducible (refine kSr ?_) | (with_reducible refine d_kEr ?_; refine kEr rfl ?_)))
  rfl
theorem m_Digest {l y : List Line} (h : LinesOk l) (h1 : 1 ≤ l.length) (hb : l.length ≤ 12) (hy : LSrt y) (hp : y.Perm l) : Maps Tryz.prog 41 [.sl (l.map eLine)] (.tup [wI (digS (wordsS y)), wI 0]) := by
  refine Maps.vt pok Tryz.f41 (n := 17) (rs := [.tmp 2, .tmp 3]) rfl rfl rfl rfl rfl rfl fun g => ?_
  have hc := m_CheckLines l (by omega)
  rw [(checkLines_iff l).2 h] at hc
  repeat (any_goals (first | (apply w_any; (first | refine RT.nil ?_ | refine RT.mvA ?_ | refine RT.asA ?_ | refine RT.bnA ?_ | (apply w_cl; (first | (refine d_call ?_; refine RT.callG rfl ((c_sorted h1 hb).mono ?_)) | refine RT.callM rfl (hc) rfl rfl ?_ | refine RT.callS rfl (c_power _ 7) rfl (by first | (simp only [nrm]; rfl) | (simp only [nrm, Nat.reduceAdd, Nat.zero_add]; rfl) | rfl) (by first | (simp only [nrm]; rfl) | (simp only [nrm, Nat.reduceAdd, Nat.zero_add]; rfl) | rfl) ?_)) | refine RT.stA ?_ | refine RT.nwA ?_)) | (apply v_any; (first | refine VT.seq rfl ?_ | refine VT.reg rfl ?_ | refine VT.condF rfl rfl ?_ | refine VT.skip rfl ?_))))
  rintro d H4 ⟨rfl, y', T, hy', hp', rfl⟩
  obtain rfl := LSrt.one h hy' hy hp' hp
  have hm : l.length = y'.length := hp.length_eq.symm
  obtain ⟨Hc, hHc⟩ : ∃ Hc, Hc = [Blk.live 1 [[wI 7]], .live 1 [[D.fn (.func 143) [] [.mp 0 0 0]]], .dead, .live 4 (y'.map eLine)] ++ T := ⟨_, rfl⟩
  change RT _ _ _ _ ((13, D.ms 3 0 l.length l.length) :: (12, _) :: (5, D.mp 1 0 0) :: _) ([Blk.live 1 [[wI 7]], .live 1 [[D.fn (.func 143) [] [.mp 0 0 0]]], .dead, .live 4 (y'.map eLine)] ++ T) _ _
  rw [← hHc]
  have e0 : ∀ X, (Hc ++ X)[0]? = some (.live 1 [[wI 7]]) := fun X => by rw [hHc]; rfl
  have e1 : ∀ X, (Hc ++ X)[1]? = some (.live 1 [[D.fn (.func 143) [] [.mp 0 0 0]]]) := fun X => by rw [hHc]; rfl
  have e3 : Hc[3]? = some (.live 4 (y'.map eLine)) := by rw [hHc]; rfl
  have hok := h.perm hp
  have hw := c_wordsH (H := Hc) (x := .ms 3 0 l.length l.length) (l := y') (snapLn e3 hm) (by omega) hok.ok
  have hl7 := words_len1 (l := y') (by omega)
  generalize hws : wordsS y' = w at hw hl7 ⊢
  have hW : ∀ x, x ∈ w → W x := by rw [← hws]; exact words_W hok
  have hs : ([.ms (Hc.length + 1) 0 w.length w.length, .fn (.func 100) [] [.mp 1 0 0]] : List D).map (snap (fun b => (Hc ++ [.dead, .live 1 (w.map eI)])[b]?) 5) = [.sl (w.map eI), fnD] := by
    have h2 : (Hc ++ [.dead, .live 1 (w.map eI)])[Hc.length + 1]? = some (.live 1 (w.map eI)) := by
      rw [List.getElem?_append_right (by omega), Nat.add_sub_cancel_left]; rfl
    have h3 : snap (fun b => (Hc ++ [.dead, .live 1 (w.map eI)])[b]?) 5 (.ms (Hc.length + 1) 0 w.length w.length) = .sl (w.map eI) := snapW (k := 4) h2 rfl
    rw [List.map_cons, h3]
    simp only [List.map_cons, List.map_nil, snap, e1, e0, List.getElem?_cons_zero, List.drop_zero]
  repeat (any_goals (first | (apply w_any; (first | refine RT.nil ?_ | refine RT.asA ?_ | (apply w_cl; (first | (refine d_call ?_; refine RT.callS rfl hw rfl rfl rfl ?_) | (refine d_call ?_; refine RT.callM rfl (m_sumD w hW (by omega)) hs rfl ?_))) | refine RT.msA ?_)) | refine VT.ret rfl ?_ | (with_reducible refine d_kEr ?_; refine kEr rfl ?_)))
  rfl
end Go.DL
