/- Rows of words, each in a block of its own; the words of lines; data that are written. -/
import Derived.Test.YtmbbepdbjeciaaaGreatYu4
import Derived.Test.YtmbbepdbjeciaaaGreatZp1
import Derived.Test.YtmbbepdbjeciaaaGreatZb
import Derived.Test.YtmbbepdbjeciaaaGreatP1
import Derived.Test.YtmbbepdbjeciaaaGreatE13
set_option maxRecDepth 100000
set_option maxHeartbeats 16000000
namespace Go.DL
open Go.Proofs Go
/-- A row in a block of its own. -/
abbrev eQ (q : Nat × List Int) : List D := [.ms q.1 0 q.2.length q.2.length]
structure RQ (H : List Blk) (b : Nat) (qs : List (Nat × List Int)) : Prop where
  rows : H[b]? = some (.live 1 (qs.map eQ))
  row : ∀ q, q ∈ qs → H[q.1]? = some (.live 1 (q.2.map eI)) ∧ q.1 ≠ b
theorem RQ.push {H T : List Blk} {b p : Nat} {qs : List (Nat × List Int)} {row : List Int} (h : RQ H b qs) (hp : (H ++ T)[p]? = some (.live 1 (row.map eI))) (hpb : p ≠ b) :
    RQ ((H ++ T).set b .dead ++ [.live 1 ((qs ++ [(p, row)]).map eQ)]) (H ++ T).length (qs ++ [(p, row)]) := by
  have hl : ((H ++ T).set b Blk.dead).length = (H ++ T).length := by simp
  refine ⟨by rw [List.getElem?_append_right (by rw [hl]; exact Nat.le_refl _), hl, Nat.sub_self]; rfl, fun q hq => ?_⟩
  have key : (H ++ T)[q.1]? = some (.live 1 (q.2.map eI)) ∧ q.1 ≠ b := by
    rcases List.mem_append.1 hq with h1 | h1
    · exact ⟨blk_app T (h.row q h1).1, (h.row q h1).2⟩
    · rw [List.mem_singleton.1 h1]; exact ⟨hp, hpb⟩
  have hlt := blk_lt key.1
  exact ⟨blk_app _ (blk_ne key.1 (Ne.symm key.2)), by omega⟩
theorem RQ.get {H : List Blk} {b : Nat} {qs : List (Nat × List Int)} (h : RQ H b qs) {q : Nat × List Int} (hq : q ∈ qs) (lv : Nat) : snap (fun b => H[b]?) (lv + 1) (.ms q.1 0 q.2.length q.2.length) = .sl (q.2.map eI) :=
  snapW (k := lv) (h.row q hq).1 rfl
theorem RQ.snap {H : List Blk} {b m c : Nat} {qs : List (Nat × List Int)} (h : RQ H b qs) (hm : m = qs.length) (lv : Nat) : snap (fun b => H[b]?) (lv + 2) (.ms b 0 m c) = .sl ((qs.map (·.2)).map eRow) := by
  subst hm
  simp only [DL.snap, h.rows, Nat.zero_add, List.length_map, Nat.le_refl, if_true, List.drop_zero]
  rw [List.take_of_length_le (by simp), List.map_map, List.map_map]
  refine congrArg D.sl (List.map_congr_left fun q hq => ?_)
  simp only [Function.comp, List.map_cons, List.map_nil, eRow]
  rw [h.get hq]
theorem RQ.snapR {H : List Blk} {b m c : Nat} {qs : List (Nat × List Int)} (h : RQ H b qs) (hm : m = qs.length) (lv : Nat) : snapR (fun b => H[b]?) (lv + 3) (.ms b 0 m c) = .fl ((qs.map (·.2)).map eRow) := by
  subst hm
  simp only [DL.snapR, h.rows, Nat.zero_add, List.length_map, Nat.le_refl, if_true, List.drop_zero]
  rw [if_pos, List.take_of_length_le (by simp), List.map_map, List.map_map]
  · refine congrArg D.fl (List.map_congr_left fun q hq => ?_)
    simp only [Function.comp, List.map_cons, List.map_nil, eRow]
    rw [h.get hq]
  · refine List.all_eq_true.2 fun e he => ?_
    obtain ⟨q, hq, rfl⟩ := List.mem_map.1 he
    rw [List.all_cons, List.all_nil, Bool.and_true]
    simp only [frK, (h.row q hq).1]
    exact eI_all _ _ fun x => rfl
/-- The words of lines by the reference. -/
theorem c_RWords0 (l : List Line) (hl : l.length ≤ 1000) (h : ∀ x, x ∈ l → lineOk x) : CallSp Tryz.prog 88 [.sl (l.map eLine)] [] fun d' H' => d' = .ms 0 0 (wordsS l).length (wordsS l).length ∧ H'[0]? = some (.live 1 ((wordsS l).map eI)) := by
  refine CallSp.vt pok Tryz.f88 (n := 44) (rs := [.tmp 2]) rfl rfl rfl rfl rfl rfl rfl fun g => ?_
  repeat (any_goals (first | (apply w_any; (first | refine RT.nil ?_ | refine RT.mvA ?_ | refine RT.asA ?_ | refine RT.clA ?_ | refine RT.nwA ?_)) | (apply v_any; (first | refine VT.seq rfl ?_ | refine VT.reg rfl ?_ | refine VT.block rfl ?_))))
  refine VT.loop (fun j a H g' => ∃ (k : Nat) (o : List Int), j = l.length - k ∧ k ≤ l.length ∧ o = (l.length : Int) :: (l.take k).flatMap wordsOf ∧ a = [(0, .sl (l.map eLine)), (3, .ms 0 0 o.length o.length), (4, wI k)] ∧ H = [.live 1 (o.map eI)] ∧ g' = g) rfl
    ⟨_, _, _, ⟨0, [(l.length : Int)], rfl, Nat.zero_le _, rfl, rfl, rfl, rfl⟩, fgA⟩ ?_
  rintro j a H g' ⟨k, o, rfl, hk, ho, rfl, rfl, rfl⟩
  by_cases hlt : k < l.length
  · obtain ⟨hx1, hx2, hx3, hx4⟩ := h _ (List.getElem_mem hlt)
    have hol : o.length ≤ 1 + 7 * k := by
      rw [ho, List.length_cons, words_len, List.length_take]; omega
    repeat (any_goals (first | (apply w_any; (first | refine RT.nil ?_ | refine RT.mvA ?_ | refine RT.asA ?_ | refine RT.ldA ?_ | refine RT.faA ?_ | refine RT.bnA ?_ | (apply w_cl; (first | refine RT.ap (by first | (simp only [nrm]; rfl) | (simp only [nrm, Nat.reduceAdd, Nat.zero_add]; rfl) | rfl) (f_appW (o := o) (v := wordsOf l[k]) rfl rfl rfl rfl rfl rfl rfl rfl rfl (by simp [wordsOf]; omega)) (by first | (simp only [nrm]; rfl) | (simp only [nrm, Nat.reduceAdd, Nat.zero_add]; rfl) | rfl) ?_ | refine RT.clA ?_)) | refine RT.ixA ?_ | refine RT.stA ?_ | refine RT.new (by first | (simp only [nrm]; rfl) | (simp only [nrm, Nat.reduceAdd, Nat.zero_add]; rfl) | rfl) (f_bslW7 rfl rfl rfl rfl rfl rfl rfl rfl rfl) (by first | (simp only [nrm]; rfl) | (simp only [nrm, Nat.reduceAdd, Nat.zero_add]; rfl) | rfl) ?_ | refine RT.nwA ?_)) | (apply v_any; (first | refine VT.seq rfl ?_ | refine VT.reg rfl ?_ | refine VT.block rfl ?_ | refine VT.skip rfl ?_ | refine VT.condY rfl rfl (by first | assumption | omega) ?_)) | with_reducible (refine kLn ?_)))
    refine ⟨l.length - (k + 1), by omega, _, _, ⟨k + 1, o ++ wordsOf l[k], rfl, hlt, ?_, rfl, rfl, rfl⟩, (Wk.mv (k := 3) (s := 0) (a' := [(0, .sl (l.map eLine)), (3, .ms 0 0 (o ++ wordsOf l[k]).length (o ++ wordsOf l[k]).length), (4, wI (k + 1 : Nat))]) rfl rfl rfl (by first | decide | exact Nat.zero_le _) (by first | decide | exact Nat.zero_le _) (by (repeat first | exact True.intro | refine And.intro ?_ ?_ | exact Or.inr (Or.inr (Or.inl ⟨_, _, _, rfl, rfl⟩)) | exact Or.inr (Or.inl ⟨rfl, rfl⟩) | exact Or.inl rfl)) (by (repeat first | exact bn_nil | refine bn_cons ?_ ?_ | exact eI_no _ _ _ | exact eDot_no _ _ _ | exact bn_dead | exact bn_free | exact bn_lit rfl)) (by first | (simp only [nrm]; rfl) | (simp only [nrm, Nat.reduceAdd, Nat.zero_add]; rfl) | rfl)).trans <| fgA⟩
    rw [ho, List.take_succ_eq_append_getElem hlt, List.flatMap_append]; simp
  · repeat (any_goals (first | (apply w_any; (first | refine RT.nil ?_ | refine RT.mvA ?_ | refine RT.asA ?_ | refine RT.bnA ?_ | refine RT.clA ?_)) | (apply v_any; (first | refine VT.seq rfl ?_ | refine VT.reg rfl ?_ | refine VT.exit rfl ?_ | refine VT.ret rfl ?_ | refine VT.condN rfl rfl (by first | assumption | omega) ?_)) | (with_reducible refine d_kEr ?_; refine kEr rfl ?_)))
    have e : o = wordsS l := by rw [ho, List.take_of_length_le (by omega)]; rfl
    rw [e]; exact ⟨rfl, rfl⟩
theorem c_RWords {H : List Blk} {x : D} {l : List Line} (hx : snap (fun b => H[b]?) 5 x = .sl (l.map eLine)) (hl : l.length ≤ 1000) (h : ∀ x, x ∈ l → lineOk x) :
    CallSp Tryz.prog 88 [x] H fun d' H' => d' = .ms (H.length + 1) 0 (wordsS l).length (wordsS l).length ∧ H' = H ++ [.dead, .live 1 ((wordsS l).map eI)] :=
  CallSp.frame (k := 0) (by rw [List.map_cons, List.map_nil, hx]; exact c_RWords0 l hl h) fun e he d hd => by
    obtain ⟨z, _, rfl⟩ := List.mem_map.1 he
    obtain rfl : d = wI z := by simpa [eI] using hd
    rfl
end Go.DL
