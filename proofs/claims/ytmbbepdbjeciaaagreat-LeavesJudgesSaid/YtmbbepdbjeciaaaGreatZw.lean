/- The words of lines. -/
import Derived.Test.YtmbbepdbjeciaaaGreatZc
import Derived.Test.YtmbbepdbjeciaaaGreatE10
set_option linter.all false
set_option maxRecDepth 100000
set_option maxHeartbeats 16000000
namespace Go.DL
open Go.Proofs Go

def wordsOf (x : Line) : List Int := [x.ID / 65521 / 65521, x.ID / 65521 % 65521, x.ID % 65521, x.Day, x.What, x.Worth / 65521, x.Worth % 65521]
def lineOk (x : Line) : Prop := 0 ≤ x.ID ∧ x.ID ≤ 4611686018427387904 ∧ 0 ≤ x.Worth ∧ x.Worth ≤ 4611686018427387904
set_option maxHeartbeats 4000000 in
theorem m_wordsOf (x : Line) (h : lineOk x) : Maps Tryz.prog 145 [.agg (eLine x)] (.agg [wI (x.ID / 65521 / 65521), wI (x.ID / 65521 % 65521), wI (x.ID % 65521), wI x.Day, wI x.What, wI (x.Worth / 65521), wI (x.Worth % 65521)]) := by
  refine Maps.vt pok Tryz.f145 (n := 25) (rs := [.cell 2 145]) rfl rfl rfl rfl rfl rfl fun g => ?_
  obtain ⟨h1, h2, h3, h4⟩ := h
  have h5 : 0 ≤ x.ID / 65521 ∧ x.ID / 65521 ≤ 4611686018427387904 := by omega
  repeat (any_goals (first | (refine d_RT ?_; (first | refine RT.nil ?_ | (refine d_bld ?_; refine RT.v (f_build (d := .agg [wI (x.ID / 65521 / 65521), wI (x.ID / 65521 % 65521), wI (x.ID % 65521), wI x.Day, wI x.What, wI (x.Worth / 65521), wI (x.Worth % 65521)]) rfl) ?_) | refine RT.new (by first | (simp only [nrm]; rfl) | (simp only [nrm, Nat.reduceAdd, Nat.zero_add]; rfl) | rfl) (f_allocL (z := [wI 0, wI 0, wI 0, wI 0, wI 0, wI 0, wI 0]) (m := 7) rfl rfl) (by first | (simp only [nrm]; rfl) | (simp only [nrm, Nat.reduceAdd, Nat.zero_add]; rfl) | rfl) ?_ | refine RT.ldA ?_ | refine RT.faA ?_ | refine RT.bnA ?_ | refine RT.stA ?_ | refine RT.nwA ?_)) | (refine d_VT ?_; (first | refine VT.seq rfl ?_ | refine VT.reg rfl ?_ | refine VT.ret rfl ?_)) | (with_reducible refine d_kEr ?_; refine kEr rfl ?_)))
  rfl
def wordsS (l : List Line) : List Int := (l.length : Int) :: l.flatMap wordsOf
theorem words_len : ∀ l : List Line, (l.flatMap wordsOf).length = 7 * l.length
  | [] => rfl
  | x :: l => by simp only [List.flatMap_cons, List.length_append, words_len l, List.length_cons]; simp [wordsOf]; omega
/-- words, over no own block: it leaves the words in a block of its own. -/
theorem c_words (l : List Line) (hl : l.length ≤ 1000) (h : ∀ x, x ∈ l → lineOk x) : CallSp Tryz.prog 98 [.sl (l.map eLine)] [] fun d' H' => d' = .ms 0 0 (wordsS l).length (wordsS l).length ∧ H'[0]? = some (.live 1 ((wordsS l).map eI)) := by
  refine CallSp.vt pok Tryz.f98 (n := 23) (rs := [.tmp 2]) rfl rfl rfl rfl rfl rfl rfl fun g => ?_
  repeat (any_goals (first | (refine d_RT ?_; (first | refine RT.nil ?_ | refine RT.mvA ?_ | refine RT.asA ?_ | refine RT.clA ?_ | refine RT.nwA ?_)) | (refine d_VT ?_; (first | refine VT.seq rfl ?_ | refine VT.reg rfl ?_ | refine VT.block rfl ?_))))
  refine VT.loop (fun j a H g' => ∃ (k : Nat) (o : List Int), j = l.length - k ∧ k ≤ l.length ∧ o = (l.length : Int) :: (l.take k).flatMap wordsOf ∧ a = [(0, .sl (l.map eLine)), (3, .ms 0 0 o.length o.length), (10, .sl (l.map eLine)), (11, wI l.length), (12, wI k)] ∧ H = [.live 1 (o.map eI)] ∧ g' = g) rfl
    ⟨_, _, _, ⟨0, [(l.length : Int)], rfl, Nat.zero_le _, rfl, rfl, rfl, rfl⟩, fgA⟩ ?_
  rintro j a H g' ⟨k, o, rfl, hk, ho, rfl, rfl, rfl⟩
  by_cases hlt : k < l.length
  · have hw := m_wordsOf l[k] (h _ (List.getElem_mem hlt))
    have hol : o.length ≤ 1 + 7 * k := by
      rw [ho, List.length_cons, words_len, List.length_take]; omega
    repeat (any_goals (first | (refine d_RT ?_; (first | refine RT.nil ?_ | refine RT.new (by first | (simp only [nrm]; rfl) | (simp only [nrm, Nat.reduceAdd, Nat.zero_add]; rfl) | rfl) (f_allocL (z := [wI 0, wI 0, wI 0, wI 0, wI 0, wI 0, wI 0]) (m := 7) rfl rfl) (by first | (simp only [nrm]; rfl) | (simp only [nrm, Nat.reduceAdd, Nat.zero_add]; rfl) | rfl) ?_ | refine RT.sliceArr (by first | (simp only [nrm]; rfl) | (simp only [nrm, Nat.reduceAdd, Nat.zero_add]; rfl) | rfl) rfl rfl rfl rfl rfl (by decide) (by first | (simp only [nrm]; rfl) | (simp only [nrm, Nat.reduceAdd, Nat.zero_add]; rfl) | rfl) ?_ | refine RT.ap (by first | (simp only [nrm]; rfl) | (simp only [nrm, Nat.reduceAdd, Nat.zero_add]; rfl) | rfl) (f_appW (o := o) (v := wordsOf l[k]) rfl rfl rfl rfl rfl rfl rfl rfl rfl (by simp [wordsOf]; omega)) (by first | (simp only [nrm]; rfl) | (simp only [nrm, Nat.reduceAdd, Nat.zero_add]; rfl) | rfl) ?_ | refine RT.mvA ?_ | refine RT.asA ?_ | refine RT.ldA ?_ | refine RT.bnA ?_ | refine RT.callM rfl (hw) rfl rfl ?_ | refine RT.ixA ?_ | refine RT.stA ?_ | refine RT.nwA ?_)) | (refine d_VT ?_; (first | refine VT.seq rfl ?_ | refine VT.reg rfl ?_ | refine VT.condY rfl rfl (by first | assumption | omega) ?_ | refine VT.block rfl ?_ | refine VT.skip rfl ?_)) | with_reducible (refine kLn ?_)))
    refine ⟨l.length - (k + 1), by omega, _, _, ⟨k + 1, o ++ wordsOf l[k], rfl, hlt, ?_, rfl, rfl, rfl⟩, (Wk.mv (k := 4) (s := 0) (a' := [(0, .sl (l.map eLine)), (3, .ms 0 0 (o ++ wordsOf l[k]).length (o ++ wordsOf l[k]).length), (10, .sl (l.map eLine)), (11, wI l.length), (12, wI (k + 1 : Nat))]) rfl rfl rfl (by first | decide | exact Nat.zero_le _) (by first | decide | exact Nat.zero_le _) (by (repeat first | exact True.intro | refine And.intro ?_ ?_ | exact Or.inr (Or.inr (Or.inl ⟨_, _, _, rfl, rfl⟩)) | exact Or.inr (Or.inl ⟨rfl, rfl⟩) | exact Or.inl rfl)) (by (repeat first | exact bn_nil | refine bn_cons ?_ ?_ | exact eI_no _ _ _ | exact eDot_no _ _ _ | exact bn_dead | exact bn_free | exact bn_lit rfl)) (by first | (simp only [nrm]; rfl) | (simp only [nrm, Nat.reduceAdd, Nat.zero_add]; rfl) | rfl)).trans <| fgA⟩
    rw [ho, List.take_succ_eq_append_getElem hlt, List.flatMap_append]; simp
  · repeat (any_goals (first | (refine d_RT ?_; (first | refine RT.nil ?_ | refine RT.mvA ?_ | refine RT.asA ?_ | refine RT.bnA ?_)) | (refine d_VT ?_; (first | refine VT.seq rfl ?_ | refine VT.reg rfl ?_ | refine VT.condN rfl rfl (by first | assumption | omega) ?_ | refine VT.exit rfl ?_ | refine VT.ret rfl ?_)) | (with_reducible refine d_kEr ?_; refine kEr rfl ?_)))
    have e : o = wordsS l := by rw [ho, List.take_of_length_le (by omega)]; rfl
    rw [e]; exact ⟨rfl, rfl⟩
end Go.DL
