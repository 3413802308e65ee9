/- Sorting a few lines. -/
import Derived.Test.YtmbbepdbjeciaaaGreatYu1
import Derived.Test.YtmbbepdbjeciaaaGreatZs
import Derived.Test.YtmbbepdbjeciaaaGreatE12
set_option maxRecDepth 100000
set_option maxHeartbeats 16000000
namespace Go.DL
open Go.Proofs Go
def cmpI (a b : Int) : Int := if a < b then -1 else if b < a then 1 else 0
def cmpL (x y : Line) : Int := if cmpI x.Day y.Day = 0 then cmpI x.ID y.ID else cmpI x.Day y.Day
def LLe (x y : Line) : Prop := x.Day < y.Day ∨ x.Day = y.Day ∧ x.ID ≤ y.ID
theorem cmpL_lt (x y : Line) : cmpL x y < 0 ↔ ¬ LLe y x := by
  unfold cmpL cmpI LLe
  split <;> split <;> (try split) <;> omega
theorem LLe.of_lt {x y : Line} (h : cmpL x y < 0) : LLe x y := by
  have h1 := (cmpL_lt x y).1 h
  unfold LLe at h1 ⊢; omega
theorem LLe.of_ge {x y : Line} (h : ¬ cmpL x y < 0) : LLe y x := Classical.not_not.1 fun h1 => h ((cmpL_lt x y).2 h1)
theorem LLe.trans {x y z : Line} (h1 : LLe x y) (h2 : LLe y z) : LLe x z := by unfold LLe at *; omega
def LSrt (l : List Line) : Prop := l.Pairwise LLe
theorem LSrt.ins {L : List Line} {v : Line} {j : Nat} (hs : LSrt L) (h1 : ∀ y, y ∈ L.take j → LLe y v) (h2 : ∀ y, y ∈ L.drop j → LLe v y) : LSrt (L.take j ++ v :: L.drop j) := by
  have h : LSrt (L.take j ++ L.drop j) := by rw [List.take_append_drop]; exact hs
  unfold LSrt at h ⊢
  rw [List.pairwise_append] at h ⊢
  obtain ⟨a, b, c⟩ := h
  refine ⟨a, List.pairwise_cons.2 ⟨h2, b⟩, fun x hx y hy => ?_⟩
  rcases List.mem_cons.1 hy with rfl | hy
  · exact h1 x hx
  · exact c x hx y hy
abbrev fnL : D := .fn (.func 148) [] []
theorem m_compare (a b : Int) : Maps Tryz.prog 150 [wI a, wI b] (wI (cmpI a b)) := by
  refine Maps.vt pok Tryz.f150 (n := 20) (rs := [.tmp 4]) rfl rfl rfl rfl rfl rfl fun g => ?_
  unfold cmpI
  by_cases h1 : a < b
  · rw [if_pos h1]
    repeat (any_goals (first | (apply w_any; (first | refine RT.nil ?_ | refine RT.mvA ?_ | refine RT.asA ?_ | refine RT.bnA ?_ | (apply w_cl; (first | refine RT.callM rfl (m_nan a) rfl rfl ?_ | refine RT.callM rfl (m_nan b) rfl rfl ?_)))) | (apply v_any; (first | refine VT.seq rfl ?_ | refine VT.reg rfl ?_ | refine VT.condF rfl rfl ?_ | refine VT.skip rfl ?_ | refine VT.ret rfl ?_ | refine VT.condY rfl rfl (by first | assumption | omega) ?_)) | with_reducible (refine kSr ?_) | (with_reducible refine d_kEr ?_; refine kEr rfl ?_)))
    rfl
  · rw [if_neg h1]
    by_cases h2 : b < a
    · rw [if_pos h2]
      repeat (any_goals (first | (apply w_any; (first | refine RT.nil ?_ | refine RT.mvA ?_ | refine RT.asA ?_ | refine RT.bnA ?_ | (apply w_cl; (first | refine RT.callM rfl (m_nan a) rfl rfl ?_ | refine RT.callM rfl (m_nan b) rfl rfl ?_)))) | (apply v_any; (first | refine VT.seq rfl ?_ | refine VT.reg rfl ?_ | refine VT.condF rfl rfl ?_ | refine VT.skip rfl ?_ | refine VT.ret rfl ?_ | refine VT.condY rfl rfl (by first | assumption | omega) ?_ | refine VT.condN rfl rfl (by first | assumption | omega) ?_)) | with_reducible (refine kSr ?_) | (with_reducible refine d_kEr ?_; refine kEr rfl ?_)))
      rfl
    · rw [if_neg h2]
      repeat (any_goals (first | (apply w_any; (first | refine RT.nil ?_ | refine RT.mvA ?_ | refine RT.asA ?_ | refine RT.bnA ?_ | (apply w_cl; (first | refine RT.callM rfl (m_nan a) rfl rfl ?_ | refine RT.callM rfl (m_nan b) rfl rfl ?_)))) | (apply v_any; (first | refine VT.seq rfl ?_ | refine VT.reg rfl ?_ | refine VT.condF rfl rfl ?_ | refine VT.skip rfl ?_ | refine VT.ret rfl ?_ | refine VT.condN rfl rfl (by first | assumption | omega) ?_)) | (with_reducible refine d_kEr ?_; refine kEr rfl ?_)))
      rfl
theorem m_or2 (a b : Int) : Maps Tryz.prog 149 [.sl [eI a, eI b]] (wI (if a = 0 then b else a)) := by
  change Maps Tryz.prog 149 [.sl ([a, b].map eI)] _
  refine Maps.vt pok Tryz.f149 (n := 18) (rs := [.tmp 2]) rfl rfl rfl rfl rfl rfl fun g => ?_
  repeat (any_goals (first | (apply w_any; (first | refine RT.nil ?_ | refine RT.mvA ?_ | refine RT.asA ?_ | refine RT.clA ?_)) | (apply v_any; (first | refine VT.seq rfl ?_ | refine VT.reg rfl ?_ | refine VT.block rfl ?_))))
  refine VT.loop (fun j al H g' => ∃ k : Nat, j = 2 - k ∧ (k = 0 ∨ k ≤ 2 ∧ a = 0 ∧ (k = 2 → b = 0)) ∧ al = [(0, .sl ([a, b].map eI)), (3, wI 0), (6, .sl ([a, b].map eI)), (7, wI 2), (8, wI k)] ∧ H = [] ∧ g' = g) rfl
    ⟨_, _, _, ⟨0, rfl, .inl rfl, rfl, rfl, rfl⟩, fgA⟩ ?_
  rintro j al H g' ⟨k, rfl, hk, rfl, rfl, rfl⟩
  rcases Nat.lt_or_ge k 2 with hlt | hge
  · match k, hk, hlt with
    | 0, _, _ =>
      by_cases h : a = 0
      · repeat (any_goals (first | (apply w_any; (first | refine RT.nil ?_ | refine RT.mvA ?_ | refine RT.asA ?_ | refine RT.ldA ?_ | refine RT.bnA ?_ | refine RT.ixA ?_)) | (apply v_any; (first | refine VT.seq rfl ?_ | refine VT.reg rfl ?_ | refine VT.condT rfl rfl ?_ | refine VT.block rfl ?_ | refine VT.skip rfl ?_ | refine VT.ret rfl ?_ | refine VT.condD rfl rfl (fun hc => ?_) (fun hc => ?_))) | (with_reducible first | refine kSr ?_ | refine kBr ?_ | refine kLn ?_ | refine kLr ?_) | (with_reducible refine d_kEr ?_; refine kEr rfl ?_)))
        · exact absurd h hc
        exact ⟨1, by omega, _, _, ⟨1, rfl, .inr ⟨by omega, h, by omega⟩, rfl, rfl, rfl⟩, fgA⟩
      · rw [if_neg h]
        repeat (any_goals (first | (apply w_any; (first | refine RT.nil ?_ | refine RT.mvA ?_ | refine RT.asA ?_ | refine RT.ldA ?_ | refine RT.bnA ?_ | refine RT.ixA ?_)) | (apply v_any; (first | refine VT.seq rfl ?_ | refine VT.reg rfl ?_ | refine VT.condT rfl rfl ?_ | refine VT.block rfl ?_ | refine VT.skip rfl ?_ | refine VT.ret rfl ?_ | refine VT.condY rfl rfl (by first | assumption | omega) ?_)) | (with_reducible first | refine kSr ?_ | refine kBr ?_ | refine kLr ?_) | (with_reducible refine d_kEr ?_; refine kEr rfl ?_)))
        rfl
    | 1, hk, _ =>
      have h : a = 0 := by omega
      rw [if_pos h]
      by_cases h2 : b = 0
      · repeat (any_goals (first | (apply w_any; (first | refine RT.nil ?_ | refine RT.mvA ?_ | refine RT.asA ?_ | refine RT.ldA ?_ | refine RT.bnA ?_ | refine RT.ixA ?_)) | (apply v_any; (first | refine VT.seq rfl ?_ | refine VT.reg rfl ?_ | refine VT.condT rfl rfl ?_ | refine VT.block rfl ?_ | refine VT.skip rfl ?_ | refine VT.ret rfl ?_ | refine VT.condD rfl rfl (fun hc => ?_) (fun hc => ?_))) | (with_reducible first | refine kSr ?_ | refine kBr ?_ | refine kLn ?_ | refine kLr ?_) | (with_reducible refine d_kEr ?_; refine kEr rfl ?_)))
        · exact absurd h2 hc
        exact ⟨0, by omega, _, _, ⟨2, rfl, .inr ⟨by omega, h, fun _ => h2⟩, rfl, rfl, rfl⟩, fgA⟩
      · repeat (any_goals (first | (apply w_any; (first | refine RT.nil ?_ | refine RT.mvA ?_ | refine RT.asA ?_ | refine RT.ldA ?_ | refine RT.bnA ?_ | refine RT.ixA ?_)) | (apply v_any; (first | refine VT.seq rfl ?_ | refine VT.reg rfl ?_ | refine VT.condT rfl rfl ?_ | refine VT.block rfl ?_ | refine VT.skip rfl ?_ | refine VT.ret rfl ?_ | refine VT.condY rfl rfl (by first | assumption | omega) ?_)) | (with_reducible first | refine kSr ?_ | refine kBr ?_ | refine kLr ?_) | (with_reducible refine d_kEr ?_; refine kEr rfl ?_)))
        rfl
  · obtain rfl : k = 2 := by omega
    have h : a = 0 := by omega
    have h2 : b = 0 := by omega
    subst h; subst h2
    repeat (any_goals (first | (apply w_any; (first | refine RT.nil ?_ | refine RT.mvA ?_ | refine RT.asA ?_ | refine RT.bnA ?_)) | (apply v_any; (first | refine VT.seq rfl ?_ | refine VT.reg rfl ?_ | refine VT.condF rfl rfl ?_ | refine VT.exit rfl ?_ | refine VT.ret rfl ?_)) | (with_reducible refine d_kEr ?_; refine kEr rfl ?_)))
    rfl
theorem m_cmp (x y : Line) : Maps Tryz.prog 148 [.agg (eLine x), .agg (eLine y)] (wI (cmpL x y)) := by
  refine Maps.vt pok Tryz.f148 (n := 17) (rs := [.tmp 4]) rfl rfl rfl rfl rfl rfl fun g => ?_
  repeat (any_goals (first | (apply w_any; (first | refine RT.nil ?_ | refine RT.asA ?_ | refine RT.nwA ?_)) | (apply v_any; (first | refine VT.seq rfl ?_ | refine VT.reg rfl ?_ | refine VT.ret rfl ?_ | refine VT.draw [(1, [0]), (1, [0]), (1, [0]), (1, [0]), (1, [0]), (1, [0]), (1, [0]), (1, [0]), (1, [0]), (1, [0]), (0, [0]), (1, []), (1, [])] 2 mixedOk rfl (by decide +kernel) (by decide +kernel) (by decide +kernel) (by first | (simp only [nrm]; rfl) | (simp only [nrm, Nat.reduceAdd, Nat.zero_add]; rfl) | rfl) (by first | (simp only [nrm]; rfl) | (simp only [nrm, Nat.reduceAdd, Nat.zero_add]; rfl) | rfl) ?_)) | (apply q_any; (first | refine PT.done (by first | (simp only [nrm]; rfl) | (simp only [nrm, Nat.reduceAdd, Nat.zero_add]; rfl) | rfl) ?_ | refine PT.asA ?_ | refine PT.ldA ?_ | refine PT.faA ?_ | (apply q_cl; (first | refine PT.callG rfl (m_compare _ _) rfl rfl ?_ | refine PT.callG rfl (m_or2 _ _) rfl rfl ?_)) | refine PT.new rfl (f_bslW2 rfl rfl rfl rfl) (by first | (simp only [nrm]; rfl) | (simp only [nrm, Nat.reduceAdd, Nat.zero_add]; rfl) | rfl) ?_)) | (with_reducible refine d_kEr ?_; refine kEr rfl ?_)))
  rfl
/-- A few words are sorted. -/
theorem c_isortL {H : List Blk} {q m c : Nat} {x : List Line} (hq : H[q]? = some (.live 4 (x.map eLine))) (hm : x.length = m) (h1 : 1 ≤ m) (hb : m ≤ 1000) :
    CallSp Tryz.prog 191 [.ms q 0 m c, wI 0, wI m, fnL] H fun d H' => d = .tup [] ∧ ∃ y T, LSrt y ∧ y.Perm x ∧ H' = H.set q (.live 4 (y.map eLine)) ++ T := by
  refine CallSp.vt pok Tryz.f191 (n := 53) (rs := []) rfl rfl rfl rfl rfl rfl rfl fun g => ?_
  have hql := blk_lt hq
  repeat (any_goals (first | (apply w_any; (first | refine RT.nil ?_ | refine RT.mvA ?_ | refine RT.asA ?_ | refine RT.bnA ?_)) | (apply v_any; (first | refine VT.seq rfl ?_ | refine VT.reg rfl ?_ | refine VT.block rfl ?_))))
  refine VT.loop (fun j al H' g' => ∃ (i : Nat) (S : List Line) (T : List Blk), j = m - i ∧ 1 ≤ i ∧ i ≤ m ∧ S.length = i ∧ LSrt S ∧ S.Perm (x.take i) ∧ al = [(0, .ms q 0 m c), (1, wI 0), (2, wI m), (3, fnL), (8, wI i)] ∧ H' = H.set q (.live 4 ((S ++ x.drop i).map eLine)) ++ T ∧ g' = g) rfl
    ⟨_, _, _, ⟨1, x.take 1, [], rfl, Nat.le_refl _, h1, by rw [List.length_take]; omega, ?_, List.Perm.refl _, rfl, by rw [List.take_append_drop, List.append_nil]; exact (set_same hq).symm, rfl⟩, Wk.keep (by (repeat first | exact True.intro | refine And.intro ?_ ?_ | exact Or.inr (Or.inl rfl) | exact Or.inl rfl | (refine DLe.i rfl ?_; omega) | (refine DLe.i rfl ?_; simp; done)))⟩ ?_
  · match x, hm with
    | [], hm => simp at hm; omega
    | a :: r, _ => exact List.pairwise_singleton _ _
  rintro j al H' g' ⟨i, S, T, rfl, hi1, hi, hSl, hS, hSp, rfl, rfl, rfl⟩
  by_cases hlt : i < m
  · obtain ⟨v, hv⟩ : ∃ v, x.drop i = v :: x.drop (i + 1) := ⟨x[i]'(by omega), List.drop_eq_getElem_cons (by omega)⟩
    generalize hR : x.drop (i + 1) = R at hv
    rw [hv]
    repeat (any_goals (first | (apply w_any; (first | refine RT.nil ?_ | refine RT.mvA ?_ | refine RT.asA ?_ | refine RT.bnA ?_)) | (apply v_any; (first | refine VT.seq rfl ?_ | refine VT.reg rfl ?_ | refine VT.block rfl ?_ | refine VT.skip rfl ?_ | refine VT.condY rfl rfl (by first | assumption | omega) ?_))))
    refine VT.loop (fun j al H' g2 => ∃ (A B : List Line) (T : List Blk), j = A.length ∧ A ++ B = S ∧ (∀ y, y ∈ B → LLe v y) ∧ al = [(0, .ms q 0 m c), (1, wI 0), (2, wI m), (3, fnL), (8, wI i), (9, wI A.length)] ∧ H' = H.set q (.live 4 ((A ++ v :: (B ++ R)).map eLine)) ++ T ∧ g2 = g') rfl
      ⟨_, _, _, ⟨S, [], T, rfl, List.append_nil _, fun y h => (by cases h), by rw [hSl], rfl, rfl⟩, Wk.keep (by (repeat first | exact True.intro | refine And.intro ?_ ?_ | exact Or.inr (Or.inl rfl) | exact Or.inl rfl | (refine DLe.i rfl ?_; omega) | (refine DLe.i rfl ?_; simp; done)))⟩ ?_
    rintro j al H' g2 ⟨A, B, T, rfl, hAB, hB, rfl, rfl, rfl⟩
    have hxl : (A ++ v :: (B ++ R)).length = m := by
      have e1 : A.length + B.length = i := by rw [← List.length_append, hAB, hSl]
      have e2 : R.length = m - (i + 1) := by rw [← hR, List.length_drop, hm]
      simp; omega
    have hAm : A.length < m := by simp at hxl; omega
    have hfin : (¬ 0 < A.length ∨ ∃ A' u, A = A' ++ [u] ∧ ¬ cmpL v u < 0) → ∃ (i' : Nat) (S' : List Line), m - i' < m - i ∧ i' = i + 1 ∧ i' ≤ m ∧ S'.length = i' ∧ LSrt S' ∧ S'.Perm (x.take i') ∧ (A ++ v :: (B ++ R)) = S' ++ x.drop i' := fun hA => by
      have hAB2 : S.take A.length = A ∧ S.drop A.length = B := by rw [← hAB]; simp
      have hlow : ∀ y, y ∈ A → LLe y v := by
        rcases hA with hA | ⟨A', u, rfl, hu⟩
        · have : A = [] := List.eq_nil_of_length_eq_zero (by omega)
          subst this; intro y h; cases h
        · intro y hy
          rw [← hAB] at hS
          have hS2 := (List.pairwise_append.1 (List.pairwise_append.1 hS).1).2.2
          rcases List.mem_append.1 hy with h | h
          · exact LLe.trans (hS2 y h u (List.mem_singleton.2 rfl)) (LLe.of_ge hu)
          · rw [List.mem_singleton.1 h]; exact LLe.of_ge hu
      refine ⟨i + 1, A ++ v :: B, by omega, rfl, hlt, ?_, ?_, ?_, by rw [hR]; simp⟩
      · have : A.length + B.length = i := by rw [← List.length_append, hAB, hSl]
        simp; omega
      · have := hS.ins (v := v) (j := A.length) (by rw [hAB2.1]; exact hlow) (by rw [hAB2.2]; exact hB)
        rw [hAB2.1, hAB2.2] at this; exact this
      · refine List.perm_middle.trans ?_
        rw [hAB]
        have e : x.take (i + 1) = x.take i ++ [v] := by
          rw [List.take_add_one]
          have : x[i]? = some v := by
            have := congrArg List.head? hv
            simpa using this
          rw [this]; rfl
        rw [e]
        exact (hSp.cons v).trans (List.perm_append_comm (l₁ := [v]) (l₂ := x.take i))
    generalize hcur : A ++ v :: (B ++ R) = cur at hxl hfin ⊢
    obtain ⟨Hc, hHc⟩ : ∃ Hc, Hc = H.set q (.live 4 (cur.map eLine)) ++ T := ⟨_, rfl⟩
    have hqc : Hc[q]? = some (.live 4 (cur.map eLine)) := by
      rw [hHc]; exact blk_app _ (List.getElem?_set_self hql)
    rw [← hHc]
    by_cases hA : 0 < A.length
    · obtain ⟨A', u, rfl⟩ : ∃ A' u, A = A' ++ [u] := ⟨A.dropLast, A.getLast (fun e => by subst e; simp at hA), (List.dropLast_concat_getLast _).symm⟩
      have hl : (A' ++ [u]).length = A'.length + 1 := by simp
      rw [hl] at hAm hA ⊢
      have hcu : cur[A'.length]? = some u := by rw [← hcur]; simp
      have hcv : cur[A'.length + 1]? = some v := by rw [← hcur]; simp
      have hcs : (cur.set (A'.length + 1) u).set A'.length v = A' ++ v :: ((u :: B) ++ R) := by rw [← hcur]; simp
      have hq2 : ∀ T, (Hc.set q (.live 4 ((cur.set (A'.length + 1) u).map eLine)) ++ T)[q]? = some (.live 4 ((cur.set (A'.length + 1) u).map eLine)) := fun T => blk_app _ (List.getElem?_set_self (blk_lt hqc))
      repeat (any_goals (first | (apply w_any; (first | refine RT.nil ?_ | refine RT.mvA ?_ | refine RT.asA ?_ | refine RT.bnA ?_)) | (apply v_any; (first | refine VT.seq rfl ?_ | refine VT.reg rfl ?_ | refine VT.block rfl ?_ | refine VT.skip rfl ?_ | refine VT.exit rfl ?_ | refine VT.draw [(0, []), (0, []), (0, []), (0, []), (0, []), (0, []), (0, []), (0, []), (0, []), (0, []), (0, []), (0, []), (0, []), (0, []), (0, []), (0, []), (0, [])] 1 mixedOk rfl (by decide +kernel) (by decide +kernel) (by decide +kernel) (by first | (simp only [nrm]; rfl) | (simp only [nrm, Nat.reduceAdd, Nat.zero_add]; rfl) | rfl) (by first | (simp only [nrm]; rfl) | (simp only [nrm, Nat.reduceAdd, Nat.zero_add]; rfl) | rfl) ?_ | refine VT.draw [(2, [0, 1]), (2, [0, 1]), (2, [0, 1]), (2, [0, 1]), (2, [0, 1]), (2, [0, 1]), (2, [0, 1]), (2, [0, 1]), (2, [0, 1]), (2, [0, 1]), (2, [0, 1]), (2, [0, 1]), (2, [0, 1]), (2, [0, 1]), (2, [0, 1]), (0, [0, 1]), (2, [1]), (1, [1])] 3 mixedOk rfl (by decide +kernel) (by decide +kernel) (by decide +kernel) (by first | (simp only [nrm]; rfl) | (simp only [nrm, Nat.reduceAdd, Nat.zero_add]; rfl) | rfl) (by first | (simp only [nrm]; rfl) | (simp only [nrm, Nat.reduceAdd, Nat.zero_add]; rfl) | rfl) ?_ | refine VT.condD rfl rfl (fun hc => ?_) (fun hc => ?_))) | (apply q_any; (first | (apply q_nil; (first | refine PT.done (dropLn _ [_, _] .free) ?_ | refine PT.done (dropLn Hc [] .free) ?_)) | refine PT.gy rfl ?_ | refine PT.mvI ((by first | exact mask_app (H0 := Hc) (T := [_]) rfl | exact mask_app (H0 := Hc) (T := [_, _, _]) rfl | exact mask_app' (H1 := Hc.set q _) (T := [_, _, _]) (by simp) rfl | exact mask_app' (H1 := (Hc.set q _).set q _) (T := [_, _, _]) (by simp) rfl)) ?_ | (apply q_ld; (first | refine PT.vI ((by first | exact mask_app (H0 := Hc) (T := [_]) rfl | exact mask_app (H0 := Hc) (T := [_, _, _]) rfl | exact mask_app' (H1 := Hc.set q _) (T := [_, _, _]) (by simp) rfl | exact mask_app' (H1 := (Hc.set q _).set q _) (T := [_, _, _]) (by simp) rfl)) (f_ldOW rfl (blk_app _ hqc) (map_get hcv) rfl rfl rfl) ?_ | refine PT.vI ((by first | exact mask_app (H0 := Hc) (T := [_]) rfl | exact mask_app (H0 := Hc) (T := [_, _, _]) rfl | exact mask_app' (H1 := Hc.set q _) (T := [_, _, _]) (by simp) rfl | exact mask_app' (H1 := (Hc.set q _).set q _) (T := [_, _, _]) (by simp) rfl)) (f_ldOW rfl (blk_app _ hqc) (map_get hcu) rfl rfl rfl) ?_)) | (apply q_bn; (first | refine PT.vI ((by first | exact mask_app (H0 := Hc) (T := [_]) rfl | exact mask_app (H0 := Hc) (T := [_, _, _]) rfl | exact mask_app' (H1 := Hc.set q _) (T := [_, _, _]) (by simp) rfl | exact mask_app' (H1 := (Hc.set q _).set q _) (T := [_, _, _]) (by simp) rfl)) (f_gtrT rfl rfl (by omega)) ?_ | refine PT.bnI ((by first | exact mask_app (H0 := Hc) (T := [_]) rfl | exact mask_app (H0 := Hc) (T := [_, _, _]) rfl | exact mask_app' (H1 := Hc.set q _) (T := [_, _, _]) (by simp) rfl | exact mask_app' (H1 := (Hc.set q _).set q _) (T := [_, _, _]) (by simp) rfl)) ?_)) | (refine p_call ?_; refine PT.callI ((by first | exact mask_app (H0 := Hc) (T := [_]) rfl | exact mask_app (H0 := Hc) (T := [_, _, _]) rfl | exact mask_app' (H1 := Hc.set q _) (T := [_, _, _]) (by simp) rfl | exact mask_app' (H1 := (Hc.set q _).set q _) (T := [_, _, _]) (by simp) rfl)) rfl (m_cmp v u) (by first | (simp only [nrm]; rfl) | (simp only [nrm, Nat.reduceAdd, Nat.zero_add]; rfl) | rfl) rfl ?_) | refine PT.pkI ((by first | exact mask_app (H0 := Hc) (T := [_]) rfl | exact mask_app (H0 := Hc) (T := [_, _, _]) rfl | exact mask_app' (H1 := Hc.set q _) (T := [_, _, _]) (by simp) rfl | exact mask_app' (H1 := (Hc.set q _).set q _) (T := [_, _, _]) (by simp) rfl)) ?_ | (apply q_ix; (first | refine PT.vI ((by first | exact mask_app (H0 := Hc) (T := [_]) rfl | exact mask_app (H0 := Hc) (T := [_, _, _]) rfl | exact mask_app' (H1 := Hc.set q _) (T := [_, _, _]) (by simp) rfl | exact mask_app' (H1 := (Hc.set q _).set q _) (T := [_, _, _]) (by simp) rfl)) (f_ixO0 (k := A'.length + 1) rfl rfl (by omega) (blk_app _ hqc) rfl (by omega)) ?_ | refine PT.vI ((by first | exact mask_app (H0 := Hc) (T := [_]) rfl | exact mask_app (H0 := Hc) (T := [_, _, _]) rfl | exact mask_app' (H1 := Hc.set q _) (T := [_, _, _]) (by simp) rfl | exact mask_app' (H1 := (Hc.set q _).set q _) (T := [_, _, _]) (by simp) rfl)) (f_ixO0 (k := A'.length) rfl rfl (by omega) (blk_app _ hqc) rfl (by omega)) ?_ | refine PT.vI ((by first | exact mask_app (H0 := Hc) (T := [_]) rfl | exact mask_app (H0 := Hc) (T := [_, _, _]) rfl | exact mask_app' (H1 := Hc.set q _) (T := [_, _, _]) (by simp) rfl | exact mask_app' (H1 := (Hc.set q _).set q _) (T := [_, _, _]) (by simp) rfl)) (f_ixO0 (k := A'.length) rfl rfl (by omega) (hq2 _) rfl (by omega)) ?_)) | (apply q_st; (first | refine PT.wrI ((by first | exact mask_app (H0 := Hc) (T := [_]) rfl | exact mask_app (H0 := Hc) (T := [_, _, _]) rfl | exact mask_app' (H1 := Hc.set q _) (T := [_, _, _]) (by simp) rfl | exact mask_app' (H1 := (Hc.set q _).set q _) (T := [_, _, _]) (by simp) rfl)) (f_stMA (k := A'.length + 1) (v := u) rfl (blk_app _ hqc) (by omega) rfl rfl rfl rfl rfl) (List.set_append_left _ _ (blk_lt hqc)) ?_ | refine PT.wrI ((by first | exact mask_app (H0 := Hc) (T := [_]) rfl | exact mask_app (H0 := Hc) (T := [_, _, _]) rfl | exact mask_app' (H1 := Hc.set q _) (T := [_, _, _]) (by simp) rfl | exact mask_app' (H1 := (Hc.set q _).set q _) (T := [_, _, _]) (by simp) rfl)) (f_stMA (k := A'.length) (v := v) rfl (hq2 _) (by rw [List.length_set]; omega) rfl rfl rfl rfl rfl) (List.set_append_left _ _ (by rw [List.length_set]; exact blk_lt hqc)) ?_)))) | with_reducible (refine kLn ?_)))
      · refine ⟨A'.length, by omega, _, _, ⟨A', u :: B, T ++ [.free, .free], rfl, by rw [← hAB]; simp, fun y hy => ?_, rfl, ?_, rfl⟩, Wk.keep (by (repeat first | exact True.intro | refine And.intro ?_ ?_ | exact Or.inr (Or.inl rfl) | exact Or.inl rfl | (refine DLe.i rfl ?_; omega) | (refine DLe.i rfl ?_; simp; done)))⟩
        · rcases List.mem_cons.1 hy with rfl | h
          · exact LLe.of_lt hc
          · exact hB y h
        · rw [hcs, hHc, List.set_set, List.set_append_left _ _ (by simpa using hql), List.set_set, List.append_assoc]
      · obtain ⟨i', S', k1, rfl, k3, k4, k5, k6, k7⟩ := hfin (.inr ⟨A', u, rfl, hc⟩)
        refine ⟨_, k1, _, _, ⟨i + 1, S', T, rfl, by omega, k3, k4, k5, k6, rfl, ?_, rfl⟩, Wk.keep (by (repeat first | exact True.intro | refine And.intro ?_ ?_ | exact Or.inr (Or.inl rfl) | exact Or.inl rfl | (refine DLe.i rfl ?_; omega) | (refine DLe.i rfl ?_; simp; done)))⟩
        rw [hHc, k7, List.append_nil]
    · have hA0 : A.length = 0 := by omega
      repeat (any_goals (first | (apply w_any; (first | refine RT.nil ?_ | refine RT.mvA ?_ | refine RT.asA ?_ | refine RT.bnA ?_)) | (apply v_any; (first | refine VT.seq rfl ?_ | refine VT.reg rfl ?_ | refine VT.condF rfl rfl ?_ | refine VT.exit rfl ?_ | refine VT.draw [(0, []), (0, []), (0, []), (0, []), (0, []), (0, []), (0, []), (0, []), (0, []), (0, []), (0, []), (0, []), (0, []), (0, []), (0, []), (0, []), (0, [])] 1 mixedOk rfl (by decide +kernel) (by decide +kernel) (by decide +kernel) (by first | (simp only [nrm]; rfl) | (simp only [nrm, Nat.reduceAdd, Nat.zero_add]; rfl) | rfl) (by first | (simp only [nrm]; rfl) | (simp only [nrm, Nat.reduceAdd, Nat.zero_add]; rfl) | rfl) ?_)) | (apply q_any; (first | refine PT.done (dropLn Hc [] .free) ?_ | refine PT.gn rfl rfl ?_ | refine PT.mvI ((by first | exact mask_app (H0 := Hc) (T := [_]) rfl | exact mask_app (H0 := Hc) (T := [_, _, _]) rfl | exact mask_app' (H1 := Hc.set q _) (T := [_, _, _]) (by simp) rfl | exact mask_app' (H1 := (Hc.set q _).set q _) (T := [_, _, _]) (by simp) rfl)) ?_ | refine PT.vI ((by first | exact mask_app (H0 := Hc) (T := [_]) rfl | exact mask_app (H0 := Hc) (T := [_, _, _]) rfl | exact mask_app' (H1 := Hc.set q _) (T := [_, _, _]) (by simp) rfl | exact mask_app' (H1 := (Hc.set q _).set q _) (T := [_, _, _]) (by simp) rfl)) (f_gtrF rfl rfl (by omega)) ?_ | refine PT.pkI ((by first | exact mask_app (H0 := Hc) (T := [_]) rfl | exact mask_app (H0 := Hc) (T := [_, _, _]) rfl | exact mask_app' (H1 := Hc.set q _) (T := [_, _, _]) (by simp) rfl | exact mask_app' (H1 := (Hc.set q _).set q _) (T := [_, _, _]) (by simp) rfl)) ?_)) | with_reducible (refine kLn ?_)))
      obtain ⟨i', S', k1, rfl, k3, k4, k5, k6, k7⟩ := hfin (.inl hA)
      refine ⟨_, k1, _, _, ⟨i + 1, S', T, rfl, by omega, k3, k4, k5, k6, rfl, ?_, rfl⟩, Wk.keep (by (repeat first | exact True.intro | refine And.intro ?_ ?_ | exact Or.inr (Or.inl rfl) | exact Or.inl rfl | (refine DLe.i rfl ?_; omega) | (refine DLe.i rfl ?_; simp; done)))⟩
      rw [hHc, k7, List.append_nil]
  · obtain rfl : i = m := by omega
    repeat (any_goals (first | (apply w_any; (first | refine RT.nil ?_ | refine RT.mvA ?_ | refine RT.bnA ?_)) | (apply v_any; (first | refine VT.seq rfl ?_ | refine VT.reg rfl ?_ | refine VT.exit rfl ?_ | refine VT.condN rfl rfl (by first | assumption | omega) ?_)) | (with_reducible first | refine kSe ?_ | refine kBe ?_ | refine kLe ?_) | (with_reducible refine d_kEn ?_; refine kEn rfl ?_)))
    rw [List.drop_of_length_le (by omega), List.append_nil]
    rw [List.take_of_length_le (by omega)] at hSp
    exact ⟨rfl, S, T, hS, hSp, rfl⟩
theorem c_psortL {H : List Blk} {q m c : Nat} {x : List Line} (k : Int) (hq : H[q]? = some (.live 4 (x.map eLine))) (hm : x.length = m) (h1 : 1 ≤ m) (hb : m ≤ 12) :
    CallSp Tryz.prog 171 [.ms q 0 m c, wI 0, wI m, wI k, fnL] H fun d H' => d = .tup [] ∧ ∃ y T, LSrt y ∧ y.Perm x ∧ H' = H.set q (.live 4 (y.map eLine)) ++ T := by
  refine CallSp.vt pok Tryz.f171 (n := 148) (rs := []) rfl rfl rfl rfl rfl rfl rfl fun g => ?_
  repeat (any_goals (first | (apply w_any; (first | refine RT.nil ?_ | refine RT.asA ?_)) | (apply v_any; (first | refine VT.seq rfl ?_ | refine VT.reg rfl ?_ | refine VT.block rfl ?_))))
  refine VT.loop (fun j al H' g' => j = 0 ∧ al = [(0, .ms q 0 m c), (1, wI 0), (2, wI m), (4, fnL)] ∧ H' = H ∧ g' = g) rfl ⟨_, _, _, ⟨rfl, rfl, rfl, rfl⟩, Wk.keep (by (repeat first | exact True.intro | refine And.intro ?_ ?_ | exact Or.inr (Or.inl rfl) | exact Or.inl rfl | (refine DLe.i rfl ?_; omega) | (refine DLe.i rfl ?_; simp; done)))⟩ ?_
  rintro j al H' g' ⟨rfl, rfl, rfl, rfl⟩
  repeat (any_goals (first | (apply w_any; (first | refine RT.nil ?_ | refine RT.mvA ?_ | refine RT.asA ?_ | refine RT.bnA ?_ | (refine d_call ?_; refine RT.callG rfl ((c_isortL hq hm h1 (by omega)).mono ?_)))) | (apply v_any; (first | refine VT.seq rfl ?_ | refine VT.reg rfl ?_ | refine VT.block rfl ?_ | refine VT.condY rfl rfl (by first | assumption | omega) ?_))))
  rintro d H4 ⟨rfl, hy⟩
  change RT _ _ _ _ ((30, D.tup []) :: _) _ _ _
  repeat (any_goals (first | refine RT.nil ?_ | refine VT.ret rfl ?_ | (with_reducible first | refine kSr ?_ | refine kBr ?_ | refine kLr ?_) | (with_reducible refine d_kEr ?_; refine kEr rfl ?_)))
  exact ⟨rfl, hy⟩
theorem c_sortL {H : List Blk} {q m c : Nat} {x : List Line} (hq : H[q]? = some (.live 4 (x.map eLine))) (hm : x.length = m) (h1 : 1 ≤ m) (hb : m ≤ 12) :
    CallSp Tryz.prog 147 [.ms q 0 m c, fnL] H fun d H' => d = .tup [] ∧ ∃ y T, LSrt y ∧ y.Perm x ∧ H' = H.set q (.live 4 (y.map eLine)) ++ T := by
  refine CallSp.vt pok Tryz.f147 (n := 14) (rs := []) rfl rfl rfl rfl rfl rfl rfl fun g => ?_
  repeat (any_goals (first | (apply w_any; (first | refine RT.nil ?_ | refine RT.mvA ?_ | refine RT.asA ?_ | (apply w_cl; (first | (refine d_call ?_; refine RT.callG rfl ((c_psortL _ hq hm h1 hb).mono ?_)) | refine RT.callM rfl (m_len m (by omega) (by omega)) rfl rfl ?_ | refine RT.clA ?_)) | refine RT.v (f_convU rfl rfl rfl (by omega) (by omega)) ?_)) | (apply v_any; (first | refine VT.seq rfl ?_ | refine VT.reg rfl ?_))))
  rintro d H4 ⟨rfl, hy⟩
  change RT _ _ _ _ ((13, D.tup []) :: _) _ _ _
  repeat (any_goals (first | refine RT.nil ?_ | (with_reducible refine d_kEn ?_; refine kEn rfl ?_)))
  exact ⟨rfl, hy⟩
end Go.DL
