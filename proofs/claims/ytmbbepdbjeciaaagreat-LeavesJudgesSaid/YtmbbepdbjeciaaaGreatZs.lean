/- Sorting a few words, and comparing lists. -/
import Derived.Test.YtmbbepdbjeciaaaGreatZm1
import Derived.Test.YtmbbepdbjeciaaaGreatZe
set_option linter.all false
set_option maxRecDepth 100000
set_option maxHeartbeats 16000000
namespace Go.DL
open Go.Proofs Go

theorem m_equal (a b : List Int) (hl : a.length ≤ 4611686018427387904) (hl' : b.length ≤ 4611686018427387904) : Maps Tryz.prog 86 [.sl (a.map eI), .sl (b.map eI)] (wB (decide (a = b))) := by
  refine Maps.vt pok Tryz.f86 (n := 26) (rs := [.tmp 4]) rfl rfl rfl rfl rfl rfl fun g => ?_
  by_cases he : a.length = b.length
  · repeat (any_goals (first | (refine d_RT ?_; (first | refine RT.nil ?_ | refine RT.mvA ?_ | refine RT.asA ?_ | refine RT.bnA ?_ | refine RT.clA ?_)) | (refine d_VT ?_; (first | refine VT.seq rfl ?_ | refine VT.reg rfl ?_ | refine VT.condN rfl rfl (by first | assumption | omega) ?_ | refine VT.block rfl ?_ | refine VT.skip rfl ?_))))
    refine VT.loop (fun j al H g' => ∃ k : Nat, j = a.length - k ∧ k ≤ a.length ∧ a.take k = b.take k ∧ al = [(0, .sl (a.map eI)), (1, .sl (b.map eI)), (12, wI a.length), (13, wI k)] ∧ H = [] ∧ g' = g) rfl
      ⟨_, _, _, ⟨0, rfl, Nat.zero_le _, rfl, rfl, rfl, rfl⟩, fgA⟩ ?_
    rintro j al H g' ⟨k, rfl, hk, hn, rfl, rfl, rfl⟩
    by_cases hlt : k < a.length
    · repeat (any_goals (first | (refine d_RT ?_; (first | refine RT.nil ?_ | refine RT.mvA ?_ | refine RT.asA ?_ | refine RT.bnA ?_)) | (refine d_VT ?_; (first | refine VT.seq rfl ?_ | refine VT.reg rfl ?_ | refine VT.draw [(0, []), (0, []), (0, []), (0, []), (0, []), (0, []), (0, []), (0, []), (0, [])] 1 mixedOk rfl (by decide +kernel) (by decide +kernel) (by decide +kernel) (by first | (simp only [nrm]; rfl) | (simp only [nrm, Nat.reduceAdd, Nat.zero_add]; rfl) | rfl) (by first | (simp only [nrm]; rfl) | (simp only [nrm, Nat.reduceAdd, Nat.zero_add]; rfl) | rfl) ?_ | refine VT.condY rfl rfl (by first | assumption | omega) ?_ | refine VT.condD rfl rfl (fun hc => ?_) (fun hc => ?_) | refine VT.block rfl ?_ | refine VT.skip rfl ?_ | refine VT.ret rfl ?_)) | (refine d_PT ?_; (first | refine PT.done (by first | (simp only [nrm]; rfl) | (simp only [nrm, Nat.reduceAdd, Nat.zero_add]; rfl) | rfl) ?_ | refine PT.mvA ?_ | refine PT.ldA ?_ | refine PT.bnA ?_ | refine PT.ixA ?_)) | (with_reducible first | refine kSr ?_ | refine kBr ?_ | refine kLn ?_ | refine kLr ?_) | (with_reducible refine d_kEr ?_; refine kEr rfl ?_)))
      · have : a ≠ b := fun h => hc (by subst h; rfl)
        rw [decide_eq_false this]; rfl
      · exact ⟨a.length - (k + 1), by omega, _, _, ⟨k + 1, rfl, hlt, by rw [List.take_succ_eq_append_getElem hlt, List.take_succ_eq_append_getElem (show k < b.length by omega), hn, Classical.not_not.1 hc], rfl, rfl, rfl⟩, fgA⟩
    · repeat (any_goals (first | (refine d_RT ?_; (first | refine RT.nil ?_ | refine RT.asA ?_ | refine RT.bnA ?_)) | (refine d_VT ?_; (first | refine VT.seq rfl ?_ | refine VT.reg rfl ?_ | refine VT.condN rfl rfl (by first | assumption | omega) ?_ | refine VT.exit rfl ?_ | refine VT.ret rfl ?_)) | (with_reducible refine d_kEr ?_; refine kEr rfl ?_)))
      rw [List.take_of_length_le (by omega), List.take_of_length_le (by omega)] at hn
      rw [decide_eq_true hn]; rfl
  · repeat (any_goals (first | (refine d_RT ?_; (first | refine RT.nil ?_ | refine RT.mvA ?_ | refine RT.asA ?_ | refine RT.bnA ?_ | refine RT.clA ?_)) | (refine d_VT ?_; (first | refine VT.seq rfl ?_ | refine VT.reg rfl ?_ | refine VT.condY rfl rfl (by first | assumption | omega) ?_ | refine VT.ret rfl ?_)) | with_reducible (refine kSr ?_) | (with_reducible refine d_kEr ?_; refine kEr rfl ?_)))
    have : a ≠ b := fun h => he (by rw [h])
    rw [decide_eq_false this]; rfl
theorem m_nan (a : Int) : Maps Tryz.prog 172 [wI a] (wB false) := by
  refine Maps.vt pok Tryz.f172 (n := 6) (rs := [.tmp 2]) rfl rfl rfl rfl rfl rfl fun g => ?_
  repeat (any_goals (first | (refine d_RT ?_; (first | refine RT.nil ?_ | refine RT.v (f_neqF rfl rfl rfl) ?_ | refine RT.mvA ?_ | refine RT.asA ?_)) | (refine d_VT ?_; (first | refine VT.seq rfl ?_ | refine VT.reg rfl ?_ | refine VT.ret rfl ?_)) | (with_reducible refine d_kEr ?_; refine kEr rfl ?_)))
  rfl
theorem m_less (a b : Int) : Maps Tryz.prog 186 [wI a, wI b] (wB (decide (a < b))) := by
  refine Maps.vt pok Tryz.f186 (n := 17) (rs := [.tmp 4]) rfl rfl rfl rfl rfl rfl fun g => ?_
  repeat (any_goals (first | (refine d_RT ?_; (first | refine RT.nil ?_ | (refine d_g ?_; (first | refine RT.gy rfl ?_ | refine RT.gn rfl rfl ?_)) | refine RT.mvA ?_ | refine RT.asA ?_ | refine RT.bnA ?_ | refine RT.callM rfl (m_nan a) rfl rfl ?_ | refine RT.pkA ?_)) | (refine d_VT ?_; (first | refine VT.seq rfl ?_ | refine VT.reg rfl ?_ | refine VT.ret rfl ?_)) | (with_reducible refine d_kEr ?_; refine kEr rfl ?_)))
  rfl
section
variable {P : Program} {H : List Blk} {s n : Nat} {al : AL} {tx ty' : TypeId} {x y : Operand} {a b : Int}
theorem f_gtrT (hx : evA n al x = wI a) (hy : evA n al y = wI b) (h : b < a) : Val P H s n al (.binOp .gtr tx x y ty') (wB true) := by
  have h1 := f_gtr (P := P) (H := H) (s := s) (tx := tx) (ty' := ty') hx hy
  rwa [decide_eq_true h] at h1
theorem f_gtrF (hx : evA n al x = wI a) (hy : evA n al y = wI b) (h : ¬ b < a) : Val P H s n al (.binOp .gtr tx x y ty') (wB false) := by
  have h1 := f_gtr (P := P) (H := H) (s := s) (tx := tx) (ty' := ty') hx hy
  rwa [decide_eq_false h] at h1
theorem f_convU {k : IntKind} {src dst : TypeId} {u : TypeDesc} (hx : evA n al x = .v (.int k a)) (hs : P.underlying src = some u) (hd : P.underlying dst = some (.int .u64)) (h1 : 0 ≤ a) (h2 : a ≤ 9223372036854775807) : Val P H s n al (.convert src dst x) (.v (.int .u64 a)) := by
  have hw : IntKind.wrap .u64 a = a := by
    show a % 18446744073709551616 = a
    omega
  refine ⟨?_⟩; simp only [stepD, ev_T, hx, convD, hs, hd, hw, keepD]; rfl
end
theorem set_same {H : List Blk} {q : Nat} {x : Blk} (h : H[q]? = some x) : H.set q x = H := by
  refine List.ext_getElem? fun i => ?_
  rw [List.getElem?_set]
  split
  · rename_i e; subst e; rw [if_pos (blk_lt h), h]
  · rfl
/-- Nothing is sorted. -/
theorem m_isort0 : Maps Tryz.prog 180 [.sl [], wI 0, wI 0] (.tup []) := by
  refine Maps.vt pok Tryz.f180 (n := 49) (rs := []) rfl rfl rfl rfl rfl rfl fun g => ?_
  repeat (any_goals (first | (refine d_RT ?_; (first | refine RT.nil ?_ | refine RT.mvA ?_ | refine RT.asA ?_ | refine RT.bnA ?_)) | (refine d_VT ?_; (first | refine VT.seq rfl ?_ | refine VT.reg rfl ?_ | refine VT.block rfl ?_))))
  refine VT.loop (fun j al H g' => j = 0 ∧ al = [(2, wI 0), (6, wI 1)] ∧ H = [] ∧ g' = g) rfl ⟨_, _, _, ⟨rfl, rfl, rfl, rfl⟩, fgA⟩ ?_
  rintro j al H g' ⟨rfl, rfl, rfl, rfl⟩
  repeat (any_goals (first | (refine d_RT ?_; (first | refine RT.nil ?_ | refine RT.mvA ?_ | refine RT.bnA ?_)) | (refine d_VT ?_; (first | refine VT.seq rfl ?_ | refine VT.reg rfl ?_ | refine VT.condF rfl rfl ?_ | refine VT.exit rfl ?_)) | (with_reducible first | refine kSe ?_ | refine kBe ?_ | refine kLe ?_) | (with_reducible refine d_kEn ?_; refine kEn rfl ?_)))
  rfl
theorem m_psort0 (q : Int) : Maps Tryz.prog 168 [.sl [], wI 0, wI 0, wI q] (.tup []) := by
  refine Maps.vt pok Tryz.f168 (n := 134) (rs := []) rfl rfl rfl rfl rfl rfl fun g => ?_
  repeat (any_goals (first | (refine d_RT ?_; (first | refine RT.nil ?_ | refine RT.asA ?_)) | (refine d_VT ?_; (first | refine VT.seq rfl ?_ | refine VT.reg rfl ?_ | refine VT.block rfl ?_))))
  refine VT.loop (fun j al H g' => j = 0 ∧ al = [(0, .sl []), (1, wI 0), (2, wI 0)] ∧ H = [] ∧ g' = g) rfl ⟨_, _, _, ⟨rfl, rfl, rfl, rfl⟩, fgA⟩ ?_
  rintro j al H g' ⟨rfl, rfl, rfl, rfl⟩
  repeat (any_goals (first | (refine d_RT ?_; (first | refine RT.nil ?_ | refine RT.mvA ?_ | refine RT.asA ?_ | refine RT.bnA ?_ | refine RT.callM rfl (m_isort0) rfl rfl ?_)) | (refine d_VT ?_; (first | refine VT.seq rfl ?_ | refine VT.reg rfl ?_ | refine VT.condT rfl rfl ?_ | refine VT.block rfl ?_ | refine VT.ret rfl ?_)) | (with_reducible first | refine kSr ?_ | refine kBr ?_ | refine kLr ?_) | (with_reducible refine d_kEr ?_; refine kEr rfl ?_)))
  rfl
theorem m_sort0 : Maps Tryz.prog 133 [.sl []] (.tup []) := by
  refine Maps.vt pok Tryz.f133 (n := 11) (rs := []) rfl rfl rfl rfl rfl rfl fun g => ?_
  repeat (any_goals (first | (refine d_RT ?_; (first | refine RT.nil ?_ | refine RT.v (f_lenM (f := eI) (l := []) rfl rfl) ?_ | refine RT.v (f_convU rfl rfl rfl (by decide) (by decide)) ?_ | refine RT.mvA ?_ | refine RT.asA ?_ | (refine d_call ?_; (first | refine RT.callM rfl (m_len 0 (by decide) (by decide)) rfl rfl ?_ | refine RT.callM rfl (m_psort0 _) rfl rfl ?_)))) | (refine d_VT ?_; (first | refine VT.seq rfl ?_ | refine VT.reg rfl ?_)) | (with_reducible refine d_kEn ?_; refine kEn rfl ?_)))
  rfl
/-- A few words are sorted. -/
theorem c_isort {H : List Blk} {q m c : Nat} {x : List Int} (hq : H[q]? = some (.live 1 (x.map eI))) (hm : x.length = m) (h1 : 1 ≤ m) (hb : m ≤ 1000) :
    CallSp Tryz.prog 180 [.ms q 0 m c, wI 0, wI m] H fun d H' => d = .tup [] ∧ ∃ y T, DM.Srt y ∧ y.Perm x ∧ H' = H.set q (.live 1 (y.map eI)) ++ T := by
  refine CallSp.vt pok Tryz.f180 (n := 49) (rs := []) rfl rfl rfl rfl rfl rfl rfl fun g => ?_
  have hql := blk_lt hq
  repeat (any_goals (first | (refine d_RT ?_; (first | refine RT.nil ?_ | refine RT.mvA ?_ | refine RT.asA ?_ | refine RT.bnA ?_)) | (refine d_VT ?_; (first | refine VT.seq rfl ?_ | refine VT.reg rfl ?_ | refine VT.block rfl ?_))))
  refine VT.loop (fun j al H' g' => ∃ (i : Nat) (S : List Int) (T : List Blk), j = m - i ∧ 1 ≤ i ∧ i ≤ m ∧ S.length = i ∧ DM.Srt S ∧ S.Perm (x.take i) ∧ al = [(0, .ms q 0 m c), (1, wI 0), (2, wI m), (6, wI i)] ∧ H' = H.set q (.live 1 ((S ++ x.drop i).map eI)) ++ T ∧ g' = g) rfl
    ⟨_, _, _, ⟨1, x.take 1, [], rfl, Nat.le_refl _, h1, by rw [List.length_take]; omega, ?_, List.Perm.refl _, rfl, by rw [List.take_append_drop, List.append_nil]; exact (set_same hq).symm, rfl⟩, Wk.keep (by (repeat first | exact True.intro | refine And.intro ?_ ?_ | exact Or.inr (Or.inl rfl) | exact Or.inl rfl | (refine DLe.i rfl ?_; omega) | (refine DLe.i rfl ?_; simp; done)))⟩ ?_
  · match x, hm with
    | [], hm => simp at hm; omega
    | a :: r, _ => exact List.pairwise_singleton _ _
  rintro j al H' g' ⟨i, S, T, rfl, hi1, hi, hSl, hS, hSp, rfl, rfl, rfl⟩
  by_cases hlt : i < m
  · obtain ⟨v, hv⟩ : ∃ v, x.drop i = v :: x.drop (i + 1) := ⟨x[i]'(by omega), List.drop_eq_getElem_cons (by omega)⟩
    generalize hR : x.drop (i + 1) = R at hv
    rw [hv]
    repeat (any_goals (first | (refine d_RT ?_; (first | refine RT.nil ?_ | refine RT.mvA ?_ | refine RT.asA ?_ | refine RT.bnA ?_)) | (refine d_VT ?_; (first | refine VT.seq rfl ?_ | refine VT.reg rfl ?_ | refine VT.condY rfl rfl (by first | assumption | omega) ?_ | refine VT.block rfl ?_ | refine VT.skip rfl ?_))))
    refine VT.loop (fun j al H' g2 => ∃ (A B : List Int) (T : List Blk), j = A.length ∧ A ++ B = S ∧ (∀ y, y ∈ B → v ≤ y) ∧ al = [(0, .ms q 0 m c), (1, wI 0), (2, wI m), (6, wI i), (7, wI A.length)] ∧ H' = H.set q (.live 1 ((A ++ v :: (B ++ R)).map eI)) ++ T ∧ g2 = g') rfl
      ⟨_, _, _, ⟨S, [], T, rfl, List.append_nil _, fun y h => (by cases h), by rw [hSl], rfl, rfl⟩, Wk.keep (by (repeat first | exact True.intro | refine And.intro ?_ ?_ | exact Or.inr (Or.inl rfl) | exact Or.inl rfl | (refine DLe.i rfl ?_; omega) | (refine DLe.i rfl ?_; simp; done)))⟩ ?_
    rintro j al H' g2 ⟨A, B, T, rfl, hAB, hB, rfl, rfl, rfl⟩
    have hxl : (A ++ v :: (B ++ R)).length = m := by
      have e1 : A.length + B.length = i := by rw [← List.length_append, hAB, hSl]
      have e2 : R.length = m - (i + 1) := by rw [← hR, List.length_drop, hm]
      simp; omega
    have hAm : A.length < m := by simp at hxl; omega
    have hfin : (¬ 0 < A.length ∨ ∃ A' u, A = A' ++ [u] ∧ ¬ v < u) → ∃ (i' : Nat) (S' : List Int), m - i' < m - i ∧ i' = i + 1 ∧ i' ≤ m ∧ S'.length = i' ∧ DM.Srt S' ∧ S'.Perm (x.take i') ∧ (A ++ v :: (B ++ R)) = S' ++ x.drop i' := fun hA => by
      have hAB2 : S.take A.length = A ∧ S.drop A.length = B := by rw [← hAB]; simp
      have hlow : ∀ y, y ∈ A → y ≤ v := by
        rcases hA with hA | ⟨A', u, rfl, hu⟩
        · have : A = [] := List.eq_nil_of_length_eq_zero (by omega)
          subst this; intro y h; cases h
        · intro y hy
          rw [← hAB] at hS
          have hS2 := (List.pairwise_append.1 (List.pairwise_append.1 hS).1).2.2
          rcases List.mem_append.1 hy with h | h
          · have := hS2 y h u (List.mem_singleton.2 rfl); omega
          · rw [List.mem_singleton.1 h]; omega
      refine ⟨i + 1, A ++ v :: B, by omega, rfl, hlt, ?_, ?_, ?_, by rw [hR]; simp⟩
      · have : A.length + B.length = i := by rw [← List.length_append, hAB, hSl]
        simp; omega
      · have := hS.ins (v := v) (j := A.length) (by rw [hAB2.1]; exact hlow) (by rw [hAB2.2]; exact hB)
        rw [hAB2.1, hAB2.2] at this; exact this
      · refine List.perm_middle.trans ?_
        rw [hAB]
        have e : x.take (i + 1) = x.take i ++ [v] := by
          rw [List.take_add_one]
          have : x[i]? = some v := by
            have := congrArg List.head? hv
            simpa using this
          rw [this]; rfl
        rw [e]
        exact (hSp.cons v).trans (List.perm_append_comm (l₁ := [v]) (l₂ := x.take i))
    generalize hcur : A ++ v :: (B ++ R) = cur at hxl hfin ⊢
    obtain ⟨Hc, hHc⟩ : ∃ Hc, Hc = H.set q (.live 1 (cur.map eI)) ++ T := ⟨_, rfl⟩
    have hqc : Hc[q]? = some (.live 1 (cur.map eI)) := by
      rw [hHc]; exact blk_app _ (List.getElem?_set_self hql)
    rw [← hHc]
    by_cases hA : 0 < A.length
    · obtain ⟨A', u, rfl⟩ : ∃ A' u, A = A' ++ [u] := ⟨A.dropLast, A.getLast (fun e => by subst e; simp at hA), (List.dropLast_concat_getLast _).symm⟩
      have hl : (A' ++ [u]).length = A'.length + 1 := by simp
      rw [hl] at hAm hA ⊢
      have hcu : cur[A'.length]? = some u := by rw [← hcur]; simp
      have hcv : cur[A'.length + 1]? = some v := by rw [← hcur]; simp
      have hcs : (cur.set (A'.length + 1) u).set A'.length v = A' ++ v :: ((u :: B) ++ R) := by rw [← hcur]; simp
      have hq2 : ∀ T, (Hc.set q (.live 1 ((cur.set (A'.length + 1) u).map eI)) ++ T)[q]? = some (.live 1 ((cur.set (A'.length + 1) u).map eI)) := fun T => blk_app _ (List.getElem?_set_self (blk_lt hqc))
      repeat (any_goals (first | (refine d_RT ?_; (first | refine RT.nil ?_ | refine RT.mvA ?_ | refine RT.asA ?_ | refine RT.bnA ?_)) | (refine d_VT ?_; (first | refine VT.seq rfl ?_ | refine VT.reg rfl ?_ | refine VT.draw [(0, []), (0, []), (0, []), (0, []), (0, []), (0, []), (0, []), (0, []), (0, []), (0, []), (0, []), (0, []), (0, []), (0, []), (0, [])] 1 mixedOk rfl (by decide +kernel) (by decide +kernel) (by decide +kernel) (by first | (simp only [nrm]; rfl) | (simp only [nrm, Nat.reduceAdd, Nat.zero_add]; rfl) | rfl) (by first | (simp only [nrm]; rfl) | (simp only [nrm, Nat.reduceAdd, Nat.zero_add]; rfl) | rfl) ?_ | refine VT.draw [(2, [0, 1]), (2, [0, 1]), (2, [0, 1]), (2, [0, 1]), (2, [0, 1]), (2, [0, 1]), (2, [0, 1]), (2, [0, 1]), (2, [0, 1]), (2, [0, 1]), (2, [0, 1]), (2, [0, 1]), (2, [0, 1]), (2, [0, 1]), (2, [0, 1]), (0, [0, 1]), (2, [1]), (1, [1])] 3 mixedOk rfl (by decide +kernel) (by decide +kernel) (by decide +kernel) (by first | (simp only [nrm]; rfl) | (simp only [nrm, Nat.reduceAdd, Nat.zero_add]; rfl) | rfl) (by first | (simp only [nrm]; rfl) | (simp only [nrm, Nat.reduceAdd, Nat.zero_add]; rfl) | rfl) ?_ | refine VT.condD rfl rfl (fun hc => ?_) (fun hc => ?_) | refine VT.block rfl ?_ | refine VT.skip rfl ?_ | refine VT.exit rfl ?_)) | (refine d_PT ?_; (first | refine PT.vI (by first | exact mask_app (H0 := Hc) (T := [_]) rfl | exact mask_app (H0 := Hc) (T := [_, _, _]) rfl | exact mask_app' (H1 := Hc.set q _) (T := [_, _, _]) (by simp) rfl | exact mask_app' (H1 := (Hc.set q _).set q _) (T := [_, _, _]) (by simp) rfl) (f_gtrT rfl rfl (by omega)) ?_ | refine PT.vI (by first | exact mask_app (H0 := Hc) (T := [_]) rfl | exact mask_app (H0 := Hc) (T := [_, _, _]) rfl | exact mask_app' (H1 := Hc.set q _) (T := [_, _, _]) (by simp) rfl | exact mask_app' (H1 := (Hc.set q _).set q _) (T := [_, _, _]) (by simp) rfl) (f_ixO0 (k := A'.length + 1) rfl rfl (by omega) (blk_app _ hqc) rfl (by omega)) ?_ | refine PT.vI (by first | exact mask_app (H0 := Hc) (T := [_]) rfl | exact mask_app (H0 := Hc) (T := [_, _, _]) rfl | exact mask_app' (H1 := Hc.set q _) (T := [_, _, _]) (by simp) rfl | exact mask_app' (H1 := (Hc.set q _).set q _) (T := [_, _, _]) (by simp) rfl) (f_ixO0 (k := A'.length) rfl rfl (by omega) (blk_app _ hqc) rfl (by omega)) ?_ | refine PT.vI (by first | exact mask_app (H0 := Hc) (T := [_]) rfl | exact mask_app (H0 := Hc) (T := [_, _, _]) rfl | exact mask_app' (H1 := Hc.set q _) (T := [_, _, _]) (by simp) rfl | exact mask_app' (H1 := (Hc.set q _).set q _) (T := [_, _, _]) (by simp) rfl) (f_ixO0 (k := A'.length) rfl rfl (by omega) (hq2 _) rfl (by omega)) ?_ | refine PT.vI (by first | exact mask_app (H0 := Hc) (T := [_]) rfl | exact mask_app (H0 := Hc) (T := [_, _, _]) rfl | exact mask_app' (H1 := Hc.set q _) (T := [_, _, _]) (by simp) rfl | exact mask_app' (H1 := (Hc.set q _).set q _) (T := [_, _, _]) (by simp) rfl) (f_ldWE rfl (blk_app _ hqc) rfl hcv) ?_ | refine PT.vI (by first | exact mask_app (H0 := Hc) (T := [_]) rfl | exact mask_app (H0 := Hc) (T := [_, _, _]) rfl | exact mask_app' (H1 := Hc.set q _) (T := [_, _, _]) (by simp) rfl | exact mask_app' (H1 := (Hc.set q _).set q _) (T := [_, _, _]) (by simp) rfl) (f_ldWE rfl (blk_app _ hqc) rfl hcu) ?_ | refine PT.wrI (by first | exact mask_app (H0 := Hc) (T := [_]) rfl | exact mask_app (H0 := Hc) (T := [_, _, _]) rfl | exact mask_app' (H1 := Hc.set q _) (T := [_, _, _]) (by simp) rfl | exact mask_app' (H1 := (Hc.set q _).set q _) (T := [_, _, _]) (by simp) rfl) (f_stW (k := A'.length + 1) rfl (blk_app _ hqc) (by omega) rfl rfl) (List.set_append_left _ _ (blk_lt hqc)) ?_ | refine PT.wrI (by first | exact mask_app (H0 := Hc) (T := [_]) rfl | exact mask_app (H0 := Hc) (T := [_, _, _]) rfl | exact mask_app' (H1 := Hc.set q _) (T := [_, _, _]) (by simp) rfl | exact mask_app' (H1 := (Hc.set q _).set q _) (T := [_, _, _]) (by simp) rfl) (f_stW (k := A'.length) rfl (hq2 _) (by rw [List.length_set]; omega) rfl rfl) (List.set_append_left _ _ (by rw [List.length_set]; exact blk_lt hqc)) ?_ | refine PT.done (dropLn _ [_, _] .free) ?_ | refine PT.done (dropLn Hc [] .free) ?_ | refine PT.gy rfl ?_ | refine PT.mvI ((by first | exact mask_app (H0 := Hc) (T := [_]) rfl | exact mask_app (H0 := Hc) (T := [_, _, _]) rfl | exact mask_app' (H1 := Hc.set q _) (T := [_, _, _]) (by simp) rfl | exact mask_app' (H1 := (Hc.set q _).set q _) (T := [_, _, _]) (by simp) rfl)) ?_ | refine PT.bnI ((by first | exact mask_app (H0 := Hc) (T := [_]) rfl | exact mask_app (H0 := Hc) (T := [_, _, _]) rfl | exact mask_app' (H1 := Hc.set q _) (T := [_, _, _]) (by simp) rfl | exact mask_app' (H1 := (Hc.set q _).set q _) (T := [_, _, _]) (by simp) rfl)) ?_ | refine PT.callI ((by first | exact mask_app (H0 := Hc) (T := [_]) rfl | exact mask_app (H0 := Hc) (T := [_, _, _]) rfl | exact mask_app' (H1 := Hc.set q _) (T := [_, _, _]) (by simp) rfl | exact mask_app' (H1 := (Hc.set q _).set q _) (T := [_, _, _]) (by simp) rfl)) rfl (m_less v u) (by first | (simp only [nrm]; rfl) | (simp only [nrm, Nat.reduceAdd, Nat.zero_add]; rfl) | rfl) rfl ?_ | refine PT.pkI ((by first | exact mask_app (H0 := Hc) (T := [_]) rfl | exact mask_app (H0 := Hc) (T := [_, _, _]) rfl | exact mask_app' (H1 := Hc.set q _) (T := [_, _, _]) (by simp) rfl | exact mask_app' (H1 := (Hc.set q _).set q _) (T := [_, _, _]) (by simp) rfl)) ?_)) | with_reducible (refine kLn ?_)))
      · refine ⟨A'.length, by omega, _, _, ⟨A', u :: B, T ++ [.free, .free], rfl, by rw [← hAB]; simp, fun y hy => ?_, rfl, ?_, rfl⟩, Wk.keep (by (repeat first | exact True.intro | refine And.intro ?_ ?_ | exact Or.inr (Or.inl rfl) | exact Or.inl rfl | (refine DLe.i rfl ?_; omega) | (refine DLe.i rfl ?_; simp; done)))⟩
        · rcases List.mem_cons.1 hy with rfl | h
          · omega
          · exact hB y h
        · rw [hcs, hHc, List.set_set, List.set_append_left _ _ (by simpa using hql), List.set_set, List.append_assoc]
      · obtain ⟨i', S', k1, rfl, k3, k4, k5, k6, k7⟩ := hfin (.inr ⟨A', u, rfl, hc⟩)
        refine ⟨_, k1, _, _, ⟨i + 1, S', T, rfl, by omega, k3, k4, k5, k6, rfl, ?_, rfl⟩, Wk.keep (by (repeat first | exact True.intro | refine And.intro ?_ ?_ | exact Or.inr (Or.inl rfl) | exact Or.inl rfl | (refine DLe.i rfl ?_; omega) | (refine DLe.i rfl ?_; simp; done)))⟩
        rw [hHc, k7, List.append_nil]
    · have hA0 : A.length = 0 := by omega
      repeat (any_goals (first | (refine d_RT ?_; (first | refine RT.nil ?_ | refine RT.mvA ?_ | refine RT.asA ?_ | refine RT.bnA ?_)) | (refine d_VT ?_; (first | refine VT.seq rfl ?_ | refine VT.reg rfl ?_ | refine VT.draw [(0, []), (0, []), (0, []), (0, []), (0, []), (0, []), (0, []), (0, []), (0, []), (0, []), (0, []), (0, []), (0, []), (0, []), (0, [])] 1 mixedOk rfl (by decide +kernel) (by decide +kernel) (by decide +kernel) (by first | (simp only [nrm]; rfl) | (simp only [nrm, Nat.reduceAdd, Nat.zero_add]; rfl) | rfl) (by first | (simp only [nrm]; rfl) | (simp only [nrm, Nat.reduceAdd, Nat.zero_add]; rfl) | rfl) ?_ | refine VT.condF rfl rfl ?_ | refine VT.exit rfl ?_)) | (refine d_PT ?_; (first | refine PT.vI (by first | exact mask_app (H0 := Hc) (T := [_]) rfl | exact mask_app (H0 := Hc) (T := [_, _, _]) rfl | exact mask_app' (H1 := Hc.set q _) (T := [_, _, _]) (by simp) rfl | exact mask_app' (H1 := (Hc.set q _).set q _) (T := [_, _, _]) (by simp) rfl) (f_gtrF rfl rfl (by omega)) ?_ | refine PT.done (dropLn Hc [] .free) ?_ | refine PT.gn rfl rfl ?_ | refine PT.mvI ((by first | exact mask_app (H0 := Hc) (T := [_]) rfl | exact mask_app (H0 := Hc) (T := [_, _, _]) rfl | exact mask_app' (H1 := Hc.set q _) (T := [_, _, _]) (by simp) rfl | exact mask_app' (H1 := (Hc.set q _).set q _) (T := [_, _, _]) (by simp) rfl)) ?_ | refine PT.pkI ((by first | exact mask_app (H0 := Hc) (T := [_]) rfl | exact mask_app (H0 := Hc) (T := [_, _, _]) rfl | exact mask_app' (H1 := Hc.set q _) (T := [_, _, _]) (by simp) rfl | exact mask_app' (H1 := (Hc.set q _).set q _) (T := [_, _, _]) (by simp) rfl)) ?_)) | with_reducible (refine kLn ?_)))
      obtain ⟨i', S', k1, rfl, k3, k4, k5, k6, k7⟩ := hfin (.inl hA)
      refine ⟨_, k1, _, _, ⟨i + 1, S', T, rfl, by omega, k3, k4, k5, k6, rfl, ?_, rfl⟩, Wk.keep (by (repeat first | exact True.intro | refine And.intro ?_ ?_ | exact Or.inr (Or.inl rfl) | exact Or.inl rfl | (refine DLe.i rfl ?_; omega) | (refine DLe.i rfl ?_; simp; done)))⟩
      rw [hHc, k7, List.append_nil]
  · obtain rfl : i = m := by omega
    repeat (any_goals (first | (refine d_RT ?_; (first | refine RT.nil ?_ | refine RT.mvA ?_ | refine RT.bnA ?_)) | (refine d_VT ?_; (first | refine VT.seq rfl ?_ | refine VT.reg rfl ?_ | refine VT.condN rfl rfl (by first | assumption | omega) ?_ | refine VT.exit rfl ?_)) | (with_reducible first | refine kSe ?_ | refine kBe ?_ | refine kLe ?_) | (with_reducible refine d_kEn ?_; refine kEn rfl ?_)))
    rw [List.drop_of_length_le (by omega), List.append_nil]
    rw [List.take_of_length_le (by omega)] at hSp
    exact ⟨rfl, S, T, hS, hSp, rfl⟩
theorem c_psort {H : List Blk} {q m c : Nat} {x : List Int} (k : Int) (hq : H[q]? = some (.live 1 (x.map eI))) (hm : x.length = m) (h1 : 1 ≤ m) (hb : m ≤ 12) :
    CallSp Tryz.prog 168 [.ms q 0 m c, wI 0, wI m, wI k] H fun d H' => d = .tup [] ∧ ∃ y T, DM.Srt y ∧ y.Perm x ∧ H' = H.set q (.live 1 (y.map eI)) ++ T := by
  refine CallSp.vt pok Tryz.f168 (n := 134) (rs := []) rfl rfl rfl rfl rfl rfl rfl fun g => ?_
  repeat (any_goals (first | (refine d_RT ?_; (first | refine RT.nil ?_ | refine RT.asA ?_)) | (refine d_VT ?_; (first | refine VT.seq rfl ?_ | refine VT.reg rfl ?_ | refine VT.block rfl ?_))))
  refine VT.loop (fun j al H' g' => j = 0 ∧ al = [(0, .ms q 0 m c), (1, wI 0), (2, wI m)] ∧ H' = H ∧ g' = g) rfl ⟨_, _, _, ⟨rfl, rfl, rfl, rfl⟩, Wk.keep (by (repeat first | exact True.intro | refine And.intro ?_ ?_ | exact Or.inr (Or.inl rfl) | exact Or.inl rfl | (refine DLe.i rfl ?_; omega) | (refine DLe.i rfl ?_; simp; done)))⟩ ?_
  rintro j al H' g' ⟨rfl, rfl, rfl, rfl⟩
  repeat (any_goals (first | (refine d_RT ?_; (first | refine RT.nil ?_ | (refine d_call ?_; refine RT.callG rfl ((c_isort hq hm h1 (by omega)).mono ?_)) | refine RT.mvA ?_ | refine RT.asA ?_ | refine RT.bnA ?_)) | (refine d_VT ?_; (first | refine VT.seq rfl ?_ | refine VT.reg rfl ?_ | refine VT.condY rfl rfl (by first | assumption | omega) ?_ | refine VT.block rfl ?_))))
  rintro d H4 ⟨rfl, hy⟩
  change RT _ _ _ _ ((27, D.tup []) :: _) _ _ _
  repeat (any_goals (first | refine RT.nil ?_ | refine VT.ret rfl ?_ | (with_reducible first | refine kSr ?_ | refine kBr ?_ | refine kLr ?_) | (with_reducible refine d_kEr ?_; refine kEr rfl ?_)))
  exact ⟨rfl, hy⟩
theorem c_sort {H : List Blk} {q m c : Nat} {x : List Int} (hq : H[q]? = some (.live 1 (x.map eI))) (hm : x.length = m) (h1 : 1 ≤ m) (hb : m ≤ 12) :
    CallSp Tryz.prog 133 [.ms q 0 m c] H fun d H' => d = .tup [] ∧ ∃ y T, DM.Srt y ∧ y.Perm x ∧ H' = H.set q (.live 1 (y.map eI)) ++ T := by
  refine CallSp.vt pok Tryz.f133 (n := 11) (rs := []) rfl rfl rfl rfl rfl rfl rfl fun g => ?_
  repeat (any_goals (first | (refine d_RT ?_; (first | refine RT.nil ?_ | refine RT.v (f_convU rfl rfl rfl (by omega) (by omega)) ?_ | (refine d_call ?_; refine RT.callG rfl ((c_psort _ hq hm h1 hb).mono ?_)) | refine RT.mvA ?_ | refine RT.asA ?_ | (refine d_call ?_; (first | refine RT.callM rfl (m_len m (by omega) (by omega)) rfl rfl ?_ | refine RT.clA ?_)))) | (refine d_VT ?_; (first | refine VT.seq rfl ?_ | refine VT.reg rfl ?_))))
  rintro d H4 ⟨rfl, hy⟩
  change RT _ _ _ _ ((10, D.tup []) :: _) _ _ _
  repeat (any_goals (first | refine RT.nil ?_ | (with_reducible refine d_kEn ?_; refine kEn rfl ?_)))
  exact ⟨rfl, hy⟩
end Go.DL
