/- Join of the reference. -/
import Derived.Test.YtmbbepdbjeciaaaGreatYv1
import Derived.Test.YtmbbepdbjeciaaaGreatP1
import Derived.Test.YtmbbepdbjeciaaaGreatYw3
import Derived.Test.YtmbbepdbjeciaaaGreatE13
import Derived.Test.YtmbbepdbjeciaaaGreatE12
set_option maxRecDepth 100000
set_option maxHeartbeats 16000000
namespace Go.DL
open Go.Proofs Go
theorem ckl_ok2 {s : Shape} : ∀ {l seen : List Leaf}, cklS s seen l = 0 → (∀ x, x ∈ l → leafOk s x = true ∧ numIn seen x.Number = false) ∧ l.Pairwise (fun x y => x.Number ≠ y.Number)
  | [], _, _ => ⟨fun x h => (by cases h), List.Pairwise.nil⟩
  | x :: r, seen, h => by
    rw [cklS] at h
    split at h
    · rename_i h1
      split at h
      · cases h
      · rename_i h2
        obtain ⟨i1, i2⟩ := ckl_ok2 h
        have h3 : ∀ y, y ∈ r → numIn seen y.Number = false ∧ x.Number ≠ y.Number := fun y hy => by
          have := (i1 y hy).2
          simp only [numIn, List.any_append, Bool.or_eq_false_iff, List.any_cons, List.any_nil, decide_eq_false_iff_not, and_true] at this
          exact ⟨this.1, this.2⟩
        refine ⟨fun y hy => ?_, List.pairwise_cons.2 ⟨fun y hy => (h3 y hy).2, i2⟩⟩
        rcases List.mem_cons.1 hy with rfl | hy
        · exact ⟨h1, by simpa using h2⟩
        · exact ⟨(i1 y hy).1, (h3 y hy).1⟩
    · cases h
/-- What leaves are that have no error. -/
structure LvsOk (s : Shape) (l : List Leaf) : Prop where
  len : l.length ≤ 40
  num : ∀ x, x ∈ l → 1 ≤ x.Number ∧ x.Number ≤ s.Data + s.Checks
  wl : ∀ x, x ∈ l → (x.Words.length : Int) = s.Width ∧ allW x.Words
  nd : l.Pairwise (fun x y => x.Number ≠ y.Number)
theorem lvs_of {s : Shape} {l : List Leaf} (h : CheckLeavesS s l = 0) : CkOk s ∧ LvsOk s l := by
  unfold CheckLeavesS at h
  rcases CheckS_cases s with ⟨e, hk⟩ | ⟨e, hk⟩
  · rw [if_pos e] at h
    split at h
    · cases h
    · rename_i hle
      obtain ⟨h1, h2⟩ := ckl_ok2 h
      have key : ∀ x, x ∈ l → (1 ≤ x.Number ∧ x.Number ≤ s.Data + s.Checks) ∧ (x.Words.length : Int) = s.Width ∧ allW x.Words := fun x hx => by
        have := (h1 x hx).1
        simp only [leafOk, Bool.and_eq_true, decide_eq_true_eq] at this
        exact ⟨this.1, this.2.1, allW_of this.2.2⟩
      exact ⟨hk, by omega, fun x hx => (key x hx).1, fun x hx => (key x hx).2, h2⟩
  · rw [if_neg (by omega), e] at h; cases h
def ckAll (s : Shape) : List (List Leaf) → Int
  | [] => 0
  | l :: r => if CheckLeavesS s l = 0 then ckAll s r else CheckLeavesS s l
theorem ckAll_ok {s : Shape} : ∀ {cs : List (List Leaf)}, ckAll s cs = 0 → ∀ l, l ∈ cs → CheckLeavesS s l = 0
  | [], _, l, h => (by cases h)
  | c :: r, h0, l, h => by
    rw [ckAll] at h0
    split at h0
    · rename_i e
      rcases List.mem_cons.1 h with rfl | h
      · exact e
      · exact ckAll_ok h0 l h
    · contradiction
def selL (cs : List (List Leaf)) (n : Int) : List Leaf := cs.flatten.filter fun y => decide (y.Number = n)
def rF (cs : List (List Leaf)) (n : Int) (l : List Leaf) : DM.RSt Leaf := (l.filter fun y => decide (y.Number = n)).foldl (DM.rStep Leaf.Words (DM.cnt Leaf.Words (selL cs n))) ⟨⟨0, []⟩, 0, false⟩
theorem rF_snoc (cs : List (List Leaf)) (n : Int) (l : List Leaf) (x : Leaf) : rF cs n (l ++ [x]) = if x.Number = n then DM.rStep Leaf.Words (DM.cnt Leaf.Words (selL cs n)) (rF cs n l) x else rF cs n l := by
  unfold rF
  rw [List.filter_append, List.foldl_append]
  by_cases h : x.Number = n
  · rw [if_pos h, List.filter_cons, if_pos (by simpa using h)]; rfl
  · rw [if_neg h, List.filter_cons, if_neg (by simpa using h)]; rfl
theorem hasL_cnt {cs : List (List Leaf)} {n : Int} {x : Leaf} (hx : x.Number = n) : hasL x cs.flatten = DM.cnt Leaf.Words (selL cs n) x.Words := by
  unfold hasL DM.cnt selL
  rw [List.countP_filter]
  refine congrArg (fun p => List.countP p cs.flatten) (funext fun y => ?_)
  subst hx
  by_cases h1 : y.Number = x.Number <;> by_cases h2 : y.Words = x.Words <;> simp [h1, h2]
theorem rF_att {cs : List (List Leaf)} {n : Int} : ∀ (l : List Leaf), (rF cs n l).most ≤ cs.flatten.length ∧ (0 < (rF cs n l).most → (rF cs n l).best ∈ l ∧ (rF cs n l).best.Number = n) := by
  refine DM.snocInd ⟨Nat.zero_le _, fun h => absurd h (Nat.lt_irrefl 0)⟩ fun l x ih => ?_
  · rw [rF_snoc]
    split
    · rename_i hx
      unfold DM.rStep
      have hc : DM.cnt Leaf.Words (selL cs n) x.Words ≤ cs.flatten.length := by
        exact Nat.le_trans List.countP_le_length (List.length_filter_le _ _)
      split
      · exact ⟨hc, fun _ => ⟨List.mem_append_right _ (List.mem_singleton.2 rfl), hx⟩⟩
      · split
        · exact ⟨ih.1, fun h => ⟨List.mem_append_left _ (ih.2 h).1, (ih.2 h).2⟩⟩
        · exact ⟨ih.1, fun h => ⟨List.mem_append_left _ (ih.2 h).1, (ih.2 h).2⟩⟩
    · exact ⟨ih.1, fun h => ⟨List.mem_append_left _ (ih.2 h).1, (ih.2 h).2⟩⟩
def jPick (cs : List (List Leaf)) (n : Int) : List Leaf := if 0 < (rF cs n cs.flatten).most ∧ (rF cs n cs.flatten).equal = false then [(rF cs n cs.flatten).best] else []
def joinL (cs : List (List Leaf)) (N : Nat) : List Leaf := (List.range N).flatMap fun (i : Nat) => jPick cs ((i : Int) + 1)
theorem joinL_succ (cs : List (List Leaf)) (N : Nat) : joinL cs (N + 1) = joinL cs N ++ jPick cs ((N : Int) + 1) := by
  simp [joinL, List.range_succ]
theorem jPick_len (cs : List (List Leaf)) (n : Int) : (jPick cs n).length ≤ 1 := by
  unfold jPick; split <;> simp
theorem joinL_len (cs : List (List Leaf)) : ∀ N, (joinL cs N).length ≤ N
  | 0 => Nat.le_refl _
  | N + 1 => by
    rw [joinL_succ, List.length_append]
    have := joinL_len cs N
    have := jPick_len cs ((N : Int) + 1)
    omega
def dSF (l : List Leaf) : D := if l = [] then .fl [] else .sl (l.map eLeaf)
theorem snapR_dSF {lk : Nat → Option Blk} {b m cap k : Nat} {o : List Leaf} (h : lk b = some (.live 2 (o.map eLeaf))) (hm : m = o.length) : snapR lk (k + 2) (.ms b 0 m cap) = dSF o := by
  subst hm
  unfold dSF
  simp only [snapR, h, Nat.zero_add, List.length_map, Nat.le_refl, if_true, List.drop_zero]
  rw [List.take_of_length_le (by simp)]
  cases o with
  | nil => rfl
  | cons x r =>
    rw [if_neg (by simp [frK]), if_neg (by simp), List.map_map]
    exact congrArg D.sl (List.map_congr_left fun x _ => rfl)
def JoinS (s : Shape) (cs : List (List Leaf)) : List Leaf × Int :=
  if CheckS s = 0 then (if 5 < cs.length then ([], 2) else if ckAll s cs = 0 then (joinL cs (s.Data + s.Checks).toNat, 0) else ([], ckAll s cs)) else ([], 1)
def eBest (st : DM.RSt Leaf) : List D := if st.most = 0 then [wI 0, .nil] else eLeaf st.best
theorem m_RJoin (s : Shape) (cs : List (List Leaf)) (hc : cs.length ≤ 4611686018427387904) (hl : ∀ l, l ∈ cs → l.length ≤ 4611686018427387904) (hw : ∀ l, l ∈ cs → ∀ x, x ∈ l → x.Words.length ≤ 4611686018427387904) :
    Maps Tryz.prog 43 [dSh s, .sl (cs.map eLvs)] (.agg [dSF (JoinS s cs).1, wI (JoinS s cs).2]) := by
  refine Maps.vt pok Tryz.f43 (n := 108) (rs := [.cell 4 34]) rfl rfl rfl rfl rfl rfl fun g => ?_
  have hk := m_RCheck s
  unfold JoinS
  rcases CheckS_cases s with ⟨e, h⟩ | ⟨e, h⟩
  · rw [e] at hk ⊢
    rw [if_pos rfl]
    by_cases h5 : 5 < cs.length
    · rw [if_pos h5]
      repeat (any_goals (first | (apply w_any; (first | refine RT.nil ?_ | refine RT.mvA ?_ | refine RT.asA ?_ | refine RT.ldA ?_ | refine RT.bnA ?_ | (apply w_cl; (first | refine RT.callM rfl (hk) rfl rfl ?_ | refine RT.clA ?_)) | refine RT.stA ?_ | refine RT.nwA ?_ | refine RT.nwA ?_ | refine RT.msA ?_)) | (apply v_any; (first | refine VT.seq rfl ?_ | refine VT.reg rfl ?_ | refine VT.condF rfl rfl ?_ | refine VT.skip rfl ?_ | refine VT.ret rfl ?_ | refine VT.condY rfl rfl (by first | assumption | omega) ?_)) | with_reducible (refine kSr ?_) | (with_reducible refine d_kEr ?_; refine kEr rfl ?_)))
      rfl
    · rw [if_neg h5]
      repeat (any_goals (first | (apply w_any; (first | refine RT.nil ?_ | refine RT.mvA ?_ | refine RT.asA ?_ | refine RT.ldA ?_ | refine RT.bnA ?_ | (apply w_cl; (first | refine RT.callM rfl (hk) rfl rfl ?_ | refine RT.clA ?_)) | refine RT.nwA ?_ | refine RT.nwA ?_)) | (apply v_any; (first | refine VT.seq rfl ?_ | refine VT.reg rfl ?_ | refine VT.condF rfl rfl ?_ | refine VT.block rfl ?_ | refine VT.skip rfl ?_ | refine VT.condN rfl rfl (by first | assumption | omega) ?_))))
      refine VT.loop (fun j a H g' => ∃ (i : Nat) (e0 : Int), j = cs.length - i ∧ i ≤ cs.length ∧ ckAll s cs = ckAll s (cs.drop i) ∧ a = [(1, .sl (cs.map eLvs)), (2, .mp 0 0 0), (4, .mp 1 0 0), (6, wI i)] ∧ H = [.live 3 [eShape s], .live 2 [[.nil, wI 0]]] ∧ g' = g) rfl
        ⟨_, _, _, ⟨0, 0, rfl, Nat.zero_le _, rfl, rfl, rfl, rfl⟩, fgA⟩ ?_
      rintro j a H g' ⟨i, _, rfl, hi, hck, rfl, rfl, rfl⟩
      by_cases hlt : i < cs.length
      · have hcl := m_RCheckLeaves s cs[i] (hl _ (List.getElem_mem hlt)) (hw _ (List.getElem_mem hlt))
        rw [List.drop_eq_getElem_cons hlt, ckAll] at hck
        by_cases hz : CheckLeavesS s cs[i] = 0
        · rw [if_pos hz] at hck
          rw [hz] at hcl
          repeat (any_goals (first | (apply w_any; (first | refine RT.nil ?_ | refine RT.mvA ?_ | refine RT.asA ?_ | refine RT.bnA ?_ | refine RT.clA ?_)) | (apply v_any; (first | refine VT.seq rfl ?_ | refine VT.reg rfl ?_ | refine VT.condF rfl rfl ?_ | refine VT.block rfl ?_ | refine VT.skip rfl ?_ | refine VT.draw [(0, []), (0, []), (0, []), (0, []), (0, []), (0, []), (0, [])] 1 mixedOk rfl (by decide +kernel) (by decide +kernel) (by decide +kernel) (by first | (simp only [nrm]; rfl) | (simp only [nrm, Nat.reduceAdd, Nat.zero_add]; rfl) | rfl) (by first | (simp only [nrm]; rfl) | (simp only [nrm, Nat.reduceAdd, Nat.zero_add]; rfl) | rfl) ?_ | refine VT.condY rfl rfl (by first | assumption | omega) ?_)) | (apply q_any; (first | refine PT.done (by first | (simp only [nrm]; rfl) | (simp only [nrm, Nat.reduceAdd, Nat.zero_add]; rfl) | rfl) ?_ | refine PT.mvA ?_ | refine PT.asA ?_ | refine PT.ldA ?_ | refine PT.callG rfl (hcl) rfl rfl ?_ | refine PT.ixA ?_)) | with_reducible (refine kLn ?_)))
          exact ⟨cs.length - (i + 1), by omega, _, _, ⟨i + 1, 0, rfl, hlt, hck, rfl, rfl, rfl⟩, fgA⟩
        · rw [if_neg hz] at hck
          rw [hck, if_neg hz]
          repeat (any_goals (first | (apply w_any; (first | refine RT.nil ?_ | refine RT.mvA ?_ | refine RT.bnA ?_ | refine RT.clA ?_ | refine RT.stA ?_ | refine RT.msA ?_)) | (apply v_any; (first | refine VT.seq rfl ?_ | refine VT.reg rfl ?_ | refine VT.block rfl ?_ | refine VT.skip rfl ?_ | refine VT.ret rfl ?_ | refine VT.draw [(0, []), (0, []), (0, []), (0, []), (0, []), (0, []), (0, [])] 1 mixedOk rfl (by decide +kernel) (by decide +kernel) (by decide +kernel) (by first | (simp only [nrm]; rfl) | (simp only [nrm, Nat.reduceAdd, Nat.zero_add]; rfl) | rfl) (by first | (simp only [nrm]; rfl) | (simp only [nrm, Nat.reduceAdd, Nat.zero_add]; rfl) | rfl) ?_ | refine VT.condY rfl rfl (by first | assumption | omega) ?_)) | (apply q_any; (first | refine PT.done (by first | (simp only [nrm]; rfl) | (simp only [nrm, Nat.reduceAdd, Nat.zero_add]; rfl) | rfl) ?_ | refine PT.mvA ?_ | refine PT.asA ?_ | refine PT.ldA ?_ | refine PT.callG rfl (hcl) rfl rfl ?_ | refine PT.ixA ?_)) | (with_reducible first | refine kSr ?_ | refine kBr ?_ | refine kLr ?_) | (with_reducible refine d_kEr ?_; refine kEr rfl ?_)))
          rfl
      · obtain rfl : i = cs.length := by omega
        rw [List.drop_length, ckAll] at hck
        rw [if_pos hck]
        have hok := fun l hl => (lvs_of (ckAll_ok hck l hl)).2
        have hflen : cs.flatten.length ≤ 200 := Nat.le_trans (flat_le (m := 40) fun l hl => (hok l hl).len) (by omega)
        obtain ⟨⟨d1, d2⟩, ⟨c1, c2⟩, w1, w2⟩ := h
        obtain ⟨N, hN⟩ : ∃ N : Nat, s.Data + s.Checks = N := Int.eq_ofNat_of_zero_le (by omega)
        rw [hN, Int.toNat_natCast]
        repeat (any_goals (first | (apply w_any; (first | refine RT.nil ?_ | refine RT.mvA ?_ | refine RT.asA ?_ | refine RT.bnA ?_ | refine RT.clA ?_)) | (apply v_any; (first | refine VT.seq rfl ?_ | refine VT.reg rfl ?_ | refine VT.block rfl ?_ | refine VT.exit rfl ?_ | refine VT.condN rfl rfl (by first | assumption | omega) ?_))))
        refine VT.phantom (i := 7) (s := 2) 2 rfl rfl rfl ?_
        refine VT.loop (fun j a H g2 => ∃ (n b m : Nat), j = N - n ∧ n ≤ N ∧ H[0]? = some (.live 3 [eShape s]) ∧ H[1]? = some (.live 2 [[.nil, wI 0]]) ∧ H[b]? = some (.live 2 ((joinL cs n).map eLeaf)) ∧ 2 ≤ b ∧ m = (joinL cs n).length ∧ a = [(1, .sl (cs.map eLvs)), (2, .mp 0 0 0), (4, .mp 1 0 0), (7, .ms b 0 m m), (8, wI ((n : Int) + 1))] ∧ g2 = g') rfl
          ⟨_, _, [.live 3 [eShape s], .live 2 [[.nil, wI 0]], .live 2 []], ⟨0, 2, 0, rfl, Nat.zero_le _, rfl, rfl, rfl, Nat.le_refl _, rfl, rfl, rfl⟩, Wk.keep (by (repeat first | exact True.intro | refine And.intro ?_ ?_ | exact Or.inr (Or.inl rfl) | exact Or.inl rfl | (refine DLe.i rfl ?_; omega) | (refine DLe.i rfl ?_; simp; done)))⟩ ?_
        rintro j a H g2 ⟨n, b, m, rfl, hn, hb0, hb1, hb, hb2, hm, rfl, rfl⟩
        have hbl := hg_lt hb
        have hjl := joinL_len cs n
        by_cases hlt : n < N
        · repeat (any_goals (first | (apply w_any; (first | refine RT.nil ?_ | refine RT.mvA ?_ | refine RT.asA ?_ | refine RT.ldH ?_ | refine RT.faA ?_ | (apply w_bn; (first | refine RT.v (f_leqT rfl rfl (by omega)) ?_ | refine RT.bnA ?_)) | refine RT.new (s := H.length) rfl (f_allocL (z := [wI 0, .nil]) (m := 2) rfl rfl) rfl ?_)) | (apply v_any; (first | refine VT.seq rfl ?_ | refine VT.reg rfl ?_ | refine VT.condT rfl rfl ?_ | refine VT.block rfl ?_ | refine VT.skip rfl ?_))))
          refine VT.loop (fun j a H2 g3 => ∃ (i nb : Nat), j = cs.length - i ∧ i ≤ cs.length ∧ H2[0]? = some (.live 3 [eShape s]) ∧ H2[1]? = some (.live 2 [[.nil, wI 0]]) ∧ H2[b]? = some (.live 2 ((joinL cs n).map eLeaf)) ∧ H2[nb]? = some (.live 2 [eBest (rF cs ((n : Int) + 1) (cs.take i).flatten)]) ∧ 2 ≤ nb ∧ nb ≠ b ∧ a = [(1, .sl (cs.map eLvs)), (2, .mp 0 0 0), (4, .mp 1 0 0), (7, .ms b 0 m m), (8, wI ((n : Int) + 1)), (9, .mp nb 0 0), (10, wI ((rF cs ((n : Int) + 1) (cs.take i).flatten).most : Nat)), (11, wB (rF cs ((n : Int) + 1) (cs.take i).flatten).equal), (12, wI i)] ∧ g3 = g2) rfl
            ⟨_, _, H ++ [.live 2 [[wI 0, .nil]]], ⟨0, H.length, rfl, Nat.zero_le _, hg_app _ hb0, hg_app _ hb1, hg_app _ hb, hg_at (t := 0) rfl rfl, by omega, by omega, rfl, rfl⟩, Wk.keep (by (repeat first | exact True.intro | refine And.intro ?_ ?_ | exact Or.inr (Or.inl rfl) | exact Or.inl rfl | (refine DLe.i rfl ?_; omega) | (refine DLe.i rfl ?_; simp; done)))⟩ ?_
          clear hb0 hb1 hb hbl
          rintro j a H g3 ⟨i, nb, rfl, hi, hb0, hb1, hb, hnb, hnb2, hnbb, rfl, rfl⟩
          have hbl := hg_lt hb
          have hnl := hg_lt hnb
          by_cases hlt2 : i < cs.length
          · have hok1 := hok cs[i] (List.getElem_mem hlt2)
            have hlen := hok1.len
            have hfl : (cs.take (i + 1)).flatten = (cs.take i).flatten ++ cs[i] := by
              rw [List.take_succ_eq_append_getElem hlt2, List.flatten_append]; simp
            repeat (any_goals (first | (apply w_any; (first | refine RT.nil ?_ | refine RT.mvA ?_ | refine RT.asA ?_ | refine RT.bnA ?_ | refine RT.clA ?_)) | (apply v_any; (first | refine VT.seq rfl ?_ | refine VT.reg rfl ?_ | refine VT.block rfl ?_ | refine VT.skip rfl ?_ | refine VT.condY rfl rfl (by first | assumption | omega) ?_))))
            refine VT.loop (fun j a H2 g4 => ∃ (k : Nat), j = cs[i].length - k ∧ k ≤ cs[i].length ∧ H2[0]? = some (.live 3 [eShape s]) ∧ H2[1]? = some (.live 2 [[.nil, wI 0]]) ∧ H2[b]? = some (.live 2 ((joinL cs n).map eLeaf)) ∧ H2[nb]? = some (.live 2 [eBest (rF cs ((n : Int) + 1) ((cs.take i).flatten ++ cs[i].take k))]) ∧ a = [(1, .sl (cs.map eLvs)), (2, .mp 0 0 0), (4, .mp 1 0 0), (7, .ms b 0 m m), (8, wI ((n : Int) + 1)), (9, .mp nb 0 0), (10, wI ((rF cs ((n : Int) + 1) ((cs.take i).flatten ++ cs[i].take k)).most : Nat)), (11, wB (rF cs ((n : Int) + 1) ((cs.take i).flatten ++ cs[i].take k)).equal), (12, wI i), (13, wI k)] ∧ g4 = g3) rfl
              ⟨_, _, H, ⟨0, rfl, Nat.zero_le _, hb0, hb1, hb, by rw [List.take_zero, List.append_nil]; exact hnb, by rw [List.take_zero, List.append_nil], rfl⟩, Wk.keep (by (repeat first | exact True.intro | refine And.intro ?_ ?_ | exact Or.inr (Or.inl rfl) | exact Or.inl rfl | (refine DLe.i rfl ?_; omega) | (refine DLe.i rfl ?_; simp; done)))⟩ ?_
            clear hb0 hb1 hb hnb hbl hnl
            rintro j a H g4 ⟨k, rfl, hk, hb0, hb1, hb, hnb, rfl, rfl⟩
            have hbl := hg_lt hb
            have hnl := hg_lt hnb
            by_cases hlk : k < cs[i].length
            · have hfs : (cs.take i).flatten ++ cs[i].take (k + 1) = ((cs.take i).flatten ++ cs[i].take k) ++ [cs[i][k]] := by
                rw [List.take_succ_eq_append_getElem hlk, List.append_assoc]
              have hsn := rF_snoc cs ((n : Int) + 1) ((cs.take i).flatten ++ cs[i].take k) cs[i][k]
              have hat := rF_att (cs := cs) (n := (n : Int) + 1) ((cs.take i).flatten ++ cs[i].take k)
              have hxm : cs[i][k] ∈ cs.flatten := List.mem_flatten.2 ⟨_, List.getElem_mem hlt2, List.getElem_mem hlk⟩
              have hxw := (hok1.wl _ (List.getElem_mem hlk)).1
              have e : rF cs ((n : Int) + 1) ((cs.take i).flatten ++ cs[i].take (k + 1)) = _ := (congrArg (rF cs ((n : Int) + 1)) hfs).trans hsn
              clear hsn hfs
              have hbw : 0 < (rF cs ((n : Int) + 1) ((cs.take i).flatten ++ cs[i].take k)).most → (rF cs ((n : Int) + 1) ((cs.take i).flatten ++ cs[i].take k)).best.Words.length ≤ 4611686018427387904 := fun hp => by
                obtain ⟨l, hl1, hl2⟩ := List.mem_flatten.1 (show (rF cs ((n : Int) + 1) ((cs.take i).flatten ++ cs[i].take k)).best ∈ cs.flatten from by
                  rcases List.mem_append.1 (hat.2 hp).1 with hm1 | hm1
                  · obtain ⟨l, hl1, hl2⟩ := List.mem_flatten.1 hm1
                    exact List.mem_flatten.2 ⟨l, List.mem_of_mem_take hl1, hl2⟩
                  · exact List.mem_flatten.2 ⟨_, List.getElem_mem hlt2, List.mem_of_mem_take hm1⟩)
                exact hw l hl1 _ hl2
              have hmost := hat.1
              clear hat
              generalize rF cs ((n : Int) + 1) ((cs.take i).flatten ++ cs[i].take k) = st at e hbw hmost hnb ⊢
              by_cases hx : cs[i][k].Number = (n : Int) + 1
              · have hhas := m_has cs cs[i][k] (by omega) (fun l hl => by have := (hok l hl).len; omega) hw (by omega)
                have hpos := DM.cnt_pos Leaf.Words (l := selL cs ((n : Int) + 1)) (x := cs[i][k]) (List.mem_filter.2 ⟨hxm, decide_eq_true hx⟩)
                have hq1 : hasL cs[i][k] cs.flatten ≤ 200 := Nat.le_trans List.countP_le_length hflen
                rw [if_pos hx] at e
                unfold DM.rStep at e
                rw [← hasL_cnt hx] at e hpos
                generalize hasL cs[i][k] cs.flatten = q at e hpos hhas hq1
                by_cases hlq : st.most < q
                · rw [if_pos hlq] at e
                  obtain ⟨c0, c1, hce⟩ : ∃ c0 c1, eBest st = [c0, c1] := by
                    unfold eBest; split <;> exact ⟨_, _, rfl⟩
                  rw [hce] at hnb
                  repeat (any_goals (first | (apply w_any; (first | refine RT.nil ?_ | refine RT.mvA ?_ | refine RT.asA ?_ | (apply w_ld; (first | refine RT.ldA ?_ | refine RT.ldH ?_)) | refine RT.faA ?_ | (apply w_bn; (first | refine RT.v (f_neqF rfl rfl hx) ?_ | refine RT.v (f_gtrT rfl rfl (by omega)) ?_ | refine RT.bnA ?_)) | (apply w_cl; (first | refine RT.callM rfl (hhas) rfl rfl ?_ | refine RT.clA ?_)) | refine RT.ixA ?_ | refine RT.wr (f_stA rfl (by repeat (first | assumption | exact hg_new | exact hg_at (by first | rfl | simp) rfl | exact hg_self (by first | assumption | omega | (simp only [List.length_set, List.length_append, List.length_cons, List.length_nil, List.length_map, List.length_replicate]; omega)) | refine hg_app _ ?_ | refine hg_ne ?_ (by first | assumption | omega) | refine mskR ?_ (by first | (simp [rho, -List.length_eq_zero_iff]; done) | (simp [rho, -List.length_eq_zero_iff]; omega)))) rfl rfl rfl rfl rfl (Nat.le_refl _) rfl) rfl ?_ | refine RT.new (s := H.length) rfl (f_allocL (z := [wI 0, .nil]) (m := 2) rfl rfl) rfl ?_)) | (apply v_any; (first | refine VT.seq rfl ?_ | refine VT.reg rfl ?_ | refine VT.condT rfl rfl ?_ | refine VT.condF rfl rfl ?_ | refine VT.block rfl ?_ | refine VT.skip rfl ?_ | refine VT.condY rfl rfl (by first | assumption | omega) ?_)) | with_reducible (refine kLn ?_)))
                  exact ⟨cs[i].length - (k + 1), by omega, _, _, ⟨k + 1, rfl, hlk, (by repeat (first | assumption | exact hg_new | exact hg_at (by first | rfl | simp) rfl | exact hg_self (by first | assumption | omega | (simp only [List.length_set, List.length_append, List.length_cons, List.length_nil, List.length_map, List.length_replicate]; omega)) | refine hg_app _ ?_ | refine hg_ne ?_ (by first | assumption | omega) | refine mskR ?_ (by first | (simp [rho, -List.length_eq_zero_iff]; done) | (simp [rho, -List.length_eq_zero_iff]; omega)))), (by repeat (first | assumption | exact hg_new | exact hg_at (by first | rfl | simp) rfl | exact hg_self (by first | assumption | omega | (simp only [List.length_set, List.length_append, List.length_cons, List.length_nil, List.length_map, List.length_replicate]; omega)) | refine hg_app _ ?_ | refine hg_ne ?_ (by first | assumption | omega) | refine mskR ?_ (by first | (simp [rho, -List.length_eq_zero_iff]; done) | (simp [rho, -List.length_eq_zero_iff]; omega)))), (by repeat (first | assumption | exact hg_new | exact hg_at (by first | rfl | simp) rfl | exact hg_self (by first | assumption | omega | (simp only [List.length_set, List.length_append, List.length_cons, List.length_nil, List.length_map, List.length_replicate]; omega)) | refine hg_app _ ?_ | refine hg_ne ?_ (by first | assumption | omega) | refine mskR ?_ (by first | (simp [rho, -List.length_eq_zero_iff]; done) | (simp [rho, -List.length_eq_zero_iff]; omega)))), by rw [e]; unfold eBest; rw [if_neg (by show ¬ q = 0; omega)]; exact (by repeat (first | assumption | exact hg_new | exact hg_at (by first | rfl | simp) rfl | exact hg_self (by first | assumption | omega | (simp only [List.length_set, List.length_append, List.length_cons, List.length_nil, List.length_map, List.length_replicate]; omega)) | refine hg_app _ ?_ | refine hg_ne ?_ (by first | assumption | omega) | refine mskR ?_ (by first | (simp [rho, -List.length_eq_zero_iff]; done) | (simp [rho, -List.length_eq_zero_iff]; omega)))), by rw [e], rfl⟩, Wk.keep (by (repeat first | exact True.intro | refine And.intro ?_ ?_ | exact Or.inr (Or.inl rfl) | exact Or.inl rfl | (refine DLe.i rfl ?_; omega) | (refine DLe.i rfl ?_; simp; done)))⟩
                · rw [if_neg hlq] at e
                  by_cases hqe : q = st.most
                  · have heb : eBest st = eLeaf st.best := if_neg (by omega)
                    rw [heb] at hnb
                    have hs := m_same cs[i][k].Words st.best.Words (by omega) (hbw (by omega))
                    by_cases hws : cs[i][k].Words = st.best.Words
                    · rw [if_neg (fun h => h.2 hws)] at e
                      rw [decide_eq_true hws] at hs
                      repeat (any_goals (first | (apply w_any; (first | refine RT.nil ?_ | refine RT.gy rfl ?_ | refine RT.mvA ?_ | refine RT.asA ?_ | (apply w_ld; (first | refine RT.ldA ?_ | refine RT.ldH ?_)) | refine RT.faA ?_ | (apply w_bn; (first | refine RT.v (f_neqF rfl rfl hx) ?_ | refine RT.v (f_gtrF rfl rfl (by omega)) ?_ | refine RT.v (f_eqlT rfl rfl (by omega)) ?_ | refine RT.bnA ?_)) | (apply w_cl; (first | refine RT.callM rfl (hhas) rfl rfl ?_ | refine RT.callM rfl (hs) rfl rfl ?_ | refine RT.clA ?_)) | refine RT.pkA ?_ | refine RT.ixA ?_ | refine RT.unA ?_ | refine RT.stH ?_ | refine RT.new (s := H.length) rfl (f_allocL (z := [wI 0, .nil]) (m := 2) rfl rfl) rfl ?_)) | (apply v_any; (first | refine VT.seq rfl ?_ | refine VT.reg rfl ?_ | refine VT.condF rfl rfl ?_ | refine VT.block rfl ?_ | refine VT.skip rfl ?_ | refine VT.condY rfl rfl (by first | assumption | omega) ?_)) | with_reducible (refine kLn ?_)))
                      exact ⟨cs[i].length - (k + 1), by omega, _, _, ⟨k + 1, rfl, hlk, (by repeat (first | assumption | exact hg_new | exact hg_at (by first | rfl | simp) rfl | exact hg_self (by first | assumption | omega | (simp only [List.length_set, List.length_append, List.length_cons, List.length_nil, List.length_map, List.length_replicate]; omega)) | refine hg_app _ ?_ | refine hg_ne ?_ (by first | assumption | omega) | refine mskR ?_ (by first | (simp [rho, -List.length_eq_zero_iff]; done) | (simp [rho, -List.length_eq_zero_iff]; omega)))), (by repeat (first | assumption | exact hg_new | exact hg_at (by first | rfl | simp) rfl | exact hg_self (by first | assumption | omega | (simp only [List.length_set, List.length_append, List.length_cons, List.length_nil, List.length_map, List.length_replicate]; omega)) | refine hg_app _ ?_ | refine hg_ne ?_ (by first | assumption | omega) | refine mskR ?_ (by first | (simp [rho, -List.length_eq_zero_iff]; done) | (simp [rho, -List.length_eq_zero_iff]; omega)))), (by repeat (first | assumption | exact hg_new | exact hg_at (by first | rfl | simp) rfl | exact hg_self (by first | assumption | omega | (simp only [List.length_set, List.length_append, List.length_cons, List.length_nil, List.length_map, List.length_replicate]; omega)) | refine hg_app _ ?_ | refine hg_ne ?_ (by first | assumption | omega) | refine mskR ?_ (by first | (simp [rho, -List.length_eq_zero_iff]; done) | (simp [rho, -List.length_eq_zero_iff]; omega)))), by rw [e, heb]; exact (by repeat (first | assumption | exact hg_new | exact hg_at (by first | rfl | simp) rfl | exact hg_self (by first | assumption | omega | (simp only [List.length_set, List.length_append, List.length_cons, List.length_nil, List.length_map, List.length_replicate]; omega)) | refine hg_app _ ?_ | refine hg_ne ?_ (by first | assumption | omega) | refine mskR ?_ (by first | (simp [rho, -List.length_eq_zero_iff]; done) | (simp [rho, -List.length_eq_zero_iff]; omega)))), by rw [e], rfl⟩, Wk.keep (by (repeat first | exact True.intro | refine And.intro ?_ ?_ | exact Or.inr (Or.inl rfl) | exact Or.inl rfl | (refine DLe.i rfl ?_; omega) | (refine DLe.i rfl ?_; simp; done)))⟩
                    · rw [if_pos ⟨hqe, hws⟩] at e
                      rw [decide_eq_false hws] at hs
                      repeat (any_goals (first | (apply w_any; (first | refine RT.nil ?_ | refine RT.gy rfl ?_ | refine RT.mvA ?_ | refine RT.asA ?_ | (apply w_ld; (first | refine RT.ldA ?_ | refine RT.ldH ?_)) | refine RT.faA ?_ | (apply w_bn; (first | refine RT.v (f_neqF rfl rfl hx) ?_ | refine RT.v (f_gtrF rfl rfl (by omega)) ?_ | refine RT.v (f_eqlT rfl rfl (by omega)) ?_ | refine RT.bnA ?_)) | (apply w_cl; (first | refine RT.callM rfl (hhas) rfl rfl ?_ | refine RT.callM rfl (hs) rfl rfl ?_ | refine RT.clA ?_)) | refine RT.pkA ?_ | refine RT.ixA ?_ | refine RT.unA ?_ | refine RT.stH ?_ | refine RT.new (s := H.length) rfl (f_allocL (z := [wI 0, .nil]) (m := 2) rfl rfl) rfl ?_)) | (apply v_any; (first | refine VT.seq rfl ?_ | refine VT.reg rfl ?_ | refine VT.condT rfl rfl ?_ | refine VT.condF rfl rfl ?_ | refine VT.block rfl ?_ | refine VT.skip rfl ?_ | refine VT.condY rfl rfl (by first | assumption | omega) ?_)) | with_reducible (refine kLn ?_)))
                      exact ⟨cs[i].length - (k + 1), by omega, _, _, ⟨k + 1, rfl, hlk, (by repeat (first | assumption | exact hg_new | exact hg_at (by first | rfl | simp) rfl | exact hg_self (by first | assumption | omega | (simp only [List.length_set, List.length_append, List.length_cons, List.length_nil, List.length_map, List.length_replicate]; omega)) | refine hg_app _ ?_ | refine hg_ne ?_ (by first | assumption | omega) | refine mskR ?_ (by first | (simp [rho, -List.length_eq_zero_iff]; done) | (simp [rho, -List.length_eq_zero_iff]; omega)))), (by repeat (first | assumption | exact hg_new | exact hg_at (by first | rfl | simp) rfl | exact hg_self (by first | assumption | omega | (simp only [List.length_set, List.length_append, List.length_cons, List.length_nil, List.length_map, List.length_replicate]; omega)) | refine hg_app _ ?_ | refine hg_ne ?_ (by first | assumption | omega) | refine mskR ?_ (by first | (simp [rho, -List.length_eq_zero_iff]; done) | (simp [rho, -List.length_eq_zero_iff]; omega)))), (by repeat (first | assumption | exact hg_new | exact hg_at (by first | rfl | simp) rfl | exact hg_self (by first | assumption | omega | (simp only [List.length_set, List.length_append, List.length_cons, List.length_nil, List.length_map, List.length_replicate]; omega)) | refine hg_app _ ?_ | refine hg_ne ?_ (by first | assumption | omega) | refine mskR ?_ (by first | (simp [rho, -List.length_eq_zero_iff]; done) | (simp [rho, -List.length_eq_zero_iff]; omega)))), by rw [e]; unfold eBest; rw [if_neg (by show ¬ st.most = 0; omega)]; exact (by repeat (first | assumption | exact hg_new | exact hg_at (by first | rfl | simp) rfl | exact hg_self (by first | assumption | omega | (simp only [List.length_set, List.length_append, List.length_cons, List.length_nil, List.length_map, List.length_replicate]; omega)) | refine hg_app _ ?_ | refine hg_ne ?_ (by first | assumption | omega) | refine mskR ?_ (by first | (simp [rho, -List.length_eq_zero_iff]; done) | (simp [rho, -List.length_eq_zero_iff]; omega)))), by rw [e], rfl⟩, Wk.keep (by (repeat first | exact True.intro | refine And.intro ?_ ?_ | exact Or.inr (Or.inl rfl) | exact Or.inl rfl | (refine DLe.i rfl ?_; omega) | (refine DLe.i rfl ?_; simp; done)))⟩
                  · rw [if_neg (fun h => hqe h.1)] at e
                    repeat (any_goals (first | (apply w_any; (first | refine RT.nil ?_ | refine RT.gn rfl rfl ?_ | refine RT.mvA ?_ | refine RT.asA ?_ | (apply w_ld; (first | refine RT.ldA ?_ | refine RT.ldH ?_)) | refine RT.faA ?_ | (apply w_bn; (first | refine RT.v (f_neqF rfl rfl hx) ?_ | refine RT.v (f_gtrF rfl rfl (by omega)) ?_ | refine RT.v (f_eqlF rfl rfl (by omega)) ?_ | refine RT.bnA ?_)) | (apply w_cl; (first | refine RT.callM rfl (hhas) rfl rfl ?_ | refine RT.clA ?_)) | refine RT.pkA ?_ | refine RT.ixA ?_ | refine RT.stH ?_ | refine RT.new (s := H.length) rfl (f_allocL (z := [wI 0, .nil]) (m := 2) rfl rfl) rfl ?_)) | (apply v_any; (first | refine VT.seq rfl ?_ | refine VT.reg rfl ?_ | refine VT.condF rfl rfl ?_ | refine VT.block rfl ?_ | refine VT.skip rfl ?_ | refine VT.condY rfl rfl (by first | assumption | omega) ?_)) | with_reducible (refine kLn ?_)))
                    exact ⟨cs[i].length - (k + 1), by omega, _, _, ⟨k + 1, rfl, hlk, (by repeat (first | assumption | exact hg_new | exact hg_at (by first | rfl | simp) rfl | exact hg_self (by first | assumption | omega | (simp only [List.length_set, List.length_append, List.length_cons, List.length_nil, List.length_map, List.length_replicate]; omega)) | refine hg_app _ ?_ | refine hg_ne ?_ (by first | assumption | omega) | refine mskR ?_ (by first | (simp [rho, -List.length_eq_zero_iff]; done) | (simp [rho, -List.length_eq_zero_iff]; omega)))), (by repeat (first | assumption | exact hg_new | exact hg_at (by first | rfl | simp) rfl | exact hg_self (by first | assumption | omega | (simp only [List.length_set, List.length_append, List.length_cons, List.length_nil, List.length_map, List.length_replicate]; omega)) | refine hg_app _ ?_ | refine hg_ne ?_ (by first | assumption | omega) | refine mskR ?_ (by first | (simp [rho, -List.length_eq_zero_iff]; done) | (simp [rho, -List.length_eq_zero_iff]; omega)))), (by repeat (first | assumption | exact hg_new | exact hg_at (by first | rfl | simp) rfl | exact hg_self (by first | assumption | omega | (simp only [List.length_set, List.length_append, List.length_cons, List.length_nil, List.length_map, List.length_replicate]; omega)) | refine hg_app _ ?_ | refine hg_ne ?_ (by first | assumption | omega) | refine mskR ?_ (by first | (simp [rho, -List.length_eq_zero_iff]; done) | (simp [rho, -List.length_eq_zero_iff]; omega)))), by rw [e]; exact (by repeat (first | assumption | exact hg_new | exact hg_at (by first | rfl | simp) rfl | exact hg_self (by first | assumption | omega | (simp only [List.length_set, List.length_append, List.length_cons, List.length_nil, List.length_map, List.length_replicate]; omega)) | refine hg_app _ ?_ | refine hg_ne ?_ (by first | assumption | omega) | refine mskR ?_ (by first | (simp [rho, -List.length_eq_zero_iff]; done) | (simp [rho, -List.length_eq_zero_iff]; omega)))), by rw [e], rfl⟩, Wk.keep (by (repeat first | exact True.intro | refine And.intro ?_ ?_ | exact Or.inr (Or.inl rfl) | exact Or.inl rfl | (refine DLe.i rfl ?_; omega) | (refine DLe.i rfl ?_; simp; done)))⟩
              · rw [if_neg hx] at e
                repeat (any_goals (first | (apply w_any; (first | refine RT.nil ?_ | refine RT.mvA ?_ | refine RT.asA ?_ | (apply w_ld; (first | refine RT.ldA ?_ | refine RT.ldH ?_)) | refine RT.faA ?_ | (apply w_bn; (first | refine RT.v (f_neqT rfl rfl hx) ?_ | refine RT.bnA ?_)) | refine RT.clA ?_ | refine RT.ixA ?_ | refine RT.stH ?_ | refine RT.new (s := H.length) rfl (f_allocL (z := [wI 0, .nil]) (m := 2) rfl rfl) rfl ?_)) | (apply v_any; (first | refine VT.seq rfl ?_ | refine VT.reg rfl ?_ | refine VT.condT rfl rfl ?_ | refine VT.block rfl ?_ | refine VT.skip rfl ?_ | refine VT.exit rfl ?_ | refine VT.condY rfl rfl (by first | assumption | omega) ?_)) | with_reducible (refine kLn ?_)))
                exact ⟨cs[i].length - (k + 1), by omega, _, _, ⟨k + 1, rfl, hlk, (by repeat (first | assumption | exact hg_new | exact hg_at (by first | rfl | simp) rfl | exact hg_self (by first | assumption | omega | (simp only [List.length_set, List.length_append, List.length_cons, List.length_nil, List.length_map, List.length_replicate]; omega)) | refine hg_app _ ?_ | refine hg_ne ?_ (by first | assumption | omega) | refine mskR ?_ (by first | (simp [rho, -List.length_eq_zero_iff]; done) | (simp [rho, -List.length_eq_zero_iff]; omega)))), (by repeat (first | assumption | exact hg_new | exact hg_at (by first | rfl | simp) rfl | exact hg_self (by first | assumption | omega | (simp only [List.length_set, List.length_append, List.length_cons, List.length_nil, List.length_map, List.length_replicate]; omega)) | refine hg_app _ ?_ | refine hg_ne ?_ (by first | assumption | omega) | refine mskR ?_ (by first | (simp [rho, -List.length_eq_zero_iff]; done) | (simp [rho, -List.length_eq_zero_iff]; omega)))), (by repeat (first | assumption | exact hg_new | exact hg_at (by first | rfl | simp) rfl | exact hg_self (by first | assumption | omega | (simp only [List.length_set, List.length_append, List.length_cons, List.length_nil, List.length_map, List.length_replicate]; omega)) | refine hg_app _ ?_ | refine hg_ne ?_ (by first | assumption | omega) | refine mskR ?_ (by first | (simp [rho, -List.length_eq_zero_iff]; done) | (simp [rho, -List.length_eq_zero_iff]; omega)))), by rw [e]; exact (by repeat (first | assumption | exact hg_new | exact hg_at (by first | rfl | simp) rfl | exact hg_self (by first | assumption | omega | (simp only [List.length_set, List.length_append, List.length_cons, List.length_nil, List.length_map, List.length_replicate]; omega)) | refine hg_app _ ?_ | refine hg_ne ?_ (by first | assumption | omega) | refine mskR ?_ (by first | (simp [rho, -List.length_eq_zero_iff]; done) | (simp [rho, -List.length_eq_zero_iff]; omega)))), by rw [e], rfl⟩, Wk.keep (by (repeat first | exact True.intro | refine And.intro ?_ ?_ | exact Or.inr (Or.inl rfl) | exact Or.inl rfl | (refine DLe.i rfl ?_; omega) | (refine DLe.i rfl ?_; simp; done)))⟩
            · obtain rfl : k = cs[i].length := by omega
              rw [List.take_length, ← hfl]
              rw [List.take_length, ← hfl] at hnb
              repeat (any_goals (first | (apply w_any; (first | refine RT.nil ?_ | refine RT.mvA ?_ | refine RT.asA ?_ | refine RT.ldA ?_ | refine RT.bnA ?_ | refine RT.clA ?_ | refine RT.ixA ?_)) | (apply v_any; (first | refine VT.seq rfl ?_ | refine VT.reg rfl ?_ | refine VT.exit rfl ?_ | refine VT.condN rfl rfl (by first | assumption | omega) ?_)) | with_reducible (refine kLn ?_)))
              exact ⟨cs.length - (i + 1), by omega, _, _, ⟨i + 1, nb, rfl, hlt2, hb0, hb1, hb, hnb, hnb2, hnbb, rfl, rfl⟩, Wk.keep (by (repeat first | exact True.intro | refine And.intro ?_ ?_ | exact Or.inr (Or.inl rfl) | exact Or.inl rfl | (refine DLe.i rfl ?_; omega) | (refine DLe.i rfl ?_; simp; done)))⟩
          · obtain rfl : i = cs.length := by omega
            rw [List.take_length] at hnb ⊢
            have hat := rF_att (cs := cs) (n := (n : Int) + 1) cs.flatten
            have hjs := joinL_succ cs n
            unfold jPick at hjs
            generalize rF cs ((n : Int) + 1) cs.flatten = st at hnb hat hjs ⊢
            by_cases hp : 0 < st.most
            · have heb : eBest st = eLeaf st.best := if_neg (by omega)
              rw [heb] at hnb
              cases he : st.equal with
              | false =>
                rw [if_pos ⟨hp, he⟩] at hjs
                repeat (any_goals (first | (apply w_any; (first | refine RT.nil ?_ | refine RT.gy rfl ?_ | refine RT.mvA ?_ | refine RT.asA ?_ | refine RT.ldH ?_ | (apply w_bn; (first | refine RT.v (f_gtrT rfl rfl (by omega)) ?_ | refine RT.bnA ?_)) | (apply w_cl; (first | refine RT.ap (s := H.length + 1) (by simp) (f_appT (f := eLeaf) (o := joinL cs n) (v := [st.best]) (mm := m + 1) (by' := 32) rfl rfl (by repeat (first | assumption | exact hg_new | exact hg_at (by first | rfl | simp) rfl | exact hg_self (by first | assumption | omega | (simp only [List.length_set, List.length_append, List.length_cons, List.length_nil, List.length_map, List.length_replicate]; omega)) | refine hg_app _ ?_ | refine hg_ne ?_ (by first | assumption | omega) | refine mskR ?_ (by first | (simp [rho, -List.length_eq_zero_iff]; done) | (simp [rho, -List.length_eq_zero_iff]; omega)))) (List.take_of_length_le (by rw [List.length_map]; omega)) (by rw [List.length_map]; omega) (by repeat (first | assumption | exact hg_new | exact hg_at (by first | rfl | simp) rfl | exact hg_self (by first | assumption | omega | (simp only [List.length_set, List.length_append, List.length_cons, List.length_nil, List.length_map, List.length_replicate]; omega)) | refine hg_app _ ?_ | refine hg_ne ?_ (by first | assumption | omega) | refine mskR ?_ (by first | (simp [rho, -List.length_eq_zero_iff]; done) | (simp [rho, -List.length_eq_zero_iff]; omega)))) hm rfl (by rw [hm]; rfl) rfl (by decide) rfl rfl (fun _ => ⟨rfl, rfl⟩) (by simp; omega) (by simp; omega)) (ap2 hbl _ _) ?_ | refine RT.clA ?_)) | refine RT.pkA ?_ | refine RT.unA ?_ | refine RT.new (s := H.length) rfl (f_bslA1 rfl rfl rfl rfl rfl rfl) rfl ?_)) | (apply v_any; (first | refine VT.seq rfl ?_ | refine VT.reg rfl ?_ | refine VT.condT rfl rfl ?_ | refine VT.exit rfl ?_ | refine VT.condN rfl rfl (by first | assumption | omega) ?_)) | with_reducible (refine kLn ?_)))
                exact ⟨N - (n + 1), by omega, _, _, ⟨n + 1, H.length + 1, m + 1, rfl, hlt, (by repeat (first | assumption | exact hg_new | exact hg_at (by first | rfl | simp) rfl | exact hg_self (by first | assumption | omega | (simp only [List.length_set, List.length_append, List.length_cons, List.length_nil, List.length_map, List.length_replicate]; omega)) | refine hg_app _ ?_ | refine hg_ne ?_ (by first | assumption | omega) | refine mskR ?_ (by first | (simp [rho, -List.length_eq_zero_iff]; done) | (simp [rho, -List.length_eq_zero_iff]; omega)))), (by repeat (first | assumption | exact hg_new | exact hg_at (by first | rfl | simp) rfl | exact hg_self (by first | assumption | omega | (simp only [List.length_set, List.length_append, List.length_cons, List.length_nil, List.length_map, List.length_replicate]; omega)) | refine hg_app _ ?_ | refine hg_ne ?_ (by first | assumption | omega) | refine mskR ?_ (by first | (simp [rho, -List.length_eq_zero_iff]; done) | (simp [rho, -List.length_eq_zero_iff]; omega)))), by rw [hjs]; exact hg_at (t := 1) (by simp) rfl, by omega, by rw [hjs, List.length_append, hm]; rfl, rfl, rfl⟩, Wk.keep (by (repeat first | exact True.intro | refine And.intro ?_ ?_ | exact Or.inr (Or.inl rfl) | exact Or.inl rfl | (refine DLe.i rfl ?_; omega) | (refine DLe.i rfl ?_; simp; done)))⟩
              | true =>
                rw [if_neg (fun h => by rw [he] at h; exact Bool.false_ne_true h.2.symm), List.append_nil] at hjs
                repeat (any_goals (first | (apply w_any; (first | refine RT.nil ?_ | refine RT.gy rfl ?_ | refine RT.mvA ?_ | refine RT.asA ?_ | (apply w_bn; (first | refine RT.v (f_gtrT rfl rfl (by omega)) ?_ | refine RT.bnA ?_)) | refine RT.clA ?_ | refine RT.pkA ?_ | refine RT.unA ?_)) | (apply v_any; (first | refine VT.seq rfl ?_ | refine VT.reg rfl ?_ | refine VT.condF rfl rfl ?_ | refine VT.skip rfl ?_ | refine VT.exit rfl ?_ | refine VT.condN rfl rfl (by first | assumption | omega) ?_)) | with_reducible (refine kLn ?_)))
                exact ⟨N - (n + 1), by omega, _, _, ⟨n + 1, b, m, rfl, hlt, hb0, hb1, by rw [hjs]; exact hb, hb2, by rw [hjs]; exact hm, rfl, rfl⟩, Wk.keep (by (repeat first | exact True.intro | refine And.intro ?_ ?_ | exact Or.inr (Or.inl rfl) | exact Or.inl rfl | (refine DLe.i rfl ?_; omega) | (refine DLe.i rfl ?_; simp; done)))⟩
            · rw [if_neg (fun h => hp h.1), List.append_nil] at hjs
              repeat (any_goals (first | (apply w_any; (first | refine RT.nil ?_ | refine RT.gn rfl rfl ?_ | refine RT.mvA ?_ | refine RT.asA ?_ | (apply w_bn; (first | refine RT.v (f_gtrF rfl rfl (by omega)) ?_ | refine RT.bnA ?_)) | refine RT.clA ?_ | refine RT.pkA ?_)) | (apply v_any; (first | refine VT.seq rfl ?_ | refine VT.reg rfl ?_ | refine VT.condF rfl rfl ?_ | refine VT.skip rfl ?_ | refine VT.exit rfl ?_ | refine VT.condN rfl rfl (by first | assumption | omega) ?_)) | with_reducible (refine kLn ?_)))
              exact ⟨N - (n + 1), by omega, _, _, ⟨n + 1, b, m, rfl, hlt, hb0, hb1, by rw [hjs]; exact hb, hb2, by rw [hjs]; exact hm, rfl, rfl⟩, Wk.keep (by (repeat first | exact True.intro | refine And.intro ?_ ?_ | exact Or.inr (Or.inl rfl) | exact Or.inl rfl | (refine DLe.i rfl ?_; omega) | (refine DLe.i rfl ?_; simp; done)))⟩
        · obtain rfl : n = N := by omega
          repeat (any_goals (first | (apply w_any; (first | refine RT.nil ?_ | refine RT.mvA ?_ | refine RT.ldH ?_ | refine RT.faA ?_ | (apply w_bn; (first | refine RT.v (f_leqF rfl rfl (by omega)) ?_ | refine RT.bnA ?_)) | refine RT.wr (f_stA rfl hb1 rfl rfl rfl rfl rfl (by decide) rfl) rfl ?_ | refine RT.v (f_build (d := .agg [.ms b 0 m m, wI 0]) rfl) ?_)) | (apply v_any; (first | refine VT.seq rfl ?_ | refine VT.reg rfl ?_ | refine VT.condF rfl rfl ?_ | refine VT.exit rfl ?_ | refine VT.ret rfl ?_))))
          refine kEr (resA_cell1 (sz := 2) (e := [.ms b 0 m m, wI 0]) rfl (List.getElem?_set_self (hg_lt hb1)) rfl rfl rfl) ?_
          exact congrArg (fun x => D.agg [x, wI 0]) (snapR_dSF (k := 2) (hg_ne hb (by omega)) hm)
  · rw [e] at hk ⊢
    rw [if_neg (by decide)]
    repeat (any_goals (first | (apply w_any; (first | refine RT.nil ?_ | refine RT.mvA ?_ | refine RT.asA ?_ | refine RT.ldA ?_ | refine RT.bnA ?_ | refine RT.callM rfl (hk) rfl rfl ?_ | refine RT.stA ?_ | refine RT.nwA ?_ | refine RT.nwA ?_ | refine RT.msA ?_)) | (apply v_any; (first | refine VT.seq rfl ?_ | refine VT.reg rfl ?_ | refine VT.condT rfl rfl ?_ | refine VT.ret rfl ?_)) | with_reducible (refine kSr ?_) | (with_reducible refine d_kEr ?_; refine kEr rfl ?_)))
    rfl
end Go.DL
