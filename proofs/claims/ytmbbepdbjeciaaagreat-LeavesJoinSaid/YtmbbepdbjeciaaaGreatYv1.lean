/- How many copies have a leaf. -/
import Derived.Test.YtmbbepdbjeciaaaGreatYa
import Derived.Test.YtmbbepdbjeciaaaGreatE13
set_option maxRecDepth 100000
set_option maxHeartbeats 16000000
namespace Go.DL
open Go.Proofs Go
abbrev eLvs (l : List Leaf) : List D := [.sl (l.map eLeaf)]
def hasL (x : Leaf) (l : List Leaf) : Nat := l.countP fun y => decide (y.Number = x.Number ∧ y.Words = x.Words)
theorem hasL_succ (x : Leaf) {l : List Leaf} {k : Nat} (h : k < l.length) : hasL x (l.take (k + 1)) = hasL x (l.take k) + if l[k].Number = x.Number ∧ l[k].Words = x.Words then 1 else 0 := by
  rw [hasL, List.take_succ_eq_append_getElem h, List.countP_append, List.countP_singleton]
  simp [hasL]
theorem hasL_flat (x : Leaf) {cs : List (List Leaf)} {i : Nat} (h : i < cs.length) : hasL x (cs.take (i + 1)).flatten = hasL x (cs.take i).flatten + hasL x cs[i] := by
  rw [List.take_succ_eq_append_getElem h, hasL, List.flatten_append, List.countP_append]
  simp [hasL]
theorem flat_le {α : Type} {cs : List (List α)} {m : Nat} (h : ∀ l, l ∈ cs → l.length ≤ m) : cs.flatten.length ≤ cs.length * m := by
  induction cs with
  | nil => simp
  | cons a r ih =>
    have h1 := ih fun l hl => h l (List.mem_cons_of_mem _ hl)
    have h2 := h a (List.mem_cons_self ..)
    rw [List.flatten_cons, List.length_append, List.length_cons, Nat.succ_mul]; omega
theorem m_has (cs : List (List Leaf)) (x : Leaf) (hc : cs.length ≤ 1000) (hl : ∀ l, l ∈ cs → l.length ≤ 1000) (hw : ∀ l, l ∈ cs → ∀ y, y ∈ l → y.Words.length ≤ 4611686018427387904) (hx : x.Words.length ≤ 4611686018427387904) :
    Maps Tryz.prog 102 [.sl (cs.map eLvs), .agg (eLeaf x)] (wI (hasL x cs.flatten : Nat)) := by
  refine Maps.vt pok Tryz.f102 (n := 50) (rs := [.tmp 4]) rfl rfl rfl rfl rfl rfl fun g => ?_
  repeat (any_goals (first | (apply w_any; (first | refine RT.nil ?_ | refine RT.asA ?_ | refine RT.nwA ?_)) | (apply v_any; (first | refine VT.seq rfl ?_ | refine VT.reg rfl ?_ | refine VT.block rfl ?_))))
  refine VT.loop (fun j a H g' => ∃ i : Nat, j = cs.length - i ∧ i ≤ cs.length ∧ a = [(0, .sl (cs.map eLvs)), (3, .mp 0 0 0), (5, wI (hasL x (cs.take i).flatten : Nat)), (6, wI i)] ∧ H = [.live 2 [eLeaf x]] ∧ g' = g) rfl
    ⟨_, _, _, ⟨0, rfl, Nat.zero_le _, rfl, rfl, rfl⟩, fgA⟩ ?_
  rintro j a H g' ⟨i, rfl, hi, rfl, rfl, rfl⟩
  have hb : hasL x (cs.take i).flatten ≤ 1000000 := by
    refine Nat.le_trans List.countP_le_length (Nat.le_trans (flat_le (m := 1000) fun l h => hl l (List.mem_of_mem_take h)) ?_)
    rw [List.length_take]; omega
  by_cases hlt : i < cs.length
  · have hll := hl cs[i] (List.getElem_mem hlt)
    have hwl := hw cs[i] (List.getElem_mem hlt)
    repeat (any_goals (first | (apply w_any; (first | refine RT.nil ?_ | refine RT.mvA ?_ | refine RT.asA ?_ | refine RT.bnA ?_ | refine RT.clA ?_)) | (apply v_any; (first | refine VT.seq rfl ?_ | refine VT.reg rfl ?_ | refine VT.block rfl ?_ | refine VT.skip rfl ?_ | refine VT.condY rfl rfl (by first | assumption | omega) ?_))))
    refine VT.loop (fun j a H g2 => ∃ k : Nat, j = cs[i].length - k ∧ k ≤ cs[i].length ∧ a = [(0, .sl (cs.map eLvs)), (3, .mp 0 0 0), (5, wI (hasL x (cs.take i).flatten + hasL x (cs[i].take k) : Nat)), (6, wI i), (7, wI k)] ∧ H = [.live 2 [eLeaf x]] ∧ g2 = g') rfl
      ⟨_, _, _, ⟨0, rfl, Nat.zero_le _, rfl, rfl, rfl⟩, fgA⟩ ?_
    rintro j a H g2 ⟨k, rfl, hk, rfl, rfl, rfl⟩
    have hb2 : hasL x (cs[i].take k) ≤ 1000 := Nat.le_trans List.countP_le_length (by rw [List.length_take]; omega)
    by_cases hlk : k < cs[i].length
    · have hs := m_same cs[i][k].Words x.Words (hwl _ (List.getElem_mem hlk)) hx
      have e := hasL_succ x hlk
      by_cases hn : cs[i][k].Number = x.Number
      · by_cases hq : cs[i][k].Words = x.Words
        · rw [if_pos ⟨hn, hq⟩] at e
          rw [decide_eq_true hq] at hs
          repeat (any_goals (first | (apply w_any; (first | refine RT.nil ?_ | refine RT.mvA ?_ | refine RT.asA ?_ | refine RT.ldA ?_ | refine RT.bnA ?_ | refine RT.clA ?_ | refine RT.ixA ?_)) | (apply v_any; (first | refine VT.seq rfl ?_ | refine VT.reg rfl ?_ | refine VT.condT rfl rfl ?_ | refine VT.block rfl ?_ | refine VT.skip rfl ?_ | refine VT.draw [(0, []), (0, []), (0, []), (0, []), (0, []), (0, []), (0, []), (0, []), (0, []), (0, []), (0, []), (0, []), (0, []), (0, []), (0, []), (0, []), (0, []), (0, []), (0, []), (0, []), (0, []), (0, []), (0, []), (0, [])] 1 mixedOk rfl (by decide +kernel) (by decide +kernel) (by decide +kernel) (by first | (simp only [nrm]; rfl) | (simp only [nrm, Nat.reduceAdd, Nat.zero_add]; rfl) | rfl) (by first | (simp only [nrm]; rfl) | (simp only [nrm, Nat.reduceAdd, Nat.zero_add]; rfl) | rfl) ?_ | refine VT.condY rfl rfl (by first | assumption | omega) ?_)) | (apply q_any; (first | refine PT.done (by first | (simp only [nrm]; rfl) | (simp only [nrm, Nat.reduceAdd, Nat.zero_add]; rfl) | rfl) ?_ | refine PT.gy rfl ?_ | refine PT.mvA ?_ | refine PT.ldA ?_ | refine PT.faA ?_ | refine PT.v (f_eqlT rfl rfl hn) ?_ | refine PT.callG rfl (hs) rfl rfl ?_ | refine PT.pkA ?_ | (apply q_ix; (first | refine PT.v (f_ixL (l := cs[i]) (f := eLeaf) (k := k) rfl rfl rfl hlk rfl rfl) ?_ | refine PT.ixA ?_)))) | with_reducible (refine kLn ?_)))
          exact ⟨cs[i].length - (k + 1), by omega, _, _, ⟨k + 1, rfl, hlk, by rw [e], rfl, rfl⟩, fgA⟩
        · rw [if_neg (fun h => hq h.2)] at e
          rw [decide_eq_false hq] at hs
          repeat (any_goals (first | (apply w_any; (first | refine RT.nil ?_ | refine RT.mvA ?_ | refine RT.asA ?_ | refine RT.ldA ?_ | refine RT.bnA ?_ | refine RT.clA ?_ | refine RT.ixA ?_)) | (apply v_any; (first | refine VT.seq rfl ?_ | refine VT.reg rfl ?_ | refine VT.condF rfl rfl ?_ | refine VT.block rfl ?_ | refine VT.skip rfl ?_ | refine VT.draw [(0, []), (0, []), (0, []), (0, []), (0, []), (0, []), (0, []), (0, []), (0, []), (0, []), (0, []), (0, []), (0, []), (0, []), (0, []), (0, []), (0, []), (0, []), (0, []), (0, []), (0, []), (0, []), (0, []), (0, [])] 1 mixedOk rfl (by decide +kernel) (by decide +kernel) (by decide +kernel) (by first | (simp only [nrm]; rfl) | (simp only [nrm, Nat.reduceAdd, Nat.zero_add]; rfl) | rfl) (by first | (simp only [nrm]; rfl) | (simp only [nrm, Nat.reduceAdd, Nat.zero_add]; rfl) | rfl) ?_ | refine VT.condY rfl rfl (by first | assumption | omega) ?_)) | (apply q_any; (first | refine PT.done (by first | (simp only [nrm]; rfl) | (simp only [nrm, Nat.reduceAdd, Nat.zero_add]; rfl) | rfl) ?_ | refine PT.gy rfl ?_ | refine PT.mvA ?_ | refine PT.ldA ?_ | refine PT.faA ?_ | refine PT.v (f_eqlT rfl rfl hn) ?_ | refine PT.callG rfl (hs) rfl rfl ?_ | refine PT.pkA ?_ | (apply q_ix; (first | refine PT.v (f_ixL (l := cs[i]) (f := eLeaf) (k := k) rfl rfl rfl hlk rfl rfl) ?_ | refine PT.ixA ?_)))) | with_reducible (refine kLn ?_)))
          exact ⟨cs[i].length - (k + 1), by omega, _, _, ⟨k + 1, rfl, hlk, by rw [e], rfl, rfl⟩, fgA⟩
      · rw [if_neg (fun h => hn h.1)] at e
        repeat (any_goals (first | (apply w_any; (first | refine RT.nil ?_ | refine RT.mvA ?_ | refine RT.asA ?_ | refine RT.ldA ?_ | refine RT.bnA ?_ | refine RT.clA ?_ | refine RT.ixA ?_)) | (apply v_any; (first | refine VT.seq rfl ?_ | refine VT.reg rfl ?_ | refine VT.condF rfl rfl ?_ | refine VT.block rfl ?_ | refine VT.skip rfl ?_ | refine VT.draw [(0, []), (0, []), (0, []), (0, []), (0, []), (0, []), (0, []), (0, []), (0, []), (0, []), (0, []), (0, []), (0, []), (0, []), (0, []), (0, []), (0, []), (0, []), (0, []), (0, []), (0, []), (0, []), (0, []), (0, [])] 1 mixedOk rfl (by decide +kernel) (by decide +kernel) (by decide +kernel) (by first | (simp only [nrm]; rfl) | (simp only [nrm, Nat.reduceAdd, Nat.zero_add]; rfl) | rfl) (by first | (simp only [nrm]; rfl) | (simp only [nrm, Nat.reduceAdd, Nat.zero_add]; rfl) | rfl) ?_ | refine VT.condY rfl rfl (by first | assumption | omega) ?_)) | (apply q_any; (first | refine PT.done (by first | (simp only [nrm]; rfl) | (simp only [nrm, Nat.reduceAdd, Nat.zero_add]; rfl) | rfl) ?_ | refine PT.gn rfl rfl ?_ | refine PT.mvA ?_ | refine PT.ldA ?_ | refine PT.faA ?_ | refine PT.v (f_eqlF rfl rfl hn) ?_ | refine PT.pkA ?_ | (apply q_ix; (first | refine PT.v (f_ixL (l := cs[i]) (f := eLeaf) (k := k) rfl rfl rfl hlk rfl rfl) ?_ | refine PT.ixA ?_)))) | with_reducible (refine kLn ?_)))
        exact ⟨cs[i].length - (k + 1), by omega, _, _, ⟨k + 1, rfl, hlk, by rw [e], rfl, rfl⟩, fgA⟩
    · obtain rfl : k = cs[i].length := by omega
      rw [List.take_length]
      repeat (any_goals (first | (apply w_any; (first | refine RT.nil ?_ | refine RT.mvA ?_ | refine RT.asA ?_ | refine RT.ldA ?_ | refine RT.bnA ?_ | refine RT.clA ?_ | refine RT.ixA ?_)) | (apply v_any; (first | refine VT.seq rfl ?_ | refine VT.reg rfl ?_ | refine VT.exit rfl ?_ | refine VT.condN rfl rfl (by first | assumption | omega) ?_)) | with_reducible (refine kLn ?_)))
      exact ⟨cs.length - (i + 1), by omega, _, _, ⟨i + 1, rfl, hlt, by rw [hasL_flat x hlt], rfl, rfl⟩, fgA⟩
  · obtain rfl : i = cs.length := by omega
    repeat (any_goals (first | (apply w_any; (first | refine RT.nil ?_ | refine RT.mvA ?_ | refine RT.asA ?_ | refine RT.bnA ?_ | refine RT.clA ?_)) | (apply v_any; (first | refine VT.seq rfl ?_ | refine VT.reg rfl ?_ | refine VT.exit rfl ?_ | refine VT.ret rfl ?_ | refine VT.condN rfl rfl (by first | assumption | omega) ?_)) | (with_reducible refine d_kEr ?_; refine kEr rfl ?_)))
    rw [List.take_length]; rfl
end Go.DL
