/- Join of the program: the leaves that copies have in common. -/
import Derived.Test.YtmbbepdbjeciaaaGreatYv5
set_option maxRecDepth 100000
set_option maxHeartbeats 16000000
namespace Go.DL
open Go.Proofs Go
abbrev selP (p : List Leaf) (n : Int) : List Leaf := p.filter fun y => decide (y.Number = n)
theorem selP_snoc (p : List Leaf) (x : Leaf) (n : Int) : selP (p ++ [x]) n = if x.Number = n then selP p n ++ [x] else selP p n := by
  unfold selP
  rw [List.filter_append]
  by_cases h : x.Number = n
  · rw [if_pos h, List.filter_cons, if_pos (by simpa using h)]; rfl
  · rw [if_neg h, List.filter_cons, if_neg (by simpa using h)]; simp
/-- The map of leaves by number: each list in a block of its own. -/
structure JM (K : Nat) (H : List Blk) (kv : KV) (f : Int → Nat) (p : List Leaf) : Prop where
  get : ∀ n, aget kv n = if selP p n = [] then none else some (.ms (f n) 0 (selP p n).length (selP p n).length)
  row : ∀ n, selP p n ≠ [] → H[f n]? = some (.live 2 ((selP p n).map eLeaf)) ∧ K ≤ f n
  inj : ∀ n m, selP p n ≠ [] → selP p m ≠ [] → f n = f m → n = m
section
variable {K : Nat} {H H2 T : List Blk} {kv : KV} {f : Int → Nat} {p : List Leaf} {b : Nat} {x : Blk}
theorem JM.nil (K : Nat) (H : List Blk) (f : Int → Nat) : JM K H [] f [] := ⟨fun n => rfl, fun n h => absurd rfl h, fun n m h => absurd rfl h⟩
theorem JM.app (h : JM K H kv f p) (T : List Blk) : JM K (H ++ T) kv f p := ⟨h.get, fun n hn => ⟨hg_app T (h.row n hn).1, (h.row n hn).2⟩, h.inj⟩
theorem JM.low (h : JM K H kv f p) (hb : b < K) (x : Blk) : JM K (H.set b x) kv f p := ⟨h.get, fun n hn => ⟨hg_ne (h.row n hn).1 (by have := (h.row n hn).2; omega), (h.row n hn).2⟩, h.inj⟩
theorem JM.high (h : JM K H kv f p) (T : List Blk) (x : Blk) : JM K ((H ++ T).set H.length x) kv f p := ⟨h.get, fun n hn => ⟨hg_ne (hg_app T (h.row n hn).1) (by have := hg_lt (h.row n hn).1; omega), (h.row n hn).2⟩, h.inj⟩
theorem JM.pre (h : JM K H kv f p) (hP : Pre H H2) : JM K H2 kv f p := ⟨h.get, fun n hn => ⟨hP.get (h.row n hn).1, (h.row n hn).2⟩, h.inj⟩
theorem JM.push (h : JM K H kv f p) {y : Leaf} {t : Nat} (hK : K ≤ H.length) (hT : T[t]? = some (.live 2 ((selP p y.Number ++ [y]).map eLeaf))) (hH2 : H2.length = H.length)
    (hk : ∀ n, n ≠ y.Number → selP p n ≠ [] → H2[f n]? = H[f n]?) :
    JM K (H2 ++ T) (aset kv y.Number (.ms (H.length + t) 0 ((selP p y.Number).length + 1) ((selP p y.Number).length + 1))) (fun n => if n = y.Number then H.length + t else f n) (p ++ [y]) := by
  refine ⟨fun n => ?_, fun n hn => ?_, fun n m hn hm e => ?_⟩
  · rw [aget_set, selP_snoc]
    by_cases e : n = y.Number
    · subst e
      simp
    · have e' : ¬ y.Number = n := fun h => e h.symm
      simp only [if_neg e, if_neg e']
      exact h.get n
  · rw [selP_snoc] at hn ⊢
    by_cases e : n = y.Number
    · subst e
      simp only [if_true]
      exact ⟨hg_at hH2 hT, by omega⟩
    · have e' : ¬ y.Number = n := fun h => e h.symm
      rw [if_neg e'] at hn ⊢
      rw [if_neg e]
      obtain ⟨h1, h2⟩ := h.row n hn
      exact ⟨hg_app _ ((hk n e hn).trans h1), h2⟩
  · rw [selP_snoc] at hn hm
    have lt : ∀ k, k ≠ y.Number → (if y.Number = k then selP p k ++ [y] else selP p k) ≠ [] → f k < H.length := fun k hk' hk2 => by
      rw [if_neg (fun h => hk' h.symm)] at hk2
      exact hg_lt (h.row k hk2).1
    by_cases e1 : n = y.Number <;> by_cases e2 : m = y.Number
    · rw [e1, e2]
    · simp only [if_pos e1, if_neg e2] at e
      have := lt m e2 hm
      omega
    · simp only [if_neg e1, if_pos e2] at e
      have := lt n e1 hn
      omega
    · simp only [if_neg e1, if_neg e2] at e
      rw [if_neg (fun h => e1 h.symm)] at hn
      rw [if_neg (fun h => e2 h.symm)] at hm
      exact h.inj n m hn hm e
end
theorem mL_pick (cs : List (List Leaf)) (n : Int) : jPick cs n = if (mL (selL cs n) (selL cs n).length).second < (mL (selL cs n) (selL cs n).length).first then [(mL (selL cs n) (selL cs n).length).out] else [] := by
  have hb := DM.both_ways Leaf.Words (z := ⟨0, []⟩) (l := selL cs n)
  have e1 : rF cs n cs.flatten = DM.rS Leaf.Words ⟨0, []⟩ (selL cs n) := rfl
  have hm := DM.mS_end Leaf.Words (z := ⟨0, []⟩) (l := selL cs n)
  have hr := DM.rS_end Leaf.Words (z := ⟨0, []⟩) (l := selL cs n)
  unfold jPick
  rw [e1]
  change _ = if (DM.mS Leaf.Words ⟨0, []⟩ (selL cs n) (selL cs n).length).second < (DM.mS Leaf.Words ⟨0, []⟩ (selL cs n) (selL cs n).length).first then [(DM.mS Leaf.Words ⟨0, []⟩ (selL cs n) (selL cs n).length).out] else []
  by_cases h : (DM.mS Leaf.Words ⟨0, []⟩ (selL cs n) (selL cs n).length).second < (DM.mS Leaf.Words ⟨0, []⟩ (selL cs n) (selL cs n).length).first
  · rw [if_pos h, if_pos (hb.1.1 h)]
    have w1 := hm.1 h
    have w2 := hr.1 (hb.1.1 h)
    have hw := hb.2 h
    have num : ∀ x, x ∈ selL cs n → x.Number = n := fun x hx => of_decide_eq_true (List.mem_filter.1 hx).2
    have n1 := num _ w1.1
    have n2 := num _ w2.1
    generalize (DM.mS Leaf.Words ⟨0, []⟩ (selL cs n) (selL cs n).length).out = u at hw n1
    generalize (DM.rS Leaf.Words ⟨0, []⟩ (selL cs n)).best = v at hw n2
    obtain ⟨un, uw⟩ := u
    obtain ⟨vn, vw⟩ := v
    simp only at hw n1 n2
    rw [hw, n1, n2]
  · rw [if_neg h, if_neg (fun k => h (hb.1.2 k))]
theorem mL_first {l : List Leaf} (h : l ≠ []) : 0 < (mL l l.length).first ∧ (mL l l.length).out ∈ l := by
  have hi := DM.MInv.all Leaf.Words (z := ⟨0, []⟩) (l := l) l.length (Nat.le_refl _)
  rw [List.take_length] at hi
  obtain ⟨h1, h2⟩ := hi.out h
  have := DM.cnt_pos Leaf.Words h1
  exact ⟨by show 0 < (DM.mS Leaf.Words ⟨0, []⟩ l l.length).first; omega, h1⟩
theorem jPick_num {cs : List (List Leaf)} {n : Int} {x : Leaf} (h : x ∈ jPick cs n) : x.Number = n ∧ x ∈ cs.flatten := by
  have ha := rF_att (cs := cs) (n := n) cs.flatten
  unfold jPick at h
  split at h
  · rename_i hp
    rw [List.mem_singleton.1 h]
    exact ⟨(ha.2 hp.1).2, (ha.2 hp.1).1⟩
  · cases h
theorem joinL_srt (cs : List (List Leaf)) : ∀ N, (joinL cs N).Pairwise (fun x y => x.Number < y.Number) ∧ ∀ x, x ∈ joinL cs N → (1 ≤ x.Number ∧ x.Number ≤ N) ∧ x ∈ cs.flatten
  | 0 => ⟨List.Pairwise.nil, fun x h => by cases h⟩
  | N + 1 => by
    obtain ⟨i1, i2⟩ := joinL_srt cs N
    rw [joinL_succ]
    refine ⟨List.pairwise_append.2 ⟨i1, ?_, fun x hx y hy => ?_⟩, fun x hx => ?_⟩
    · have := jPick_len cs ((N : Int) + 1)
      match jPick cs ((N : Int) + 1), this with
      | [], _ => exact List.Pairwise.nil
      | [_], _ => exact List.pairwise_singleton _ _
    · have := (i2 x hx).1
      have := (jPick_num hy).1
      omega
    · rcases List.mem_append.1 hx with hx | hx
      · have := (i2 x hx)
        exact ⟨by omega, this.2⟩
      · have := (jPick_num hx)
        exact ⟨by omega, this.2⟩
end Go.DL
