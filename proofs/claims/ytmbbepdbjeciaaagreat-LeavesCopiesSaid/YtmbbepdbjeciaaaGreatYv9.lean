/- Copies with harms: what Join finds (plain). -/
import Derived.Test.YtmbbepdbjeciaaaGreatYv8
import Derived.Test.YtmbbepdbjeciaaaGreatZv
set_option maxRecDepth 100000
set_option maxHeartbeats 16000000
namespace Go.DL
open Go.Proofs Go

theorem ckl_of {s : Shape} : ∀ {l seen : List Leaf}, (∀ x, x ∈ l → leafOk s x = true ∧ numIn seen x.Number = false) → l.Pairwise (fun x y => x.Number ≠ y.Number) → cklS s seen l = 0
  | [], _, _, _ => rfl
  | x :: r, seen, h, hp => by
    obtain ⟨h1, h2⟩ := h x (List.mem_cons_self ..)
    obtain ⟨p1, p2⟩ := List.pairwise_cons.1 hp
    rw [cklS, if_pos h1, if_neg (by rw [h2]; exact Bool.false_ne_true)]
    refine ckl_of (fun y hy => ⟨(h y (List.mem_cons_of_mem _ hy)).1, ?_⟩) p2
    have h3 := (h y (List.mem_cons_of_mem _ hy)).2
    simp only [numIn, List.any_append, Bool.or_eq_false_iff, List.any_cons, List.any_nil, decide_eq_false_iff_not, and_true] at h3 ⊢
    exact ⟨h3, p1 y hy⟩
theorem wholeL_len (N w : Nat) (d : List (List Int)) : (wholeL N w d).length = N := by simp [wholeL]
theorem wholeL_get {N w i : Nat} (d : List (List Int)) (h : i < N) : (wholeL N w d)[i]? = some ⟨(i : Int) + 1, (List.range w).map fun q : Nat => horner (colS d q) ((i : Int) + 1)⟩ := by simp [wholeL, h]
theorem wholeL_wl (N w : Nat) (d : List (List Int)) : ∀ x, x ∈ wholeL N w d → x.Words.length = w ∧ allW x.Words := fun x hx => by
  obtain ⟨i, _, rfl⟩ := List.mem_map.1 hx
  refine ⟨by simp, fun a ha => ?_⟩
  obtain ⟨q, _, rfl⟩ := List.mem_map.1 ha
  exact horner_W _ _
section
variable {N w : Nat} {d : List (List Int)} {hs : List Harm}
theorem left_num (hw : 0 < w) (hN : 0 < N) (hh : ∀ h, h ∈ hs → hOk h) {i : Nat} (hi : i < N) : ((harmS (wholeL N w d) hs).o.getD i ⟨0, []⟩).Number = (i : Int) + 1 := by
  have h := HSok.all (hs := hs) hw (by rw [wholeL_len]; exact hN) (wholeL_wl N w d) hh
  rw [h.num i, getD_q (wholeL_get d hi)]
theorem left_mem (hw : 0 < w) (hN : 0 < N) (hh : ∀ h, h ∈ hs → hOk h) : ∀ x, x ∈ leftS (harmS (wholeL N w d) hs) N → (1 ≤ x.Number ∧ x.Number ≤ (N : Int)) ∧ x.Words.length = w ∧ allW x.Words := fun x hx => by
  have h := HSok.all (hs := hs) hw (by rw [wholeL_len]; exact hN) (wholeL_wl N w d) hh
  obtain ⟨i, hi, rfl⟩ := List.mem_map.1 hx
  have hi' : i < N := List.mem_range.1 ((List.mem_filter.1 hi).1)
  have hl : i < (harmS (wholeL N w d) hs).o.length := by rw [h.len, wholeL_len]; exact hi'
  refine ⟨by rw [left_num hw hN hh hi']; omega, h.wl _ ?_⟩
  rw [List.getD_eq_getElem?_getD, List.getElem?_eq_getElem hl]; exact List.getElem_mem hl
theorem left_lt (hw : 0 < w) (hN : 0 < N) (hh : ∀ h, h ∈ hs → hOk h) (p : Nat → Bool) : (((List.range N).filter p).map fun i => (harmS (wholeL N w d) hs).o.getD i ⟨0, []⟩).Pairwise fun x y => x.Number < y.Number := by
  rw [List.pairwise_map]
  have h1 : ((List.range N).filter p).Pairwise (· < ·) := (List.pairwise_lt_range (n := N)).filter p
  refine h1.imp_of_mem fun {a b} ha hb hab => ?_
  rw [left_num hw hN hh (List.mem_range.1 ((List.mem_filter.1 ha).1)), left_num hw hN hh (List.mem_range.1 ((List.mem_filter.1 hb).1))]
  omega
/-- The numbers of what is wrong. -/
theorem bad_list (hw : 0 < w) (hN : 0 < N) (hh : ∀ h, h ∈ hs → hOk h) : badS (wholeL N w d) (harmS (wholeL N w d) hs) N = ((leftS (harmS (wholeL N w d) hs) N).filter (badM (wholeL N w d))).map Leaf.Number := by
  have h := HSok.all (hs := hs) hw (by rw [wholeL_len]; exact hN) (wholeL_wl N w d) hh
  rw [leftS, List.filter_map, List.map_map, List.filter_filter, badS]
  have e : (List.range N).filter (badF (wholeL N w d) (harmS (wholeL N w d) hs)) = (List.range N).filter (fun i => ((badM (wholeL N w d) ∘ fun i => (harmS (wholeL N w d) hs).o.getD i ⟨0, []⟩) i) && !(harmS (wholeL N w d) hs).T.contains i) := by
    refine List.filter_congr fun i hi => ?_
    have hi' := List.mem_range.1 hi
    have hn := left_num (d := d) hw hN hh hi'
    have hg : ((wholeL N w d).getD (((harmS (wholeL N w d) hs).o.getD i ⟨0, []⟩).Number - 1).toNat ⟨0, []⟩) = (wholeL N w d).getD i ⟨0, []⟩ := by
      rw [hn, show ((i : Int) + 1 - 1).toNat = i by omega]
    simp only [badF, Function.comp, badM, hg]
    rw [Bool.and_comm (!decide _)]
    congr 1
    by_cases hc : i ∈ (harmS (wholeL N w d) hs).C
    · have hp : 0 < (harmS (wholeL N w d) hs).C.count i := List.count_pos_iff.2 hc
      rw [decide_eq_true hp, Bool.true_and]
      congr 1
      exact decide_eq_decide.2 eq_comm
    · have hp : ¬ 0 < (harmS (wholeL N w d) hs).C.count i := fun h => hc (List.count_pos_iff.1 h)
      rw [decide_eq_false hp, Bool.false_and, h.hit i hc]
      simp
  rw [e]; rfl
end
def cntN (l : List Leaf) (n : Int) : Nat := l.countP fun y => decide (y.Number = n)
/-- How many more copies have the leaf of the book than another one. -/
def rtC (L : List Leaf) (N : Nat) (hs : List Harm) (n : Int) : Int := (cntN (leftS (harmS L hs) N) n : Int) - 2 * ((badS L (harmS L hs) N).count n : Nat)
def rtS (L : List Leaf) (N : Nat) : List (List Harm) → Int → Int
  | [], _ => 0
  | hs :: r, n => rtC L N hs n + rtS L N r n
theorem rtS_snoc (L : List Leaf) (N : Nat) (n : Int) (hs : List Harm) : ∀ r, rtS L N (r ++ [hs]) n = rtS L N r n + rtC L N hs n
  | [] => by simp [rtS]
  | a :: r => by rw [List.cons_append, rtS, rtS_snoc L N n hs r, rtS]; omega
def leftsS (L : List Leaf) (N : Nat) (hss : List (List Harm)) : List (List Leaf) := hss.map fun hs => leftS (harmS L hs) N
section
variable {N w : Nat} {d : List (List Int)} {hss : List (List Harm)}
theorem rtS_eq (hw : 0 < w) (hN : 0 < N) (n : Int) : ∀ {hss : List (List Harm)}, (∀ hs, hs ∈ hss → ∀ h, h ∈ hs → hOk h) → rtS (wholeL N w d) N hss n = ((selL (leftsS (wholeL N w d) N hss) n).length : Int) - 2 * ((selL (leftsS (wholeL N w d) N hss) n).countP (badM (wholeL N w d)) : Nat)
  | [], _ => rfl
  | hs :: r, hh => by
    have e1 : selL (leftsS (wholeL N w d) N (hs :: r)) n = (leftS (harmS (wholeL N w d) hs) N).filter (fun y => decide (y.Number = n)) ++ selL (leftsS (wholeL N w d) N r) n := by
      simp [selL, leftsS]
    have ih := rtS_eq hw hN n (hss := r) fun hs h => hh hs (List.mem_cons_of_mem _ h)
    rw [rtS, ih, e1, List.length_append, List.countP_append, rtC, bad_list hw hN (hh hs (List.mem_cons_self ..))]
    have e2 : (((leftS (harmS (wholeL N w d) hs) N).filter (badM (wholeL N w d))).map Leaf.Number).count n = ((leftS (harmS (wholeL N w d) hs) N).filter (fun y => decide (y.Number = n))).countP (badM (wholeL N w d)) := by
      rw [List.count_eq_countP, List.countP_map, List.countP_filter, List.countP_filter]
      refine congrArg (fun p => List.countP p _) (funext fun y => ?_)
      simp only [Function.comp]
      rw [Bool.and_comm]
      congr 1
    have e3 : cntN (leftS (harmS (wholeL N w d) hs) N) n = ((leftS (harmS (wholeL N w d) hs) N).filter (fun y => decide (y.Number = n))).length := List.countP_eq_length_filter
    rw [e2, e3]
    omega
theorem lefts_ok {s : Shape} (hck : CkOk s) (hNe : (s.Data + s.Checks).toNat = N) (hw : 0 < w) (hwe : (w : Int) = s.Width) (hN : 0 < N) (hN4 : N ≤ 40) (hh : ∀ hs, hs ∈ hss → ∀ h, h ∈ hs → hOk h) :
    ∀ l, l ∈ leftsS (wholeL N w d) N hss → CheckLeavesS s l = 0 := fun l hl => by
  obtain ⟨hs, hhs, rfl⟩ := List.mem_map.1 hl
  have hm := left_mem (d := d) hw hN (hh hs hhs)
  have hlen := leftS_len (harmS (wholeL N w d) hs) N
  obtain ⟨⟨d1, d2⟩, ⟨c1, c2⟩, w1, w2⟩ := id hck
  unfold CheckLeavesS
  rw [if_pos (show CheckS s = 0 from if_pos hck), if_neg (by omega)]
  refine ckl_of (fun x hx => ⟨?_, rfl⟩) ((left_lt (d := d) hw hN (hh hs hhs) _).imp fun h => by omega)
  obtain ⟨⟨n1, n2⟩, k1, k2⟩ := hm x hx
  simp only [leafOk, Bool.and_eq_true, decide_eq_true_eq]
  refine ⟨by omega, by omega, List.all_eq_true.2 fun a ha => decide_eq_true (k2 a ha)⟩
theorem ckAll_of {s : Shape} : ∀ {cs : List (List Leaf)}, (∀ l, l ∈ cs → CheckLeavesS s l = 0) → ckAll s cs = 0
  | [], _ => rfl
  | c :: r, h => by
    rw [ckAll, if_pos (h c (List.mem_cons_self ..))]
    exact ckAll_of fun l hl => h l (List.mem_cons_of_mem _ hl)
/-- What is picked has won; else nobody has. -/
theorem jPick_win (cs : List (List Leaf)) (n : Int) : (∃ x, DM.IsWin Leaf.Words (selL cs n) x ∧ jPick cs n = [x]) ∨ ((∀ x, ¬ DM.IsWin Leaf.Words (selL cs n) x) ∧ jPick cs n = []) := by
  have hr := DM.rS_end Leaf.Words (z := ⟨0, []⟩) (l := selL cs n)
  have e1 : rF cs n cs.flatten = DM.rS Leaf.Words ⟨0, []⟩ (selL cs n) := rfl
  unfold jPick
  rw [e1]
  by_cases h : 0 < (DM.rS Leaf.Words ⟨0, []⟩ (selL cs n)).most ∧ (DM.rS Leaf.Words ⟨0, []⟩ (selL cs n)).equal = false
  · rw [if_pos h]; exact .inl ⟨_, hr.1 h, rfl⟩
  · rw [if_neg h]; exact .inr ⟨hr.2 h, rfl⟩
theorem selL_num {cs : List (List Leaf)} {n : Int} {x : Leaf} (h : x ∈ selL cs n) : x.Number = n := of_decide_eq_true (List.mem_filter.1 h).2
theorem leaf_ext {x y : Leaf} (h1 : x.Number = y.Number) (h2 : x.Words = y.Words) : x = y := by
  obtain ⟨_, _⟩ := x
  obtain ⟨_, _⟩ := y
  simp only at h1 h2
  rw [h1, h2]
theorem jPick_eq {cs : List (List Leaf)} {n : Int} {x : Leaf} (h : DM.IsWin Leaf.Words (selL cs n) x) : jPick cs n = [x] := by
  rcases jPick_win cs n with ⟨y, h1, h2⟩ | ⟨h1, _⟩
  · rw [h2, leaf_ext ((selL_num h1.1).trans (selL_num h.1).symm) (h1.same Leaf.Words h)]
  · exact absurd h (h1 x)
theorem IsWin_perm {l m : List Leaf} {x : Leaf} (hp : l.Perm m) (h : DM.IsWin Leaf.Words l x) : DM.IsWin Leaf.Words m x := by
  have hc : ∀ b, DM.cnt Leaf.Words m b = DM.cnt Leaf.Words l b := fun b => hp.symm.countP_eq _
  exact ⟨hp.subset h.1, fun y hy hn => by rw [hc, hc]; exact h.2 y (hp.symm.subset hy) hn⟩
theorem jPick_perm {cs ds : List (List Leaf)} (hp : cs.flatten.Perm ds.flatten) (n : Int) : jPick cs n = jPick ds n := by
  have hq : (selL cs n).Perm (selL ds n) := hp.filter _
  rcases jPick_win cs n with ⟨y, h1, h2⟩ | ⟨h1, h2⟩
  · rw [h2, jPick_eq (IsWin_perm hq h1)]
  · rcases jPick_win ds n with ⟨y, k1, k2⟩ | ⟨k1, k2⟩
    · exact absurd (IsWin_perm hq.symm k1) (h1 y)
    · rw [h2, k2]
theorem joinL_perm {cs ds : List (List Leaf)} (hp : cs.flatten.Perm ds.flatten) (N : Nat) : joinL cs N = joinL ds N := by
  unfold joinL
  refine congrArg (fun f => (List.range N).flatMap f) (funext fun i => jPick_perm hp _)
theorem turn_perm {α : Type} (cs : List (List α)) (k : Nat) : cs.flatten.Perm (cs.drop k ++ cs.take k).flatten := by
  rw [List.flatten_append]
  have e : cs.flatten = (cs.take k).flatten ++ (cs.drop k).flatten := by rw [← List.flatten_append, List.take_append_drop]
  rw [e]
  exact List.perm_append_comm
/-- Where more copies have the leaf of the book, it is picked. -/
theorem pick_right (hw : 0 < w) (hN : 0 < N) (hh : ∀ hs, hs ∈ hss → ∀ h, h ∈ hs → hOk h) {i : Nat} (hi : i < N) (hr : 0 < rtS (wholeL N w d) N hss ((i : Int) + 1)) :
    jPick (leftsS (wholeL N w d) N hss) ((i : Int) + 1) = [(wholeL N w d).getD i ⟨0, []⟩] := by
  have e := rtS_eq (d := d) hw hN ((i : Int) + 1) hh
  rw [e] at hr
  have hx := getD_q (d := (⟨0, []⟩ : Leaf)) (wholeL_get (w := w) d hi)
  obtain ⟨x, hxe⟩ : ∃ x, x = (wholeL N w d).getD i ⟨0, []⟩ := ⟨_, rfl⟩
  have hxn : x.Number = (i : Int) + 1 := by rw [hxe, hx]
  rw [← hxe]
  have hb : ∀ y, y ∈ selL (leftsS (wholeL N w d) N hss) ((i : Int) + 1) → badM (wholeL N w d) y = !decide (y.Words = x.Words) := fun y hy => by
    unfold badM
    rw [selL_num hy, show ((i : Int) + 1 - 1).toNat = i by omega, ← hxe]
    congr 1
    exact decide_eq_decide.2 eq_comm
  have hnum : ∀ y, y ∈ selL (leftsS (wholeL N w d) N hss) ((i : Int) + 1) → y.Number = (i : Int) + 1 := fun y hy => selL_num hy
  refine jPick_eq ?_
  generalize selL (leftsS (wholeL N w d) N hss) ((i : Int) + 1) = S at hr hb hnum
  have h1 : S.countP (badM (wholeL N w d)) = S.countP (fun y => !decide (y.Words = x.Words)) := List.countP_congr fun y hy => by rw [hb y hy]
  have h2 : S.length = S.countP (fun y => decide (y.Words = x.Words)) + S.countP (fun y => !decide (y.Words = x.Words)) := by
    rw [List.length_eq_countP_add_countP (fun y : Leaf => decide (y.Words = x.Words))]
    congr 1
    exact List.countP_congr fun y hy => by simp
  rw [h1] at hr
  have hg : DM.cnt Leaf.Words S x.Words = S.countP (fun y => decide (y.Words = x.Words)) := rfl
  rw [← hg] at h2
  refine ⟨?_, fun y hy hn => ?_⟩
  · obtain ⟨y, hy, hyw⟩ := List.countP_pos_iff.1 (show 0 < S.countP (fun y => decide (y.Words = x.Words)) by rw [← hg]; omega)
    have := leaf_ext (x := y) (y := x) ((hnum y hy).trans hxn.symm) (of_decide_eq_true hyw)
    rw [← this]; exact hy
  · have h3 : DM.cnt Leaf.Words S y.Words ≤ S.countP (fun y => !decide (y.Words = x.Words)) := List.countP_mono_left fun z hz hzy => by
      have : z.Words = y.Words := of_decide_eq_true hzy
      simp [this, hn]
    omega
end
end Go.DL
