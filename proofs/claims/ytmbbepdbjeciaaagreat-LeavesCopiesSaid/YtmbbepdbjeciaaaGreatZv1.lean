/- Leaves in rows of one's own; harms (plain, and how rows stand in own blocks). -/
import Derived.Test.YtmbbepdbjeciaaaGreatZm2
import Derived.Test.YtmbbepdbjeciaaaGreatE13
import Derived.Test.YtmbbepdbjeciaaaGreatE14
set_option maxRecDepth 100000
set_option maxHeartbeats 16000000
namespace Go.DL
open Go.Proofs Go

structure Harm where
  Leaf : Int
  At : Int
  Tear : Bool
  By : Int
abbrev eHarm (h : Harm) : List D := [.v (.int .u8 h.Leaf), .v (.int .u8 h.At), wB h.Tear, .v (.int .u16 h.By)]
def hOk (h : Harm) : Prop := (0 ≤ h.Leaf ∧ h.Leaf ≤ 255) ∧ (0 ≤ h.At ∧ h.At ≤ 255) ∧ (0 ≤ h.By ∧ h.By ≤ 65535)
/-- What has become of leaves: those torn, those hit, all. -/
structure HS where
  T : List Nat
  C : List Nat
  o : List Leaf
def hStep (st : HS) (h : Harm) : HS :=
  if h.Tear = true then ⟨(h.Leaf.toNat % st.o.length) :: st.T, st.C, st.o⟩
  else ⟨st.T, (h.Leaf.toNat % st.o.length) :: st.C, st.o.set (h.Leaf.toNat % st.o.length) ⟨(st.o.getD (h.Leaf.toNat % st.o.length) ⟨0, []⟩).Number,
    (st.o.getD (h.Leaf.toNat % st.o.length) ⟨0, []⟩).Words.set (h.At.toNat % (st.o.getD (h.Leaf.toNat % st.o.length) ⟨0, []⟩).Words.length)
      (((st.o.getD (h.Leaf.toNat % st.o.length) ⟨0, []⟩).Words.getD (h.At.toNat % (st.o.getD (h.Leaf.toNat % st.o.length) ⟨0, []⟩).Words.length) 0 + h.By) % 65521)⟩⟩
def harmS (l : List Leaf) (hs : List Harm) : HS := hs.foldl hStep ⟨[], [], l⟩
theorem harmS_snoc {l : List Leaf} {hs : List Harm} {i : Nat} {h : Harm} (hh : hs[i]? = some h) : harmS l (hs.take (i + 1)) = hStep (harmS l (hs.take i)) h := by
  have e : hs.take (i + 1) = hs.take i ++ [h] := by rw [List.take_add_one, hh]; rfl
  rw [harmS, e, List.foldl_append]; rfl
/-- What harms leave alone. -/
structure HSok (l : List Leaf) (w : Nat) (st : HS) : Prop where
  len : st.o.length = l.length
  num : ∀ i, (st.o.getD i ⟨0, []⟩).Number = (l.getD i ⟨0, []⟩).Number
  wl : ∀ x, x ∈ st.o → x.Words.length = w ∧ allW x.Words
  hit : ∀ i, i ∉ st.C → (st.o.getD i ⟨0, []⟩).Words = (l.getD i ⟨0, []⟩).Words
theorem HSok.step {l : List Leaf} {w : Nat} {st : HS} (hw : 0 < w) (hl : 0 < l.length) (h : HSok l w st) {x : Harm} (hx : hOk x) : HSok l w (hStep st x) := by
  unfold hStep
  split
  · exact ⟨h.len, h.num, h.wl, h.hit⟩
  · have hk : x.Leaf.toNat % st.o.length < st.o.length := Nat.mod_lt _ (by rw [h.len]; exact hl)
    generalize x.Leaf.toNat % st.o.length = k at hk
    have hm : st.o.getD k ⟨0, []⟩ ∈ st.o := by rw [List.getD_eq_getElem?_getD, List.getElem?_eq_getElem hk]; exact List.getElem_mem hk
    obtain ⟨w1, w2⟩ := h.wl _ hm
    refine ⟨by simp [h.len], fun i => ?_, fun y hy => ?_, fun i hi => ?_⟩
    · rw [getD_setX _ _ _ _ _ hk]
      split
      · rename_i e; subst e; exact h.num k
      · exact h.num i
    · rcases List.mem_or_eq_of_mem_set hy with hy | hy
      · exact h.wl y hy
      · subst hy
        refine ⟨(List.length_set ..).trans w1, fun z hz => ?_⟩
        rcases List.mem_or_eq_of_mem_set hz with hz | hz
        · exact w2 z hz
        · subst hz; show W _; unfold W; omega
    · simp only [List.mem_cons, not_or] at hi
      rw [getD_setX _ _ _ _ _ hk, if_neg (Ne.symm hi.1)]
      exact h.hit i hi.2
theorem HSok.all {l : List Leaf} {w : Nat} (hw : 0 < w) (hl : 0 < l.length) (h0 : ∀ x, x ∈ l → x.Words.length = w ∧ allW x.Words) : ∀ {hs : List Harm}, (∀ h, h ∈ hs → hOk h) → HSok l w (harmS l hs) := by
  have : ∀ (hs : List Harm) (st : HS), HSok l w st → (∀ h, h ∈ hs → hOk h) → HSok l w (hs.foldl hStep st) := by
    intro hs
    induction hs with
    | nil => intro st h _; exact h
    | cons x r ih => intro st h hh; exact ih _ (h.step hw hl (hh x (List.mem_cons_self ..))) fun y hy => hh y (List.mem_cons_of_mem _ hy)
  intro hs hh
  exact this hs _ ⟨rfl, fun _ => rfl, h0, fun _ _ => rfl⟩ hh
theorem hStep_cnt (st : HS) (h : Harm) : (hStep st h).C.length ≤ st.C.length + 1 := by
  unfold hStep; split <;> simp
theorem harmS_cnt (l : List Leaf) (hs : List Harm) : (harmS l hs).C.length ≤ hs.length := by
  have : ∀ (hs : List Harm) (st : HS), (hs.foldl hStep st).C.length ≤ st.C.length + hs.length := by
    intro hs
    induction hs with
    | nil => intro st; exact Nat.le_refl _
    | cons x r ih => intro st; have h1 := ih (hStep st x); have h2 := hStep_cnt st x; simp only [List.foldl_cons, List.length_cons]; omega
  have h := this hs ⟨[], [], l⟩
  simpa [harmS] using h
/-- The leaves that are left, and the numbers of those that are not what they were. -/
def leftS (st : HS) (n : Nat) : List Leaf := ((List.range n).filter fun i => !st.T.contains i).map fun i => st.o.getD i ⟨0, []⟩
def badF (l : List Leaf) (st : HS) (i : Nat) : Bool := !st.T.contains i && (decide (0 < st.C.count i) && !decide ((st.o.getD i ⟨0, []⟩).Words = (l.getD i ⟨0, []⟩).Words))
def badS (l : List Leaf) (st : HS) (n : Nat) : List Int := ((List.range n).filter (badF l st)).map fun i => (st.o.getD i ⟨0, []⟩).Number
theorem leftS_succ (st : HS) (n : Nat) : leftS st (n + 1) = if st.T.contains n = true then leftS st n else leftS st n ++ [st.o.getD n ⟨0, []⟩] := by
  simp only [leftS, List.range_succ, List.filter_append, List.map_append]
  cases h : st.T.contains n <;> simp only [List.filter_cons, List.filter_nil, h] <;> simp
theorem badS_succ (l : List Leaf) (st : HS) (n : Nat) : badS l st (n + 1) = if badF l st n = true then badS l st n ++ [(st.o.getD n ⟨0, []⟩).Number] else badS l st n := by
  simp only [badS, List.range_succ, List.filter_append, List.map_append]
  cases h : badF l st n <;> simp only [List.filter_cons, List.filter_nil, h] <;> simp
theorem leftS_len (st : HS) (n : Nat) : (leftS st n).length ≤ n := by
  rw [leftS, List.length_map]; exact Nat.le_trans (List.length_filter_le _ _) (by simp)
theorem badS_len (l : List Leaf) (st : HS) (n : Nat) : (badS l st n).length ≤ n := by
  rw [badS, List.length_map]; exact Nat.le_trans (List.length_filter_le _ _) (by simp)

/-- A leaf whose words lie in an own block. -/
abbrev eOL (q : Nat × Leaf) : List D := [wI q.2.Number, .ms q.1 0 q.2.Words.length q.2.Words.length]
/-- Leaves in rows of one's own. -/
structure OL (K : Nat) (H : List Blk) (b : Nat) (ql : List (Nat × Leaf)) : Prop where
  rows : H[b]? = some (.live 2 (ql.map eOL))
  kb : K ≤ b
  row : ∀ (i : Nat) (q : Nat × Leaf), ql[i]? = some q → H[q.1]? = some (.live 1 (q.2.Words.map eI)) ∧ K ≤ q.1 ∧ q.1 ≠ b
  nd : ∀ (i j : Nat) (q r : Nat × Leaf), ql[i]? = some q → ql[j]? = some r → q.1 = r.1 → i = j
section
variable {K : Nat} {H T : List Blk} {b p i : Nat} {ql : List (Nat × Leaf)} {q : Nat × Leaf}
theorem OL.app (h : OL K H b ql) (T : List Blk) : OL K (H ++ T) b ql := ⟨hg_app T h.rows, h.kb, fun i q hq => ⟨hg_app T (h.row i q hq).1, (h.row i q hq).2⟩, h.nd⟩
theorem OL.other (h : OL K H b ql) (hb : p ≠ b) (hp : ∀ (i : Nat) (q : Nat × Leaf), ql[i]? = some q → p ≠ q.1) (x : Blk) : OL K (H.set p x) b ql :=
  ⟨hg_ne h.rows hb, h.kb, fun i q hq => ⟨hg_ne (h.row i q hq).1 (hp i q hq), (h.row i q hq).2⟩, h.nd⟩
theorem OL.low (h : OL K H b ql) (hp : p < K) (x : Blk) : OL K (H.set p x) b ql :=
  h.other (by have := h.kb; omega) (fun i q hq => by have := (h.row i q hq).2.1; omega) x
theorem OL.lt (h : OL K H b ql) : b < H.length := hg_lt h.rows
theorem OL.push (h : OL K H b ql) {x : Leaf} {t t' : Nat} (hK : K ≤ H.length) (htt : t ≠ t') (ht : T[t]? = some (.live 1 (x.Words.map eI))) (ht' : T[t']? = some (.live 2 ((ql ++ [(H.length + t, x)]).map eOL))) : OL K (H.set b .dead ++ T) (H.length + t') (ql ++ [(H.length + t, x)]) := by
  have hl : (H.set b Blk.dead).length = H.length := by simp
  have get : ∀ (i : Nat) (q : Nat × Leaf), (ql ++ [(H.length + t, x)])[i]? = some q → (ql[i]? = some q) ∨ (i = ql.length ∧ q = (H.length + t, x)) := fun i q hq => by
    rcases Nat.lt_or_ge i ql.length with hi | hi
    · rw [List.getElem?_append_left hi] at hq; exact .inl hq
    · rw [List.getElem?_append_right hi] at hq
      rcases hk : i - ql.length with _ | n
      · rw [hk] at hq; cases hq; exact .inr ⟨by omega, rfl⟩
      · rw [hk] at hq; simp at hq
  refine ⟨hg_at hl ht', by omega, fun i q hq => ?_, fun i j q r hq hr e => ?_⟩
  · rcases get i q hq with hq | ⟨_, rfl⟩
    · obtain ⟨h1, h2, h3⟩ := h.row i q hq
      have := hg_lt h1
      exact ⟨hg_app _ (hg_ne h1 (Ne.symm h3)), h2, by omega⟩
    · exact ⟨hg_at hl ht, by show K ≤ H.length + t; omega, by show H.length + t ≠ H.length + t'; omega⟩
  · rcases get i q hq with hq | ⟨rfl, rfl⟩ <;> rcases get j r hr with hr | ⟨rfl, rfl⟩
    · exact h.nd i j q r hq hr e
    · have := hg_lt (h.row i q hq).1
      have e' : q.1 = H.length + t := e
      omega
    · have := hg_lt (h.row j r hr).1
      have e' : H.length + t = r.1 := e
      omega
    · rfl
theorem OL.setRow (h : OL K H b ql) (hq : ql[i]? = some q) {v : List Int} (hv : v.length = q.2.Words.length) : OL K (H.set q.1 (.live 1 (v.map eI))) b (ql.set i (q.1, ⟨q.2.Number, v⟩)) := by
  have hi : i < ql.length := (List.getElem?_eq_some_iff.1 hq).1
  obtain ⟨h1, h2, h3⟩ := h.row i q hq
  have get : ∀ (j : Nat) (r : Nat × Leaf), (ql.set i (q.1, ⟨q.2.Number, v⟩))[j]? = some r → (j = i ∧ r = (q.1, ⟨q.2.Number, v⟩)) ∨ (j ≠ i ∧ ql[j]? = some r) := fun j r hr => by
    by_cases e : j = i
    · subst e; rw [List.getElem?_set_self hi] at hr; exact .inl ⟨rfl, (Option.some.inj hr).symm⟩
    · rw [List.getElem?_set_ne (Ne.symm e)] at hr; exact .inr ⟨e, hr⟩
  have fst : ∀ (j : Nat) (r : Nat × Leaf), (ql.set i (q.1, ⟨q.2.Number, v⟩))[j]? = some r → ∃ r' : Nat × Leaf, ql[j]? = some r' ∧ r'.1 = r.1 := fun j r hr => by
    rcases get j r hr with ⟨rfl, rfl⟩ | ⟨_, hr⟩
    · exact ⟨q, hq, rfl⟩
    · exact ⟨r, hr, rfl⟩
  have e0 : (ql.set i (q.1, ⟨q.2.Number, v⟩)).map eOL = ql.map eOL := by
    apply List.ext_getElem?
    intro j
    rw [List.getElem?_map, List.getElem?_map]
    by_cases e : j = i
    · subst e
      rw [List.getElem?_set_self hi, hq]
      simp only [Option.map_some, eOL, hv]
    · rw [List.getElem?_set_ne (Ne.symm e)]
  refine ⟨by rw [e0]; exact hg_ne h.rows h3, h.kb, fun j r hr => ?_, fun j j' r r' hr hr' e => ?_⟩
  · rcases get j r hr with ⟨rfl, rfl⟩ | ⟨hn, hr⟩
    · exact ⟨hg_self (hg_lt h1), h2, h3⟩
    · obtain ⟨k1, k2, k3⟩ := h.row j r hr
      exact ⟨hg_ne k1 fun e => hn (h.nd j i r q hr hq e.symm), k2, k3⟩
  · obtain ⟨s, hs, es⟩ := fst j r hr
    obtain ⟨s', hs', es'⟩ := fst j' r' hr'
    exact h.nd j j' s s' hs hs' (by rw [es, es', e])
end
/-- Part of the rows as a function's end sees them. -/
theorem snapR_OL {lk : Nat → Option Blk} {b n : Nat} {ql : List (Nat × Leaf)} (h1 : lk b = some (.live 2 (ql.map eOL))) (h2 : ∀ q, q ∈ ql → lk q.1 = some (.live 1 (q.2.Words.map eI))) (hn : n = ql.length) (lv : Nat) : snapR lk (lv + 3) (.ms b 0 n n) = .fl ((ql.map (·.2)).map eLeaf) := by
  subst hn
  have hin : ∀ q, q ∈ ql → snap lk (lv + 2) (.ms q.1 0 q.2.Words.length q.2.Words.length) = .sl (q.2.Words.map eI) := fun q hq => snapW (k := lv + 1) (h2 q hq) rfl
  have hfr : ((ql.map eOL).all fun e => e.all (frK lk (lv + 2))) = true := by
    rw [List.all_eq_true]
    intro e he
    obtain ⟨q, hq, rfl⟩ := List.mem_map.1 he
    rw [List.all_eq_true]
    intro d hd
    simp only [eOL, List.mem_cons, List.not_mem_nil, or_false] at hd
    rcases hd with rfl | rfl
    · rfl
    · simp only [frK, h2 q hq]
      exact eI_all _ _ fun x => rfl
  simp only [snapR, h1, Nat.zero_add, List.length_map, Nat.le_refl, if_true, List.drop_zero, hfr]
  rw [List.take_of_length_le (by simp), List.map_map, List.map_map]
  refine congrArg D.fl (List.map_congr_left fun q hq => ?_)
  simp only [Function.comp, List.map_cons, List.map_nil, eLeaf]
  rw [hin q hq]; rfl
section
variable {P : Program} {H : List Blk} {s n : Nat} {al : AL} {tx ty' : TypeId} {x y : Operand} {a b : Int}
end
theorem f_appE {P : Program} {H : List Blk} {s n : Nat} {al : AL} {tx : TypeId} {x y : Operand} {α : Type} {f : α → List D} {te : TypeId} {m mm c b1 sz by' : Nat} {es : List (List D)} {o v : List α} {d' : D} (hx : evA n al x = .ms b1 0 m c) (hy : evA n al y = d') (hb1 : H[b1]? = some (.live sz es)) (hes : es.take m = o.map f) (hle : m ≤ es.length) (hv : elemsD H d' = some (v.map f)) (hm : m = o.length)
    (hmm : o.length + v.length = mm) (he : elemT P tx = some (te, sz)) (h0 : 0 < sz) (hz : (zeroD P te).map List.length = some sz) (hby : P.bytesOf te = by') (hf : ∀ a, (f a).length = sz ∧ (f a).all isCell = true) (hl : (o.length + v.length) * by' ≤ 140737488355328) (hl2 : o.length + v.length ≤ 9223372036854775807) :
    Ap P H s n al (.call { callee := .builtin .append, args := #[x, y], argTypes := #[tx, tx] }) mm (some b1) (.live sz ((o ++ v).map f)) := by
  subst hm; subst hmm
  have hu : P.underlying tx = some (.slice te) := by
    unfold elemT at he
    split at he
    · rename_i e hu; simp only [Option.map_eq_some_iff] at he; obtain ⟨_, _, h⟩ := he; cases h; exact hu
    · cases he
  refine f_app hx hy ?_ (by simp)
  have e1 : elemsD H (.ms b1 0 o.length c) = some (o.map f) := by
    simp only [elemsD, hb1, Nat.zero_add, hle, if_true, List.drop_zero, hes]
  have e3 : ∀ l : List α, (l.map f).all (fun e => e.length == sz) = true := fun l => List.all_eq_true.2 fun e he => by
    obtain ⟨a, _, rfl⟩ := List.mem_map.1 he
    simpa using (hf a).1
  have e4 : (v.map f).all (fun e => e.all isCell) = true := List.all_eq_true.2 fun e he => by
    obtain ⟨a, _, rfl⟩ := List.mem_map.1 he
    exact (hf a).2
  simp only [appendD, addedD, he, hu, e1, hv]
  rw [if_pos]
  · simp only [hb1, Blk.hasSz]; simp
  · refine ⟨h0, hz, e3 o, e3 v, e4, ?_, ?_⟩
    · rw [hby, List.length_map, List.length_map]; exact hl
    · rw [List.length_map, List.length_map]; exact hl2
section
variable {P : Program} {H : List Blk} {s n : Nat} {al : AL} {tx ty' : TypeId} {x y : Operand} {a b : Int} {k : Nat}
end
end Go.DL
