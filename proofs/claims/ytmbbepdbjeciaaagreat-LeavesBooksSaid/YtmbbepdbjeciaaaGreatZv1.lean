/- Leaves in rows of one's own; harms (plain, and how rows stand in own blocks). -/
import Derived.Test.YtmbbepdbjeciaaaGreatZp1
import Derived.Test.YtmbbepdbjeciaaaGreatZo1
import Derived.Test.YtmbbepdbjeciaaaGreatZx
import Derived.Test.YtmbbepdbjeciaaaGreatE5
import Derived.Test.YtmbbepdbjeciaaaGreatZs
import Derived.Test.YtmbbepdbjeciaaaGreatZy
import Derived.Test.YtmbbepdbjeciaaaGreatE6
set_option maxRecDepth 100000
set_option maxHeartbeats 16000000
namespace Go.DL
open Go.Proofs Go

structure Harm where
  Leaf : Int
  At : Int
  Tear : Bool
  By : Int
def hOk (h : Harm) : Prop := (0 ≤ h.Leaf ∧ h.Leaf ≤ 255) ∧ (0 ≤ h.At ∧ h.At ≤ 255) ∧ (0 ≤ h.By ∧ h.By ≤ 65535)
/-- What has become of leaves: those torn, those hit, all. -/
structure HS where
  T : List Nat
  C : List Nat
  o : List Leaf
def hStep (st : HS) (h : Harm) : HS :=
  if h.Tear = true then ⟨(h.Leaf.toNat % st.o.length) :: st.T, st.C, st.o⟩
  else ⟨st.T, (h.Leaf.toNat % st.o.length) :: st.C, st.o.set (h.Leaf.toNat % st.o.length) ⟨(st.o.getD (h.Leaf.toNat % st.o.length) ⟨0, []⟩).Number,
    (st.o.getD (h.Leaf.toNat % st.o.length) ⟨0, []⟩).Words.set (h.At.toNat % (st.o.getD (h.Leaf.toNat % st.o.length) ⟨0, []⟩).Words.length)
      (((st.o.getD (h.Leaf.toNat % st.o.length) ⟨0, []⟩).Words.getD (h.At.toNat % (st.o.getD (h.Leaf.toNat % st.o.length) ⟨0, []⟩).Words.length) 0 + h.By) % 65521)⟩⟩
def harmS (l : List Leaf) (hs : List Harm) : HS := hs.foldl hStep ⟨[], [], l⟩
/-- What harms leave alone. -/
structure HSok (l : List Leaf) (w : Nat) (st : HS) : Prop where
  len : st.o.length = l.length
  num : ∀ i, (st.o.getD i ⟨0, []⟩).Number = (l.getD i ⟨0, []⟩).Number
  wl : ∀ x, x ∈ st.o → x.Words.length = w ∧ allW x.Words
  hit : ∀ i, i ∉ st.C → (st.o.getD i ⟨0, []⟩).Words = (l.getD i ⟨0, []⟩).Words
theorem HSok.step {l : List Leaf} {w : Nat} {st : HS} (hw : 0 < w) (hl : 0 < l.length) (h : HSok l w st) {x : Harm} (hx : hOk x) : HSok l w (hStep st x) := by
  unfold hStep
  split
  · exact ⟨h.len, h.num, h.wl, h.hit⟩
  · have hk : x.Leaf.toNat % st.o.length < st.o.length := Nat.mod_lt _ (by rw [h.len]; exact hl)
    generalize x.Leaf.toNat % st.o.length = k at hk
    have hm : st.o.getD k ⟨0, []⟩ ∈ st.o := by rw [List.getD_eq_getElem?_getD, List.getElem?_eq_getElem hk]; exact List.getElem_mem hk
    obtain ⟨w1, w2⟩ := h.wl _ hm
    refine ⟨by simp [h.len], fun i => ?_, fun y hy => ?_, fun i hi => ?_⟩
    · rw [getD_setX _ _ _ _ _ hk]
      split
      · rename_i e; subst e; exact h.num k
      · exact h.num i
    · rcases List.mem_or_eq_of_mem_set hy with hy | hy
      · exact h.wl y hy
      · subst hy
        refine ⟨(List.length_set ..).trans w1, fun z hz => ?_⟩
        rcases List.mem_or_eq_of_mem_set hz with hz | hz
        · exact w2 z hz
        · subst hz; show W _; unfold W; omega
    · simp only [List.mem_cons, not_or] at hi
      rw [getD_setX _ _ _ _ _ hk, if_neg (Ne.symm hi.1)]
      exact h.hit i hi.2
theorem HSok.all {l : List Leaf} {w : Nat} (hw : 0 < w) (hl : 0 < l.length) (h0 : ∀ x, x ∈ l → x.Words.length = w ∧ allW x.Words) : ∀ {hs : List Harm}, (∀ h, h ∈ hs → hOk h) → HSok l w (harmS l hs) := by
  have : ∀ (hs : List Harm) (st : HS), HSok l w st → (∀ h, h ∈ hs → hOk h) → HSok l w (hs.foldl hStep st) := by
    intro hs
    induction hs with
    | nil => intro st h _; exact h
    | cons x r ih => intro st h hh; exact ih _ (h.step hw hl (hh x (List.mem_cons_self ..))) fun y hy => hh y (List.mem_cons_of_mem _ hy)
  intro hs hh
  exact this hs _ ⟨rfl, fun _ => rfl, h0, fun _ _ => rfl⟩ hh
/-- A leaf whose words lie in an own block. -/
abbrev eOL (q : Nat × Leaf) : List D := [wI q.2.Number, .ms q.1 0 q.2.Words.length q.2.Words.length]
/-- Leaves in rows of one's own. -/
structure OL (K : Nat) (H : List Blk) (b : Nat) (ql : List (Nat × Leaf)) : Prop where
  rows : H[b]? = some (.live 2 (ql.map eOL))
  kb : K ≤ b
  row : ∀ (i : Nat) (q : Nat × Leaf), ql[i]? = some q → H[q.1]? = some (.live 1 (q.2.Words.map eI)) ∧ K ≤ q.1 ∧ q.1 ≠ b
  nd : ∀ (i j : Nat) (q r : Nat × Leaf), ql[i]? = some q → ql[j]? = some r → q.1 = r.1 → i = j
section
variable {K : Nat} {H T : List Blk} {b p i : Nat} {ql : List (Nat × Leaf)} {q : Nat × Leaf}
theorem OL.app (h : OL K H b ql) (T : List Blk) : OL K (H ++ T) b ql := ⟨hg_app T h.rows, h.kb, fun i q hq => ⟨hg_app T (h.row i q hq).1, (h.row i q hq).2⟩, h.nd⟩
theorem OL.other (h : OL K H b ql) (hb : p ≠ b) (hp : ∀ (i : Nat) (q : Nat × Leaf), ql[i]? = some q → p ≠ q.1) (x : Blk) : OL K (H.set p x) b ql :=
  ⟨hg_ne h.rows hb, h.kb, fun i q hq => ⟨hg_ne (h.row i q hq).1 (hp i q hq), (h.row i q hq).2⟩, h.nd⟩
theorem OL.low (h : OL K H b ql) (hp : p < K) (x : Blk) : OL K (H.set p x) b ql :=
  h.other (by have := h.kb; omega) (fun i q hq => by have := (h.row i q hq).2.1; omega) x
theorem OL.lt (h : OL K H b ql) : b < H.length := hg_lt h.rows
theorem OL.push (h : OL K H b ql) {x : Leaf} {t t' : Nat} (hK : K ≤ H.length) (htt : t ≠ t') (ht : T[t]? = some (.live 1 (x.Words.map eI))) (ht' : T[t']? = some (.live 2 ((ql ++ [(H.length + t, x)]).map eOL))) : OL K (H.set b .dead ++ T) (H.length + t') (ql ++ [(H.length + t, x)]) := by
  have hl : (H.set b Blk.dead).length = H.length := by simp
  have get : ∀ (i : Nat) (q : Nat × Leaf), (ql ++ [(H.length + t, x)])[i]? = some q → (ql[i]? = some q) ∨ (i = ql.length ∧ q = (H.length + t, x)) := fun i q hq => by
    rcases Nat.lt_or_ge i ql.length with hi | hi
    · rw [List.getElem?_append_left hi] at hq; exact .inl hq
    · rw [List.getElem?_append_right hi] at hq
      rcases hk : i - ql.length with _ | n
      · rw [hk] at hq; cases hq; exact .inr ⟨by omega, rfl⟩
      · rw [hk] at hq; simp at hq
  refine ⟨hg_at hl ht', by omega, fun i q hq => ?_, fun i j q r hq hr e => ?_⟩
  · rcases get i q hq with hq | ⟨_, rfl⟩
    · obtain ⟨h1, h2, h3⟩ := h.row i q hq
      have := hg_lt h1
      exact ⟨hg_app _ (hg_ne h1 (Ne.symm h3)), h2, by omega⟩
    · exact ⟨hg_at hl ht, by show K ≤ H.length + t; omega, by show H.length + t ≠ H.length + t'; omega⟩
  · rcases get i q hq with hq | ⟨rfl, rfl⟩ <;> rcases get j r hr with hr | ⟨rfl, rfl⟩
    · exact h.nd i j q r hq hr e
    · have := hg_lt (h.row i q hq).1
      have e' : q.1 = H.length + t := e
      omega
    · have := hg_lt (h.row j r hr).1
      have e' : H.length + t = r.1 := e
      omega
    · rfl
end
section
variable {P : Program} {H : List Blk} {s n : Nat} {al : AL} {tx ty' : TypeId} {x y : Operand} {a b : Int}
end
section
variable {P : Program} {H : List Blk} {s n : Nat} {al : AL} {tx ty' : TypeId} {x y : Operand} {a b : Int} {k : Nat}
end
end Go.DL
