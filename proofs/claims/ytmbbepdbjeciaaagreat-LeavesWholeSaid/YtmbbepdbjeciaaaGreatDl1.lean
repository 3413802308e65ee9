/- A program logic over deep values: the abstract values, how they stand to the model's worlds, and what steps keep. Nothing of a program stands here. -/
import Derived.RangeFuncIn
import Derived.Laws.Cells
import Derived.Below
set_option linter.all false
namespace Go.DL
open Go.RowKit

noncomputable section

/-- Abstract values: an exact value; a struct; a tuple; a read-only slice (fl: of memory that the call has made); a read-only pointer to cells; a slice of, and a pointer into, an own block; a function value; a slice of length and capacity 0; anything. -/
inductive D where
  | v (x : Value)
  | agg (cs : List D)
  | tup (ds : List D)
  | sl (es : List (List D))
  | fl (es : List (List D))
  | rp (cs : List D)
  | ms (b off len cap : Nat)
  | mp (b i f : Nat)
  | fn (f : Fn) (first caps : List D)
  | nil
  | any
  deriving Inhabited

/-- Where an own block lies: nowhere yet; given up; an empty one without memory; from a cell of a block on, with room for so many elements of a size. -/
inductive Loc where
  | free
  | dead
  | ph
  | loc (n base sz room : Nat)

def Loc.le (x y : Loc) : Prop := x = .free ∨ y = .dead ∨ x = y
theorem Loc.le_refl (x : Loc) : x.le x := .inr (.inr rfl)
theorem Loc.le_trans {x y z : Loc} (h : x.le y) (k : y.le z) : x.le z := by
  rcases h with h | h | h
  · exact .inl h
  · subst h; rcases k with k | k | k
    · cases k
    · exact .inr (.inl k)
    · exact .inr (.inl k.symm)
  · subst h; exact k

def Loc.msOk : Loc → (off cap' : Nat) → Option Addr → Prop
  | .free, _, _, _ => False
  | .dead, _, _, _ => True
  | .ph, _, cap', _ => cap' = 0
  | .loc n base sz room, off, cap', a => off + cap' ≤ room ∧ (cap' = 0 ∨ a = some ⟨n, base + off * sz, none⟩)

def Loc.mpOk : Loc → (i f : Nat) → Addr → Prop
  | .free, _, _, _ => False
  | .dead, _, _, _ => True
  | .ph, _, _, _ => False
  | .loc n base sz _, i, f, x => x = ⟨n, base + i * sz + f, none⟩

def nowhere : Nat → Loc := fun _ => .free

/-- The blocks that are read-only; those from b0 on are of the call's own making. -/
structure Rd where
  on : Nat → Prop
  b0 : Nat
instance : CoeFun Rd (fun _ => Nat → Prop) := ⟨Rd.on⟩

def Rd.all (A : Rd) : Rd := ⟨A.on, 0⟩
def Rd.fresh (A : Rd) : Rd := ⟨fun n => A n ∧ A.b0 ≤ n, 0⟩

/-- An abstract value stands for a value, over read-only blocks A and own blocks φ. -/
inductive V : Rd → World → (Nat → Loc) → D → Value → Prop where
  | v {A : Rd} {w : World} (φ : Nat → Loc) (x : Value) : V A w φ (.v x) x
  | any {A : Rd} {w : World} (φ : Nat → Loc) (x : Value) : V A w φ .any x
  | nil {A : Rd} {w : World} (φ : Nat → Loc) (a : Option Addr) : V A w φ .nil (.slice a 0 0)
  | agg {A : Rd} {w : World} (φ : Nat → Loc) (cs : List D) (vs : Array Value) (hl : vs.size = cs.length)
      (h : ∀ (i : Nat) (d : D) (u : Value), cs[i]? = some d → vs[i]? = some u → V A w φ d u) : V A w φ (.agg cs) (.agg vs)
  | tup {A : Rd} {w : World} (φ : Nat → Loc) (cs : List D) (vs : Array Value) (hl : vs.size = cs.length)
      (h : ∀ (i : Nat) (d : D) (u : Value), cs[i]? = some d → vs[i]? = some u → V A w φ d u) : V A w φ (.tup cs) (.tuple vs)
  | sl0 {A : Rd} {w : World} (φ : Nat → Loc) (a : Option Addr) (cap : Nat) : V A w φ (.sl []) (.slice a 0 cap)
  | sl {A : Rd} {w : World} (φ : Nat → Loc) (es : List (List D)) (n off sz cap : Nat) (u : Nat → Nat → Value) (hA : A n) (hcap : es.length ≤ cap)
      (hsz : ∀ (i : Nat) (e : List D), es[i]? = some e → e.length = sz)
      (hc : ∀ (i : Nat) (e : List D) (j : Nat) (d : D), es[i]? = some e → e[j]? = some d → w.cell? ⟨n, off + i * sz + j, none⟩ = some (u i j))
      (h : ∀ (i : Nat) (e : List D) (j : Nat) (d : D), es[i]? = some e → e[j]? = some d → V A.all w nowhere d (u i j)) : V A w φ (.sl es) (.slice (some ⟨n, off, none⟩) es.length cap)
  | fl0 {A : Rd} {w : World} (φ : Nat → Loc) (a : Option Addr) (cap : Nat) : V A w φ (.fl []) (.slice a 0 cap)
  | fl {A : Rd} {w : World} (φ : Nat → Loc) (es : List (List D)) (n off sz cap : Nat) (u : Nat → Nat → Value) (hA : A n ∧ A.b0 ≤ n) (hcap : es.length ≤ cap)
      (hsz : ∀ (i : Nat) (e : List D), es[i]? = some e → e.length = sz)
      (hc : ∀ (i : Nat) (e : List D) (j : Nat) (d : D), es[i]? = some e → e[j]? = some d → w.cell? ⟨n, off + i * sz + j, none⟩ = some (u i j))
      (h : ∀ (i : Nat) (e : List D) (j : Nat) (d : D), es[i]? = some e → e[j]? = some d → V A.fresh w nowhere d (u i j)) : V A w φ (.fl es) (.slice (some ⟨n, off, none⟩) es.length cap)
  | rp {A : Rd} {w : World} (φ : Nat → Loc) (cs : List D) (n off : Nat) (u : Nat → Value) (hA : A n)
      (hc : ∀ (j : Nat) (d : D), cs[j]? = some d → w.cell? ⟨n, off + j, none⟩ = some (u j))
      (h : ∀ (j : Nat) (d : D), cs[j]? = some d → V A.all w nowhere d (u j)) : V A w φ (.rp cs) (.pointer (some ⟨n, off, none⟩))
  | ms {A : Rd} {w : World} (φ : Nat → Loc) (b off len cap cap' : Nat) (a : Option Addr) (hlen : len ≤ cap) (hcap : cap ≤ cap')
      (h : (φ b).msOk off cap' a) : V A w φ (.ms b off len cap) (.slice a len cap')
  | mp {A : Rd} {w : World} (φ : Nat → Loc) (b i f : Nat) (x : Addr)
      (h : (φ b).mpOk i f x) : V A w φ (.mp b i f) (.pointer (some x))
  | fn {A : Rd} {w : World} (φ : Nat → Loc) (f : Fn) (first caps : List D) (vs us : Array Value) (hl : vs.size = first.length) (hl' : us.size = caps.length)
      (h : ∀ (i : Nat) (d : D) (u : Value), first[i]? = some d → vs[i]? = some u → V A w φ d u)
      (h' : ∀ (i : Nat) (d : D) (u : Value), caps[i]? = some d → us[i]? = some u → V A w φ d u) : V A w φ (.fn f first caps) (.func f vs us)

theorem V.mono {A A' : Rd} {w w' : World} {φ φ' : Nat → Loc} {d : D} {x : Value} (hA : ∀ n, A n → A' n) (hw : ∀ n, A n → w'.heap[n]? = w.heap[n]?)
    (hφ : ∀ b, (φ b).le (φ' b)) (h : V A w φ d x) (hb : A'.b0 ≤ A.b0 := by exact Nat.le_refl _) : V A' w' φ' d x := by
  induction h generalizing A' φ' with
  | v φ x => exact .v _ _
  | any φ x => exact .any _ _
  | nil φ a => exact .nil _ _
  | agg φ cs vs hl h ih => exact .agg _ _ _ hl fun i d u h1 h2 => ih i d u h1 h2 hA hw hφ hb
  | tup φ cs vs hl h ih => exact .tup _ _ _ hl fun i d u h1 h2 => ih i d u h1 h2 hA hw hφ hb
  | sl0 φ a cap => exact .sl0 _ _ _
  | sl φ es n off sz cap u ha hcap hsz hcc h ih =>
    exact .sl _ _ n off sz cap u (hA n ha) hcap hsz (fun i e j d h1 h2 => (World.cell?_of_block (a := ⟨n, _, none⟩) (hw n ha)).trans (hcc i e j d h1 h2))
      fun i e j d h1 h2 => ih i e j d h1 h2 hA hw (fun _ => Loc.le_refl _) (Nat.le_refl _)
  | fl0 φ a cap => exact .fl0 _ _ _
  | fl φ es n off sz cap u ha hcap hsz hcc h ih =>
    exact .fl _ _ n off sz cap u ⟨hA n ha.1, Nat.le_trans hb ha.2⟩ hcap hsz (fun i e j d h1 h2 => (World.cell?_of_block (a := ⟨n, _, none⟩) (hw n ha.1)).trans (hcc i e j d h1 h2))
      fun i e j d h1 h2 => ih i e j d h1 h2 (fun m hm => ⟨hA m hm.1, Nat.le_trans hb hm.2⟩) (fun m hm => hw m hm.1) (fun _ => Loc.le_refl _) (Nat.le_refl _)
  | rp φ cs n off u ha hcc h ih =>
    exact .rp _ _ n off u (hA n ha) (fun j d h1 => (World.cell?_of_block (a := ⟨n, _, none⟩) (hw n ha)).trans (hcc j d h1)) fun j d h1 => ih j d h1 hA hw (fun _ => Loc.le_refl _) (Nat.le_refl _)
  | ms φ b off len cap cap' a hlen hcap h =>
    refine .ms _ b off len cap cap' a hlen hcap ?_
    rcases hφ b with e | e | e
    · rw [e] at h; exact h.elim
    · rw [e]; trivial
    · rw [← e]; exact h
  | mp φ b i f x h =>
    refine .mp _ b i f x ?_
    rcases hφ b with e | e | e
    · rw [e] at h; exact h.elim
    · rw [e]; trivial
    · rw [← e]; exact h
  | fn φ f first caps vs us hl hl' h h' ih ih' => exact .fn _ f _ _ _ _ hl hl' (fun i d u h1 h2 => ih i d u h1 h2 hA hw hφ hb) fun i d u h1 h2 => ih' i d u h1 h2 hA hw hφ hb

/-- What is fresh is read-only. -/
theorem V.of_fl {A : Rd} {w : World} {φ : Nat → Loc} {es : List (List D)} {x : Value} (h : V A w φ (.fl es) x) : V A w φ (.sl es) x := by
  cases h with
  | fl0 => exact .sl0 _ _ _
  | fl _ _ n off sz cap u ha hcap hsz hcc h =>
    exact .sl _ _ n off sz cap u ha.1 hcap hsz hcc fun i e j d h1 h2 => V.mono (A := A.fresh) (A' := A.all) (fun _ x => x.1) (fun _ _ => rfl) (fun _ => Loc.le_refl _) (h i e j d h1 h2)

/-- An own block: not yet laid; given up; elements of sz cells each. -/
inductive Blk where
  | free
  | dead
  | live (sz : Nat) (es : List (List D))
  deriving Inhabited

/-- The cells of an own block. -/
structure LiveAt (A : Rd) (w : World) (φ : Nat → Loc) (n base room sz : Nat) (c : Array Value) (ty : TypeId) (es : List (List D)) : Prop where
  blk : w.heap[n]? = some (.cells c ty (0, 0))
  fits : es.length ≤ room
  size : base + room * sz ≤ c.size
  len : ∀ (i : Nat) (e : List D), es[i]? = some e → e.length = sz
  val : ∀ (i : Nat) (e : List D) (j : Nat) (d : D), es[i]? = some e → e[j]? = some d → ∃ u, c[base + i * sz + j]? = some u ∧ V A w φ d u

def own (φ : Nat → Loc) (n : Nat) : Prop := ∃ b base sz room, φ b = .loc n base sz room

structure RH (A : Rd) (φ : Nat → Loc) (w : World) (H : List Blk) : Prop where
  out : ∀ b, H[b]? = none → φ b = .free
  free : ∀ b, H[b]? = some .free → φ b = .free
  dead : ∀ b, H[b]? = some .dead → φ b = .dead
  live : ∀ b sz es, H[b]? = some (.live sz es) → (es = [] ∧ φ b = .ph) ∨ ∃ n base room c ty, φ b = .loc n base sz room ∧ LiveAt A w φ n base room sz c ty es
  inj : ∀ b b' n base sz room base' sz' room', φ b = .loc n base sz room → φ b' = .loc n base' sz' room' → b = b'
  dis : ∀ n, own φ n → ¬ A n
  lt : ∀ n, A n → n < w.heap.size
  olt : ∀ n, own φ n → n < w.heap.size
  ofr : ∀ n, own φ n → A.b0 ≤ n
  bsz : A.b0 ≤ w.heap.size

/-- What steps of a frame keep of a world: all but its own blocks O. -/
structure Ext (w : World) (O : Nat → Prop) (w' : World) (O' : Nat → Prop) : Prop where
  os : w'.os = w.os
  tape : w'.tape = w.tape
  output : w'.output = w.output
  size : w.heap.size ≤ w'.heap.size
  same : ∀ n, n < w.heap.size → ¬ O n → w'.heap[n]? = w.heap[n]?
  own : ∀ n, O' n → O n ∨ w.heap.size ≤ n

theorem Ext.refl (w : World) (O : Nat → Prop) : Ext w O w O := ⟨rfl, rfl, rfl, Nat.le_refl _, fun _ _ _ => rfl, fun _ h => .inl h⟩
theorem Ext.trans {w w' w'' : World} {O O' O'' : Nat → Prop} (h : Ext w O w' O') (k : Ext w' O' w'' O'') : Ext w O w'' O'' :=
  ⟨k.os.trans h.os, k.tape.trans h.tape, k.output.trans h.output, Nat.le_trans h.size k.size,
   fun n hn ho => (k.same n (Nat.lt_of_lt_of_le hn h.size) fun ho' => (h.own n ho').elim ho (fun x => by omega)).trans (h.same n hn ho),
   fun n hn => (k.own n hn).elim (fun x => h.own n x) (fun x => .inr (Nat.le_trans h.size x))⟩
theorem Ext.sub {w w' : World} {O O' O'' : Nat → Prop} (h : Ext w O w' O') (k : ∀ n, O'' n → O' n) : Ext w O w' O'' := { h with own := fun n hn => h.own n (k n hn) }

/-- What a frame owns, what it may read, and where its own blocks lie. -/
structure Fr where
  O : Nat → Prop
  A : Rd
  φ : Nat → Loc

/-- What a frame's steps keep; the own blocks below N stay in place, or are given up. -/
structure Keep (N : Nat) (w : World) (F : Fr) (w' : World) (F' : Fr) : Prop where
  ext : Ext w F.O w' F'.O
  up : ∀ n, F.A n → F'.A n
  new : ∀ n, F'.A n → F.A n ∨ F.O n ∨ w.heap.size ≤ n
  le : ∀ b, b < N → (F.φ b).le (F'.φ b)
  b0 : F'.A.b0 = F.A.b0

theorem Keep.refl (N : Nat) (w : World) (F : Fr) : Keep N w F w F := ⟨.refl _ _, fun _ x => x, fun _ => .inl, fun _ _ => Loc.le_refl _, rfl⟩
theorem Keep.trans {N : Nat} {w w' w'' : World} {F F' F'' : Fr} (h : Keep N w F w' F') (k : Keep N w' F' w'' F'') : Keep N w F w'' F'' :=
  ⟨h.ext.trans k.ext, fun n x => k.up n (h.up n x), fun n x => by
    rcases k.new n x with y | y | y
    · exact h.new n y
    · exact (h.ext.own n y).elim (fun z => .inr (.inl z)) (fun z => .inr (.inr z))
    · exact .inr (.inr (Nat.le_trans h.ext.size y)), fun b hb => Loc.le_trans (h.le b hb) (k.le b hb), k.b0.trans h.b0⟩

/-- How far the loop is that this frame yields to: the rounds that are done, and whether one has left it. -/
abbrev Gst := Nat × Bool

/-- What a frame's surroundings are: what holds of the world beside the frame, and what a call of a yield function asks. -/
structure Gh where
  N : Nat := 0
  I : Gst → World → Fr → Prop
  Y : Nat → Gst → List D → (Bool → Gst → Prop) → Prop := fun _ _ _ _ => False

def Stab (G : Gh) : Prop := ∀ g w F w' F', G.I g w F → Keep G.N w F w' F' → G.I g w' F'

def Gh.keep (N : Nat) (w : World) (F : Fr) : Gh := { N := N, I := fun _ w' F' => Keep N w F w' F' }
theorem stab_keep (N : Nat) (w : World) (F : Fr) : Stab (Gh.keep N w F) := fun _ _ _ _ _ h k => h.trans k

structure St where
  t : List D
  H : List Blk
  ds : List Nat := []
  g : Gst := (0, false)

def mark (r : Nat) : Deferred := { target := .collected r, args := #[] }

structure TR (A : Rd) (w : World) (φ : Nat → Loc) (t : List D) (tmps : Array Value) : Prop where
  size : tmps.size = t.length
  val : ∀ (i : Nat) (d : D) (u : Value), t[i]? = some d → tmps[i]? = some u → V A w φ d u

def ownAll (φ : Nat → Loc) (ds : List Nat) (n : Nat) : Prop := own φ n ∨ n ∈ ds

structure FRc (G : Gh) (st : St) (a : Act) (w : World) (A : Rd) (φ : Nat → Loc) : Prop where
  rh : RH A φ w st.H
  tr : TR A w φ st.t a.tmps
  gh : G.I st.g w ⟨ownAll φ st.ds, A, φ⟩
  df : a.defers = st.ds.map mark
  dk : ∀ r, r ∈ st.ds → w.heap[r]? = some (.deferred (some [])) ∧ ¬ A r ∧ ¬ own φ r
  nd : st.ds.Nodup

def FR (G : Gh) (st : St) (a : Act) (w : World) : Prop := ∃ A φ, FRc G st a w A φ

/-- A value, exactly; no slice reads as an empty one. -/
def ofV : Value → D
  | .slice none 0 0 => .nil
  | x => .v x
theorem V.ofV {A : Rd} {w : World} {φ : Nat → Loc} (x : Value) : V A w φ (ofV x) x := by
  unfold DL.ofV
  split
  · exact .nil _ _
  · exact .v _ _

/-- What lies at a place of a list: said by the recursor, so that the kernel finds it soon. -/
def lkF (t : List D) : Nat → D := List.rec (motive := fun _ => Nat → D) (fun _ => .any) (fun x _ ih i => Nat.rec (motive := fun _ => D) x (fun j _ => ih j) i) t
theorem lkF_eq : ∀ (t : List D) (i : Nat), lkF t i = t.getD i .any
  | [], _ => rfl
  | _ :: _, 0 => rfl
  | _ :: t, i + 1 => by
    show lkF t i = _
    rw [lkF_eq t]; rfl
/-- The value of an operand. -/
def ev (t : List D) : Operand → D
  | .tmp i => lkF t i
  | .const x => ofV x
  | .global _ => .any
  | .func f => .fn (.func f) [] []

theorem TR.ev {A : Rd} {w : World} {φ : Nat → Loc} {t : List D} {a : Act} (h : TR A w φ t a.tmps) (x : Operand) : V A w φ (ev t x) (a.eval x) := by
  cases x with
  | tmp i =>
    simp only [DL.ev, lkF_eq, Act.eval, List.getD, Array.getD]
    by_cases hi : i < t.length
    · have hi' : i < a.tmps.size := by rw [h.size]; exact hi
      simp only [hi', dif_pos, List.getElem?_eq_getElem hi, Option.getD_some]
      exact h.val i _ _ (List.getElem?_eq_getElem hi) (by simp [hi'])
    · simp only [List.getElem?_eq_none (Nat.le_of_not_lt hi), Option.getD_none]
      exact .any _ _
  | const x => exact V.ofV x
  | global g => exact .any _ _
  | func f => exact .fn _ _ _ _ _ _ rfl rfl (by simp) (by simp)

theorem TR.mono {A A' : Rd} {w w' : World} {φ φ' : Nat → Loc} {t : List D} {tmps : Array Value} (h : TR A w φ t tmps) (hA : ∀ n, A n → A' n)
    (hw : ∀ n, A n → w'.heap[n]? = w.heap[n]?) (hφ : ∀ b, (φ b).le (φ' b)) (hb : A'.b0 ≤ A.b0 := by exact Nat.le_refl _) : TR A' w' φ' t tmps :=
  ⟨h.size, fun i d u h1 h2 => (h.val i d u h1 h2).mono hA hw hφ hb⟩

def setT (t : List D) : Option Tmp → D → List D
  | some i, d => t.set i d
  | none, _ => t

theorem TR.put {A : Rd} {w : World} {φ : Nat → Loc} {t : List D} {a : Act} (h : TR A w φ t a.tmps) (dst : Option Tmp) {d : D} {x : Value} (hv : V A w φ d x) :
    TR A w φ (setT t dst d) (a.put dst x).tmps := by
  cases dst with
  | none => exact h
  | some i =>
    refine ⟨by simp [setT, Act.put, h.size], fun j e u h1 h2 => ?_⟩
    simp only [setT, List.getElem?_set] at h1
    simp only [Act.put, Array.getElem?_setIfInBounds] at h2
    by_cases hij : i = j
    · subst hij
      by_cases hi : i < t.length
      · have hi' : i < a.tmps.size := by rw [h.size]; exact hi
        simp [hi] at h1; simp [hi'] at h2; subst h1; subst h2; exact hv
      · simp [hi] at h1
    · simp [hij] at h1 h2; exact h.val j e u h1 h2

theorem put_defers (a : Act) (dst : Option Tmp) (x : Value) : (a.put dst x).defers = a.defers := by cases dst <;> rfl

end
end Go.DL
