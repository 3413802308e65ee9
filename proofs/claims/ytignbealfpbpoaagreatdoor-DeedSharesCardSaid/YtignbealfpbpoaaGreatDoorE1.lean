/- A program logic over deep values: the abstract values, how they stand to the model's worlds, and what steps keep. Nothing of a program stands here. -/
import Derived.RangeFuncIn
import Derived.Laws.Cells
import Derived.Below
import Derived.Laws.Strings3
import Derived.Laws.Slices
import Derived.Laws.StructEq
import Derived.Laws.MakeOwn
set_option linter.all false
namespace Go.DL
open Go.RowKit

noncomputable section

/-- Abstract values: an exact value; a struct; a tuple; a read-only slice (fl: of memory that the call has made); a read-only pointer to cells; a slice of, and a pointer into, an own block; a function value; a slice of length and capacity 0; anything; a map of one's own. -/
inductive D where
  | v (x : Value)
  | agg (cs : List D)
  | tup (ds : List D)
  | sl (es : List (List D))
  | fl (es : List (List D))
  | rp (cs : List D)
  | ms (b off len cap : Nat)
  | mp (b i f : Nat)
  | fn (f : Fn) (first caps : List D)
  | nil
  | any
  | mm (b : Nat)
  deriving Inhabited

/-- Where an own block lies: nowhere yet; given up; an empty one without memory; from a cell of a block on, with room for so many elements of a size. -/
inductive Loc where
  | free
  | dead
  | ph
  | loc (n base sz room : Nat)

def Loc.le (x y : Loc) : Prop := x = .free ∨ y = .dead ∨ x = y
theorem Loc.le_refl (x : Loc) : x.le x := .inr (.inr rfl)
theorem Loc.le_trans {x y z : Loc} (h : x.le y) (k : y.le z) : x.le z := by
  rcases h with h | h | h
  · exact .inl h
  · subst h; rcases k with k | k | k
    · cases k
    · exact .inr (.inl k)
    · exact .inr (.inl k.symm)
  · subst h; exact k

def Loc.msOk : Loc → (off cap' : Nat) → Option Addr → Prop
  | .free, _, _, _ => False
  | .dead, _, _, _ => True
  | .ph, _, cap', _ => cap' = 0
  | .loc n base sz room, off, cap', a => off + cap' ≤ room ∧ (cap' = 0 ∨ a = some ⟨n, base + off * sz, none⟩)

def Loc.mpOk : Loc → (i f : Nat) → Addr → Prop
  | .free, _, _, _ => False
  | .dead, _, _, _ => True
  | .ph, _, _, _ => False
  | .loc n base sz _, i, f, x => x = ⟨n, base + i * sz + f, none⟩

def Loc.mmOk : Loc → (r : Nat) → Prop
  | .dead, _ => True
  | .loc n _ _ _, r => r = n
  | _, _ => False

def nowhere : Nat → Loc := fun _ => .free

/-- The tables of the library that may be read: each lies in a block, with its cells. -/
class Tabs where
  T : List (Nat × List Value)
variable [Tabs]
set_option linter.unusedSectionVars false

/-- The blocks that are read-only; those from b0 on are of the call's own making. -/
structure Rd where
  on : Nat → Prop
  b0 : Nat
instance : CoeFun Rd (fun _ => Nat → Prop) := ⟨Rd.on⟩

def Rd.all (A : Rd) : Rd := ⟨A.on, 0⟩
def Rd.fresh (A : Rd) : Rd := ⟨fun n => A n ∧ A.b0 ≤ n, 0⟩

/-- An abstract value stands for a value, over read-only blocks A and own blocks φ. -/
inductive V : Rd → World → (Nat → Loc) → D → Value → Prop where
  | v {A : Rd} {w : World} (φ : Nat → Loc) (x : Value) : V A w φ (.v x) x
  | any {A : Rd} {w : World} (φ : Nat → Loc) (x : Value) : V A w φ .any x
  | nil {A : Rd} {w : World} (φ : Nat → Loc) (a : Option Addr) : V A w φ .nil (.slice a 0 0)
  | agg {A : Rd} {w : World} (φ : Nat → Loc) (cs : List D) (vs : Array Value) (hl : vs.size = cs.length)
      (h : ∀ (i : Nat) (d : D) (u : Value), cs[i]? = some d → vs[i]? = some u → V A w φ d u) : V A w φ (.agg cs) (.agg vs)
  | tup {A : Rd} {w : World} (φ : Nat → Loc) (cs : List D) (vs : Array Value) (hl : vs.size = cs.length)
      (h : ∀ (i : Nat) (d : D) (u : Value), cs[i]? = some d → vs[i]? = some u → V A w φ d u) : V A w φ (.tup cs) (.tuple vs)
  | sl0 {A : Rd} {w : World} (φ : Nat → Loc) (a : Option Addr) (cap : Nat) : V A w φ (.sl []) (.slice a 0 cap)
  | sl {A : Rd} {w : World} (φ : Nat → Loc) (es : List (List D)) (n off sz cap : Nat) (u : Nat → Nat → Value) (hA : A n) (hcap : es.length ≤ cap)
      (hsz : ∀ (i : Nat) (e : List D), es[i]? = some e → e.length = sz)
      (hc : ∀ (i : Nat) (e : List D) (j : Nat) (d : D), es[i]? = some e → e[j]? = some d → w.cell? ⟨n, off + i * sz + j, none⟩ = some (u i j))
      (h : ∀ (i : Nat) (e : List D) (j : Nat) (d : D), es[i]? = some e → e[j]? = some d → V A.all w nowhere d (u i j)) : V A w φ (.sl es) (.slice (some ⟨n, off, none⟩) es.length cap)
  | fl0 {A : Rd} {w : World} (φ : Nat → Loc) (a : Option Addr) (cap : Nat) : V A w φ (.fl []) (.slice a 0 cap)
  | fl {A : Rd} {w : World} (φ : Nat → Loc) (es : List (List D)) (n off sz cap : Nat) (u : Nat → Nat → Value) (hA : A n ∧ A.b0 ≤ n) (hcap : es.length ≤ cap)
      (hsz : ∀ (i : Nat) (e : List D), es[i]? = some e → e.length = sz)
      (hc : ∀ (i : Nat) (e : List D) (j : Nat) (d : D), es[i]? = some e → e[j]? = some d → w.cell? ⟨n, off + i * sz + j, none⟩ = some (u i j))
      (h : ∀ (i : Nat) (e : List D) (j : Nat) (d : D), es[i]? = some e → e[j]? = some d → V A.fresh w nowhere d (u i j)) : V A w φ (.fl es) (.slice (some ⟨n, off, none⟩) es.length cap)
  | rp {A : Rd} {w : World} (φ : Nat → Loc) (cs : List D) (n off : Nat) (u : Nat → Value) (hA : A n)
      (hc : ∀ (j : Nat) (d : D), cs[j]? = some d → w.cell? ⟨n, off + j, none⟩ = some (u j))
      (h : ∀ (j : Nat) (d : D), cs[j]? = some d → V A.all w nowhere d (u j)) : V A w φ (.rp cs) (.pointer (some ⟨n, off, none⟩))
  | ms {A : Rd} {w : World} (φ : Nat → Loc) (b off len cap cap' : Nat) (a : Option Addr) (hlen : len ≤ cap) (hcap : cap ≤ cap')
      (h : (φ b).msOk off cap' a) : V A w φ (.ms b off len cap) (.slice a len cap')
  | mp {A : Rd} {w : World} (φ : Nat → Loc) (b i f : Nat) (x : Addr)
      (h : (φ b).mpOk i f x) : V A w φ (.mp b i f) (.pointer (some x))
  | fn {A : Rd} {w : World} (φ : Nat → Loc) (f : Fn) (first caps : List D) (vs us : Array Value) (hl : vs.size = first.length) (hl' : us.size = caps.length)
      (h : ∀ (i : Nat) (d : D) (u : Value), first[i]? = some d → vs[i]? = some u → V A w φ d u)
      (h' : ∀ (i : Nat) (d : D) (u : Value), caps[i]? = some d → us[i]? = some u → V A w φ d u) : V A w φ (.fn f first caps) (.func f vs us)
  | mm {A : Rd} {w : World} (φ : Nat → Loc) (b r : Nat) (h : (φ b).mmOk r) : V A w φ (.mm b) (.map (some r))

theorem V.mono {A A' : Rd} {w w' : World} {φ φ' : Nat → Loc} {d : D} {x : Value} (hA : ∀ n, A n → A' n) (hw : ∀ n, A n → w'.heap[n]? = w.heap[n]?)
    (hφ : ∀ b, (φ b).le (φ' b)) (h : V A w φ d x) (hb : A'.b0 ≤ A.b0 := by exact Nat.le_refl _) : V A' w' φ' d x := by
  induction h generalizing A' φ' with
  | v φ x => exact .v _ _
  | any φ x => exact .any _ _
  | nil φ a => exact .nil _ _
  | agg φ cs vs hl h ih => exact .agg _ _ _ hl fun i d u h1 h2 => ih i d u h1 h2 hA hw hφ hb
  | tup φ cs vs hl h ih => exact .tup _ _ _ hl fun i d u h1 h2 => ih i d u h1 h2 hA hw hφ hb
  | sl0 φ a cap => exact .sl0 _ _ _
  | sl φ es n off sz cap u ha hcap hsz hcc h ih =>
    exact .sl _ _ n off sz cap u (hA n ha) hcap hsz (fun i e j d h1 h2 => (World.cell?_of_block (a := ⟨n, _, none⟩) (hw n ha)).trans (hcc i e j d h1 h2))
      fun i e j d h1 h2 => ih i e j d h1 h2 hA hw (fun _ => Loc.le_refl _) (Nat.le_refl _)
  | fl0 φ a cap => exact .fl0 _ _ _
  | fl φ es n off sz cap u ha hcap hsz hcc h ih =>
    exact .fl _ _ n off sz cap u ⟨hA n ha.1, Nat.le_trans hb ha.2⟩ hcap hsz (fun i e j d h1 h2 => (World.cell?_of_block (a := ⟨n, _, none⟩) (hw n ha.1)).trans (hcc i e j d h1 h2))
      fun i e j d h1 h2 => ih i e j d h1 h2 (fun m hm => ⟨hA m hm.1, Nat.le_trans hb hm.2⟩) (fun m hm => hw m hm.1) (fun _ => Loc.le_refl _) (Nat.le_refl _)
  | rp φ cs n off u ha hcc h ih =>
    exact .rp _ _ n off u (hA n ha) (fun j d h1 => (World.cell?_of_block (a := ⟨n, _, none⟩) (hw n ha)).trans (hcc j d h1)) fun j d h1 => ih j d h1 hA hw (fun _ => Loc.le_refl _) (Nat.le_refl _)
  | ms φ b off len cap cap' a hlen hcap h =>
    refine .ms _ b off len cap cap' a hlen hcap ?_
    rcases hφ b with e | e | e
    · rw [e] at h; exact h.elim
    · rw [e]; trivial
    · rw [← e]; exact h
  | mp φ b i f x h =>
    refine .mp _ b i f x ?_
    rcases hφ b with e | e | e
    · rw [e] at h; exact h.elim
    · rw [e]; trivial
    · rw [← e]; exact h
  | fn φ f first caps vs us hl hl' h h' ih ih' => exact .fn _ f _ _ _ _ hl hl' (fun i d u h1 h2 => ih i d u h1 h2 hA hw hφ hb) fun i d u h1 h2 => ih' i d u h1 h2 hA hw hφ hb
  | mm φ b r h =>
    refine .mm _ b r ?_
    rcases hφ b with e | e | e
    · rw [e] at h; exact h.elim
    · rw [e]; trivial
    · rw [← e]; exact h

/-- What is fresh is read-only. -/
theorem V.of_fl {A : Rd} {w : World} {φ : Nat → Loc} {es : List (List D)} {x : Value} (h : V A w φ (.fl es) x) : V A w φ (.sl es) x := by
  cases h with
  | fl0 => exact .sl0 _ _ _
  | fl _ _ n off sz cap u ha hcap hsz hcc h =>
    exact .sl _ _ n off sz cap u ha.1 hcap hsz hcc fun i e j d h1 h2 => V.mono (A := A.fresh) (A' := A.all) (fun _ x => x.1) (fun _ _ => rfl) (fun _ => Loc.le_refl _) (h i e j d h1 h2)

/-- An own block: not yet laid; given up; elements of sz cells each; a map (its clock, and its entries: key, value, birth). -/
inductive Blk where
  | free
  | dead
  | live (sz : Nat) (es : List (List D))
  | tab (clk : Nat) (es : List (Value × D × Nat))
  deriving Inhabited

/-- The cells of an own block. -/
structure LiveAt (A : Rd) (w : World) (φ : Nat → Loc) (n base room sz : Nat) (c : Array Value) (ty : TypeId) (es : List (List D)) : Prop where
  b0 : base = 0
  blk : w.heap[n]? = some (.cells c ty (0, 0))
  fits : es.length ≤ room
  size : base + room * sz ≤ c.size
  len : ∀ (i : Nat) (e : List D), es[i]? = some e → e.length = sz
  val : ∀ (i : Nat) (e : List D) (j : Nat) (d : D), es[i]? = some e → e[j]? = some d → ∃ u, c[base + i * sz + j]? = some u ∧ V A w φ d u

/-- The entries of an own map. -/
structure TabAt (A : Rd) (w : World) (φ : Nat → Loc) (n clk : Nat) (es : List (Value × D × Nat)) (ms : Array MapEntry) : Prop where
  blk : w.heap[n]? = some (.map ms clk)
  len : ms.size = es.length
  ent : ∀ (i : Nat) (k : Value) (d : D) (b : Nat) (e : MapEntry), es[i]? = some (k, d, b) → ms[i]? = some e → e.key = k ∧ e.born = b ∧ V A w φ d e.val

def own (φ : Nat → Loc) (n : Nat) : Prop := ∃ b base sz room, φ b = .loc n base sz room

/-- The tables lie in read-only memory. -/
def Laid (A : Nat → Prop) (w : World) : Prop := ∀ p, p ∈ Tabs.T → A p.1 ∧ ∀ (j : Nat) (v : Value), p.2[j]? = some v → w.cell? ⟨p.1, j, none⟩ = some v
theorem Laid.mono {A A' : Nat → Prop} {w w' : World} (h : Laid A w) (hA : ∀ n, A n → A' n) (hw : ∀ n, A n → w'.heap[n]? = w.heap[n]?) : Laid A' w' := fun p hp =>
  ⟨hA _ (h p hp).1, fun j v hv => (World.cell?_of_block (a := ⟨p.1, j, none⟩) (hw p.1 (h p hp).1)).trans ((h p hp).2 j v hv)⟩

structure RH (A : Rd) (φ : Nat → Loc) (w : World) (H : List Blk) : Prop where
  out : ∀ b, H[b]? = none → φ b = .free
  free : ∀ b, H[b]? = some .free → φ b = .free
  dead : ∀ b, H[b]? = some .dead → φ b = .dead
  live : ∀ b sz es, H[b]? = some (.live sz es) → (es = [] ∧ φ b = .ph) ∨ ∃ n base room c ty, φ b = .loc n base sz room ∧ LiveAt A w φ n base room sz c ty es
  tab : ∀ b clk es, H[b]? = some (.tab clk es) → ∃ n ms, φ b = .loc n 0 0 0 ∧ TabAt A w φ n clk es ms
  inj : ∀ b b' n base sz room base' sz' room', φ b = .loc n base sz room → φ b' = .loc n base' sz' room' → b = b'
  dis : ∀ n, own φ n → ¬ A n
  lt : ∀ n, A n → n < w.heap.size
  olt : ∀ n, own φ n → n < w.heap.size
  ofr : ∀ n, own φ n → A.b0 ≤ n
  bsz : A.b0 ≤ w.heap.size
  la : Laid A.on w

/-- What steps of a frame keep of a world: all but its own blocks O. -/
structure Ext (w : World) (O : Nat → Prop) (w' : World) (O' : Nat → Prop) : Prop where
  os : w'.os = w.os
  tape : w'.tape = w.tape
  output : w'.output = w.output
  size : w.heap.size ≤ w'.heap.size
  same : ∀ n, n < w.heap.size → ¬ O n → w'.heap[n]? = w.heap[n]?
  own : ∀ n, O' n → O n ∨ w.heap.size ≤ n

theorem Ext.refl (w : World) (O : Nat → Prop) : Ext w O w O := ⟨rfl, rfl, rfl, Nat.le_refl _, fun _ _ _ => rfl, fun _ h => .inl h⟩
theorem Ext.trans {w w' w'' : World} {O O' O'' : Nat → Prop} (h : Ext w O w' O') (k : Ext w' O' w'' O'') : Ext w O w'' O'' :=
  ⟨k.os.trans h.os, k.tape.trans h.tape, k.output.trans h.output, Nat.le_trans h.size k.size,
   fun n hn ho => (k.same n (Nat.lt_of_lt_of_le hn h.size) fun ho' => (h.own n ho').elim ho (fun x => by omega)).trans (h.same n hn ho),
   fun n hn => (k.own n hn).elim (fun x => h.own n x) (fun x => .inr (Nat.le_trans h.size x))⟩
theorem Ext.sub {w w' : World} {O O' O'' : Nat → Prop} (h : Ext w O w' O') (k : ∀ n, O'' n → O' n) : Ext w O w' O'' := { h with own := fun n hn => h.own n (k n hn) }

/-- What a frame owns, what it may read, and where its own blocks lie. -/
structure Fr where
  O : Nat → Prop
  A : Rd
  φ : Nat → Loc

/-- What a frame's steps keep; the own blocks below N stay in place, or are given up. -/
structure Keep (N : Nat) (w : World) (F : Fr) (w' : World) (F' : Fr) : Prop where
  ext : Ext w F.O w' F'.O
  up : ∀ n, F.A n → F'.A n
  new : ∀ n, F'.A n → F.A n ∨ F.O n ∨ w.heap.size ≤ n
  le : ∀ b, b < N → (F.φ b).le (F'.φ b)
  b0 : F'.A.b0 = F.A.b0

theorem Keep.refl (N : Nat) (w : World) (F : Fr) : Keep N w F w F := ⟨.refl _ _, fun _ x => x, fun _ => .inl, fun _ _ => Loc.le_refl _, rfl⟩
theorem Keep.trans {N : Nat} {w w' w'' : World} {F F' F'' : Fr} (h : Keep N w F w' F') (k : Keep N w' F' w'' F'') : Keep N w F w'' F'' :=
  ⟨h.ext.trans k.ext, fun n x => k.up n (h.up n x), fun n x => by
    rcases k.new n x with y | y | y
    · exact h.new n y
    · exact (h.ext.own n y).elim (fun z => .inr (.inl z)) (fun z => .inr (.inr z))
    · exact .inr (.inr (Nat.le_trans h.ext.size y)), fun b hb => Loc.le_trans (h.le b hb) (k.le b hb), k.b0.trans h.b0⟩

/-- How far the loop is that this frame yields to: the rounds that are done, and whether one has left it. -/
abbrev Gst := Nat × Bool

/-- What a frame's surroundings are: what holds of the world beside the frame, and what a call of a yield function asks. -/
structure Gh where
  N : Nat := 0
  I : Gst → World → Fr → Prop
  Y : Nat → Gst → List D → (Bool → Gst → Prop) → Prop := fun _ _ _ _ => False
  tail : List Deferred := []

def Stab (G : Gh) : Prop := ∀ g w F w' F', G.I g w F → Keep G.N w F w' F' → G.I g w' F'

def Gh.keep (N : Nat) (w : World) (F : Fr) : Gh := { N := N, I := fun _ w' F' => Keep N w F w' F' }
theorem stab_keep (N : Nat) (w : World) (F : Fr) : Stab (Gh.keep N w F) := fun _ _ _ _ _ h k => h.trans k

structure St where
  t : List D
  H : List Blk
  ds : List Nat := []
  g : Gst := (0, false)

def mark (r : Nat) : Deferred := { target := .collected r, args := #[] }

structure TR (A : Rd) (w : World) (φ : Nat → Loc) (t : List D) (tmps : Array Value) : Prop where
  size : tmps.size = t.length
  val : ∀ (i : Nat) (d : D) (u : Value), t[i]? = some d → tmps[i]? = some u → V A w φ d u
  la : Laid A.on w

def ownAll (φ : Nat → Loc) (ds : List Nat) (n : Nat) : Prop := own φ n ∨ n ∈ ds

structure FRc (G : Gh) (st : St) (a : Act) (w : World) (A : Rd) (φ : Nat → Loc) : Prop where
  rh : RH A φ w st.H
  tr : TR A w φ st.t a.tmps
  gh : G.I st.g w ⟨ownAll φ st.ds, A, φ⟩
  df : a.defers = st.ds.map mark ++ G.tail
  dk : ∀ r, r ∈ st.ds → w.heap[r]? = some (.deferred (some [])) ∧ ¬ A r ∧ ¬ own φ r
  nd : st.ds.Nodup

def FR (G : Gh) (st : St) (a : Act) (w : World) : Prop := ∃ A φ, FRc G st a w A φ

/-- A value, exactly; no slice reads as an empty one. -/
def ofV : Value → D
  | .slice none 0 0 => .nil
  | x => .v x
theorem V.ofV {A : Rd} {w : World} {φ : Nat → Loc} (x : Value) : V A w φ (ofV x) x := by
  unfold DL.ofV
  split
  · exact .nil _ _
  · exact .v _ _

/-- What lies at a place of a list: said by the recursor, so that the kernel finds it soon. -/
def lkF (t : List D) : Nat → D := List.rec (motive := fun _ => Nat → D) (fun _ => .any) (fun x _ ih i => Nat.rec (motive := fun _ => D) x (fun j _ => ih j) i) t
theorem lkF_eq : ∀ (t : List D) (i : Nat), lkF t i = t.getD i .any
  | [], _ => rfl
  | _ :: _, 0 => rfl
  | _ :: t, i + 1 => by
    show lkF t i = _
    rw [lkF_eq t]; rfl
/-- The table that lies in a block. -/
def tabOf (g : Nat) : Option (List Value) := Tabs.T.lookup g
theorem mem_of_lookup {g : Nat} {vs : List Value} : ∀ {l : List (Nat × List Value)}, l.lookup g = some vs → (g, vs) ∈ l
  | (k, x) :: l, h => by
    rw [List.lookup_cons] at h
    split at h
    · rename_i e
      have : g = k := by simpa using e
      cases h; subst this
      exact List.mem_cons_self ..
    · exact List.mem_cons_of_mem _ (mem_of_lookup h)
/-- The value of an operand. -/
def ev (t : List D) : Operand → D
  | .tmp i => lkF t i
  | .const x => ofV x
  | .global g => match tabOf g with
    | some vs => .rp (vs.map .v)
    | none => .v (.pointer (some ⟨g, 0, none⟩))
  | .func f => .fn (.func f) [] []

theorem TR.ev {A : Rd} {w : World} {φ : Nat → Loc} {t : List D} {a : Act} (h : TR A w φ t a.tmps) (x : Operand) : V A w φ (ev t x) (a.eval x) := by
  cases x with
  | tmp i =>
    simp only [DL.ev, lkF_eq, Act.eval, List.getD, Array.getD]
    by_cases hi : i < t.length
    · have hi' : i < a.tmps.size := by rw [h.size]; exact hi
      simp only [hi', dif_pos, List.getElem?_eq_getElem hi, Option.getD_some]
      exact h.val i _ _ (List.getElem?_eq_getElem hi) (by simp [hi'])
    · simp only [List.getElem?_eq_none (Nat.le_of_not_lt hi), Option.getD_none]
      exact .any _ _
  | const x => exact V.ofV x
  | global g =>
    show V A w φ (match tabOf g with | some vs => .rp (vs.map .v) | none => .v (.pointer (some ⟨g, 0, none⟩))) (.pointer (some ⟨g, 0, none⟩))
    split
    · rename_i vs hvs
      obtain ⟨h1, h2⟩ := h.la _ (mem_of_lookup hvs)
      refine .rp _ _ g 0 (fun j => vs.getD j undef) h1 (fun j d hd => ?_) fun j d hd => ?_
      · simp only [List.getElem?_map, Option.map_eq_some_iff] at hd
        obtain ⟨x, hx, rfl⟩ := hd
        rw [Nat.zero_add]
        have h3 := h2 j x hx
        simp only at h3
        rw [h3]; simp [List.getD, hx]
      · simp only [List.getElem?_map, Option.map_eq_some_iff] at hd
        obtain ⟨x, hx, rfl⟩ := hd
        simp only [List.getD, hx, Option.getD_some]
        exact .v _ _
    · exact .v _ _
  | func f => exact .fn _ _ _ _ _ _ rfl rfl (by simp) (by simp)

theorem TR.mono {A A' : Rd} {w w' : World} {φ φ' : Nat → Loc} {t : List D} {tmps : Array Value} (h : TR A w φ t tmps) (hA : ∀ n, A n → A' n)
    (hw : ∀ n, A n → w'.heap[n]? = w.heap[n]?) (hφ : ∀ b, (φ b).le (φ' b)) (hb : A'.b0 ≤ A.b0 := by exact Nat.le_refl _) : TR A' w' φ' t tmps :=
  ⟨h.size, fun i d u h1 h2 => (h.val i d u h1 h2).mono hA hw hφ hb, h.la.mono hA hw⟩

def setT (t : List D) : Option Tmp → D → List D
  | some i, d => t.set i d
  | none, _ => t

theorem TR.put {A : Rd} {w : World} {φ : Nat → Loc} {t : List D} {a : Act} (h : TR A w φ t a.tmps) (dst : Option Tmp) {d : D} {x : Value} (hv : V A w φ d x) :
    TR A w φ (setT t dst d) (a.put dst x).tmps := by
  cases dst with
  | none => exact h
  | some i =>
    refine ⟨by simp [setT, Act.put, h.size], fun j e u h1 h2 => ?_, h.la⟩
    simp only [setT, List.getElem?_set] at h1
    simp only [Act.put, Array.getElem?_setIfInBounds] at h2
    by_cases hij : i = j
    · subst hij
      by_cases hi : i < t.length
      · have hi' : i < a.tmps.size := by rw [h.size]; exact hi
        simp [hi] at h1; simp [hi'] at h2; subst h1; subst h2; exact hv
      · simp [hi] at h1
    · simp [hij] at h1 h2; exact h.val j e u h1 h2

theorem put_defers (a : Act) (dst : Option Tmp) (x : Value) : (a.put dst x).defers = a.defers := by cases dst <;> rfl

end
end Go.DL

/- The steps of a frame's memory: a new block, a store, an append, a sealing, at the level of what own blocks hold. -/
namespace Go.DL
open Go.RowKit

noncomputable section
set_option linter.unusedSectionVars false
variable [Tabs]

theorem FRc.value {G : Gh} {st : St} {a : Act} {w : World} {A : Rd} {φ : Nat → Loc} (h : FRc G st a w A φ) (dst : Option Tmp) {d : D} {x : Value}
    (hv : V A w φ d x) : FRc G { st with t := setT st.t dst d } (a.put dst x) w A φ :=
  ⟨h.rh, h.tr.put dst hv, h.gh, by rw [put_defers]; exact h.df, h.dk, h.nd⟩

theorem LiveAt.mono {A A' : Rd} {w w' : World} {φ φ' : Nat → Loc} {n base room sz : Nat} {c : Array Value} {ty : TypeId} {es : List (List D)}
    (h : LiveAt A w φ n base room sz c ty es) (hA : ∀ m, A m → A' m) (hw : ∀ m, A m → w'.heap[m]? = w.heap[m]?) (hφ : ∀ b, (φ b).le (φ' b)) (hn : w'.heap[n]? = w.heap[n]?) (hb : A'.b0 ≤ A.b0 := by exact Nat.le_refl _) :
    LiveAt A' w' φ' n base room sz c ty es :=
  ⟨h.b0, hn.trans h.blk, h.fits, h.size, h.len, fun i e j d h1 h2 => let ⟨u, hu, hv⟩ := h.val i e j d h1 h2; ⟨u, hu, hv.mono hA hw hφ hb⟩⟩

theorem TabAt.mono {A A' : Rd} {w w' : World} {φ φ' : Nat → Loc} {n clk : Nat} {es : List (Value × D × Nat)} {ms : Array MapEntry}
    (h : TabAt A w φ n clk es ms) (hA : ∀ m, A m → A' m) (hw : ∀ m, A m → w'.heap[m]? = w.heap[m]?) (hφ : ∀ b, (φ b).le (φ' b)) (hn : w'.heap[n]? = w.heap[n]?) (hb : A'.b0 ≤ A.b0 := by exact Nat.le_refl _) :
    TabAt A' w' φ' n clk es ms :=
  ⟨hn.trans h.blk, h.len, fun i k d b e h1 h2 => let ⟨q1, q2, q3⟩ := h.ent i k d b e h1 h2; ⟨q1, q2, q3.mono hA hw hφ hb⟩⟩

def upd (φ : Nat → Loc) (s : Nat) (l : Loc) : Nat → Loc := fun b => if b = s then l else φ b
theorem upd_same (φ : Nat → Loc) (s : Nat) (l : Loc) : upd φ s l s = l := by simp [upd]
theorem upd_other {φ : Nat → Loc} {s b : Nat} {l : Loc} (h : b ≠ s) : upd φ s l b = φ b := by simp [upd, h]
theorem upd_le {φ : Nat → Loc} {s : Nat} {l : Loc} (h : (φ s).le l) (b : Nat) : (φ b).le (upd φ s l b) := by
  by_cases e : b = s
  · subst e; rw [upd_same]; exact h
  · rw [upd_other e]; exact Loc.le_refl _
theorem own_upd {φ : Nat → Loc} {s : Nat} {l : Loc} {n : Nat} (h : own (upd φ s l) n) : (∃ base sz room, l = .loc n base sz room) ∨ ∃ b base sz room, b ≠ s ∧ φ b = .loc n base sz room := by
  obtain ⟨b, base, sz, room, e⟩ := h
  by_cases hb : b = s
  · subst hb; rw [upd_same] at e; exact .inl ⟨_, _, _, e⟩
  · rw [upd_other hb] at e; exact .inr ⟨b, _, _, _, hb, e⟩

/-- Own block s is laid at a place that no other block has; the others stay as they are. -/
theorem RH.lay {A A' : Rd} {φ : Nat → Loc} {w w' : World} {H : List Blk} (h : RH A φ w H) {s : Nat} (hs : s < H.length) {l : Loc} {x : Blk} (hle : (φ s).le l)
    (hw : ∀ m, A m → w'.heap[m]? = w.heap[m]?) (hA : ∀ m, A m → A' m) (hA' : ∀ m, A' m → A m ∨ ∃ base sz room, φ s = .loc m base sz room)
    (ho : ∀ b n base sz room, b ≠ s → φ b = .loc n base sz room → w'.heap[n]? = w.heap[n]?) (hsz : w.heap.size ≤ w'.heap.size)
    (hx : (x = .free → l = .free) ∧ (x = .dead → l = .dead) ∧ ∀ sz es, x = .live sz es → (es = [] ∧ l = .ph) ∨ ∃ n base room c ty, l = .loc n base sz room ∧ LiveAt A' w' (upd φ s l) n base room sz c ty es)
    (hxt : ∀ clk es, x = .tab clk es → ∃ n ms, l = .loc n 0 0 0 ∧ TabAt A' w' (upd φ s l) n clk es ms)
    (hl : ∀ n base sz room, l = .loc n base sz room → n < w'.heap.size ∧ ¬ A' n ∧ (∀ b base sz room, b ≠ s → φ b ≠ .loc n base sz room) ∧ A'.b0 ≤ n) (hb0 : A'.b0 ≤ A.b0 := by exact Nat.le_refl _) :
    RH A' (upd φ s l) w' (H.set s x) := by
  have hle' : ∀ b, (φ b).le (upd φ s l b) := upd_le hle
  refine ⟨fun b hb => ?_, fun b hb => ?_, fun b hb => ?_, fun b sz es hb => ?_, fun b clk es hb => ?_, ?_, ?_, ?_, ?_, ?_, Nat.le_trans hb0 (Nat.le_trans h.bsz hsz), h.la.mono hA hw⟩
  · have hne : b ≠ s := fun e => by subst e; simp [hs] at hb
    rw [upd_other hne]; exact h.out b (by simpa [List.getElem?_set, Ne.symm hne] using hb)
  · by_cases hne : b = s
    · subst hne; simp [hs] at hb; rw [upd_same]; exact hx.1 hb
    · rw [upd_other hne]; exact h.free b (by simpa [List.getElem?_set, Ne.symm hne] using hb)
  · by_cases hne : b = s
    · subst hne; simp [hs] at hb; rw [upd_same]; exact hx.2.1 hb
    · rw [upd_other hne]; exact h.dead b (by simpa [List.getElem?_set, Ne.symm hne] using hb)
  · by_cases hne : b = s
    · subst hne; simp [hs] at hb; rw [upd_same]; exact hx.2.2 sz es hb
    · rw [upd_other hne]
      rcases h.live b sz es (by simpa [List.getElem?_set, Ne.symm hne] using hb) with h1 | ⟨n, base, room, c, ty, h1, h2⟩
      · exact .inl h1
      · exact .inr ⟨n, base, room, c, ty, h1, h2.mono hA hw hle' (ho b n base sz room hne h1) hb0⟩
  · by_cases hne : b = s
    · subst hne; simp [hs] at hb; rw [upd_same]; exact hxt clk es hb
    · rw [upd_other hne]
      obtain ⟨n, ms, h1, h2⟩ := h.tab b clk es (by simpa [List.getElem?_set, Ne.symm hne] using hb)
      exact ⟨n, ms, h1, h2.mono hA hw hle' (ho b n 0 0 0 hne h1) hb0⟩
  · intro b b' n base sz room base' sz' room' e e'
    by_cases hb : b = s <;> by_cases hb' : b' = s
    · rw [hb, hb']
    · subst hb; rw [upd_same] at e; rw [upd_other hb'] at e'; exact absurd e' ((hl n base sz room e).2.2.1 b' base' sz' room' hb')
    · subst hb'; rw [upd_same] at e'; rw [upd_other hb] at e; exact absurd e ((hl n base' sz' room' e').2.2.1 b base sz room hb)
    · rw [upd_other hb] at e; rw [upd_other hb'] at e'; exact h.inj b b' n base sz room base' sz' room' e e'
  · intro n hn ha
    rcases own_upd hn with ⟨base, sz, room, e⟩ | ⟨b, base, sz, room, hne, e⟩
    · exact (hl n base sz room e).2.1 ha
    · rcases hA' n ha with h1 | ⟨base', sz', room', h1⟩
      · exact h.dis n ⟨b, base, sz, room, e⟩ h1
      · exact hne (h.inj b s n base sz room base' sz' room' e h1)
  · intro n hn
    rcases hA' n hn with h1 | ⟨base, sz, room, h1⟩
    · exact Nat.lt_of_lt_of_le (h.lt n h1) hsz
    · exact Nat.lt_of_lt_of_le (h.olt n ⟨s, base, sz, room, h1⟩) hsz
  · intro n hn
    rcases own_upd hn with ⟨base, sz, room, e⟩ | ⟨b, base, sz, room, hne, e⟩
    · exact (hl n base sz room e).1
    · exact Nat.lt_of_lt_of_le (h.olt n ⟨b, base, sz, room, e⟩) hsz
  · intro n hn
    rcases own_upd hn with ⟨base, sz, room, e⟩ | ⟨b, base, sz, room, hne, e⟩
    · exact (hl n base sz room e).2.2.2
    · exact Nat.le_trans hb0 (h.ofr n ⟨b, base, sz, room, e⟩)

/-- One more place for an own block. -/
theorem RH.grow {A : Rd} {φ : Nat → Loc} {w : World} {H : List Blk} (h : RH A φ w H) : RH A φ w (H ++ [.free]) := by
  have key : ∀ b x, (H ++ [Blk.free])[b]? = some x → H[b]? = some x ∨ (x = .free ∧ φ b = .free) := fun b x hb => by
    rcases Nat.lt_trichotomy b H.length with h1 | h1 | h1
    · left; rwa [List.getElem?_append_left h1] at hb
    · subst h1; simp at hb; exact .inr ⟨hb.symm, h.out _ (by simp)⟩
    · rw [List.getElem?_append_right (by omega)] at hb
      rw [List.getElem?_eq_none (by simp; omega)] at hb; cases hb
  refine ⟨fun b hb => h.out b ?_, fun b hb => ?_, fun b hb => ?_, fun b sz es hb => ?_, fun b clk es hb => ?_, h.inj, h.dis, h.lt, h.olt, h.ofr, h.bsz, h.la⟩
  · rw [List.getElem?_eq_none_iff] at hb ⊢; simp at hb; omega
  · rcases key b _ hb with h1 | ⟨_, h1⟩
    · exact h.free b h1
    · exact h1
  · rcases key b _ hb with h1 | ⟨h1, _⟩
    · exact h.dead b h1
    · cases h1
  · rcases key b _ hb with h1 | ⟨h1, _⟩
    · exact h.live b sz es h1
    · cases h1
  · rcases key b _ hb with h1 | ⟨h1, _⟩
    · exact h.tab b clk es h1
    · cases h1

/-- What lies elsewhere has changed: read-only and own blocks are as they were. -/
theorem RH.move {A : Rd} {φ : Nat → Loc} {w w' : World} {H : List Blk} (h : RH A φ w H) (hA : ∀ m, A m → w'.heap[m]? = w.heap[m]?)
    (ho : ∀ m, own φ m → w'.heap[m]? = w.heap[m]?) (hsz : w.heap.size ≤ w'.heap.size) : RH A φ w' H :=
  ⟨h.out, h.free, h.dead, fun b sz es hb => (h.live b sz es hb).imp id fun ⟨n, base, room, c, ty, h1, h2⟩ =>
      ⟨n, base, room, c, ty, h1, h2.mono (fun _ x => x) hA (fun _ => Loc.le_refl _) (ho n ⟨b, base, sz, room, h1⟩)⟩,
    fun b clk es hb => let ⟨n, ms, h1, h2⟩ := h.tab b clk es hb; ⟨n, ms, h1, h2.mono (fun _ x => x) hA (fun _ => Loc.le_refl _) (ho n ⟨b, 0, 0, 0, h1⟩)⟩,
    h.inj, h.dis, fun n hn => Nat.lt_of_lt_of_le (h.lt n hn) hsz, fun n hn => Nat.lt_of_lt_of_le (h.olt n hn) hsz, h.ofr, Nat.le_trans h.bsz hsz, h.la.mono (fun _ x => x) hA⟩

theorem heap_alloc_lt (w : World) (o : Obj) {m : Nat} (h : m < w.heap.size) : (w.alloc o).heap[m]? = w.heap[m]? := Below.heap_alloc w o m h
theorem heap_alloc_new (w : World) (o : Obj) : (w.alloc o).heap[w.heap.size]? = some o := by show (w.heap.push o)[w.heap.size]? = _; simp

theorem ext_alloc (w : World) (O : Nat → Prop) (o : Obj) {O' : Nat → Prop} (h : ∀ n, O' n → O n ∨ n = w.heap.size) : Ext w O (w.alloc o) O' :=
  ⟨rfl, rfl, rfl, by simp, fun _ hn _ => heap_alloc_lt w o hn, fun n hn => (h n hn).imp id fun e => by omega⟩

/-- A frame in a new world: what is asked. -/
theorem FRc.step {G : Gh} (hG : Stab G) {st : St} {a : Act} {w w' : World} {A A' : Rd} {φ φ' : Nat → Loc} (h : FRc G st a w A φ)
    {H' : List Blk} (hr : RH A' φ' w' H') (he : Ext w (own φ) w' (own φ')) (hA : ∀ m, A m → A' m) (hA' : ∀ m, A' m → A m ∨ own φ m ∨ w.heap.size ≤ m) (hφ : ∀ b, (φ b).le (φ' b)) (hb0 : A'.b0 = A.b0 := by exact rfl) :
    FRc G { st with H := H' } a w' A' φ' := by
  have hsA : ∀ m, A m → w'.heap[m]? = w.heap[m]? := fun m hm => he.same m (h.rh.lt m hm) fun ho => h.rh.dis m ho hm
  refine ⟨hr, h.tr.mono hA hsA hφ (Nat.le_of_eq hb0), hG _ _ _ _ _ h.gh ⟨⟨he.os, he.tape, he.output, he.size, fun n hn ho => he.same n hn fun x => ho (.inl x), fun n hn => ?_⟩, hA, fun n hn => (hA' n hn).imp id (.imp .inl id), fun b _ => hφ b, hb0⟩, h.df, fun r hr => ?_, h.nd⟩
  · rcases hn with hn | hn
    · exact (he.own n hn).imp .inl id
    · exact .inl (.inr hn)
  · obtain ⟨h1, h2, h3⟩ := h.dk r hr
    have hlt : r < w.heap.size := (Array.getElem?_eq_some_iff.1 h1).1
    refine ⟨(he.same r hlt h3).trans h1, fun x => ?_, fun x => ?_⟩
    · rcases hA' r x with y | y | y
      · exact h2 y
      · exact h3 y
      · omega
    · rcases he.own r x with y | y
      · exact h3 y
      · omega

/-- A new block is laid. -/
theorem FRc.newR {G : Gh} (hG : Stab G) {st : St} {a : Act} {w : World} {A : Rd} {φ : Nat → Loc} (h : FRc G st a w A φ) {s : Nat}
    (hs : st.H[s]? = some .free) (c : Array Value) (ty : TypeId) (sz : Nat) (es : List (List D)) (room : Nat) (hroom : es.length ≤ room) (hc : room * sz ≤ c.size)
    (hlen : ∀ (i : Nat) (e : List D), es[i]? = some e → e.length = sz)
    (hv : ∀ (i : Nat) (e : List D) (j : Nat) (d : D), es[i]? = some e → e[j]? = some d → ∃ u, c[i * sz + j]? = some u ∧ V A w φ d u) :
    FRc G { st with H := st.H.set s (.live sz es) } a (w.alloc (.cells c ty)) A (upd φ s (.loc w.heap.size 0 sz room)) := by
  have hlt : s < st.H.length := (List.getElem?_eq_some_iff.1 hs).1
  have hf : φ s = .free := h.rh.free s hs
  have hle : (φ s).le (.loc w.heap.size 0 sz room) := .inl hf
  have hsame : ∀ m, A m → (w.alloc (.cells c ty)).heap[m]? = w.heap[m]? := fun m hm => heap_alloc_lt w _ (h.rh.lt m hm)
  refine h.step hG (h.rh.lay hlt (l := .loc w.heap.size 0 sz room) hle hsame (fun _ x => x) (fun _ x => .inl x)
    (fun b n base sz' room' _ e => heap_alloc_lt w _ (h.rh.olt n ⟨b, _, _, _, e⟩)) (by simp) ⟨by simp, by simp, ?_⟩ (fun _ _ e => by cases e) ?_) ?_ (fun _ x => x) (fun _ x => .inl x) (upd_le hle)
  · intro sz' es' e
    cases e
    refine .inr ⟨_, _, _, c, ty, rfl, rfl, heap_alloc_new w _, hroom, by omega, hlen, fun i e j d h1 h2 => ?_⟩
    obtain ⟨u, hu, hv'⟩ := hv i e j d h1 h2
    exact ⟨u, by simpa using hu, hv'.mono (fun _ x => x) hsame (upd_le hle)⟩
  · intro n base sz' room' e
    cases e
    exact ⟨by simp, fun x => Nat.lt_irrefl _ (h.rh.lt _ x), fun b base sz' room' _ e => Nat.lt_irrefl _ (h.rh.olt _ ⟨b, _, _, _, e⟩), h.rh.bsz⟩
  · refine ext_alloc w _ _ fun n hn => ?_
    rcases own_upd hn with ⟨_, _, _, e⟩ | ⟨b, base, sz', room', _, e⟩
    · cases e; exact .inr rfl
    · exact .inl ⟨b, _, _, _, e⟩

theorem FRc.new {G : Gh} (hG : Stab G) {st : St} {a : Act} {w : World} {A : Rd} {φ : Nat → Loc} (h : FRc G st a w A φ) {s : Nat}
    (hs : st.H[s]? = some .free) (c : Array Value) (ty : TypeId) (sz : Nat) (es : List (List D)) (hc : es.length * sz ≤ c.size)
    (hlen : ∀ (i : Nat) (e : List D), es[i]? = some e → e.length = sz)
    (hv : ∀ (i : Nat) (e : List D) (j : Nat) (d : D), es[i]? = some e → e[j]? = some d → ∃ u, c[i * sz + j]? = some u ∧ V A w φ d u) :
    FRc G { st with H := st.H.set s (.live sz es) } a (w.alloc (.cells c ty)) A (upd φ s (.loc w.heap.size 0 sz es.length)) :=
  h.newR hG hs c ty sz es es.length (Nat.le_refl _) hc hlen hv

theorem FRc.drew {G : Gh} (hG : Stab G) {st : St} {a : Act} {w : World} {A : Rd} {φ : Nat → Loc} (h : FRc G st a w A φ) :
    FRc G st a w.drew A φ :=
  h.step hG (h.rh.move (fun _ _ => rfl) (fun _ _ => rfl) (Nat.le_refl _)) ⟨rfl, rfl, rfl, Nat.le_refl _, fun _ _ _ => rfl, fun _ x => .inl x⟩
    (fun _ x => x) (fun _ x => .inl x) fun _ => Loc.le_refl _

theorem FRc.room {G : Gh} {st : St} {a : Act} {w : World} {A : Rd} {φ : Nat → Loc} (h : FRc G st a w A φ) :
    FRc G { st with H := st.H ++ [.free] } a w A φ := ⟨h.rh.grow, h.tr, h.gh, h.df, h.dk, h.nd⟩

theorem set_room (H : List Blk) (x : Blk) : (H ++ [Blk.free]).set H.length x = H ++ [x] := by simp

/-- A world in which one block of cells reads otherwise. -/
structure Rewr (w w' : World) (n : Nat) (c' : Array Value) (ty : TypeId) : Prop where
  os : w'.os = w.os
  tape : w'.tape = w.tape
  output : w'.output = w.output
  size : w'.heap.size = w.heap.size
  blk : w'.heap[n]? = some (.cells c' ty (0, 0))
  same : ∀ m, m ≠ n → w'.heap[m]? = w.heap[m]?

/-- Own block b is written: it holds other elements, perhaps under another number (s), b being given up. -/
theorem FRc.rewr {G : Gh} (hG : Stab G) {st : St} {a : Act} {w w' : World} {A : Rd} {φ : Nat → Loc} (h : FRc G st a w A φ) {b n base room sz : Nat}
    (hb : φ b = .loc n base sz room) {c' : Array Value} {ty : TypeId} (hr : Rewr w w' n c' ty) (hlt : b < st.H.length) (es' : List (List D)) (hfit : es'.length ≤ room) (hsize : base + room * sz ≤ c'.size)
    (hlen : ∀ (i : Nat) (e : List D), es'[i]? = some e → e.length = sz)
    (hv : ∀ (i : Nat) (e : List D) (j : Nat) (d : D), es'[i]? = some e → e[j]? = some d → ∃ u, c'[base + i * sz + j]? = some u ∧ V A w φ d u) (hz : base = 0 := by first | rfl | assumption | exact LiveAt.b0 (by assumption)) :
    FRc G { st with H := st.H.set b (.live sz es') } a w' A φ := by
  have hown : own φ n := ⟨b, _, _, _, hb⟩
  have hsame : ∀ m, A m → w'.heap[m]? = w.heap[m]? := fun m hm => hr.same m fun e => h.rh.dis n hown (e ▸ hm)
  have hup : upd φ b (.loc n base sz room) = φ := by funext x; by_cases e : x = b <;> simp [upd, e, hb]
  have hlay := h.rh.lay (A' := A) (w' := w') hlt (l := .loc n base sz room) (x := .live sz es') (by rw [hb]; exact Loc.le_refl _) hsame (fun _ x => x) (fun _ x => .inl x)
    (fun b' m base' sz' room' hne e => hr.same m fun e' => hne (h.rh.inj b' b n base' sz' room' base sz room (e' ▸ e) hb)) (by rw [hr.size]; exact Nat.le_refl _)
    ⟨by simp, by simp, fun sz' es'' e => by
      cases e
      exact .inr ⟨n, base, room, c', ty, rfl, hz, hr.blk, hfit, hsize, hlen, fun i e j d h1 h2 =>
        let ⟨u, hu, hv'⟩ := hv i e j d h1 h2; ⟨u, hu, hv'.mono (fun _ x => x) hsame (by rw [hup]; exact fun _ => Loc.le_refl _)⟩⟩⟩
    (fun _ _ e => by cases e)
    (fun m base' sz' room' e => by
      cases e
      exact ⟨by rw [hr.size]; exact h.rh.olt n hown, h.rh.dis n hown, fun b' base' sz' room' hne e => hne (h.rh.inj b' b n base' sz' room' base sz room e hb), h.rh.ofr n hown⟩)
  rw [hup] at hlay
  exact h.step hG hlay ⟨hr.os, hr.tape, hr.output, by rw [hr.size]; exact Nat.le_refl _, fun m _ hm => hr.same m fun e => hm (e ▸ hown), fun m hm => .inl hm⟩ (fun _ x => x) (fun _ x => .inl x) fun _ => Loc.le_refl _

end
end Go.DL

/- Giving an own block up, appending, sealing an own block (it is read-only from then on), and how own blocks read (snap). -/
namespace Go.DL
open Go.RowKit

noncomputable section
set_option linter.unusedSectionVars false
variable [Tabs]

section
variable {G : Gh} (hG : Stab G) {st : St} {a : Act} {w w' : World} {A : Rd} {φ : Nat → Loc}

theorem RH.kill {H : List Blk} (h : RH A φ w H) {b : Nat} (hb : b < H.length) : RH A (upd φ b .dead) w (H.set b .dead) :=
  h.lay hb (l := .dead) (x := .dead) (.inr (.inl rfl)) (fun _ _ => rfl) (fun _ x => x) (fun _ x => .inl x) (fun _ _ _ _ _ _ _ => rfl) (Nat.le_refl _)
    ⟨by simp, by simp, by simp⟩ (fun _ _ e => by cases e) (fun _ _ _ _ e => by cases e)

theorem FRc.kill (hG : Stab G) (h : FRc G st a w A φ) {b : Nat} (hb : b < st.H.length) : FRc G { st with H := st.H.set b .dead } a w A (upd φ b .dead) :=
  h.step hG (h.rh.kill hb) ⟨rfl, rfl, rfl, Nat.le_refl _, fun _ _ _ => rfl, fun n hn => by
    rcases own_upd hn with ⟨_, _, _, e⟩ | ⟨b, _, _, _, _, e⟩
    · cases e
    · exact .inl ⟨b, _, _, _, e⟩⟩ (fun _ x => x) (fun _ x => .inl x) (upd_le (.inr (.inl rfl)))

/-- Own block b is given up, its memory goes to s, which holds other elements. -/
theorem FRc.renew (hG : Stab G) (h : FRc G st a w A φ) {b s n base sz sz' room : Nat} (hb : φ b = .loc n base sz room) (hs : st.H[s]? = some .free) {c' : Array Value} {ty : TypeId} (hr : Rewr w w' n c' ty)
    (base' room' : Nat) (es' : List (List D)) (hfit : es'.length ≤ room') (hsize : base' + room' * sz' ≤ c'.size)
    (hlen : ∀ (i : Nat) (e : List D), es'[i]? = some e → e.length = sz')
    (hv : ∀ (i : Nat) (e : List D) (j : Nat) (d : D), es'[i]? = some e → e[j]? = some d → ∃ u, c'[base' + i * sz' + j]? = some u ∧ V A w φ d u) (hz : base' = 0 := by first | rfl | assumption | exact LiveAt.b0 (by assumption)) :
    FRc G { st with H := (st.H.set b .dead).set s (.live sz' es') } a w' A (upd (upd φ b .dead) s (.loc n base' sz' room')) := by
  have hf : φ s = .free := h.rh.free s hs
  have hslt : s < st.H.length := (List.getElem?_eq_some_iff.1 hs).1
  have hblt : b < st.H.length := by
    rcases Nat.lt_or_ge b st.H.length with x | x
    · exact x
    · rw [h.rh.out b (List.getElem?_eq_none x)] at hb; cases hb
  have hne : s ≠ b := fun e => by rw [e, hb] at hf; cases hf
  have hown : own φ n := ⟨b, _, _, _, hb⟩
  have hsame : ∀ m, A m → w'.heap[m]? = w.heap[m]? := fun m hm => hr.same m fun e => h.rh.dis n hown (e ▸ hm)
  have hk := h.rh.kill hblt
  have hle : ∀ x, (φ x).le (upd (upd φ b .dead) s (.loc n base' sz' room') x) := fun x =>
    Loc.le_trans (upd_le (φ := φ) (s := b) (.inr (.inl rfl)) x) (upd_le (by rw [upd_other hne]; exact .inl hf) x)
  have key : ∀ b' base'' sz'' room'', b' ≠ s → upd φ b .dead b' ≠ .loc n base'' sz'' room'' := fun b' base'' sz'' room'' _ e => by
    by_cases hbb : b' = b
    · subst hbb; rw [upd_same] at e; cases e
    · rw [upd_other hbb] at e; exact hbb (h.rh.inj b' b n _ _ _ _ _ _ e hb)
  refine h.step hG (hk.lay (s := s) (by simpa using hslt) (l := .loc n base' sz' room') (x := .live sz' es') (by rw [upd_other hne]; exact .inl hf) hsame (fun _ x => x) (fun _ x => .inl x)
    (fun b' m base'' sz'' room'' hb' e => hr.same m fun e' => key b' base'' sz'' room'' hb' (e' ▸ e)) (by rw [hr.size]; exact Nat.le_refl _) ⟨by simp, by simp, fun sz'' es'' e => ?_⟩ (fun _ _ e => by cases e) ?_) ?_
    (fun _ x => x) (fun _ x => .inl x) hle
  · cases e
    exact .inr ⟨n, base', room', c', ty, rfl, hz, hr.blk, hfit, hsize, hlen, fun i e j d h1 h2 => let ⟨u, hu, hv'⟩ := hv i e j d h1 h2; ⟨u, hu, hv'.mono (fun _ x => x) hsame hle⟩⟩
  · intro m base'' sz'' room'' e
    cases e
    exact ⟨by rw [hr.size]; exact h.rh.olt n hown, h.rh.dis n hown, key, h.rh.ofr n hown⟩
  · refine ⟨hr.os, hr.tape, hr.output, by rw [hr.size]; exact Nat.le_refl _, fun m _ hm => hr.same m fun e => hm (e ▸ hown), fun m hm => ?_⟩
    rcases own_upd hm with ⟨_, _, _, e⟩ | ⟨b', _, _, _, _, e⟩
    · cases e; exact .inl hown
    · by_cases hbb : b' = b
      · subst hbb; rw [upd_same] at e; cases e
      · rw [upd_other hbb] at e; exact .inl ⟨b', _, _, _, e⟩
end

/-- Values that speak of no own block. -/
def flat1 : D → Bool
  | .v _ | .any | .nil | .sl _ | .rp _ => true
  | .fn _ [] [] => true
  | _ => false
def flat : D → Bool
  | .fn _ a b => a.all flat1 && b.all flat1
  | d => flat1 d

theorem V.flat1 {A A' : Rd} {w : World} {φ φ' : Nat → Loc} {d : D} {u : Value} (h : V A w φ d u) (hd : flat1 d = true) (hA : ∀ n, A n → A' n) : V A' w φ' d u := by
  cases h with
  | v => exact .v _ _
  | any => exact .any _ _
  | nil => exact .nil _ _
  | agg => cases hd
  | tup => cases hd
  | sl0 => exact .sl0 _ _ _
  | sl _ es n off sz cap u ha hcap hsz hc h => exact .sl _ _ n off sz cap u (hA n ha) hcap hsz hc fun i e j d h1 h2 => V.mono (A := A.all) (A' := A'.all) hA (fun _ _ => rfl) (fun _ => Loc.le_refl _) (h i e j d h1 h2)
  | fl0 => cases hd
  | fl => cases hd
  | rp _ cs n off u ha hc h => exact .rp _ _ n off u (hA n ha) hc fun j d h1 => V.mono (A := A.all) (A' := A'.all) hA (fun _ _ => rfl) (fun _ => Loc.le_refl _) (h j d h1)
  | ms => cases hd
  | mp => cases hd
  | fn _ f first caps vs us hl hl' h h' =>
    cases first with
    | nil => cases caps with
      | nil => exact .fn _ _ _ _ _ _ hl hl' (by simp) (by simp)
      | cons => cases hd
    | cons => cases caps <;> cases hd
  | mm => cases hd
theorem V.flat {A A' : Rd} {w : World} {φ φ' : Nat → Loc} {d : D} {u : Value} (h : V A w φ d u) (hd : flat d = true) (hA : ∀ n, A n → A' n) : V A' w φ' d u := by
  unfold DL.flat at hd
  split at hd
  · rename_i f a b
    simp only [Bool.and_eq_true, List.all_eq_true] at hd
    cases h with
    | fn _ f first caps vs us hl hl' h h' =>
      exact .fn _ _ _ _ _ _ hl hl' (fun i d u h1 h2 => (h i d u h1 h2).flat1 (hd.1 d (List.mem_of_getElem? h1)) hA) fun i d u h1 h2 => (h' i d u h1 h2).flat1 (hd.2 d (List.mem_of_getElem? h1)) hA
  · exact h.flat1 hd hA

/-- A cell of read-only memory, taken out. -/
def lowD : D → D
  | .fl es => .sl es
  | d => if flat d then d else .any

theorem V.low {A : Rd} {w : World} {φ : Nat → Loc} {d : D} {u : Value} (h : V A.all w nowhere d u) : V A w φ (lowD d) u := by
  unfold lowD
  split
  · exact h.of_fl.flat rfl fun _ x => x
  · split
    · rename_i hd; exact h.flat hd fun _ x => x
    · exact .any _ _

/-- How a value reads, own blocks as what they hold (lk: those that may be looked at). -/
def snap (lk : Nat → Option Blk) : Nat → D → D
  | 0, d => match d with
    | .nil => .sl []
    | .fl es => .sl es
    | d => if flat d then d else .any
  | _ + 1, .v x => .v x
  | _ + 1, .any => .any
  | _ + 1, .nil => .sl []
  | _ + 1, .sl es => .sl es
  | _ + 1, .fl es => .sl es
  | _ + 1, .rp cs => .rp cs
  | k + 1, .agg cs => .agg (cs.map (snap lk k))
  | k + 1, .tup cs => .tup (cs.map (snap lk k))
  | k + 1, .fn f first caps => .fn f (first.map (snap lk k)) (caps.map (snap lk k))
  | k + 1, .ms b off len _ => match lk b with
    | some (.live _ es) => if off + len ≤ es.length then .sl (((es.take (off + len)).drop off).map (List.map (snap lk k))) else .any
    | _ => .any
  | k + 1, .mp b i f => match lk b with
    | some (.live _ es) => match es[i]? with
      | some e => .rp ((e.drop f).map (snap lk k))
      | none => .any
    | _ => .any
  | _ + 1, .mm _ => .any

def both (A : Rd) (φ : Nat → Loc) : Rd := ⟨fun n => A n ∨ own φ n, A.b0⟩

theorem cell_of_blk {w : World} {n o : Nat} {c : Array Value} {ty : TypeId} (h : w.heap[n]? = some (.cells c ty (0, 0))) : w.cell? ⟨n, o, none⟩ = c[o]? := by
  simp [World.cell?, h]

theorem V.snap {A B : Rd} {w : World} {φ : Nat → Loc} {H : List Blk} (hr : RH A φ w H) {lk : Nat → Option Blk} (hlk : ∀ b sz es, lk b = some (.live sz es) → H[b]? = some (.live sz es))
    (hA : ∀ n, A n → B n) (hB : ∀ b sz es n base sz' room, lk b = some (.live sz es) → φ b = .loc n base sz' room → B n) :
    ∀ (k : Nat) {d : D} {u : Value}, V A w φ d u → V B w nowhere (snap lk k d) u
  | 0, d, u, h => by
    simp only [DL.snap]
    split
    · cases h; exact .sl0 _ _ _
    · exact h.of_fl.flat rfl hA
    · split
      · rename_i hd; exact h.flat hd hA
      · exact .any _ _
  | k + 1, d, u, h => by
    have ih := fun {d u} => V.snap hr hlk hA hB k (d := d) (u := u)
    cases h with
    | v => exact .v _ _
    | any => exact .any _ _
    | nil => exact .sl0 _ _ _
    | agg _ cs vs hl h =>
      refine .agg _ _ _ (by simpa using hl) fun i d u h1 h2 => ?_
      simp only [List.getElem?_map, Option.map_eq_some_iff] at h1
      obtain ⟨d0, h1, rfl⟩ := h1
      exact ih (h i d0 u h1 h2)
    | tup _ cs vs hl h =>
      refine .tup _ _ _ (by simpa using hl) fun i d u h1 h2 => ?_
      simp only [List.getElem?_map, Option.map_eq_some_iff] at h1
      obtain ⟨d0, h1, rfl⟩ := h1
      exact ih (h i d0 u h1 h2)
    | sl0 => exact .sl0 _ _ _
    | sl _ es n off sz cap u ha hcap hsz hc h => exact (V.sl φ es n off sz cap u ha hcap hsz hc h).flat rfl hA
    | fl0 => exact .sl0 _ _ _
    | fl _ es n off sz cap u ha hcap hsz hc h => exact (V.fl φ es n off sz cap u ha hcap hsz hc h).of_fl.flat rfl hA
    | rp _ cs n off u ha hc h => exact (V.rp φ cs n off u ha hc h).flat rfl hA
    | ms _ b off len cap cap' a hlen hcap h =>
      simp only [DL.snap]
      split
      · rename_i sz es hb0
        have hb := hlk _ _ _ hb0
        split
        · rename_i hol
          rcases hr.live b sz es hb with ⟨rfl, hp⟩ | ⟨n, base, room, c, ty, hp, hl⟩
          · simp at hol; obtain ⟨rfl, rfl⟩ := hol
            simp; exact .sl0 _ _ _
          · rw [hp] at h
            obtain ⟨h1, h2⟩ := h
            rcases Nat.eq_zero_or_pos len with hz | hz
            · subst hz; simp; exact .sl0 _ _ _
            have ha : a = some ⟨n, base + off * sz, none⟩ := h2.resolve_left (by omega)
            subst ha
            have hlen2 : (((es.take (off + len)).drop off).map (List.map (DL.snap lk k))).length = len := by simp; omega
            have hex : ∀ (i : Nat) (e : List D), (((es.take (off + len)).drop off).map (List.map (DL.snap lk k)))[i]? = some e → ∃ e0, es[off + i]? = some e0 ∧ e = e0.map (DL.snap lk k) := fun i e he => by
              simp only [List.getElem?_map, Option.map_eq_some_iff, List.getElem?_drop, List.getElem?_take] at he
              obtain ⟨e0, he, rfl⟩ := he
              split at he
              · exact ⟨e0, he, rfl⟩
              · cases he
            have hcell : ∀ (i : Nat) (e : List D) (j : Nat) (d : D), es[i]? = some e → e[j]? = some d → c[base + i * sz + j]? = some ((c[base + i * sz + j]?).getD default) := fun i e j d h3 h4 => by
              obtain ⟨u, hu, _⟩ := hl.val i e j d h3 h4; rw [hu]; rfl
            have := V.sl (A := B) (w := w) nowhere (((es.take (off + len)).drop off).map (List.map (DL.snap lk k))) n (base + off * sz) sz cap' (fun i j => (c[base + (off + i) * sz + j]?).getD default)
              (hB _ _ _ _ _ _ _ hb0 hp) (by omega)
              (fun i e he => by obtain ⟨e0, h3, rfl⟩ := hex i e he; simpa using hl.len _ _ h3)
              (fun i e j d he hd => by
                obtain ⟨e0, h3, rfl⟩ := hex i e he
                simp only [List.getElem?_map, Option.map_eq_some_iff] at hd
                obtain ⟨d0, h4, rfl⟩ := hd
                rw [cell_of_blk hl.blk, show base + off * sz + i * sz + j = base + (off + i) * sz + j by rw [Nat.add_mul]; omega]
                exact hcell _ _ _ _ h3 h4)
              (fun i e j d he hd => by
                obtain ⟨e0, h3, rfl⟩ := hex i e he
                simp only [List.getElem?_map, Option.map_eq_some_iff] at hd
                obtain ⟨d0, h4, rfl⟩ := hd
                obtain ⟨u, hu, hv⟩ := hl.val _ _ _ _ h3 h4
                simp only [hu, Option.getD_some]
                exact (V.mono (A := B) (A' := B.all) (fun _ x => x) (fun _ _ => rfl) (fun _ => Loc.le_refl _) (ih hv) (Nat.zero_le _)))
            rw [hlen2] at this
            exact this
        · exact .any _ _
      · exact .any _ _
    | mp _ b i f x h =>
      simp only [DL.snap]
      split
      · rename_i sz es hb0
        have hb := hlk _ _ _ hb0
        split
        · rename_i e he
          rcases hr.live b sz es hb with ⟨rfl, hp⟩ | ⟨n, base, room, c, ty, hp, hl⟩
          · simp at he
          · rw [hp] at h
            have hx : x = ⟨n, base + i * sz + f, none⟩ := h
            subst hx
            refine .rp _ _ n _ (fun j => (c[base + i * sz + f + j]?).getD default) (hB _ _ _ _ _ _ _ hb0 hp) (fun j d hd => ?_) (fun j d hd => ?_)
            all_goals
              simp only [List.getElem?_map, Option.map_eq_some_iff, List.getElem?_drop] at hd
              obtain ⟨d0, h4, rfl⟩ := hd
              obtain ⟨u, hu, hv⟩ := hl.val _ _ _ _ he h4
              rw [← Nat.add_assoc] at hu
            · rw [cell_of_blk hl.blk, hu]; rfl
            · simp only [hu, Option.getD_some]; exact V.mono (A := B) (A' := B.all) (fun _ x => x) (fun _ _ => rfl) (fun _ => Loc.le_refl _) (ih hv) (Nat.zero_le _)
        · exact .any _ _
      · exact .any _ _
    | fn _ f first caps vs us hl hl' h h' =>
      refine .fn _ f _ _ _ _ (by simpa using hl) (by simpa using hl') (fun i d u h1 h2 => ?_) (fun i d u h1 h2 => ?_)
      all_goals
        simp only [List.getElem?_map, Option.map_eq_some_iff] at h1
        obtain ⟨d0, h1, rfl⟩ := h1
      · exact ih (h i d0 u h1 h2)
      · exact ih (h' i d0 u h1 h2)
    | mm => exact .any _ _

/-- Cells of which a read-only block may be made; those that speak of no memory that came in. -/
def pur (d : D) : Bool := flat d || match d with | .fl _ => true | _ => false
def frs : D → Bool
  | .v _ | .any | .nil | .fl _ => true
  | _ => false
def unfl : D → D
  | .fl es => .sl es
  | d => d

theorem V.unfl {A A' : Rd} {w : World} {φ φ' : Nat → Loc} {d : D} {u : Value} (h : V A w φ d u) (hd : pur d = true) (hA : ∀ n, A n → A' n) : V A' w φ' (unfl d) u := by
  cases d with
  | fl es => exact h.of_fl.flat rfl hA
  | _ => exact h.flat (by simpa [pur] using hd) hA

theorem V.frs {A A' : Rd} {w : World} {φ φ' : Nat → Loc} {d : D} {u : Value} (h : V A w φ d u) (hd : frs d = true) (hA : ∀ n, A n → A.b0 ≤ n → A' n) : V A' w φ' (DL.unfl d) u := by
  cases h with
  | v => exact .v _ _
  | any => exact .any _ _
  | nil => exact .nil _ _
  | fl0 => exact .sl0 _ _ _
  | fl _ es n off sz cap u ha hcap hsz hc h =>
    exact .sl _ _ n off sz cap u (hA n ha.1 ha.2) hcap hsz hc fun i e j d h1 h2 => V.mono (A := A.fresh) (A' := A'.all) (fun m hm => hA m hm.1 hm.2) (fun _ _ => rfl) (fun _ => Loc.le_refl _) (h i e j d h1 h2)
  | _ => cases hd

/-- A sealed slice. -/
def sealS (es : List (List D)) (off len : Nat) : D :=
  if off + len ≤ es.length then
    if es.all (fun e => e.all frs) = true then .fl (((es.take (off + len)).drop off).map (List.map unfl)) else .sl (((es.take (off + len)).drop off).map (List.map unfl))
  else .any

/-- Own block b is read-only from now on: whatever pointed to it reads as what it held. -/
def sealD (b : Nat) (es : List (List D)) : D → D
  | .ms b' off len cap => if b' = b then sealS es off len else .ms b' off len cap
  | .mp b' i f => if b' = b then (match es[i]? with | some e => .rp ((e.drop f).map unfl) | none => .any) else .mp b' i f
  | d => d

def oneMore (A : Rd) (l : Loc) : Rd := ⟨fun n => A n ∨ ∃ base sz room, l = .loc n base sz room, A.b0⟩

theorem V.sealS {A : Rd} {w : World} {φ φ' : Nat → Loc} {H : List Blk} (hr : RH A φ w H) {b sz : Nat} {es : List (List D)} (hb : H[b]? = some (.live sz es))
    (hf : ∀ (i : Nat) (e : List D) (j : Nat) (d : D), es[i]? = some e → e[j]? = some d → pur d = true) {off len cap : Nat} {u : Value} (h : V A w φ (.ms b off len cap) u) :
    V (oneMore A (φ b)) w φ' (DL.sealS es off len) u := by
  cases h with
  | ms _ _ off len cap cap' a hlen hcap h =>
    unfold DL.sealS
    split
    · rename_i hol
      rcases hr.live b sz es hb with ⟨rfl, hp⟩ | ⟨n, base, room, c, ty, hp, hl⟩
      · simp at hol; obtain ⟨rfl, rfl⟩ := hol
        simp; exact .fl0 _ _ _
      · have hown : own φ n := ⟨b, _, _, _, hp⟩
        rw [hp] at h
        obtain ⟨h1, h2⟩ := h
        have hlen2 : (((es.take (off + len)).drop off).map (List.map DL.unfl)).length = len := by simp; omega
        rcases Nat.eq_zero_or_pos len with hz | hz
        · subst hz
          rw [List.eq_nil_of_length_eq_zero hlen2]
          split
          · exact .fl0 _ _ _
          · exact .sl0 _ _ _
        have ha : a = some ⟨n, base + off * sz, none⟩ := h2.resolve_left (by omega)
        subst ha
        have hex : ∀ (i : Nat) (e : List D), (((es.take (off + len)).drop off).map (List.map DL.unfl))[i]? = some e → ∃ e0, es[off + i]? = some e0 ∧ e = e0.map DL.unfl := fun i e he => by
          simp only [List.getElem?_map, Option.map_eq_some_iff, List.getElem?_drop, List.getElem?_take] at he
          obtain ⟨e0, he, rfl⟩ := he
          split at he
          · exact ⟨e0, he, rfl⟩
          · cases he
        have hcell : ∀ (i : Nat) (e : List D) (j : Nat) (d : D), (((es.take (off + len)).drop off).map (List.map DL.unfl))[i]? = some e → e[j]? = some d →
            w.cell? ⟨n, base + off * sz + i * sz + j, none⟩ = some ((c[base + (off + i) * sz + j]?).getD default) ∧
            ∃ d0, es[off + i]? = some (e.map id |> fun _ => (es[off + i]?).getD []) ∧ d = DL.unfl d0 ∧ ((es[off + i]?).getD [])[j]? = some d0 ∧ V A w φ d0 ((c[base + (off + i) * sz + j]?).getD default) := fun i e j d he hd => by
          obtain ⟨e0, h3, rfl⟩ := hex i e he
          simp only [List.getElem?_map, Option.map_eq_some_iff] at hd
          obtain ⟨d0, h4, rfl⟩ := hd
          obtain ⟨u, hu, hv⟩ := hl.val _ _ _ _ h3 h4
          refine ⟨?_, d0, by simp [h3], rfl, by simpa [h3] using h4, by rw [hu]; exact hv⟩
          rw [cell_of_blk hl.blk, show base + off * sz + i * sz + j = base + (off + i) * sz + j by rw [Nat.add_mul]; omega, hu]; rfl
        have hszz : ∀ (i : Nat) (e : List D), (((es.take (off + len)).drop off).map (List.map DL.unfl))[i]? = some e → e.length = sz := fun i e he => by
          obtain ⟨e0, h3, rfl⟩ := hex i e he; simpa using hl.len _ _ h3
        split
        · rename_i hall
          have hfr : ∀ (i : Nat) (e : List D) (j : Nat) (d : D), es[i]? = some e → e[j]? = some d → DL.frs d = true := fun i e j d h3 h4 => by
            rw [List.all_eq_true] at hall
            have := hall e (List.mem_of_getElem? h3)
            rw [List.all_eq_true] at this
            exact this d (List.mem_of_getElem? h4)
          have := V.fl (A := oneMore A (φ b)) (w := w) φ' (((es.take (off + len)).drop off).map (List.map DL.unfl)) n (base + off * sz) sz cap' (fun i j => (c[base + (off + i) * sz + j]?).getD default)
            ⟨.inr ⟨_, _, _, hp⟩, hr.ofr n hown⟩ (by omega) hszz (fun i e j d he hd => (hcell i e j d he hd).1) (fun i e j d he hd => by
              obtain ⟨_, d0, h5, rfl, h6, hv⟩ := hcell i e j d he hd
              exact hv.frs (hfr _ _ _ _ h5 h6) fun m hm hb => ⟨.inl hm, hb⟩)
          rw [hlen2] at this
          exact this
        · have := V.sl (A := oneMore A (φ b)) (w := w) φ' (((es.take (off + len)).drop off).map (List.map DL.unfl)) n (base + off * sz) sz cap' (fun i j => (c[base + (off + i) * sz + j]?).getD default)
            (.inr ⟨_, _, _, hp⟩) (by omega) hszz (fun i e j d he hd => (hcell i e j d he hd).1) (fun i e j d he hd => by
              obtain ⟨_, d0, h5, rfl, h6, hv⟩ := hcell i e j d he hd
              exact hv.unfl (hf _ _ _ _ h5 h6) fun m hm => .inl hm)
          rw [hlen2] at this
          exact this
    · exact .any _ _

/-- Own block b is read-only from now on; nothing is said of what pointed to it. -/
theorem RH.freeze {A : Rd} {w : World} {φ : Nat → Loc} {H : List Blk} (hr : RH A φ w H) {b : Nat} (hlt : b < H.length) :
    RH (oneMore A (φ b)) (upd φ b .dead) w (H.set b .dead) :=
  hr.lay hlt (l := .dead) (x := .dead) (.inr (.inl rfl)) (fun _ _ => rfl) (fun _ x => .inl x) (fun _ x => x) (fun _ _ _ _ _ _ _ => rfl) (Nat.le_refl _)
    ⟨by simp, by simp, by simp⟩ (fun _ _ e => by cases e) (fun _ _ _ _ e => by cases e)

end
end Go.DL

/- Operations that leave memory alone, over abstract values. -/
namespace Go.DL
open Go.RowKit

noncomputable section
set_option linter.unusedSectionVars false
variable [Tabs]

/-- The number of cells of a type, if it is known. -/
def tsz (P : Program) (t : TypeId) : Option Nat := (P.info? t).map (·.size)

theorem run_typeInfo {P : Program} {t : TypeId} {i : TypeInfo} (h : P.info? t = some i) (w : World) : (typeInfo t).run P w = .ok i w := by simp [typeInfo, h]
theorem run_sizeOf {P : Program} {t : TypeId} {n : Nat} (h : tsz P t = some n) (w : World) : (sizeOf t).run P w = .ok n w := by
  simp only [tsz, Option.map_eq_some_iff] at h
  obtain ⟨i, hi, rfl⟩ := h
  simp [sizeOf, run_typeInfo hi]

def isAggD (P : Program) (t : TypeId) : Option Bool := (P.underlying t).map fun
  | .struct _ | .array _ _ => true
  | _ => false
theorem run_isAgg {P : Program} {t : TypeId} {b : Bool} (h : isAggD P t = some b) (w : World) : (isAgg t).run P w = .ok b w := by
  simp only [isAggD, Option.map_eq_some_iff] at h
  obtain ⟨d, hd, rfl⟩ := h
  simp only [isAgg, Sem.run_bind, run_underlying hd, Result.andThen]
  cases d <;> rfl

/-- Cells as a value of a type. -/
def takeD (P : Program) (t : TypeId) (cs : List D) : Option D :=
  match isAggD P t with
  | some true => match tsz P t with
    | some n => if n ≤ cs.length then some (.agg (cs.take n)) else none
    | none => none
  | some false => cs.head?
  | none => none

/-- An operation on the bits of two numbers. -/
def bitsBin (op : BinOp) (k : IntKind) (a b : Int) : Option Value :=
  match op with
  | .and => some (.int k (k.wrap (BitVec.ofInt k.bits a &&& BitVec.ofInt k.bits b).toNat))
  | .or => some (.int k (k.wrap (BitVec.ofInt k.bits a ||| BitVec.ofInt k.bits b).toNat))
  | .xor => some (.int k (k.wrap (BitVec.ofInt k.bits a ^^^ BitVec.ofInt k.bits b).toNat))
  | _ => none
theorem bitsBin_ok {op : BinOp} {k : IntKind} {a b : Int} {r : Value} (h : bitsBin op k a b = some r) (w : World) (P : Program) : (Op.intBits op k a b).run P w = .ok r w := by
  cases op <;> simp only [bitsBin, Option.some.injEq, reduceCtorEq] at h <;> (subst h; rfl)

def intBin (op : BinOp) (k : IntKind) (a b : Int) : Option Value :=
  match op with
  | .add => some (.int k (k.wrap (a + b)))
  | .sub => some (.int k (k.wrap (a - b)))
  | .mul => some (.int k (k.wrap (a * b)))
  | .quo => if b = 0 then none else some (.int k (k.wrap (a.tdiv b)))
  | .rem => if b = 0 then none else some (.int k (a.tmod b))
  | .eql => some (.bool (a == b))
  | .neq => some (.bool (a != b))
  | .lss => some (.bool (decide (a < b)))
  | .leq => some (.bool (decide (a ≤ b)))
  | .gtr => some (.bool (decide (b < a)))
  | .geq => some (.bool (decide (b ≤ a)))
  | .and => bitsBin .and k a b
  | .or => bitsBin .or k a b
  | .xor => bitsBin .xor k a b
  | _ => none

/-- An operation over two strings. -/
def strBin (op : BinOp) (a b : List UInt8) : Option Value :=
  match op with
  | .add => if a.length + b.length ≤ 9223372036854775807 then some (.string ⟨(a ++ b).toArray⟩) else none
  | .eql => some (.bool (a == b))
  | .neq => some (.bool (!(a == b)))
  | .lss => some (.bool (Op.bytesLess a b))
  | .leq => some (.bool (Op.bytesLess a b || (a == b)))
  | .gtr => some (.bool (!(Op.bytesLess a b || (a == b))))
  | .geq => some (.bool (!(Op.bytesLess a b)))
  | _ => none

theorem strBin_ok {op : BinOp} {t : TypeId} {a b : ByteArray} {r : Value} (h : strBin op a.data.toList b.data.toList = some r) (w : World) (P : Program) :
    (binOp op t (.string a) (.string b)).run P w = .ok r w := by
  have e : binOp op t (.string a) (.string b) = Op.stringOp op a b := by cases op <;> simp [binOp]
  rw [e]
  have ha : a.size = a.data.toList.length := by rw [Array.length_toList]; rfl
  have hb : b.size = b.data.toList.length := by rw [Array.length_toList]; rfl
  cases op <;> simp only [strBin, reduceCtorEq, Option.some.injEq] at h
  case add =>
    split at h
    · rename_i hc
      cases h
      have hm : IntKind.i64.max = 9223372036854775807 := by decide
      have : ¬ ((a.size + b.size : Nat) : Int) > IntKind.i64.max := by rw [hm, ha, hb]; omega
      simp only [Op.stringOp, if_neg this, Sem.run_pure]
      have : a ++ b = ⟨(a.data.toList ++ b.data.toList).toArray⟩ := by apply ByteArray.ext; simp
      rw [this]
    · cases h
  all_goals
    subst h
    simp [Op.stringOp, ByteArray.toList_eq]

/-- What a fold over fields says. -/
def eqFold (E : Field → Option Bool) : List Field → Option Bool
  | [] => some true
  | f :: fs => if f.name = "_" then none else match E f, eqFold E fs with
    | some a, some b => some (a && b)
    | _, _ => none

/-- Two structs compared: of numbers, truth values, strings, and structs of these. -/
def eqCells (P : Program) : Nat → List D → List D → List Field → Option Bool
  | 0, _, _, _ => none
  | n + 1, cs, ds, fs => eqFold (fun f => match P.underlying f.type, takeD P f.type (cs.drop f.offset), takeD P f.type (ds.drop f.offset) with
    | some (.int _), some (.v (.int k a)), some (.v (.int k' b)) => if k = k' then some (a == b) else none
    | some .bool, some (.v (.bool a)), some (.v (.bool b)) => some (a == b)
    | some .string, some (.v (.string a)), some (.v (.string b)) => some (a.data.toList == b.data.toList)
    | some (.struct gs), some (.agg xs), some (.agg ys) => if P.stoodInHeld f.type = false then eqCells P n xs ys gs.toList else none
    | _, _, _ => none) fs

def aggEqD (P : Program) (t : TypeId) (cs ds : List D) : Option Bool :=
  match P.underlying t with
  | some (.struct fs) => if P.stoodInHeld t = false ∧ P.eqGuardType P.depth t = false then eqCells P 4 cs ds fs.toList else none
  | _ => none

def binD (P : Program) (op : BinOp) (t : TypeId) : D → D → Option D
  | .v (.int k a), .v (.int k' b) => if k = k' then (intBin op k a b).map .v else none
  | .v (.bool a), .v (.bool b) => match op, P.underlying t with
    | .eql, some .bool => some (.v (.bool (a == b)))
    | .neq, some .bool => some (.v (.bool (a != b)))
    | _, _ => none
  | .v (.string a), .v (.string b) => (strBin op a.data.toList b.data.toList).map .v
  | .v (.iface _ _), .v .nilIface => match op, P.underlying t with
    | .eql, some (.interface _) => some (.v (.bool false))
    | .neq, some (.interface _) => some (.v (.bool true))
    | _, _ => none
  | .agg cs, .agg ds => match op with
    | .eql => (aggEqD P t cs ds).map fun r => .v (.bool r)
    | .neq => (aggEqD P t cs ds).map fun r => .v (.bool (!r))
    | _ => none
  | _, _ => none

def unD (op : UnOp) : D → Option D
  | .v (.bool b) => match op with
    | .not => some (.v (.bool !b))
    | _ => none
  | .v (.int k n) => match op with
    | .neg => some (.v (.int k (k.wrap (0 - n))))
    | .xor => (bitsBin .xor k (if k.signed then -1 else k.max) n).map .v
    | _ => none
  | _ => none

def convD (P : Program) (src dst : TypeId) : D → Option D
  | .v (.int _ n) => match P.underlying src, P.underlying dst with
    | some _, some (.int k) => some (.v (.int k (k.wrap n)))
    | _, _ => none
  | .v (.string s) => match P.underlying src, P.underlying dst with
    | some _, some .string => some (.v (.string s))
    | _, _ => none
  | _ => none

def pickD (c a b : D) : Option D :=
  match c with
  | .v (.bool x) => some (if x then a else b)
  | _ => none

def extractD (d : D) (i : Nat) : Option D :=
  match d with
  | .tup ds => ds[i]?
  | _ => none

def fieldD (P : Program) (t : TypeId) (f : Nat) : D → Option D
  | .agg cs => match P.underlying t with
    | some (.struct fs) => match fs[f]? with
      | some x => takeD P x.type (cs.drop x.offset)
      | none => none
    | _ => none
  | _ => none

def intD : D → Option Int
  | .v (.int _ n) => some n
  | _ => none

/-- A byte of a list: said by the recursor. -/
def lkU (l : List UInt8) : Nat → Option UInt8 := List.rec (motive := fun _ => Nat → Option UInt8) (fun _ => none) (fun x _ ih i => Nat.rec (motive := fun _ => Option UInt8) (some x) (fun j _ => ih j) i) l
theorem lkU_eq : ∀ (l : List UInt8) (i : Nat), lkU l i = l[i]?
  | [], _ => rfl
  | _ :: _, 0 => rfl
  | _ :: l, i + 1 => by
    show lkU l i = _
    rw [lkU_eq l]; rfl

def indexD (P : Program) (t : TypeId) (x i : D) : Option D :=
  match x, intD i with
  | .v (.string s), some n => match P.underlying t with
    | some .string => if 0 ≤ n then (lkU s.data.toList n.toNat).map fun b => .v (.int .u8 b.toNat) else none
    | _ => none
  | .agg cs, some n => match P.underlying t with
    | some (.array len e) => match tsz P e with
      | some s => if 0 ≤ n ∧ n < (len : Int) then takeD P e (cs.drop (n.toNat * s)) else none
      | none => none
    | _ => none
  | _, _ => none

/-- The offset of a field whose type has cells. -/
def fieldOff (P : Program) (s : TypeId) (f : Nat) : Option Nat :=
  match P.underlying s with
  | some (.struct fs) => match fs[f]? with
    | some x => match tsz P x.type with
      | some n => if n = 0 then none else some x.offset
      | none => none
    | none => none
  | _ => none

def fieldAddrD (P : Program) (s : TypeId) (f : Nat) : D → Option D
  | .rp cs => (fieldOff P s f).map fun o => .rp (cs.drop o)
  | .mp b i g => (fieldOff P s f).map fun o => .mp b i (g + o)
  | _ => none

def elemT (P : Program) (t : TypeId) : Option (TypeId × Nat) :=
  match P.underlying t with
  | some (.slice e) => (tsz P e).map fun n => (e, n)
  | _ => none

def Blk.hasSz (n : Nat) : Option Blk → Bool
  | some (.live sz _) => sz == n
  | _ => false

def indexAddrD (P : Program) (H : List Blk) (t : TypeId) (x i : D) : Option D :=
  match unfl x, intD i with
  | .sl es, some n => match elemT P t with
    | some (_, s) => if 0 ≤ n ∧ n < (es.length : Int) then match es[n.toNat]? with
        | some e => if e.length = s then some (.rp e) else none
        | none => none
      else none
    | none => none
  | .ms b off len _, some n => match elemT P t with
    | some (_, s) => if Blk.hasSz s H[b]? ∧ 0 ≤ n ∧ n < (len : Int) then some (.mp b (off + n.toNat) 0) else none
    | none => none
  | .mp b j f, some n => match P.underlying t with
    | some (.array len e) => match tsz P e with
      | some s => if 0 ≤ n ∧ n < (len : Int) then some (.mp b j (f + n.toNat * s)) else none
      | none => none
    | _ => none
  | .rp cs, some n => match P.underlying t with
    | some (.array len e) => match tsz P e with
      | some s => if 0 ≤ n ∧ n < (len : Int) then some (.rp (cs.drop (n.toNat * s))) else none
      | none => none
    | _ => none
  | _, _ => none

/-- A slice of one-cell elements as the start of an array. -/
def arrPtrD (P : Program) (t : TypeId) (x : D) : Option D :=
  match P.underlying t, unfl x with
  | some (.array len _), .sl es => if 0 < len ∧ len ≤ es.length ∧ es.all (fun e => e.length == 1) = true then some (.rp es.flatten) else none
  | _, _ => none

def nilCheckD : D → Option D
  | .rp cs => some (.rp cs)
  | .mp b i f => some (.mp b i f)
  | .fn (.func f) a b => some (.fn (.func f) a b)
  | _ => none

def lenD : D → Option Int
  | .sl es => some es.length
  | .fl es => some es.length
  | .ms _ _ len _ => some len
  | .nil => some 0
  | _ => none

section
variable {A : Rd} {w : World} {φ : Nat → Loc} {P : Program}

theorem V.int {d : D} {u : Value} {n : Int} (h : V A w φ d u) (hd : intD d = some n) : ∃ k, u = .int k n := by
  cases h with
  | v _ =>
    cases u <;> simp [intD] at hd
    exact ⟨_, by rw [hd]⟩
  | _ => simp [intD] at hd

theorem V.unfl' {d : D} {u : Value} (h : V A w φ d u) : V A w φ (DL.unfl d) u := by
  cases d with
  | fl es => exact h.of_fl
  | _ => exact h

theorem V.v_inv {x u : Value} (h : V A w φ (.v x) u) : u = x := by cases h; rfl

/-- Cells that are read as a value of a type. -/
theorem run_loadVar_take {t : TypeId} {cs : List D} {d : D} (ht : takeD P t cs = some d) {n o : Nat}
    (hc : ∀ (j : Nat) (e : D), cs[j]? = some e → ∃ u, w.cell? ⟨n, o + j, none⟩ = some u ∧ V A w φ e u) :
    ∃ x, (loadVar t ⟨n, o, none⟩).run P w = .ok x w ∧ V A w φ d x := by
  have hadd : ∀ j, (⟨n, o, none⟩ : Addr).add j = ⟨n, o + j, none⟩ := fun j => by
    cases j <;> simp [Addr.add]
  unfold takeD at ht
  cases ha : isAggD P t with
  | none => rw [ha] at ht; cases ht
  | some b =>
    rw [ha] at ht
    cases b with
    | true =>
      cases hs : tsz P t with
      | none => simp [hs] at ht
      | some m =>
        simp only [hs] at ht
        split at ht
        · rename_i hm
          cases ht
          have hcell : ∀ j, j < m → w.cell? ((⟨n, o, none⟩ : Addr).add j) = some ((w.cell? ⟨n, o + j, none⟩).getD default) := fun j hj => by
            rw [hadd]
            obtain ⟨u, hu, _⟩ := hc j _ (List.getElem?_eq_getElem (by omega))
            rw [hu]; rfl
          refine ⟨.agg ((List.range m).map fun j => (w.cell? ⟨n, o + j, none⟩).getD default).toArray, ?_, ?_⟩
          · simp [loadVar, run_isAgg ha, run_sizeOf hs, run_loadCells w ⟨n, o, none⟩ m (fun j => (w.cell? ⟨n, o + j, none⟩).getD default) hcell]
          · refine .agg _ _ _ (by simp; omega) fun i d u h1 h2 => ?_
            rw [List.getElem?_take] at h1
            split at h1
            · rename_i hi
              obtain ⟨y, hy, hv⟩ := hc i d h1
              simp only [List.getElem?_toArray, List.getElem?_map, List.getElem?_range hi, Option.map_some, hy, Option.getD_some, Option.some.injEq] at h2
              exact h2 ▸ hv
            · cases h1
        · cases ht
    | false =>
      simp only at ht
      cases cs with
      | nil => cases ht
      | cons e r =>
        simp only [List.head?_cons, Option.some.injEq] at ht
        subst ht
        obtain ⟨u, hu, hv⟩ := hc 0 e rfl
        refine ⟨u, ?_, hv⟩
        simp only [Nat.add_zero] at hu
        simp [loadVar, run_isAgg ha, hu]

theorem V.part {t : TypeId} {cs : List D} {vs : Array Value} {o : Nat} {d : D} (hl : vs.size = cs.length)
    (h : ∀ (i : Nat) (d : D) (u : Value), cs[i]? = some d → vs[i]? = some u → V A w φ d u) (ht : takeD P t (cs.drop o) = some d) :
    ∃ x, (Go.part t vs o).run P w = .ok x w ∧ V A w φ d x := by
  unfold takeD at ht
  cases ha : isAggD P t with
  | none => rw [ha] at ht; cases ht
  | some b =>
    rw [ha] at ht
    cases b with
    | true =>
      cases hs : tsz P t with
      | none => simp [hs] at ht
      | some m =>
        simp only [hs] at ht
        split at ht
        · rename_i hm
          cases ht
          simp only [List.length_drop] at hm
          refine ⟨_, by simp only [Go.part, Sem.run_bind, run_isAgg ha, Result.andThen, run_sizeOf hs, if_true, Sem.run_pure]; rfl, ?_⟩
          refine .agg _ _ _ (by simp; omega) fun i d u h1 h2 => ?_
          rw [List.getElem?_take] at h1
          split at h1
          · rw [List.getElem?_drop] at h1
            refine h (o + i) d u h1 ?_
            rw [Array.getElem?_extract] at h2
            split at h2
            · exact h2
            · cases h2
          · cases h1
        · cases ht
    | false =>
      simp only [List.head?_drop] at ht
      have hlt : o < cs.length := (List.getElem?_eq_some_iff.1 ht).1
      have hlt' : o < vs.size := by omega
      refine ⟨vs[o], ?_, h o d _ ht (by simp [hlt'])⟩
      simp only [Go.part, Sem.run_bind, run_isAgg ha, Result.andThen, Bool.false_eq_true, if_false]
      simp [hlt']

theorem run_equal_bool {t : TypeId} (h : P.underlying t = some .bool) (a b : Bool) : (Op.equal t (.bool a) (.bool b)).run P w = .ok (a == b) w := by
  have key : ∀ d : Nat, (Op.equalIn (d + 1) t (.bool a) (.bool b)).run P w = .ok (a == b) w := fun d => by
    unfold Op.equalIn
    simp only [Sem.run_bind, run_underlying h, Result.andThen, Sem.run_pure]
  exact key 9999

theorem V.agg_inv {cs : List D} {u : Value} (h : V A w φ (.agg cs) u) : ∃ vs, u = .agg vs ∧ vs.size = cs.length ∧ ∀ (i : Nat) (d : D) (x : Value), cs[i]? = some d → vs[i]? = some x → V A w φ d x := by
  cases h with
  | agg _ _ vs h1 h2 => exact ⟨vs, rfl, h1, h2⟩
theorem run_eqCells : ∀ (n d : Nat), n ≤ d → ∀ {cs ds : List D} {xs ys : Array Value}, (xs.size = cs.length ∧ ∀ (i : Nat) (d : D) (x : Value), cs[i]? = some d → xs[i]? = some x → V A w φ d x) → (ys.size = ds.length ∧ ∀ (i : Nat) (d : D) (x : Value), ds[i]? = some d → ys[i]? = some x → V A w φ d x) →
    ∀ (fs : List Field) (b : Bool), eqCells P n cs ds fs = some b → (Op.eqFields (d + 1) xs ys fs).run P w = .ok b w := by
  intro n
  induction n with
  | zero => intro d _ cs ds xs ys _ _ fs b h; cases h
  | succ n ihn =>
    intro d hd cs ds xs ys hx hy fs
    unfold eqCells
    induction fs with
    | nil => intro b h; cases h; simp [Op.eqFields]
    | cons f fs ih =>
      intro b h
      unfold eqFold at h
      split at h
      · cases h
      · rename_i hn
        split at h
        · rename_i a b' ha hb'
          cases h
          have ih := ih b' hb'
          have key : ∃ x y, (part f.type xs f.offset).run P w = .ok x w ∧ (part f.type ys f.offset).run P w = .ok y w ∧ (Op.equalIn (d + 1) f.type x y).run P w = .ok a w := by
            split at ha
            · rename_i kt k p k' q hu h1 h2
              split at ha
              · rename_i hk; subst hk
                cases ha
                obtain ⟨x, e1, v1⟩ := V.part hx.1 hx.2 h1
                obtain ⟨y, e2, v2⟩ := V.part hy.1 hy.2 h2
                have := v1.v_inv; subst this
                have := v2.v_inv; subst this
                exact ⟨_, _, e1, e2, run_equalIn_int w d f.type k kt p q hu⟩
              · cases ha
            · rename_i p q hu h1 h2
              cases ha
              obtain ⟨x, e1, v1⟩ := V.part hx.1 hx.2 h1
              obtain ⟨y, e2, v2⟩ := V.part hy.1 hy.2 h2
              have := v1.v_inv; subst this
              have := v2.v_inv; subst this
              exact ⟨_, _, e1, e2, run_equalIn_bool' w d f.type p q hu⟩
            · rename_i p q hu h1 h2
              cases ha
              obtain ⟨x, e1, v1⟩ := V.part hx.1 hx.2 h1
              obtain ⟨y, e2, v2⟩ := V.part hy.1 hy.2 h2
              have := v1.v_inv; subst this
              have := v2.v_inv; subst this
              refine ⟨_, _, e1, e2, ?_⟩
              rw [run_equalIn_string w d f.type p q hu, ByteArray.toList_eq, ByteArray.toList_eq]
            · rename_i gs ps qs hu h1 h2
              split at ha
              · rename_i hs
                obtain ⟨x, e1, v1⟩ := V.part hx.1 hx.2 h1
                obtain ⟨y, e2, v2⟩ := V.part hy.1 hy.2 h2
                obtain ⟨us, rfl, hu1⟩ := v1.agg_inv
                obtain ⟨vs, rfl, hv1⟩ := v2.agg_inv
                obtain ⟨d', rfl⟩ : ∃ d', d = d' + 1 := ⟨d - 1, by omega⟩
                have hf : P.fieldsOf f.type = gs := by simp [Program.fieldsOf, hu]
                refine ⟨_, _, e1, e2, ?_⟩
                rw [run_equalIn_struct w (d' + 1) f.type us vs (by rw [hf]; exact hu) hs, hf]
                exact ihn d' (by omega) hu1 hv1 _ _ ha
              · cases ha
            · cases ha
          obtain ⟨x, y, e1, e2, e3⟩ := key
          simp only [Op.eqFields, if_pos hn, Sem.run_bind, e1, e2, e3, Result.andThen_ok, Sem.run_ite]
          cases a with
          | true => simpa using ih
          | false => simp
        · cases h

theorem run_binD {op : BinOp} {t : TypeId} {x y d : D} {u v : Value} (xo yo : Operand) (hx : V A w φ x u) (hy : V A w φ y v) (h : binD P op t x y = some d) :
    ∃ r, (do eqGuard op t xo yo u v; binOp op t u v : Sem Value).run P w = .ok r w ∧ V A w φ d r := by
  unfold binD at h
  split at h
  · rename_i k a k' b
    have := hx.v_inv; subst this
    have := hy.v_inv; subst this
    split at h
    · rename_i hk; subst hk
      simp only [Option.map_eq_some_iff] at h
      obtain ⟨r, hr, rfl⟩ := h
      refine ⟨r, ?_, .v _ _⟩
      rw [eqGuard_at_int]
      cases op <;> simp only [intBin, Option.some.injEq, reduceCtorEq] at hr <;> first
        | (simp [binOp, bitsBin_ok hr]; done)
        | (subst hr; simp [binOp, Op.intArith, Op.intCmp])
        | (split at hr
           · cases hr
           · rename_i hb; cases hr; simp [binOp, Op.intDiv, hb])
    · cases h
  · rename_i a b
    have := hx.v_inv; subst this
    have := hy.v_inv; subst this
    rw [eqGuard_at_bool]
    split at h
    · rename_i ht
      cases h
      exact ⟨.bool (a == b), by simp [binOp, run_equal_bool ht], .v _ _⟩
    · rename_i ht
      cases h
      exact ⟨.bool (a != b), by simp [binOp, run_equal_bool ht, bne], .v _ _⟩
    · cases h
  · rename_i a b
    have := hx.v_inv; subst this
    have := hy.v_inv; subst this
    simp only [Option.map_eq_some_iff] at h
    obtain ⟨r, hr, rfl⟩ := h
    exact ⟨r, by rw [eqGuard_at_string]; simpa using strBin_ok hr w P, .v _ _⟩
  · rename_i ti vi
    have := hx.v_inv; subst this
    have := hy.v_inv; subst this
    have hg : (eqGuard op t xo yo (.iface ti vi) .nilIface).run P w = .ok () w := by cases op <;> simp [eqGuard]
    have he0 : ∀ (k : Nat) ms, P.underlying t = some (.interface ms) → (Op.equalIn (k + 1) t (.iface ti vi) .nilIface).run P w = .ok false w := fun k ms hm => by
      simp only [Op.equalIn, Sem.run_bind, run_underlying hm, Result.andThen_ok, Sem.run_pure]
    have he : ∀ ms, P.underlying t = some (.interface ms) → (Op.equalIn 10000 t (.iface ti vi) .nilIface).run P w = .ok false w := he0 9999
    split at h
    · rename_i hm
      cases h
      exact ⟨.bool false, by simp only [Sem.run_bind, hg, Result.andThen_ok, binOp, Op.equal, Op.maxDepth, he _ hm, Sem.run_pure], .v _ _⟩
    · rename_i hm
      cases h
      exact ⟨.bool true, by simp only [Sem.run_bind, hg, Result.andThen_ok, binOp, Op.equal, Op.maxDepth, he _ hm, Sem.run_pure, Bool.not_false], .v _ _⟩
    · cases h
  · rename_i cs ds
    obtain ⟨xs, rfl, hx1⟩ := hx.agg_inv
    obtain ⟨ys, rfl, hy1⟩ := hy.agg_inv
    have key : ∀ r, aggEqD P t cs ds = some r → (eqGuard op t xo yo (.agg xs) (.agg ys)).run P w = .ok () w ∧ (Op.equalIn 10000 t (.agg xs) (.agg ys)).run P w = .ok r w := fun r hr => by
      unfold aggEqD at hr
      split at hr
      · rename_i fs hu
        split at hr
        · rename_i hg
          have hf : P.fieldsOf t = fs := by simp [Program.fieldsOf, hu]
          exact ⟨run_eqGuard_agg w op t xo yo xs ys hg.2, by
            rw [show (10000 : Nat) = 9998 + 1 + 1 from rfl, run_equalIn_struct w 9999 t xs ys (by rw [hf]; exact hu) hg.1, hf]
            exact run_eqCells 4 9998 (by omega) hx1 hy1 _ _ hr⟩
        · cases hr
      · cases hr
    split at h
    · simp only [Option.map_eq_some_iff] at h
      obtain ⟨r, hr, rfl⟩ := h
      obtain ⟨k1, k2⟩ := key r hr
      exact ⟨.bool r, by simp only [Sem.run_bind, k1, Result.andThen_ok, run_eql_struct w, k2], .v _ _⟩
    · simp only [Option.map_eq_some_iff] at h
      obtain ⟨r, hr, rfl⟩ := h
      obtain ⟨k1, k2⟩ := key r hr
      exact ⟨.bool (!r), by simp only [Sem.run_bind, k1, Result.andThen_ok, run_neq_struct w, k2], .v _ _⟩
    · cases h
  · cases h

theorem run_unD {op : UnOp} {x d : D} {u : Value} (hx : V A w φ x u) (h : unD op x = some d) : ∃ r, (Op.unary op u).run P w = .ok r w ∧ V A w φ d r := by
  unfold unD at h
  split at h
  · have := hx.v_inv; subst this
    split at h
    · cases h; exact ⟨_, rfl, .v _ _⟩
    · cases h
  · have := hx.v_inv; subst this
    split at h
    · cases h; exact ⟨_, rfl, .v _ _⟩
    · simp only [Option.map_eq_some_iff] at h
      obtain ⟨r, hr, rfl⟩ := h
      exact ⟨r, bitsBin_ok hr w P, .v _ _⟩
    · cases h
  · cases h

theorem run_convD {src dst : TypeId} {x d : D} {u : Value} (hx : V A w φ x u) (h : convD P src dst x = some d) : ∃ r, (convert src dst u).run P w = .ok r w ∧ V A w φ d r := by
  unfold convD at h
  split at h
  · have := hx.v_inv; subst this
    split at h
    · rename_i hs hd
      cases h
      exact ⟨_, by simp only [convert, Sem.run_bind, run_underlying hs, run_underlying hd, Result.andThen, Conv.intToInt, Sem.run_pure], .v _ _⟩
    · cases h
  · have := hx.v_inv; subst this
    split at h
    · rename_i hs hd
      cases h
      exact ⟨_, by simp only [convert, Sem.run_bind, run_underlying hs, run_underlying hd, Result.andThen, Sem.run_pure], .v _ _⟩
    · cases h
  · cases h

theorem run_extractD {x d : D} {u : Value} {i : Nat} (hx : V A w φ x u) (h : extractD x i = some d) : ∃ r, (Instr.extract u i).run P w = .ok r w ∧ V A w φ d r := by
  unfold extractD at h
  split at h
  · cases hx with
    | tup _ cs vs hl hh =>
      have hlt : i < vs.size := by rw [hl]; exact (List.getElem?_eq_some_iff.1 h).1
      exact ⟨vs[i], by simp [Instr.extract, hlt], hh i d _ h (by simp [hlt])⟩
  · cases h

theorem run_fieldD {t : TypeId} {f : Nat} {x d : D} {u : Value} (hx : V A w φ x u) (h : fieldD P t f x = some d) : ∃ r, (Instr.field t u f).run P w = .ok r w ∧ V A w φ d r := by
  unfold fieldD at h
  split at h
  · cases hx with
    | agg _ cs vs hl hh =>
      split at h
      · rename_i fs hu
        split at h
        · rename_i y hy
          obtain ⟨r, hr, hv⟩ := V.part hl hh h
          exact ⟨r, by simp [Instr.field, run_underlying hu, hy, asAgg, hr], hv⟩
        · cases h
      · cases h
  · cases h

theorem run_indexD {t : TypeId} {x i d : D} {u v : Value} (hx : V A w φ x u) (hi : V A w φ i v) (h : indexD P t x i = some d) :
    ∃ r, (Instr.index t u v).run P w = .ok r w ∧ V A w φ d r := by
  unfold indexD at h
  split at h
  · rename_i s n hn
    obtain ⟨k, rfl⟩ := hi.int hn
    have := hx.v_inv; subst this
    split at h
    · rename_i hu
      split at h
      · rename_i h0
        simp only [Option.map_eq_some_iff] at h
        obtain ⟨b, hb, rfl⟩ := h
        rw [lkU_eq] at hb
        obtain ⟨hlt, hbe⟩ := List.getElem?_eq_some_iff.1 hb
        have hlt' : n.toNat < s.size := by rw [Array.length_toList] at hlt; exact hlt
        refine ⟨_, ?_, .v _ _⟩
        rw [run_index_string w t s k n hu, dif_pos ⟨h0, by omega⟩]
        rw [← hbe]
        rfl
      · cases h
    · cases h
  · rename_i cs n hn
    obtain ⟨k, rfl⟩ := hi.int hn
    cases hx with
    | agg _ cs vs hl hh =>
      split at h
      · rename_i len e hu
        split at h
        · rename_i s hs
          split at h
          · rename_i hb
            obtain ⟨r, hr, hv⟩ := V.part hl hh h
            exact ⟨r, by simp [Instr.index, run_underlying hu, asIntOf, hb, run_sizeOf hs, hr], hv⟩
          · cases h
        · cases h
      · cases h
  · cases h

theorem run_fieldAddrD {s : TypeId} {f : Nat} {x d : D} {u : Value} (hx : V A w φ x u) (h : fieldAddrD P s f x = some d) :
    ∃ r, (Instr.fieldAt s u f).run P w = .ok r w ∧ V A w φ d r := by
  have key : ∀ o, fieldOff P s f = some o → ∀ a : Addr, (Instr.fieldAt s (.pointer (some a)) f).run P w = .ok (.pointer (some (a.add o))) w := fun o ho a => by
    unfold fieldOff at ho
    split at ho
    · rename_i fs hu
      split at ho
      · rename_i y hy
        split at ho
        · rename_i n hn
          split at ho
          · cases ho
          · rename_i hn0
            cases ho
            simp [Instr.fieldAt, run_underlying hu, hy, Instr.sureAddr, fieldPlace, run_sizeOf hn, hn0]
        · cases ho
      · cases ho
    · cases ho
  have hadd : ∀ n o j, (⟨n, o, none⟩ : Addr).add j = ⟨n, o + j, none⟩ := fun n o j => by cases j <;> simp [Addr.add]
  unfold fieldAddrD at h
  split at h
  · simp only [Option.map_eq_some_iff] at h
    obtain ⟨o, ho, rfl⟩ := h
    cases hx with
    | rp _ cs n off v ha hc hh =>
      refine ⟨_, key o ho _, ?_⟩
      rw [hadd]
      refine .rp _ _ n _ (fun j => v (o + j)) ha (fun j d hd => ?_) (fun j d hd => ?_)
      · rw [List.getElem?_drop] at hd; rw [Nat.add_assoc]; exact hc _ _ hd
      · rw [List.getElem?_drop] at hd; exact hh _ _ hd
  · rename_i b i g
    simp only [Option.map_eq_some_iff] at h
    obtain ⟨o, ho, rfl⟩ := h
    cases hx with
    | mp _ _ _ _ x hh =>
      refine ⟨_, key o ho _, .mp _ _ _ _ _ ?_⟩
      cases hb : φ b with
      | free => rw [hb] at hh; exact hh.elim
      | dead => trivial
      | ph => rw [hb] at hh; exact hh.elim
      | loc n base sz room =>
        rw [hb] at hh
        have hx : x = ⟨n, base + i * sz + g, none⟩ := hh
        subst hx
        rw [hadd]
        show (_ : Addr) = _
        rw [Nat.add_assoc]
  · cases h

theorem flat_one : ∀ {es : List (List D)} {j : Nat} {d : D}, (∀ e, e ∈ es → e.length = 1) → es.flatten[j]? = some d → es[j]? = some [d]
  | [], j, d, _, h => by simp at h
  | e :: es, j, d, h1, h => by
    have h0 := h1 e (List.mem_cons_self ..)
    match e, h0 with
    | [c], _ =>
      rw [List.flatten_cons] at h
      cases j with
      | zero => simp at h; simp [h]
      | succ j =>
        have h2 : es.flatten[j]? = some d := by simpa using h
        simpa using flat_one (fun e he => h1 e (List.mem_cons_of_mem _ he)) h2
theorem run_arrPtrD {t : TypeId} {x d : D} {u : Value} (hx : V A w φ x u) (h : arrPtrD P t x = some d) : ∃ r, (Instr.arrayAt t u).run P w = .ok r w ∧ V A w φ d r := by
  replace hx := hx.unfl'
  unfold arrPtrD at h
  split at h
  · rename_i len et es hu hxe
    rw [hxe] at hx
    split at h
    · rename_i hc
      obtain ⟨h0, h1, h2⟩ := hc
      cases h
      have h3 : ∀ e, e ∈ es → e.length = 1 := fun e he => by
        have := List.all_eq_true.1 h2 e he
        simpa using this
      cases hx with
      | sl0 => simp at h1; omega
      | sl _ _ n off sz cap v ha hcap hsz hcc hh =>
        have hz : sz = 1 := by
          have h5 : 0 < es.length := by omega
          rw [← hsz 0 es[0] (List.getElem?_eq_getElem h5)]
          exact h3 _ (List.getElem_mem h5)
        subst hz
        refine ⟨.pointer (some ⟨n, off, none⟩), by simp [Instr.arrayAt, run_underlying hu, Nat.not_lt.2 h1], ?_⟩
        refine .rp _ _ n off (fun j => v j 0) ha (fun j d hd => ?_) fun j d hd => ?_
        · have := hcc j [d] 0 d (flat_one h3 hd) rfl
          simpa using this
        · exact hh j [d] 0 d (flat_one h3 hd) rfl
    · cases h
  · cases h

theorem run_indexAddrD {H : List Blk} (hsub : ∀ b sz es, H[b]? = some (.live sz es) → φ b = .ph ∨ ∃ n base room, φ b = .loc n base sz room) {t : TypeId} {x i d : D} {u v : Value}
    (hx : V A w φ x u) (hi : V A w φ i v) (h : indexAddrD P H t x i = some d) : ∃ r, (Instr.indexAt t u v).run P w = .ok r w ∧ V A w φ d r := by
  have hadd : ∀ n o j, (⟨n, o, none⟩ : Addr).add j = ⟨n, o + j, none⟩ := fun n o j => by cases j <;> simp [Addr.add]
  have hel : ∀ {e s}, elemT P t = some (e, s) → P.underlying t = some (.slice e) ∧ tsz P e = some s := fun {e s} he => by
    unfold elemT at he
    split at he
    · rename_i e' hu
      simp only [Option.map_eq_some_iff, Prod.mk.injEq] at he
      obtain ⟨n, hn, rfl, rfl⟩ := he
      exact ⟨hu, hn⟩
    · cases he
  replace hx := hx.unfl'
  unfold indexAddrD at h
  split at h
  · rename_i es n hxe hn
    rw [hxe] at hx
    obtain ⟨k, rfl⟩ := hi.int hn
    split at h
    · rename_i et s he
      obtain ⟨hu, hs⟩ := hel he
      split at h
      · rename_i hb
        split at h
        · rename_i e hee
          split at h
          · rename_i hes
            cases h
            cases hx with
            | sl0 => simp at hee
            | sl _ es m off sz cap v ha hcap hsz hc hh =>
              have : sz = s := (hsz _ _ hee).symm.trans hes
              subst this
              refine ⟨_, by simp [Instr.indexAt, run_underlying hu, asIntOf, hb, run_sizeOf hs, hadd]; rfl, ?_⟩
              exact .rp _ _ m _ (fun j => v n.toNat j) ha (fun j d hd => hc _ _ _ _ hee hd) fun j d hd => hh _ _ _ _ hee hd
          · cases h
        · cases h
      · cases h
    · cases h
  · rename_i b off len cap n hxe hn
    rw [hxe] at hx
    obtain ⟨k, rfl⟩ := hi.int hn
    split at h
    · rename_i et s he
      obtain ⟨hu, hs⟩ := hel he
      split at h
      · rename_i hb
        cases h
        obtain ⟨hb1, hb2⟩ := hb
        cases hx with
        | ms _ _ _ _ _ cap' a hlen hcap hh =>
          unfold Blk.hasSz at hb1
          split at hb1
          · rename_i sz es hl
            simp only [beq_iff_eq] at hb1
            subst hb1
            rcases hsub b sz es hl with hp | ⟨m, base, room, hp⟩
            · rw [hp] at hh
              have hz : cap' = 0 := hh
              have : len = 0 := by omega
              subst this
              omega
            · rw [hp] at hh
              obtain ⟨h1, h2⟩ := hh
              have ha : a = some ⟨m, base + off * sz, none⟩ := h2.resolve_left (by omega)
              subst ha
              refine ⟨_, by simp [Instr.indexAt, run_underlying hu, asIntOf, hb2, run_sizeOf hs, hadd]; rfl, .mp _ _ _ _ _ ?_⟩
              rw [hp]
              show (_ : Addr) = _
              rw [Nat.add_mul, Nat.add_zero, Nat.add_assoc]
          · cases hb1
      · cases h
    · cases h
  · rename_i b j f n hxe hn
    rw [hxe] at hx
    obtain ⟨k, rfl⟩ := hi.int hn
    split at h
    · rename_i len e hu
      split at h
      · rename_i s hs
        split at h
        · rename_i hb
          cases h
          cases hx with
          | mp _ _ _ _ x hh =>
            refine ⟨_, by simp [Instr.indexAt, run_underlying hu, asIntOf, Instr.sureAddr, hb, run_sizeOf hs]; rfl, .mp _ _ _ _ _ ?_⟩
            cases hb : φ b with
            | free => rw [hb] at hh; exact hh.elim
            | dead => trivial
            | ph => rw [hb] at hh; exact hh.elim
            | loc m base sz room =>
              rw [hb] at hh
              have hx : x = ⟨m, base + j * sz + f, none⟩ := hh
              subst hx
              rw [hadd]
              show (_ : Addr) = _
              rw [Nat.add_assoc]
        · cases h
      · cases h
    · cases h
  · rename_i cs n hxe hn
    rw [hxe] at hx
    obtain ⟨k, rfl⟩ := hi.int hn
    split at h
    · rename_i len e hu
      split at h
      · rename_i s hs
        split at h
        · rename_i hb
          cases h
          cases hx with
          | rp _ cs m off v ha hc hh =>
            refine ⟨_, by simp [Instr.indexAt, run_underlying hu, asIntOf, Instr.sureAddr, hb, run_sizeOf hs, hadd]; rfl, ?_⟩
            refine .rp _ _ m _ (fun j => v (n.toNat * s + j)) ha (fun j d hd => ?_) (fun j d hd => ?_)
            · rw [List.getElem?_drop] at hd; rw [Nat.add_assoc]; exact hc _ _ hd
            · rw [List.getElem?_drop] at hd; exact hh _ _ hd
        · cases h
      · cases h
    · cases h
  · cases h

theorem V.lenD {x : D} {u : Value} {n : Int} (hx : V A w φ x u) (h : lenD x = some n) : ∃ a m c, u = .slice a m c ∧ (m : Int) = n := by
  cases hx <;> simp [DL.lenD] at h
  all_goals exact ⟨_, _, _, rfl, by simpa using h⟩
end

end
end Go.DL

/- Operations that read, write and make memory, over abstract values. -/
namespace Go.DL
open Go.RowKit

noncomputable section
set_option linter.unusedSectionVars false
variable [Tabs]

def isCell : D → Bool
  | .v x => x.oneCell'
  | .agg _ | .tup _ | .any => false
  | _ => true

def cellsD : D → List D
  | .agg cs => cs
  | d => [d]

section
variable {A : Rd} {w : World} {φ : Nat → Loc} {P : Program}

theorem V.isCell {d : D} {u : Value} (h : V A w φ d u) (hd : isCell d = true) : u.oneCell' = true := by
  cases h <;> first | exact hd | rfl | cases hd

theorem V.cells {d : D} {u : Value} (h : V A w φ d u) (hd : (cellsD d).all DL.isCell = true) :
    u.cells.size = (cellsD d).length ∧ ∀ (j : Nat) (e : D), (cellsD d)[j]? = some e → ∃ y, u.cells[j]? = some y ∧ V A w φ e y ∧ y.oneCell' = true := by
  have one : ∀ {d : D} {u : Value}, V A w φ d u → cellsD d = [d] → DL.isCell d = true → u.cells = #[u] → u.cells.size = (cellsD d).length ∧
      ∀ (j : Nat) (e : D), (cellsD d)[j]? = some e → ∃ y, u.cells[j]? = some y ∧ V A w φ e y ∧ y.oneCell' = true := fun {d u} h h1 h2 h3 => by
    rw [h1, h3]
    refine ⟨rfl, fun j e he => ?_⟩
    cases j with
    | zero => simp at he; subst he; exact ⟨u, rfl, h, h.isCell h2⟩
    | succ j => simp at he
  cases h with
  | agg _ cs vs hl h =>
    refine ⟨hl, fun j e he => ?_⟩
    have hlt : j < vs.size := by rw [hl]; exact (List.getElem?_eq_some_iff.1 he).1
    have hv := h j e vs[j] he (by simp [hlt])
    refine ⟨vs[j], by simp [Value.cells, hlt], hv, hv.isCell ?_⟩
    rw [List.all_eq_true] at hd
    exact hd e (List.mem_of_getElem? he)
  | v _ =>
    have hc : u.oneCell' = true := by simpa [cellsD, DL.isCell] using hd
    exact one (.v _ _) rfl hc (by cases u <;> first | rfl | cases hc)
  | any => simp [cellsD, DL.isCell] at hd
  | tup => simp [cellsD, DL.isCell] at hd
  | nil => exact one (.nil _ _) rfl rfl rfl
  | sl0 => exact one (.sl0 _ _ _) rfl rfl rfl
  | fl0 => exact one (.fl0 _ _ _) rfl rfl rfl
  | fl _ es n off sz cap u ha hcap hsz hc h => exact one (.fl _ es n off sz cap u ha hcap hsz hc h) rfl rfl rfl
  | sl _ es n off sz cap u ha hcap hsz hc h => exact one (.sl _ es n off sz cap u ha hcap hsz hc h) rfl rfl rfl
  | rp _ cs n off u ha hc h => exact one (.rp _ cs n off u ha hc h) rfl rfl rfl
  | ms _ b off len cap cap' a hlen hcap h => exact one (.ms _ b off len cap cap' a hlen hcap h) rfl rfl rfl
  | mp _ b i f x h => exact one (.mp _ b i f x h) rfl rfl rfl
  | mm _ b r h => exact one (.mm _ b r h) rfl rfl rfl
  | fn _ f first caps vs us hl hl' h h' => exact one (.fn _ f first caps vs us hl hl' h h') rfl rfl rfl
end

/-- Part of the own blocks. -/
def Sub (Hm H : List Blk) : Prop := ∀ (b sz : Nat) (es : List (List D)), Hm[b]? = some (.live sz es) → H[b]? = some (.live sz es)
theorem Sub.refl (H : List Blk) : Sub H H := fun _ _ _ h => h

/-- What a pointer points to. -/
def peek (H : List Blk) : D → Option (List D)
  | .rp cs => some (cs.map lowD)
  | .mp b i f => match H[b]? with
    | some (.live _ es) => match es[i]? with
      | some e => some (e.drop f)
      | none => none
    | _ => none
  | _ => none

theorem add_none (n o j : Nat) : (⟨n, o, none⟩ : Addr).add j = ⟨n, o + j, none⟩ := by cases j <;> simp [Addr.add]

section
variable {A : Rd} {w : World} {φ : Nat → Loc} {P : Program} {H Hm : List Blk}

theorem peek_ok (hr : RH A φ w H) (hs : Sub Hm H) {p : D} {u : Value} {cs : List D} (h : V A w φ p u) (hp : peek Hm p = some cs) :
    ∃ n o, u = .pointer (some ⟨n, o, none⟩) ∧ ∀ (j : Nat) (d : D), cs[j]? = some d → ∃ y, w.cell? ⟨n, o + j, none⟩ = some y ∧ V A w φ d y := by
  unfold peek at hp
  split at hp
  · cases hp
    cases h with
    | rp _ cs n off v ha hc hh =>
      refine ⟨n, off, rfl, fun j d hd => ?_⟩
      simp only [List.getElem?_map, Option.map_eq_some_iff] at hd
      obtain ⟨d0, hd, rfl⟩ := hd
      exact ⟨_, hc j d0 hd, (hh j d0 hd).low⟩
  · rename_i b i f
    split at hp
    · rename_i sz es hb
      split at hp
      · rename_i e he
        cases hp
        cases h with
        | mp _ _ _ _ x h =>
          rcases hr.live b sz es (hs _ _ _ hb) with ⟨rfl, _⟩ | ⟨n, base, room, c, ty, hl, hlive⟩
          · simp at he
          · rw [hl] at h
            have hx : x = ⟨n, base + i * sz + f, none⟩ := h
            subst hx
            refine ⟨n, _, rfl, fun j d hd => ?_⟩
            rw [List.getElem?_drop] at hd
            obtain ⟨y, hy, hv⟩ := hlive.val i e _ d he hd
            refine ⟨y, ?_, hv⟩
            rw [cell_of_blk hlive.blk, Nat.add_assoc]
            exact hy
      · cases hp
    · cases hp
  · cases hp

def loadD (P : Program) (H : List Blk) (t : TypeId) (p : D) : Option D :=
  match peek H p with
  | some cs => takeD P t cs
  | none => none

theorem run_loadD (hr : RH A φ w H) (hs : Sub Hm H) {t : TypeId} {p d : D} {u : Value} (h : V A w φ p u) (hp : loadD P Hm t p = some d) :
    ∃ r, (Instr.loadAt t u).run P w = .ok r w ∧ V A w φ d r := by
  unfold loadD at hp
  split at hp
  · rename_i cs hcs
    obtain ⟨n, o, rfl, hc⟩ := peek_ok hr hs h hcs
    obtain ⟨r, h1, h2⟩ := run_loadVar_take hp hc
    exact ⟨r, by simp [Instr.loadAt, Instr.sureAddr, h1], h2⟩
  · cases hp

/-! ### stores -/
theorem rewr_setCell {n k : Nat} {c : Array Value} {ty : TypeId} {u : Value} (h : w.heap[n]? = some (.cells c ty (0, 0))) : Rewr w (w.setCell ⟨n, k, none⟩ u) n (c.setIfInBounds k u) ty := by
  refine ⟨rfl, rfl, rfl, by simp, ?_, fun m hm => ?_⟩
  · simp [World.setCell, Array.getElem?_modify, h]
  · simp only [World.setCell, Array.getElem?_modify]
    rw [if_neg (fun e => hm e.symm)]

theorem Rewr.trans {w w' w'' : World} {n : Nat} {c c' : Array Value} {ty ty' : TypeId} (h : Rewr w w' n c ty) (k : Rewr w' w'' n c' ty') : Rewr w w'' n c' ty' :=
  ⟨k.os.trans h.os, k.tape.trans h.tape, k.output.trans h.output, k.size.trans h.size, k.blk, fun m hm => (k.same m hm).trans (h.same m hm)⟩

/-- An array with some places written. -/
structure Wrote (c : Array Value) (o : Nat) (vs : List Value) (c' : Array Value) : Prop where
  size : c'.size = c.size
  new : ∀ j, j < vs.length → c'[o + j]? = vs[j]?
  old : ∀ k, k < o ∨ o + vs.length ≤ k → c'[k]? = c[k]?

theorem run_storeCells {n : Nat} {ty : TypeId} : ∀ (vs : List Value) (w : World) (c : Array Value) (o i : Nat), w.heap[n]? = some (.cells c ty (0, 0)) → o + i + vs.length ≤ c.size →
    (∀ u ∈ vs, u.oneCell' = true) → ∃ w' c', (storeCells ⟨n, o, none⟩ vs i).run P w = .ok () w' ∧ Rewr w w' n c' ty ∧ Wrote c (o + i) vs c'
  | [], w, c, o, i, h, _, _ => ⟨w, c, rfl, ⟨rfl, rfl, rfl, rfl, h, fun _ _ => rfl⟩, rfl, fun j hj => absurd hj (Nat.not_lt_zero _), fun _ _ => rfl⟩
  | u :: vs, w, c, o, i, h, hl, h1 => by
    simp only [List.length_cons] at hl
    have hr := rewr_setCell (k := o + i) (u := u) h
    obtain ⟨w', c', h2, h3, h4⟩ := run_storeCells vs (w.setCell ⟨n, o + i, none⟩ u) (c.setIfInBounds (o + i) u) o (i + 1) hr.blk (by simp; omega) fun x hx => h1 x (List.mem_cons_of_mem _ hx)
    have hcell : w.cell? ⟨n, o + i, none⟩ = some (c[o + i]'(by omega)) := by rw [cell_of_blk h]; simp
    have hfz : w.frozen? ⟨n, o + i, none⟩ = false := by simp [World.frozen?, h]
    refine ⟨w', c', ?_, hr.trans h3, ?_⟩
    · simp only [storeCells, Sem.run_bind, add_none]
      rw [run_store P w _ u _ (h1 u (List.mem_cons_self ..))]
      simp only [hcell, hfz, Bool.false_eq_true, if_false, Result.andThen, h2]
    · refine ⟨by rw [h4.size]; simp, fun j hj => ?_, fun k hk => ?_⟩
      · cases j with
        | zero => rw [h4.old (o + i + 0) (by omega), Nat.add_zero, Array.getElem?_setIfInBounds, if_pos rfl, if_pos (by omega)]; rfl
        | succ j =>
          have := h4.new j (by simpa using hj)
          rw [show o + i + (j + 1) = o + (i + 1) + j by omega, this]; simp
      · have hk' : k < o + i ∨ o + i + (vs.length + 1) ≤ k := by simpa using hk
        have h5 : k < o + (i + 1) ∨ o + (i + 1) + vs.length ≤ k := by omega
        have h6 : ¬ o + i = k := by omega
        rw [h4.old k h5, Array.getElem?_setIfInBounds, if_neg h6]

/-- A cell group written into an element. -/
def splice (e : List D) (f : Nat) (ds : List D) : List D := e.take f ++ ds ++ e.drop (f + ds.length)

theorem splice_length {e : List D} {f : Nat} {ds : List D} (h : f + ds.length ≤ e.length) : (splice e f ds).length = e.length := by simp [splice]; omega
theorem splice_get {e : List D} {f : Nat} {ds : List D} (h : f + ds.length ≤ e.length) {k : Nat} {d : D} (hd : (splice e f ds)[k]? = some d) :
    (f ≤ k ∧ k < f + ds.length ∧ ds[k - f]? = some d) ∨ ((k < f ∨ f + ds.length ≤ k) ∧ e[k]? = some d) := by
  unfold splice at hd
  have hf : f ≤ e.length := by omega
  rcases Nat.lt_or_ge k f with h1 | h1
  · rw [List.append_assoc, List.getElem?_append_left (by simp; omega), List.getElem?_take, if_pos h1] at hd
    exact .inr ⟨.inl h1, hd⟩
  · rcases Nat.lt_or_ge k (f + ds.length) with h2 | h2
    · rw [List.getElem?_append_left (by simp; omega), List.getElem?_append_right (by simp; omega)] at hd
      simp only [List.length_take, Nat.min_eq_left hf] at hd
      exact .inl ⟨h1, h2, hd⟩
    · rw [List.getElem?_append_right (by simp; omega)] at hd
      simp only [List.length_append, List.length_take, Nat.min_eq_left hf, List.getElem?_drop] at hd
      exact .inr ⟨.inr h2, by rw [← hd]; congr 1; omega⟩

def storeD (P : Program) (H : List Blk) (t : TypeId) (p d : D) : Option (Nat × Blk) :=
  match p with
  | .mp b i f => match H[b]? with
    | some (.live sz es) => match es[i]? with
      | some e => if (cellsD d).all isCell = true ∧ tsz P t = some (cellsD d).length ∧ f + (cellsD d).length ≤ e.length then some (b, .live sz (es.set i (splice e f (cellsD d)))) else none
      | none => none
    | _ => none
  | _ => none

theorem run_storeD {G : Gh} (hG : Stab G) {st : St} {a : Act} (hr : FRc G st a w A φ) (hs : Sub Hm st.H) {t : TypeId} {p d : D} {u x : Value} (hp : V A w φ p u) (hx : V A w φ d x)
    {b : Nat} {k : Blk} (h : storeD P Hm t p d = some (b, k)) : ∃ w', (Instr.storeAt t u x).run P w = .ok () w' ∧ FRc G { st with H := st.H.set b k } a w' A φ := by
  unfold storeD at h
  split at h
  · rename_i b' i f
    split at h
    · rename_i sz es hb
      split at h
      · rename_i e he
        split at h
        · rename_i hc
          cases h
          obtain ⟨hc1, hc2, hc3⟩ := hc
          obtain ⟨hv1, hv2⟩ := hx.cells hc1
          rcases hr.rh.live b sz es (hs _ _ _ hb) with ⟨rfl, _⟩ | ⟨n, base, room, c, ty, hl, hlive⟩
          · simp at he
          cases hp with
          | mp _ _ _ _ y hy =>
            rw [hl] at hy
            have hy : y = ⟨n, base + i * sz + f, none⟩ := hy
            subst hy
            have hi : i < es.length := (List.getElem?_eq_some_iff.1 he).1
            have hel : e.length = sz := hlive.len i e he
            have hsize := hlive.size
            have hfit := hlive.fits
            have hmul : i * sz + sz ≤ room * sz := by rw [← Nat.succ_mul]; exact Nat.mul_le_mul_right _ (by omega)
            obtain ⟨w', c', h1, h2, h3⟩ := run_storeCells (P := P) (n := n) (ty := ty) x.cells.toList w c (base + i * sz + f) 0 hlive.blk (by simp [hv1]; omega)
              (fun y hy => by
                obtain ⟨j, hj, rfl⟩ := List.mem_iff_getElem.1 hy
                simp only [Array.length_toList] at hj
                obtain ⟨y, hy1, _, hy2⟩ := hv2 j _ (List.getElem?_eq_getElem (by omega))
                simp only [Array.getElem?_eq_getElem hj, Option.some.injEq] at hy1
                simpa [hy1] using hy2)
            refine ⟨w', ?_, ?_⟩
            · have hne : ¬ x.cells.size ≠ (cellsD d).length := by simp [hv1]
              simp only [Instr.storeAt, Instr.sureAddr, storeVar, Sem.run_bind, Sem.run_pure, Result.andThen, run_sizeOf hc2, if_neg hne, h1]
            · have hcell : ∀ (k : Nat) (g : List D) (j : Nat) (d' : D), es[k]? = some g → g[j]? = some d' → ¬ (k = i ∧ f ≤ j ∧ j < f + (cellsD d).length) →
                  c'[base + k * sz + j]? = c[base + k * sz + j]? := fun k g j d' hk hj hne => by
                refine h3.old _ ?_
                simp only [Array.length_toList, hv1, Nat.add_zero]
                have hgl : g.length = sz := hlive.len k g hk
                have hjl : j < sz := by rw [← hgl]; exact (List.getElem?_eq_some_iff.1 hj).1
                rcases Nat.lt_trichotomy k i with h4 | h4 | h4
                · left
                  have : k * sz + sz ≤ i * sz := by rw [← Nat.succ_mul]; exact Nat.mul_le_mul_right _ h4
                  omega
                · subst h4
                  have : ¬ (f ≤ j ∧ j < f + (cellsD d).length) := fun h5 => hne ⟨rfl, h5⟩
                  omega
                · right
                  have : i * sz + sz ≤ k * sz := by rw [← Nat.succ_mul]; exact Nat.mul_le_mul_right _ h4
                  omega
              refine hr.rewr hG hl h2 (List.getElem?_eq_some_iff.1 (hs _ _ _ hb)).1 _ (by simpa using hfit) (by rw [h3.size]; exact hsize) (fun k g hk => ?_) (fun k g j d' hk hj => ?_)
              · by_cases hik : i = k
                · subst hik
                  rw [List.getElem?_set_self hi] at hk; cases hk; rw [splice_length hc3]; exact hel
                · rw [List.getElem?_set_ne hik] at hk; exact hlive.len k g hk
              · by_cases hik : i = k
                · subst hik
                  rw [List.getElem?_set_self hi] at hk; cases hk
                  rcases splice_get hc3 hj with ⟨h5, h6, h7⟩ | ⟨h5, h6⟩
                  · obtain ⟨y, hy1, hy2, _⟩ := hv2 _ _ h7
                    refine ⟨y, ?_, hy2⟩
                    have := h3.new (j - f) (by simp [hv1]; omega)
                    rw [show base + i * sz + f + 0 + (j - f) = base + i * sz + j by omega] at this
                    rw [this]; simpa using hy1
                  · obtain ⟨y, hy1, hy2⟩ := hlive.val i e j d' he h6
                    exact ⟨y, by rw [hcell i e j d' he h6 (by omega)]; exact hy1, hy2⟩
                · rw [List.getElem?_set_ne hik] at hk
                  obtain ⟨y, hy1, hy2⟩ := hlive.val k g j d' hk hj
                  exact ⟨y, by rw [hcell k g j d' hk hj (by omega)]; exact hy1, hy2⟩
        · cases h
      · cases h
    · cases h
  · cases h

/-! ### new blocks -/
def zeroD (P : Program) (t : TypeId) : Option (List D) := ((P.info? t).bind (·.zero)).map fun z => z.cells.toList.map ofV

theorem run_zeroD {t : TypeId} {z : List D} (h : zeroD P t = some z) : ∃ x, (∀ w : World, (zeroValue t).run P w = .ok x w) ∧ x.cells.size = z.length ∧
    ∀ (j : Nat) (d : D), z[j]? = some d → ∃ y, x.cells[j]? = some y ∧ V A w φ d y := by
  simp only [zeroD, Option.map_eq_some_iff, Option.bind_eq_some_iff] at h
  obtain ⟨x, ⟨i, hi, hx⟩, rfl⟩ := h
  refine ⟨x, fun w => by simp [zeroValue, run_typeInfo hi, hx], by simp, fun j d hd => ?_⟩
  simp only [List.getElem?_map, Option.map_eq_some_iff] at hd
  obtain ⟨y, hy, rfl⟩ := hd
  exact ⟨y, by simpa using hy, .ofV y⟩

section
variable {G : Gh} (hG : Stab G) {st : St} {a : Act} {s : Nat}

theorem run_box (hG : Stab G) (hr : FRc G st a w A φ) (hs : st.H[s]? = some .free) {t : TypeId} {d : D} {x : Value} (hx : V A w φ d x) (hc : (cellsD d).all isCell = true) :
    ∃ r w' φ', (Instr.box t x).run P w = .ok r w' ∧ V A w' φ' (.mp s 0 0) r ∧ FRc G { st with H := st.H.set s (.live (cellsD d).length [cellsD d]) } a w' A φ' := by
  obtain ⟨h1, h2⟩ := hx.cells hc
  refine ⟨.pointer (some ⟨w.heap.size, 0, none⟩), w.alloc (.cells x.cells t), _, by simp [Instr.box, newVar, newRow], .mp _ _ _ _ _ ?_, hr.new hG hs x.cells t _ [cellsD d] (by simp [h1]) (fun i e he => ?_) (fun i e j d' he hd => ?_)⟩
  · rw [upd_same]; show (_ : Addr) = _; simp
  · cases i <;> simp at he; subst he; rfl
  · cases i <;> simp at he; subst he
    obtain ⟨y, h3, h4, _⟩ := h2 j d' hd
    exact ⟨y, by simpa using h3, h4⟩

theorem run_allocD (hG : Stab G) (hr : FRc G st a w A φ) (hs : st.H[s]? = some .free) {t : TypeId} {z : List D} (hz : zeroD P t = some z) :
    ∃ r w' φ', (Instr.alloc t true (.tuple #[])).run P w = .ok r w' ∧ V A w' φ' (.mp s 0 0) r ∧ FRc G { st with H := st.H.set s (.live z.length [z]) } a w' A φ' := by
  obtain ⟨x, h0, h1, h2⟩ := run_zeroD (A := A) (w := w) (φ := φ) hz
  refine ⟨.pointer (some ⟨w.heap.size, 0, none⟩), w.alloc (.cells x.cells t), _, by simp [Instr.alloc, h0, newVar, newRow], .mp _ _ _ _ _ ?_, hr.new hG hs x.cells t _ [z] (by simp [h1]) (fun i e he => ?_) (fun i e j d' he hd => ?_)⟩
  · rw [upd_same]; show (_ : Addr) = _; simp
  · cases i <;> simp at he; subst he; rfl
  · cases i <;> simp at he; subst he
    obtain ⟨y, h3, h4⟩ := h2 j d' hd
    exact ⟨y, by simpa using h3, h4⟩
end
end
end
end Go.DL

/- Literals of structs and slices, make, slicing, append and copy, over abstract values. -/
namespace Go.DL
open Go.RowKit

noncomputable section
set_option linter.unusedSectionVars false
variable [Tabs]

/-- Abstract cells stand for values. -/
structure CR (A : Rd) (w : World) (φ : Nat → Loc) (cs : List D) (vs : Array Value) : Prop where
  size : vs.size = cs.length
  val : ∀ (j : Nat) (d : D), cs[j]? = some d → ∃ y, vs[j]? = some y ∧ V A w φ d y

def fillD (place : Nat → Option (Nat × Nat)) (cells : List D) : List (Nat × D) → Option (List D)
  | [] => some cells
  | (i, d) :: rest => match place i with
    | none => none
    | some (off, size) => if (cellsD d).length = size ∧ (cellsD d).all isCell = true ∧ off + size ≤ cells.length then fillD place (splice cells off (cellsD d)) rest else none

def placesD (P : Program) : List Field → Option (List (Nat × Nat))
  | [] => some []
  | f :: r => match tsz P f.type, placesD P r with
    | some n, some l => some ((f.offset, n) :: l)
    | _, _ => none

def buildD (P : Program) (t : TypeId) (parts : List (Nat × D)) : Option D :=
  match zeroD P t, P.underlying t with
  | some z, some (.struct fs) => match placesD P fs.toList with
    | some pl => (fillD (fun i => pl[i]?) z parts).map .agg
    | none => none
  | some z, some (.array _ e) => match tsz P e with
    | some s => (fillD (fun i => some (i * s, s)) z parts).map .agg
    | none => none
  | _, _ => none

/-- The elements of a slice literal. -/
def rowsD (s : Nat) (es : List (List D)) : List (Nat × D) → Option (List (List D))
  | [] => some es
  | (i, d) :: rest => if (cellsD d).length = s ∧ (cellsD d).all isCell = true ∧ i < es.length then rowsD s (es.set i (cellsD d)) rest else none

section
variable {A : Rd} {w : World} {φ : Nat → Loc} {P : Program} {H Hm : List Blk}

theorem foldl_set (off : Nat) : ∀ (l : List (Value × Nat)) (s : Nat) (vs : List Value) (cs : Array Value), l = vs.zipIdx s → off + s + vs.length ≤ cs.size →
    Wrote cs (off + s) vs (l.foldl (fun cs (c, j) => cs.setIfInBounds (off + j) c) cs)
  | _, s, [], cs, rfl, _ => ⟨rfl, fun j hj => absurd hj (Nat.not_lt_zero _), fun _ _ => rfl⟩
  | _, s, v :: vs, cs, rfl, h => by
    simp only [List.length_cons] at h
    simp only [List.zipIdx_cons, List.foldl_cons]
    have ih := foldl_set off _ (s + 1) vs (cs.setIfInBounds (off + s) v) rfl (by simp; omega)
    refine ⟨by rw [ih.size]; simp, fun j hj => ?_, fun k hk => ?_⟩
    · cases j with
      | zero => rw [ih.old (off + s + 0) (by omega), Nat.add_zero, Array.getElem?_setIfInBounds, if_pos rfl, if_pos (by omega)]; rfl
      | succ j =>
        have := ih.new j (by simpa using hj)
        rw [show off + s + (j + 1) = off + (s + 1) + j by omega, this]; simp
    · have hk' : k < off + s ∨ off + s + (vs.length + 1) ≤ k := by simpa using hk
      have h5 : k < off + (s + 1) ∨ off + (s + 1) + vs.length ≤ k := by omega
      have h6 : ¬ off + s = k := by omega
      rw [ih.old k h5, Array.getElem?_setIfInBounds, if_neg h6]

theorem wrote_fill {cs : Array Value} {off : Nat} {u : Value} (h : off + u.cells.size ≤ cs.size) :
    Wrote cs off u.cells.toList (u.cells.zipIdx.foldl (fun cs (c, j) => cs.setIfInBounds (off + j) c) cs) := by
  rw [← Array.foldl_toList, Array.toList_zipIdx]
  have := foldl_set off _ 0 u.cells.toList cs rfl (by simpa using h)
  simpa using this

theorem CR.splice {cs : List D} {vs vs' : Array Value} {off : Nat} {d : D} {u : Value} (h : CR A w φ cs vs) (hv : V A w φ d u) (hc : (cellsD d).all isCell = true)
    (hfit : off + (cellsD d).length ≤ cs.length) (hw : Wrote vs off u.cells.toList vs') : CR A w φ (DL.splice cs off (cellsD d)) vs' := by
  obtain ⟨h1, h2⟩ := hv.cells hc
  refine ⟨by rw [hw.size, splice_length hfit, h.size], fun j e he => ?_⟩
  rcases splice_get hfit he with ⟨h3, h4, h5⟩ | ⟨h3, h4⟩
  · obtain ⟨y, hy, hyv, _⟩ := h2 _ _ h5
    refine ⟨y, ?_, hyv⟩
    have := hw.new (j - off) (by simp [h1]; omega)
    rw [show off + (j - off) = j by omega] at this
    rw [this]; simpa using hy
  · obtain ⟨y, hy, hyv⟩ := h.val j e h4
    exact ⟨y, by rw [hw.old j (by simpa [h1] using h3)]; exact hy, hyv⟩

theorem fill_ok {place : Nat → Option (Nat × Nat)} {t : List D} {a : Act} (ht : TR A w φ t a.tmps) : ∀ (ps : List (Nat × Operand)) (cs cs' : List D) (vs : Array Value), CR A w φ cs vs →
    fillD place cs (ps.map fun p => (p.1, ev t p.2)) = some cs' → ∃ vs', Instr.fill place vs (ps.map fun p => (p.1, a.eval p.2)) = some vs' ∧ CR A w φ cs' vs'
  | [], cs, cs', vs, h, he => by simp [fillD] at he; subst he; exact ⟨vs, rfl, h⟩
  | (i, x) :: ps, cs, cs', vs, h, he => by
    simp only [List.map_cons, fillD] at he
    cases hp : place i with
    | none => rw [hp] at he; cases he
    | some p =>
      obtain ⟨off, size⟩ := p
      simp only [hp] at he
      split at he
      · rename_i hc
        obtain ⟨hc1, hc2, hc3⟩ := hc
        obtain ⟨h1, _⟩ := (ht.ev x).cells hc2
        have hfit : off + (a.eval x).cells.size ≤ vs.size := by rw [h1, h.size, hc1]; exact hc3
        obtain ⟨vs', hv1, hv2⟩ := fill_ok ht ps _ cs' _ (h.splice (ht.ev x) hc2 (by rw [hc1]; exact hc3) (wrote_fill hfit)) he
        refine ⟨vs', ?_, hv2⟩
        have hne : ¬ (((decide ((a.eval x).cells.size ≠ size)) || (decide (off + (a.eval x).cells.size > vs.size))) = true) := by simp; omega
        simp only [List.map_cons, Instr.fill, hp]
        rw [if_neg hne]
        exact hv1
      · cases he

theorem run_placesD : ∀ (fs : List Field) (pl : List (Nat × Nat)), placesD P fs = some pl → ∀ w : World,
    (fs.mapM fun f => do pure (f.offset, ← sizeOf f.type) : Sem (List (Nat × Nat))).run P w = .ok pl w
  | [], pl, h, w => by simp [placesD] at h; subst h; rfl
  | f :: r, pl, h, w => by
    simp only [placesD] at h
    split at h
    · rename_i n l hn hl
      cases h
      have hr := run_placesD r l hl w
      simp only [List.mapM_cons, Sem.run_bind, run_sizeOf hn, Result.andThen, Sem.run_pure, hr]
    · cases h

theorem run_buildD {t : TypeId} {tm : List D} {a : Act} (ht : TR A w φ tm a.tmps) (ps : Array (Nat × Operand)) {d : D} (h : buildD P t (ps.toList.map fun p => (p.1, ev tm p.2)) = some d) :
    ∃ r, (Instr.build t (ps.map fun p => (p.1, a.eval p.2))).run P w = .ok r w ∧ V A w φ d r := by
  have fin : ∀ {cs : List D} {vs : Array Value}, CR A w φ cs vs → V A w φ (.agg cs) (.agg vs) := fun h =>
    .agg _ _ _ h.size fun i d u h1 h2 => let ⟨y, h3, h4⟩ := h.val i d h1; by rw [h3] at h2; cases h2; exact h4
  unfold buildD at h
  split at h
  · rename_i z fs hz hu
    obtain ⟨x, h0, h1, h2⟩ := run_zeroD (A := A) (w := w) (φ := φ) hz
    split at h
    · rename_i pl hp
      simp only [Option.map_eq_some_iff] at h
      obtain ⟨cs, hc, rfl⟩ := h
      obtain ⟨vs', hv1, hv2⟩ := fill_ok ht ps.toList z cs x.cells ⟨h1, h2⟩ hc
      refine ⟨.agg vs', ?_, fin hv2⟩
      have hm : (fs.mapM fun f => do pure (f.offset, ← sizeOf f.type) : Sem (Array (Nat × Nat))).run P w = .ok pl.toArray w := by
        rw [Array.mapM_eq_mapM_toList, Sem.run_map, run_placesD _ _ hp]; rfl
      have hpl : (fun i : Nat => pl.toArray[i]?) = fun i : Nat => pl[i]? := by funext i; simp
      simp only [Instr.build, Sem.run_bind, h0, Result.andThen, run_underlying hu, hm, hpl, Array.toList_map, hv1, Sem.run_pure]
    · cases h
  · rename_i z len e hz hu
    obtain ⟨x, h0, h1, h2⟩ := run_zeroD (A := A) (w := w) (φ := φ) hz
    split at h
    · rename_i s hs
      simp only [Option.map_eq_some_iff] at h
      obtain ⟨cs, hc, rfl⟩ := h
      obtain ⟨vs', hv1, hv2⟩ := fill_ok ht ps.toList z cs x.cells ⟨h1, h2⟩ hc
      refine ⟨.agg vs', ?_, fin hv2⟩
      simp only [Instr.build, Sem.run_bind, h0, Result.andThen, run_underlying hu, run_sizeOf hs, Array.toList_map, hv1, Sem.run_pure]
    · cases h
  · cases h

/-- Elements of s cells each stand for a row of cells. -/
structure RR (A : Rd) (w : World) (φ : Nat → Loc) (s : Nat) (es : List (List D)) (vs : Array Value) : Prop where
  size : vs.size = es.length * s
  len : ∀ (i : Nat) (e : List D), es[i]? = some e → e.length = s
  val : ∀ (i : Nat) (e : List D) (j : Nat) (d : D), es[i]? = some e → e[j]? = some d → ∃ y, vs[i * s + j]? = some y ∧ V A w φ d y

theorem RR.set {s : Nat} {es : List (List D)} {vs vs' : Array Value} {i : Nat} {d : D} {u : Value} (h : RR A w φ s es vs) (hv : V A w φ d u) (hc : (cellsD d).all isCell = true)
    (hs : (cellsD d).length = s) (hi : i < es.length) (hw : Wrote vs (i * s) u.cells.toList vs') : RR A w φ s (es.set i (cellsD d)) vs' := by
  obtain ⟨h1, h2⟩ := hv.cells hc
  refine ⟨by rw [hw.size, h.size]; simp, fun k g hk => ?_, fun k g j e hk hj => ?_⟩
  · by_cases hik : i = k
    · subst hik; rw [List.getElem?_set_self hi] at hk; cases hk; exact hs
    · rw [List.getElem?_set_ne hik] at hk; exact h.len k g hk
  · by_cases hik : i = k
    · subst hik
      rw [List.getElem?_set_self hi] at hk; cases hk
      obtain ⟨y, hy, hyv, _⟩ := h2 j e hj
      exact ⟨y, by rw [hw.new j (by simp [h1]; exact (List.getElem?_eq_some_iff.1 hj).1)]; simpa using hy, hyv⟩
    · rw [List.getElem?_set_ne hik] at hk
      obtain ⟨y, hy, hyv⟩ := h.val k g j e hk hj
      refine ⟨y, ?_, hyv⟩
      have hjl : j < s := by rw [← h.len k g hk]; exact (List.getElem?_eq_some_iff.1 hj).1
      rw [hw.old (k * s + j) ?_]; exact hy
      simp only [Array.length_toList, h1, hs]
      rcases Nat.lt_or_ge k i with h4 | h4
      · left
        have : k * s + s ≤ i * s := by rw [← Nat.succ_mul]; exact Nat.mul_le_mul_right _ h4
        omega
      · right
        have : i * s + s ≤ k * s := by rw [← Nat.succ_mul]; exact Nat.mul_le_mul_right _ (by omega)
        omega

theorem rows_ok {s : Nat} {t : List D} {a : Act} (ht : TR A w φ t a.tmps) : ∀ (ps : List (Nat × Operand)) (es es' : List (List D)) (vs : Array Value), RR A w φ s es vs →
    rowsD s es (ps.map fun p => (p.1, ev t p.2)) = some es' → ∃ vs', Instr.fill (fun i => some (i * s, s)) vs (ps.map fun p => (p.1, a.eval p.2)) = some vs' ∧ RR A w φ s es' vs' ∧ es'.length = es.length
  | [], es, es', vs, h, he => by simp [rowsD] at he; subst he; exact ⟨vs, rfl, h, rfl⟩
  | (i, x) :: ps, es, es', vs, h, he => by
    simp only [List.map_cons, rowsD] at he
    split at he
    · rename_i hc
      obtain ⟨hc1, hc2, hc3⟩ := hc
      obtain ⟨h1, _⟩ := (ht.ev x).cells hc2
      have hmul : i * s + s ≤ es.length * s := by rw [← Nat.succ_mul]; exact Nat.mul_le_mul_right _ hc3
      have hfit : i * s + (a.eval x).cells.size ≤ vs.size := by rw [h1, h.size, hc1]; exact hmul
      obtain ⟨vs', hv1, hv2, hv3⟩ := rows_ok ht ps _ es' _ (h.set (ht.ev x) hc2 hc1 hc3 (wrote_fill hfit)) he
      refine ⟨vs', ?_, hv2, by rw [hv3]; simp⟩
      have hne : ¬ (((decide ((a.eval x).cells.size ≠ s)) || (decide (i * s + (a.eval x).cells.size > vs.size))) = true) := by simp; omega
      simp only [List.map_cons, Instr.fill]
      rw [if_neg hne]
      exact hv1
    · cases he

theorem zero_rows {z : List D} {x : Value} (h1 : x.cells.size = z.length) (h2 : ∀ (j : Nat) (d : D), z[j]? = some d → ∃ y, x.cells[j]? = some y ∧ V A w φ d y) (n : Nat) :
    RR A w φ z.length (List.replicate n z) ((Array.range (n * z.length)).map (x.cells[· % x.cells.size]!)) := by
  refine ⟨by simp, fun i e he => ?_, fun i e j d he hd => ?_⟩
  · rw [List.getElem?_replicate] at he; split at he <;> cases he; rfl
  · rw [List.getElem?_replicate] at he
    split at he
    · rename_i hi
      cases he
      obtain ⟨y, hy, hv⟩ := h2 j d hd
      refine ⟨y, ?_, hv⟩
      have hj : j < z.length := (List.getElem?_eq_some_iff.1 hd).1
      have hlt : i * z.length + j < n * z.length := by
        have : i * z.length + z.length ≤ n * z.length := by rw [← Nat.succ_mul]; exact Nat.mul_le_mul_right _ hi
        omega
      have hmod : (i * z.length + j) % z.length = j := by rw [Nat.mul_comm, Nat.mul_add_mod]; exact Nat.mod_eq_of_lt hj
      simp only [Array.getElem?_map, Array.getElem?_range, hlt, if_true, Option.map_some, h1, hmod]
      have hj' : j < x.cells.size := by omega
      rw [Array.getElem?_eq_getElem hj', Option.some.injEq] at hy
      simp [hj', hy]
    · cases he

def buildSliceD (P : Program) (t : TypeId) (len : Nat) (parts : List (Nat × D)) : Option (Nat × List (List D)) :=
  match elemT P t with
  | some (e, s) => match zeroD P e with
    | some z => if 0 < s ∧ z.length = s ∧ len * s ≤ 16777216 then (rowsD s (List.replicate len z) parts).map fun es => (s, es) else none
    | none => none
  | none => none

theorem elemT_ok {t e : TypeId} {s : Nat} (h : elemT P t = some (e, s)) : P.underlying t = some (.slice e) ∧ tsz P e = some s := by
  unfold elemT at h
  split at h
  · rename_i e' hu
    simp only [Option.map_eq_some_iff, Prod.mk.injEq] at h
    obtain ⟨n, hn, rfl, rfl⟩ := h
    exact ⟨hu, hn⟩
  · cases h

section
variable {G : Gh} (hG : Stab G) {st : St} {a : Act} {s : Nat}

theorem run_buildSliceD (hG : Stab G) (hr : FRc G st a w A φ) (hs : st.H[s]? = some .free) {t : TypeId} {len : Nat} (ps : Array (Nat × Operand)) {sz : Nat} {es : List (List D)}
    (h : buildSliceD P t len (ps.toList.map fun p => (p.1, ev st.t p.2)) = some (sz, es)) :
    ∃ r w' φ', (Instr.buildSlice t len (ps.map fun p => (p.1, a.eval p.2))).run P w = .ok r w' ∧ V A w' φ' (.ms s 0 len len) r ∧ FRc G { st with H := st.H.set s (.live sz es) } a w' A φ' := by
  unfold buildSliceD at h
  split at h
  · rename_i e s' he
    obtain ⟨hu, hts⟩ := elemT_ok he
    split at h
    · rename_i z hz
      split at h
      · rename_i hc
        obtain ⟨hc1, hc2, hc3⟩ := hc
        simp only [Option.map_eq_some_iff, Prod.mk.injEq] at h
        obtain ⟨es', hes, rfl, rfl⟩ := h
        obtain ⟨x, h0, h1, h2⟩ := run_zeroD (A := A) (w := w) (φ := φ) hz
        subst hc2
        have hzr := zero_rows h1 h2 len
        obtain ⟨vs', hv1, hv2, hv3⟩ := rows_ok hr.tr ps.toList _ es' _ hzr hes
        have hlen : es'.length = len := by rw [hv3]; simp
        refine ⟨.slice (some ⟨w.heap.size, 0, none⟩) len len, w.alloc (.cells vs' e), _, ?_, .ms _ _ _ _ _ _ _ (Nat.le_refl _) (Nat.le_refl _) ?_,
          hr.new hG hs vs' e z.length es' (by rw [hv2.size]; exact Nat.le_refl _) hv2.len fun i e j d h3 h4 => hv2.val i e j d h3 h4⟩
        · have hn : ¬ (len * z.length > 2 ^ 24) := by simpa using hc3
          rcases Nat.eq_zero_or_pos len with hl | hl
          · subst hl
            have hnil : ps.toList = [] := by
              cases hp : ps.toList with
              | nil => rfl
              | cons p r => rw [hp] at hes; simp [rowsD] at hes
            rw [hnil] at hv1
            simp only [List.map_nil, Instr.fill, Option.some.injEq] at hv1
            subst hv1
            simp only [Instr.buildSlice, Sem.run_bind, run_underlying hu, Result.andThen, run_sizeOf hts, Nat.zero_mul, Array.toList_map, hnil]
            simp [Instr.fill, newRow, Array.range_zero']
          · have hne : ¬ (len * z.length = 0) := Nat.ne_of_gt (Nat.mul_pos hl hc1)
            simp only [Instr.buildSlice, Sem.run_bind, run_underlying hu, Result.andThen, run_sizeOf hts, if_neg hn, if_neg hne, h0, Array.toList_map]
            simp [hv1, newRow]
        · rw [upd_same]
          exact ⟨by omega, .inr (by simp)⟩
      · cases h
    · cases h
  · cases h

def makeSliceD (P : Program) (t : TypeId) (l c : D) : Option (Nat × Nat × Nat × List (List D)) :=
  match intD l, intD c, elemT P t with
  | some l, some c, some (e, s) => match zeroD P e with
    | some z => if 0 ≤ l ∧ l ≤ c ∧ (P.bytesOf e : Int) * c ≤ 281474976710656 ∧ c ≤ 9223372036854775807 ∧ 0 < s ∧ z.length = s then some (l.toNat, c.toNat, s, List.replicate c.toNat z) else none
    | none => none
  | _, _, _ => none

theorem run_makeSliceD (hG : Stab G) (hr : FRc G st a w A φ) (hs : st.H[s]? = some .free) {t : TypeId} {l c : D} {u v : Value} (hl : V A w φ l u) (hc : V A w φ c v) {ln cn sz : Nat} {es : List (List D)}
    (h : makeSliceD P t l c = some (ln, cn, sz, es)) :
    ∃ r w' φ', (Instr.makeSlice t u v).run P w = .ok r w' ∧ V A w' φ' (.ms s 0 ln cn) r ∧ FRc G { st with H := st.H.set s (.live sz es) } a w' A φ' := by
  unfold makeSliceD at h
  split at h
  · rename_i l' c' e s' hl' hc' he
    obtain ⟨hu, hts⟩ := elemT_ok he
    obtain ⟨k1, rfl⟩ := hl.int hl'
    obtain ⟨k2, rfl⟩ := hc.int hc'
    split at h
    · rename_i z hz
      split at h
      · rename_i hb
        obtain ⟨b1, b2, b3, b4, b5, b6⟩ := hb
        cases h
        have hz0 := hz
        simp only [zeroD, Option.map_eq_some_iff, Option.bind_eq_some_iff] at hz0
        obtain ⟨x, ⟨i, hi, hx⟩, rfl⟩ := hz0
        have hisz : i.size = sz := by simp only [tsz, hi, Option.map_some, Option.some.injEq] at hts; exact hts
        have hby : P.bytesOf e = i.bytes := by simp [Program.bytesOf, hi]
        rw [hby] at b3
        have hrun := run_make (P := P) w t e i x hu hi hx k1 k2 l' c' b1 b2 b3 b4
        have hxs : x.cells.size = sz := by simpa using b6
        have hzr := zero_rows (A := A) (w := w) (φ := φ) (z := x.cells.toList.map ofV) (x := x) (by simp) (fun j d hd => by
          simp only [List.getElem?_map, Option.map_eq_some_iff] at hd
          obtain ⟨y, hy, rfl⟩ := hd
          exact ⟨y, by simpa using hy, .ofV y⟩) c'.toNat
        have hcells : madeCells x.cells (c'.toNat * i.size) = (Array.range (c'.toNat * (x.cells.toList.map ofV).length)).map (x.cells[· % x.cells.size]!) := by
          rw [hisz, ← b6]; rfl
        refine ⟨_, _, upd φ s (.loc w.heap.size 0 sz c'.toNat), hrun, .ms _ _ _ _ _ _ _ (by omega) (Nat.le_refl _) ?_, ?_⟩
        · rw [upd_same]; exact ⟨by omega, .inr (by simp)⟩
        · have := hr.new hG hs (madeCells x.cells (c'.toNat * i.size)) e sz (List.replicate c'.toNat (x.cells.toList.map ofV)) (by rw [hcells, hzr.size]; simp [hxs])
            (fun j g hg => by rw [hzr.len j g hg, b6]) (fun j g k d hg hd => by rw [hcells, ← b6]; exact hzr.val j g k d hg hd)
          simpa using this
      · cases h
    · cases h
  · cases h
end
end
end
end Go.DL
