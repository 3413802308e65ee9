/- A program logic over deep values: the abstract values, how they stand to the model's worlds, and what steps keep. Nothing of a program stands here. -/
import Derived.RangeFuncIn
import Derived.Laws.Cells
import Derived.Below
set_option linter.all false
namespace Go.DL
open Go.RowKit

noncomputable section

/-- Abstract values: an exact value; a struct; a tuple; a read-only slice (fl: of memory that the call has made); a read-only pointer to cells; a slice of, and a pointer into, an own block; a function value; a slice of length and capacity 0; anything; a map of one's own. -/
inductive D where
  | v (x : Value)
  | agg (cs : List D)
  | tup (ds : List D)
  | sl (es : List (List D))
  | fl (es : List (List D))
  | rp (cs : List D)
  | ms (b off len cap : Nat)
  | mp (b i f : Nat)
  | fn (f : Fn) (first caps : List D)
  | nil
  | any
  | mm (b : Nat)
  deriving Inhabited

/-- Where an own block lies: nowhere yet; given up; an empty one without memory; from a cell of a block on, with room for so many elements of a size. -/
inductive Loc where
  | free
  | dead
  | ph
  | loc (n base sz room : Nat)

def Loc.le (x y : Loc) : Prop := x = .free ∨ y = .dead ∨ x = y
theorem Loc.le_refl (x : Loc) : x.le x := .inr (.inr rfl)
theorem Loc.le_trans {x y z : Loc} (h : x.le y) (k : y.le z) : x.le z := by
  rcases h with h | h | h
  · exact .inl h
  · subst h; rcases k with k | k | k
    · cases k
    · exact .inr (.inl k)
    · exact .inr (.inl k.symm)
  · subst h; exact k

def Loc.msOk : Loc → (off cap' : Nat) → Option Addr → Prop
  | .free, _, _, _ => False
  | .dead, _, _, _ => True
  | .ph, _, cap', _ => cap' = 0
  | .loc n base sz room, off, cap', a => off + cap' ≤ room ∧ (cap' = 0 ∨ a = some ⟨n, base + off * sz, none⟩)

def Loc.mpOk : Loc → (i f : Nat) → Addr → Prop
  | .free, _, _, _ => False
  | .dead, _, _, _ => True
  | .ph, _, _, _ => False
  | .loc n base sz _, i, f, x => x = ⟨n, base + i * sz + f, none⟩

def Loc.mmOk : Loc → (r : Nat) → Prop
  | .dead, _ => True
  | .loc n _ _ _, r => r = n
  | _, _ => False

def nowhere : Nat → Loc := fun _ => .free

/-- The blocks that are read-only; those from b0 on are of the call's own making. -/
structure Rd where
  on : Nat → Prop
  b0 : Nat
instance : CoeFun Rd (fun _ => Nat → Prop) := ⟨Rd.on⟩

def Rd.all (A : Rd) : Rd := ⟨A.on, 0⟩
def Rd.fresh (A : Rd) : Rd := ⟨fun n => A n ∧ A.b0 ≤ n, 0⟩

/-- An abstract value stands for a value, over read-only blocks A and own blocks φ. -/
inductive V : Rd → World → (Nat → Loc) → D → Value → Prop where
  | v {A : Rd} {w : World} (φ : Nat → Loc) (x : Value) : V A w φ (.v x) x
  | any {A : Rd} {w : World} (φ : Nat → Loc) (x : Value) : V A w φ .any x
  | nil {A : Rd} {w : World} (φ : Nat → Loc) (a : Option Addr) : V A w φ .nil (.slice a 0 0)
  | agg {A : Rd} {w : World} (φ : Nat → Loc) (cs : List D) (vs : Array Value) (hl : vs.size = cs.length)
      (h : ∀ (i : Nat) (d : D) (u : Value), cs[i]? = some d → vs[i]? = some u → V A w φ d u) : V A w φ (.agg cs) (.agg vs)
  | tup {A : Rd} {w : World} (φ : Nat → Loc) (cs : List D) (vs : Array Value) (hl : vs.size = cs.length)
      (h : ∀ (i : Nat) (d : D) (u : Value), cs[i]? = some d → vs[i]? = some u → V A w φ d u) : V A w φ (.tup cs) (.tuple vs)
  | sl0 {A : Rd} {w : World} (φ : Nat → Loc) (a : Option Addr) (cap : Nat) : V A w φ (.sl []) (.slice a 0 cap)
  | sl {A : Rd} {w : World} (φ : Nat → Loc) (es : List (List D)) (n off sz cap : Nat) (u : Nat → Nat → Value) (hA : A n) (hcap : es.length ≤ cap)
      (hsz : ∀ (i : Nat) (e : List D), es[i]? = some e → e.length = sz)
      (hc : ∀ (i : Nat) (e : List D) (j : Nat) (d : D), es[i]? = some e → e[j]? = some d → w.cell? ⟨n, off + i * sz + j, none⟩ = some (u i j))
      (h : ∀ (i : Nat) (e : List D) (j : Nat) (d : D), es[i]? = some e → e[j]? = some d → V A.all w nowhere d (u i j)) : V A w φ (.sl es) (.slice (some ⟨n, off, none⟩) es.length cap)
  | fl0 {A : Rd} {w : World} (φ : Nat → Loc) (a : Option Addr) (cap : Nat) : V A w φ (.fl []) (.slice a 0 cap)
  | fl {A : Rd} {w : World} (φ : Nat → Loc) (es : List (List D)) (n off sz cap : Nat) (u : Nat → Nat → Value) (hA : A n ∧ A.b0 ≤ n) (hcap : es.length ≤ cap)
      (hsz : ∀ (i : Nat) (e : List D), es[i]? = some e → e.length = sz)
      (hc : ∀ (i : Nat) (e : List D) (j : Nat) (d : D), es[i]? = some e → e[j]? = some d → w.cell? ⟨n, off + i * sz + j, none⟩ = some (u i j))
      (h : ∀ (i : Nat) (e : List D) (j : Nat) (d : D), es[i]? = some e → e[j]? = some d → V A.fresh w nowhere d (u i j)) : V A w φ (.fl es) (.slice (some ⟨n, off, none⟩) es.length cap)
  | rp {A : Rd} {w : World} (φ : Nat → Loc) (cs : List D) (n off : Nat) (u : Nat → Value) (hA : A n)
      (hc : ∀ (j : Nat) (d : D), cs[j]? = some d → w.cell? ⟨n, off + j, none⟩ = some (u j))
      (h : ∀ (j : Nat) (d : D), cs[j]? = some d → V A.all w nowhere d (u j)) : V A w φ (.rp cs) (.pointer (some ⟨n, off, none⟩))
  | ms {A : Rd} {w : World} (φ : Nat → Loc) (b off len cap cap' : Nat) (a : Option Addr) (hlen : len ≤ cap) (hcap : cap ≤ cap')
      (h : (φ b).msOk off cap' a) : V A w φ (.ms b off len cap) (.slice a len cap')
  | mp {A : Rd} {w : World} (φ : Nat → Loc) (b i f : Nat) (x : Addr)
      (h : (φ b).mpOk i f x) : V A w φ (.mp b i f) (.pointer (some x))
  | fn {A : Rd} {w : World} (φ : Nat → Loc) (f : Fn) (first caps : List D) (vs us : Array Value) (hl : vs.size = first.length) (hl' : us.size = caps.length)
      (h : ∀ (i : Nat) (d : D) (u : Value), first[i]? = some d → vs[i]? = some u → V A w φ d u)
      (h' : ∀ (i : Nat) (d : D) (u : Value), caps[i]? = some d → us[i]? = some u → V A w φ d u) : V A w φ (.fn f first caps) (.func f vs us)
  | mm {A : Rd} {w : World} (φ : Nat → Loc) (b r : Nat) (h : (φ b).mmOk r) : V A w φ (.mm b) (.map (some r))

theorem V.mono {A A' : Rd} {w w' : World} {φ φ' : Nat → Loc} {d : D} {x : Value} (hA : ∀ n, A n → A' n) (hw : ∀ n, A n → w'.heap[n]? = w.heap[n]?)
    (hφ : ∀ b, (φ b).le (φ' b)) (h : V A w φ d x) (hb : A'.b0 ≤ A.b0 := by exact Nat.le_refl _) : V A' w' φ' d x := by
  induction h generalizing A' φ' with
  | v φ x => exact .v _ _
  | any φ x => exact .any _ _
  | nil φ a => exact .nil _ _
  | agg φ cs vs hl h ih => exact .agg _ _ _ hl fun i d u h1 h2 => ih i d u h1 h2 hA hw hφ hb
  | tup φ cs vs hl h ih => exact .tup _ _ _ hl fun i d u h1 h2 => ih i d u h1 h2 hA hw hφ hb
  | sl0 φ a cap => exact .sl0 _ _ _
  | sl φ es n off sz cap u ha hcap hsz hcc h ih =>
    exact .sl _ _ n off sz cap u (hA n ha) hcap hsz (fun i e j d h1 h2 => (World.cell?_of_block (a := ⟨n, _, none⟩) (hw n ha)).trans (hcc i e j d h1 h2))
      fun i e j d h1 h2 => ih i e j d h1 h2 hA hw (fun _ => Loc.le_refl _) (Nat.le_refl _)
  | fl0 φ a cap => exact .fl0 _ _ _
  | fl φ es n off sz cap u ha hcap hsz hcc h ih =>
    exact .fl _ _ n off sz cap u ⟨hA n ha.1, Nat.le_trans hb ha.2⟩ hcap hsz (fun i e j d h1 h2 => (World.cell?_of_block (a := ⟨n, _, none⟩) (hw n ha.1)).trans (hcc i e j d h1 h2))
      fun i e j d h1 h2 => ih i e j d h1 h2 (fun m hm => ⟨hA m hm.1, Nat.le_trans hb hm.2⟩) (fun m hm => hw m hm.1) (fun _ => Loc.le_refl _) (Nat.le_refl _)
  | rp φ cs n off u ha hcc h ih =>
    exact .rp _ _ n off u (hA n ha) (fun j d h1 => (World.cell?_of_block (a := ⟨n, _, none⟩) (hw n ha)).trans (hcc j d h1)) fun j d h1 => ih j d h1 hA hw (fun _ => Loc.le_refl _) (Nat.le_refl _)
  | ms φ b off len cap cap' a hlen hcap h =>
    refine .ms _ b off len cap cap' a hlen hcap ?_
    rcases hφ b with e | e | e
    · rw [e] at h; exact h.elim
    · rw [e]; trivial
    · rw [← e]; exact h
  | mp φ b i f x h =>
    refine .mp _ b i f x ?_
    rcases hφ b with e | e | e
    · rw [e] at h; exact h.elim
    · rw [e]; trivial
    · rw [← e]; exact h
  | fn φ f first caps vs us hl hl' h h' ih ih' => exact .fn _ f _ _ _ _ hl hl' (fun i d u h1 h2 => ih i d u h1 h2 hA hw hφ hb) fun i d u h1 h2 => ih' i d u h1 h2 hA hw hφ hb
  | mm φ b r h =>
    refine .mm _ b r ?_
    rcases hφ b with e | e | e
    · rw [e] at h; exact h.elim
    · rw [e]; trivial
    · rw [← e]; exact h

/-- What is fresh is read-only. -/
theorem V.of_fl {A : Rd} {w : World} {φ : Nat → Loc} {es : List (List D)} {x : Value} (h : V A w φ (.fl es) x) : V A w φ (.sl es) x := by
  cases h with
  | fl0 => exact .sl0 _ _ _
  | fl _ _ n off sz cap u ha hcap hsz hcc h =>
    exact .sl _ _ n off sz cap u ha.1 hcap hsz hcc fun i e j d h1 h2 => V.mono (A := A.fresh) (A' := A.all) (fun _ x => x.1) (fun _ _ => rfl) (fun _ => Loc.le_refl _) (h i e j d h1 h2)

/-- An own block: not yet laid; given up; elements of sz cells each; a map (its clock, and its entries: key, value, birth). -/
inductive Blk where
  | free
  | dead
  | live (sz : Nat) (es : List (List D))
  | tab (clk : Nat) (es : List (Value × D × Nat))
  deriving Inhabited

/-- The cells of an own block. -/
structure LiveAt (A : Rd) (w : World) (φ : Nat → Loc) (n base room sz : Nat) (c : Array Value) (ty : TypeId) (es : List (List D)) : Prop where
  blk : w.heap[n]? = some (.cells c ty (0, 0))
  fits : es.length ≤ room
  size : base + room * sz ≤ c.size
  len : ∀ (i : Nat) (e : List D), es[i]? = some e → e.length = sz
  val : ∀ (i : Nat) (e : List D) (j : Nat) (d : D), es[i]? = some e → e[j]? = some d → ∃ u, c[base + i * sz + j]? = some u ∧ V A w φ d u

/-- The entries of an own map. -/
structure TabAt (A : Rd) (w : World) (φ : Nat → Loc) (n clk : Nat) (es : List (Value × D × Nat)) (ms : Array MapEntry) : Prop where
  blk : w.heap[n]? = some (.map ms clk)
  len : ms.size = es.length
  ent : ∀ (i : Nat) (k : Value) (d : D) (b : Nat) (e : MapEntry), es[i]? = some (k, d, b) → ms[i]? = some e → e.key = k ∧ e.born = b ∧ V A w φ d e.val

def own (φ : Nat → Loc) (n : Nat) : Prop := ∃ b base sz room, φ b = .loc n base sz room

structure RH (A : Rd) (φ : Nat → Loc) (w : World) (H : List Blk) : Prop where
  out : ∀ b, H[b]? = none → φ b = .free
  free : ∀ b, H[b]? = some .free → φ b = .free
  dead : ∀ b, H[b]? = some .dead → φ b = .dead
  live : ∀ b sz es, H[b]? = some (.live sz es) → (es = [] ∧ φ b = .ph) ∨ ∃ n base room c ty, φ b = .loc n base sz room ∧ LiveAt A w φ n base room sz c ty es
  tab : ∀ b clk es, H[b]? = some (.tab clk es) → ∃ n ms, φ b = .loc n 0 0 0 ∧ TabAt A w φ n clk es ms
  inj : ∀ b b' n base sz room base' sz' room', φ b = .loc n base sz room → φ b' = .loc n base' sz' room' → b = b'
  dis : ∀ n, own φ n → ¬ A n
  lt : ∀ n, A n → n < w.heap.size
  olt : ∀ n, own φ n → n < w.heap.size
  ofr : ∀ n, own φ n → A.b0 ≤ n
  bsz : A.b0 ≤ w.heap.size

/-- What steps of a frame keep of a world: all but its own blocks O. -/
structure Ext (w : World) (O : Nat → Prop) (w' : World) (O' : Nat → Prop) : Prop where
  os : w'.os = w.os
  tape : w'.tape = w.tape
  output : w'.output = w.output
  size : w.heap.size ≤ w'.heap.size
  same : ∀ n, n < w.heap.size → ¬ O n → w'.heap[n]? = w.heap[n]?
  own : ∀ n, O' n → O n ∨ w.heap.size ≤ n

theorem Ext.refl (w : World) (O : Nat → Prop) : Ext w O w O := ⟨rfl, rfl, rfl, Nat.le_refl _, fun _ _ _ => rfl, fun _ h => .inl h⟩
theorem Ext.trans {w w' w'' : World} {O O' O'' : Nat → Prop} (h : Ext w O w' O') (k : Ext w' O' w'' O'') : Ext w O w'' O'' :=
  ⟨k.os.trans h.os, k.tape.trans h.tape, k.output.trans h.output, Nat.le_trans h.size k.size,
   fun n hn ho => (k.same n (Nat.lt_of_lt_of_le hn h.size) fun ho' => (h.own n ho').elim ho (fun x => by omega)).trans (h.same n hn ho),
   fun n hn => (k.own n hn).elim (fun x => h.own n x) (fun x => .inr (Nat.le_trans h.size x))⟩
theorem Ext.sub {w w' : World} {O O' O'' : Nat → Prop} (h : Ext w O w' O') (k : ∀ n, O'' n → O' n) : Ext w O w' O'' := { h with own := fun n hn => h.own n (k n hn) }

/-- What a frame owns, what it may read, and where its own blocks lie. -/
structure Fr where
  O : Nat → Prop
  A : Rd
  φ : Nat → Loc

/-- What a frame's steps keep; the own blocks below N stay in place, or are given up. -/
structure Keep (N : Nat) (w : World) (F : Fr) (w' : World) (F' : Fr) : Prop where
  ext : Ext w F.O w' F'.O
  up : ∀ n, F.A n → F'.A n
  new : ∀ n, F'.A n → F.A n ∨ F.O n ∨ w.heap.size ≤ n
  le : ∀ b, b < N → (F.φ b).le (F'.φ b)
  b0 : F'.A.b0 = F.A.b0

theorem Keep.refl (N : Nat) (w : World) (F : Fr) : Keep N w F w F := ⟨.refl _ _, fun _ x => x, fun _ => .inl, fun _ _ => Loc.le_refl _, rfl⟩
theorem Keep.trans {N : Nat} {w w' w'' : World} {F F' F'' : Fr} (h : Keep N w F w' F') (k : Keep N w' F' w'' F'') : Keep N w F w'' F'' :=
  ⟨h.ext.trans k.ext, fun n x => k.up n (h.up n x), fun n x => by
    rcases k.new n x with y | y | y
    · exact h.new n y
    · exact (h.ext.own n y).elim (fun z => .inr (.inl z)) (fun z => .inr (.inr z))
    · exact .inr (.inr (Nat.le_trans h.ext.size y)), fun b hb => Loc.le_trans (h.le b hb) (k.le b hb), k.b0.trans h.b0⟩

/-- How far the loop is that this frame yields to: the rounds that are done, and whether one has left it. -/
abbrev Gst := Nat × Bool

/-- What a frame's surroundings are: what holds of the world beside the frame, and what a call of a yield function asks. -/
structure Gh where
  N : Nat := 0
  I : Gst → World → Fr → Prop
  Y : Nat → Gst → List D → (Bool → Gst → Prop) → Prop := fun _ _ _ _ => False

def Stab (G : Gh) : Prop := ∀ g w F w' F', G.I g w F → Keep G.N w F w' F' → G.I g w' F'

def Gh.keep (N : Nat) (w : World) (F : Fr) : Gh := { N := N, I := fun _ w' F' => Keep N w F w' F' }
theorem stab_keep (N : Nat) (w : World) (F : Fr) : Stab (Gh.keep N w F) := fun _ _ _ _ _ h k => h.trans k

structure St where
  t : List D
  H : List Blk
  ds : List Nat := []
  g : Gst := (0, false)

def mark (r : Nat) : Deferred := { target := .collected r, args := #[] }

structure TR (A : Rd) (w : World) (φ : Nat → Loc) (t : List D) (tmps : Array Value) : Prop where
  size : tmps.size = t.length
  val : ∀ (i : Nat) (d : D) (u : Value), t[i]? = some d → tmps[i]? = some u → V A w φ d u

def ownAll (φ : Nat → Loc) (ds : List Nat) (n : Nat) : Prop := own φ n ∨ n ∈ ds

structure FRc (G : Gh) (st : St) (a : Act) (w : World) (A : Rd) (φ : Nat → Loc) : Prop where
  rh : RH A φ w st.H
  tr : TR A w φ st.t a.tmps
  gh : G.I st.g w ⟨ownAll φ st.ds, A, φ⟩
  df : a.defers = st.ds.map mark
  dk : ∀ r, r ∈ st.ds → w.heap[r]? = some (.deferred (some [])) ∧ ¬ A r ∧ ¬ own φ r
  nd : st.ds.Nodup

def FR (G : Gh) (st : St) (a : Act) (w : World) : Prop := ∃ A φ, FRc G st a w A φ

/-- A value, exactly; no slice reads as an empty one. -/
def ofV : Value → D
  | .slice none 0 0 => .nil
  | x => .v x
theorem V.ofV {A : Rd} {w : World} {φ : Nat → Loc} (x : Value) : V A w φ (ofV x) x := by
  unfold DL.ofV
  split
  · exact .nil _ _
  · exact .v _ _

/-- What lies at a place of a list: said by the recursor, so that the kernel finds it soon. -/
def lkF (t : List D) : Nat → D := List.rec (motive := fun _ => Nat → D) (fun _ => .any) (fun x _ ih i => Nat.rec (motive := fun _ => D) x (fun j _ => ih j) i) t
theorem lkF_eq : ∀ (t : List D) (i : Nat), lkF t i = t.getD i .any
  | [], _ => rfl
  | _ :: _, 0 => rfl
  | _ :: t, i + 1 => by
    show lkF t i = _
    rw [lkF_eq t]; rfl
/-- The value of an operand. -/
def ev (t : List D) : Operand → D
  | .tmp i => lkF t i
  | .const x => ofV x
  | .global _ => .any
  | .func f => .fn (.func f) [] []

theorem TR.ev {A : Rd} {w : World} {φ : Nat → Loc} {t : List D} {a : Act} (h : TR A w φ t a.tmps) (x : Operand) : V A w φ (ev t x) (a.eval x) := by
  cases x with
  | tmp i =>
    simp only [DL.ev, lkF_eq, Act.eval, List.getD, Array.getD]
    by_cases hi : i < t.length
    · have hi' : i < a.tmps.size := by rw [h.size]; exact hi
      simp only [hi', dif_pos, List.getElem?_eq_getElem hi, Option.getD_some]
      exact h.val i _ _ (List.getElem?_eq_getElem hi) (by simp [hi'])
    · simp only [List.getElem?_eq_none (Nat.le_of_not_lt hi), Option.getD_none]
      exact .any _ _
  | const x => exact V.ofV x
  | global g => exact .any _ _
  | func f => exact .fn _ _ _ _ _ _ rfl rfl (by simp) (by simp)

theorem TR.mono {A A' : Rd} {w w' : World} {φ φ' : Nat → Loc} {t : List D} {tmps : Array Value} (h : TR A w φ t tmps) (hA : ∀ n, A n → A' n)
    (hw : ∀ n, A n → w'.heap[n]? = w.heap[n]?) (hφ : ∀ b, (φ b).le (φ' b)) (hb : A'.b0 ≤ A.b0 := by exact Nat.le_refl _) : TR A' w' φ' t tmps :=
  ⟨h.size, fun i d u h1 h2 => (h.val i d u h1 h2).mono hA hw hφ hb⟩

def setT (t : List D) : Option Tmp → D → List D
  | some i, d => t.set i d
  | none, _ => t

theorem TR.put {A : Rd} {w : World} {φ : Nat → Loc} {t : List D} {a : Act} (h : TR A w φ t a.tmps) (dst : Option Tmp) {d : D} {x : Value} (hv : V A w φ d x) :
    TR A w φ (setT t dst d) (a.put dst x).tmps := by
  cases dst with
  | none => exact h
  | some i =>
    refine ⟨by simp [setT, Act.put, h.size], fun j e u h1 h2 => ?_⟩
    simp only [setT, List.getElem?_set] at h1
    simp only [Act.put, Array.getElem?_setIfInBounds] at h2
    by_cases hij : i = j
    · subst hij
      by_cases hi : i < t.length
      · have hi' : i < a.tmps.size := by rw [h.size]; exact hi
        simp [hi] at h1; simp [hi'] at h2; subst h1; subst h2; exact hv
      · simp [hi] at h1
    · simp [hij] at h1 h2; exact h.val j e u h1 h2

theorem put_defers (a : Act) (dst : Option Tmp) (x : Value) : (a.put dst x).defers = a.defers := by cases dst <;> rfl

end
end Go.DL

/- The steps of a frame's memory: a new block, a store, an append, a sealing, at the level of what own blocks hold. -/
namespace Go.DL
open Go.RowKit

noncomputable section

theorem FRc.value {G : Gh} {st : St} {a : Act} {w : World} {A : Rd} {φ : Nat → Loc} (h : FRc G st a w A φ) (dst : Option Tmp) {d : D} {x : Value}
    (hv : V A w φ d x) : FRc G { st with t := setT st.t dst d } (a.put dst x) w A φ :=
  ⟨h.rh, h.tr.put dst hv, h.gh, by rw [put_defers]; exact h.df, h.dk, h.nd⟩

theorem LiveAt.mono {A A' : Rd} {w w' : World} {φ φ' : Nat → Loc} {n base room sz : Nat} {c : Array Value} {ty : TypeId} {es : List (List D)}
    (h : LiveAt A w φ n base room sz c ty es) (hA : ∀ m, A m → A' m) (hw : ∀ m, A m → w'.heap[m]? = w.heap[m]?) (hφ : ∀ b, (φ b).le (φ' b)) (hn : w'.heap[n]? = w.heap[n]?) (hb : A'.b0 ≤ A.b0 := by exact Nat.le_refl _) :
    LiveAt A' w' φ' n base room sz c ty es :=
  ⟨hn.trans h.blk, h.fits, h.size, h.len, fun i e j d h1 h2 => let ⟨u, hu, hv⟩ := h.val i e j d h1 h2; ⟨u, hu, hv.mono hA hw hφ hb⟩⟩

theorem TabAt.mono {A A' : Rd} {w w' : World} {φ φ' : Nat → Loc} {n clk : Nat} {es : List (Value × D × Nat)} {ms : Array MapEntry}
    (h : TabAt A w φ n clk es ms) (hA : ∀ m, A m → A' m) (hw : ∀ m, A m → w'.heap[m]? = w.heap[m]?) (hφ : ∀ b, (φ b).le (φ' b)) (hn : w'.heap[n]? = w.heap[n]?) (hb : A'.b0 ≤ A.b0 := by exact Nat.le_refl _) :
    TabAt A' w' φ' n clk es ms :=
  ⟨hn.trans h.blk, h.len, fun i k d b e h1 h2 => let ⟨q1, q2, q3⟩ := h.ent i k d b e h1 h2; ⟨q1, q2, q3.mono hA hw hφ hb⟩⟩

def upd (φ : Nat → Loc) (s : Nat) (l : Loc) : Nat → Loc := fun b => if b = s then l else φ b
theorem upd_same (φ : Nat → Loc) (s : Nat) (l : Loc) : upd φ s l s = l := by simp [upd]
theorem upd_other {φ : Nat → Loc} {s b : Nat} {l : Loc} (h : b ≠ s) : upd φ s l b = φ b := by simp [upd, h]
theorem upd_le {φ : Nat → Loc} {s : Nat} {l : Loc} (h : (φ s).le l) (b : Nat) : (φ b).le (upd φ s l b) := by
  by_cases e : b = s
  · subst e; rw [upd_same]; exact h
  · rw [upd_other e]; exact Loc.le_refl _
theorem own_upd {φ : Nat → Loc} {s : Nat} {l : Loc} {n : Nat} (h : own (upd φ s l) n) : (∃ base sz room, l = .loc n base sz room) ∨ ∃ b base sz room, b ≠ s ∧ φ b = .loc n base sz room := by
  obtain ⟨b, base, sz, room, e⟩ := h
  by_cases hb : b = s
  · subst hb; rw [upd_same] at e; exact .inl ⟨_, _, _, e⟩
  · rw [upd_other hb] at e; exact .inr ⟨b, _, _, _, hb, e⟩

/-- Own block s is laid at a place that no other block has; the others stay as they are. -/
theorem RH.lay {A A' : Rd} {φ : Nat → Loc} {w w' : World} {H : List Blk} (h : RH A φ w H) {s : Nat} (hs : s < H.length) {l : Loc} {x : Blk} (hle : (φ s).le l)
    (hw : ∀ m, A m → w'.heap[m]? = w.heap[m]?) (hA : ∀ m, A m → A' m) (hA' : ∀ m, A' m → A m ∨ ∃ base sz room, φ s = .loc m base sz room)
    (ho : ∀ b n base sz room, b ≠ s → φ b = .loc n base sz room → w'.heap[n]? = w.heap[n]?) (hsz : w.heap.size ≤ w'.heap.size)
    (hx : (x = .free → l = .free) ∧ (x = .dead → l = .dead) ∧ ∀ sz es, x = .live sz es → (es = [] ∧ l = .ph) ∨ ∃ n base room c ty, l = .loc n base sz room ∧ LiveAt A' w' (upd φ s l) n base room sz c ty es)
    (hxt : ∀ clk es, x = .tab clk es → ∃ n ms, l = .loc n 0 0 0 ∧ TabAt A' w' (upd φ s l) n clk es ms)
    (hl : ∀ n base sz room, l = .loc n base sz room → n < w'.heap.size ∧ ¬ A' n ∧ (∀ b base sz room, b ≠ s → φ b ≠ .loc n base sz room) ∧ A'.b0 ≤ n) (hb0 : A'.b0 ≤ A.b0 := by exact Nat.le_refl _) :
    RH A' (upd φ s l) w' (H.set s x) := by
  have hle' : ∀ b, (φ b).le (upd φ s l b) := upd_le hle
  refine ⟨fun b hb => ?_, fun b hb => ?_, fun b hb => ?_, fun b sz es hb => ?_, fun b clk es hb => ?_, ?_, ?_, ?_, ?_, ?_, Nat.le_trans hb0 (Nat.le_trans h.bsz hsz)⟩
  · have hne : b ≠ s := fun e => by subst e; simp [hs] at hb
    rw [upd_other hne]; exact h.out b (by simpa [List.getElem?_set, Ne.symm hne] using hb)
  · by_cases hne : b = s
    · subst hne; simp [hs] at hb; rw [upd_same]; exact hx.1 hb
    · rw [upd_other hne]; exact h.free b (by simpa [List.getElem?_set, Ne.symm hne] using hb)
  · by_cases hne : b = s
    · subst hne; simp [hs] at hb; rw [upd_same]; exact hx.2.1 hb
    · rw [upd_other hne]; exact h.dead b (by simpa [List.getElem?_set, Ne.symm hne] using hb)
  · by_cases hne : b = s
    · subst hne; simp [hs] at hb; rw [upd_same]; exact hx.2.2 sz es hb
    · rw [upd_other hne]
      rcases h.live b sz es (by simpa [List.getElem?_set, Ne.symm hne] using hb) with h1 | ⟨n, base, room, c, ty, h1, h2⟩
      · exact .inl h1
      · exact .inr ⟨n, base, room, c, ty, h1, h2.mono hA hw hle' (ho b n base sz room hne h1) hb0⟩
  · by_cases hne : b = s
    · subst hne; simp [hs] at hb; rw [upd_same]; exact hxt clk es hb
    · rw [upd_other hne]
      obtain ⟨n, ms, h1, h2⟩ := h.tab b clk es (by simpa [List.getElem?_set, Ne.symm hne] using hb)
      exact ⟨n, ms, h1, h2.mono hA hw hle' (ho b n 0 0 0 hne h1) hb0⟩
  · intro b b' n base sz room base' sz' room' e e'
    by_cases hb : b = s <;> by_cases hb' : b' = s
    · rw [hb, hb']
    · subst hb; rw [upd_same] at e; rw [upd_other hb'] at e'; exact absurd e' ((hl n base sz room e).2.2.1 b' base' sz' room' hb')
    · subst hb'; rw [upd_same] at e'; rw [upd_other hb] at e; exact absurd e ((hl n base' sz' room' e').2.2.1 b base sz room hb)
    · rw [upd_other hb] at e; rw [upd_other hb'] at e'; exact h.inj b b' n base sz room base' sz' room' e e'
  · intro n hn ha
    rcases own_upd hn with ⟨base, sz, room, e⟩ | ⟨b, base, sz, room, hne, e⟩
    · exact (hl n base sz room e).2.1 ha
    · rcases hA' n ha with h1 | ⟨base', sz', room', h1⟩
      · exact h.dis n ⟨b, base, sz, room, e⟩ h1
      · exact hne (h.inj b s n base sz room base' sz' room' e h1)
  · intro n hn
    rcases hA' n hn with h1 | ⟨base, sz, room, h1⟩
    · exact Nat.lt_of_lt_of_le (h.lt n h1) hsz
    · exact Nat.lt_of_lt_of_le (h.olt n ⟨s, base, sz, room, h1⟩) hsz
  · intro n hn
    rcases own_upd hn with ⟨base, sz, room, e⟩ | ⟨b, base, sz, room, hne, e⟩
    · exact (hl n base sz room e).1
    · exact Nat.lt_of_lt_of_le (h.olt n ⟨b, base, sz, room, e⟩) hsz
  · intro n hn
    rcases own_upd hn with ⟨base, sz, room, e⟩ | ⟨b, base, sz, room, hne, e⟩
    · exact (hl n base sz room e).2.2.2
    · exact Nat.le_trans hb0 (h.ofr n ⟨b, base, sz, room, e⟩)

/-- One more place for an own block. -/
theorem RH.grow {A : Rd} {φ : Nat → Loc} {w : World} {H : List Blk} (h : RH A φ w H) : RH A φ w (H ++ [.free]) := by
  have key : ∀ b x, (H ++ [Blk.free])[b]? = some x → H[b]? = some x ∨ (x = .free ∧ φ b = .free) := fun b x hb => by
    rcases Nat.lt_trichotomy b H.length with h1 | h1 | h1
    · left; rwa [List.getElem?_append_left h1] at hb
    · subst h1; simp at hb; exact .inr ⟨hb.symm, h.out _ (by simp)⟩
    · rw [List.getElem?_append_right (by omega)] at hb
      rw [List.getElem?_eq_none (by simp; omega)] at hb; cases hb
  refine ⟨fun b hb => h.out b ?_, fun b hb => ?_, fun b hb => ?_, fun b sz es hb => ?_, fun b clk es hb => ?_, h.inj, h.dis, h.lt, h.olt, h.ofr, h.bsz⟩
  · rw [List.getElem?_eq_none_iff] at hb ⊢; simp at hb; omega
  · rcases key b _ hb with h1 | ⟨_, h1⟩
    · exact h.free b h1
    · exact h1
  · rcases key b _ hb with h1 | ⟨h1, _⟩
    · exact h.dead b h1
    · cases h1
  · rcases key b _ hb with h1 | ⟨h1, _⟩
    · exact h.live b sz es h1
    · cases h1
  · rcases key b _ hb with h1 | ⟨h1, _⟩
    · exact h.tab b clk es h1
    · cases h1

/-- What lies elsewhere has changed: read-only and own blocks are as they were. -/
theorem RH.move {A : Rd} {φ : Nat → Loc} {w w' : World} {H : List Blk} (h : RH A φ w H) (hA : ∀ m, A m → w'.heap[m]? = w.heap[m]?)
    (ho : ∀ m, own φ m → w'.heap[m]? = w.heap[m]?) (hsz : w.heap.size ≤ w'.heap.size) : RH A φ w' H :=
  ⟨h.out, h.free, h.dead, fun b sz es hb => (h.live b sz es hb).imp id fun ⟨n, base, room, c, ty, h1, h2⟩ =>
      ⟨n, base, room, c, ty, h1, h2.mono (fun _ x => x) hA (fun _ => Loc.le_refl _) (ho n ⟨b, base, sz, room, h1⟩)⟩,
    fun b clk es hb => let ⟨n, ms, h1, h2⟩ := h.tab b clk es hb; ⟨n, ms, h1, h2.mono (fun _ x => x) hA (fun _ => Loc.le_refl _) (ho n ⟨b, 0, 0, 0, h1⟩)⟩,
    h.inj, h.dis, fun n hn => Nat.lt_of_lt_of_le (h.lt n hn) hsz, fun n hn => Nat.lt_of_lt_of_le (h.olt n hn) hsz, h.ofr, Nat.le_trans h.bsz hsz⟩

theorem heap_alloc_lt (w : World) (o : Obj) {m : Nat} (h : m < w.heap.size) : (w.alloc o).heap[m]? = w.heap[m]? := Below.heap_alloc w o m h
theorem heap_alloc_new (w : World) (o : Obj) : (w.alloc o).heap[w.heap.size]? = some o := by show (w.heap.push o)[w.heap.size]? = _; simp

theorem ext_alloc (w : World) (O : Nat → Prop) (o : Obj) {O' : Nat → Prop} (h : ∀ n, O' n → O n ∨ n = w.heap.size) : Ext w O (w.alloc o) O' :=
  ⟨rfl, rfl, rfl, by simp, fun _ hn _ => heap_alloc_lt w o hn, fun n hn => (h n hn).imp id fun e => by omega⟩

/-- A frame in a new world: what is asked. -/
theorem FRc.step {G : Gh} (hG : Stab G) {st : St} {a : Act} {w w' : World} {A A' : Rd} {φ φ' : Nat → Loc} (h : FRc G st a w A φ)
    {H' : List Blk} (hr : RH A' φ' w' H') (he : Ext w (own φ) w' (own φ')) (hA : ∀ m, A m → A' m) (hA' : ∀ m, A' m → A m ∨ own φ m ∨ w.heap.size ≤ m) (hφ : ∀ b, (φ b).le (φ' b)) (hb0 : A'.b0 = A.b0 := by exact rfl) :
    FRc G { st with H := H' } a w' A' φ' := by
  have hsA : ∀ m, A m → w'.heap[m]? = w.heap[m]? := fun m hm => he.same m (h.rh.lt m hm) fun ho => h.rh.dis m ho hm
  refine ⟨hr, h.tr.mono hA hsA hφ (Nat.le_of_eq hb0), hG _ _ _ _ _ h.gh ⟨⟨he.os, he.tape, he.output, he.size, fun n hn ho => he.same n hn fun x => ho (.inl x), fun n hn => ?_⟩, hA, fun n hn => (hA' n hn).imp id (.imp .inl id), fun b _ => hφ b, hb0⟩, h.df, fun r hr => ?_, h.nd⟩
  · rcases hn with hn | hn
    · exact (he.own n hn).imp .inl id
    · exact .inl (.inr hn)
  · obtain ⟨h1, h2, h3⟩ := h.dk r hr
    have hlt : r < w.heap.size := (Array.getElem?_eq_some_iff.1 h1).1
    refine ⟨(he.same r hlt h3).trans h1, fun x => ?_, fun x => ?_⟩
    · rcases hA' r x with y | y | y
      · exact h2 y
      · exact h3 y
      · omega
    · rcases he.own r x with y | y
      · exact h3 y
      · omega

/-- A new block is laid. -/
theorem FRc.newR {G : Gh} (hG : Stab G) {st : St} {a : Act} {w : World} {A : Rd} {φ : Nat → Loc} (h : FRc G st a w A φ) {s : Nat}
    (hs : st.H[s]? = some .free) (c : Array Value) (ty : TypeId) (sz : Nat) (es : List (List D)) (room : Nat) (hroom : es.length ≤ room) (hc : room * sz ≤ c.size)
    (hlen : ∀ (i : Nat) (e : List D), es[i]? = some e → e.length = sz)
    (hv : ∀ (i : Nat) (e : List D) (j : Nat) (d : D), es[i]? = some e → e[j]? = some d → ∃ u, c[i * sz + j]? = some u ∧ V A w φ d u) :
    FRc G { st with H := st.H.set s (.live sz es) } a (w.alloc (.cells c ty)) A (upd φ s (.loc w.heap.size 0 sz room)) := by
  have hlt : s < st.H.length := (List.getElem?_eq_some_iff.1 hs).1
  have hf : φ s = .free := h.rh.free s hs
  have hle : (φ s).le (.loc w.heap.size 0 sz room) := .inl hf
  have hsame : ∀ m, A m → (w.alloc (.cells c ty)).heap[m]? = w.heap[m]? := fun m hm => heap_alloc_lt w _ (h.rh.lt m hm)
  refine h.step hG (h.rh.lay hlt (l := .loc w.heap.size 0 sz room) hle hsame (fun _ x => x) (fun _ x => .inl x)
    (fun b n base sz' room' _ e => heap_alloc_lt w _ (h.rh.olt n ⟨b, _, _, _, e⟩)) (by simp) ⟨by simp, by simp, ?_⟩ (fun _ _ e => by cases e) ?_) ?_ (fun _ x => x) (fun _ x => .inl x) (upd_le hle)
  · intro sz' es' e
    cases e
    refine .inr ⟨_, _, _, c, ty, rfl, heap_alloc_new w _, hroom, by omega, hlen, fun i e j d h1 h2 => ?_⟩
    obtain ⟨u, hu, hv'⟩ := hv i e j d h1 h2
    exact ⟨u, by simpa using hu, hv'.mono (fun _ x => x) hsame (upd_le hle)⟩
  · intro n base sz' room' e
    cases e
    exact ⟨by simp, fun x => Nat.lt_irrefl _ (h.rh.lt _ x), fun b base sz' room' _ e => Nat.lt_irrefl _ (h.rh.olt _ ⟨b, _, _, _, e⟩), h.rh.bsz⟩
  · refine ext_alloc w _ _ fun n hn => ?_
    rcases own_upd hn with ⟨_, _, _, e⟩ | ⟨b, base, sz', room', _, e⟩
    · cases e; exact .inr rfl
    · exact .inl ⟨b, _, _, _, e⟩

theorem FRc.new {G : Gh} (hG : Stab G) {st : St} {a : Act} {w : World} {A : Rd} {φ : Nat → Loc} (h : FRc G st a w A φ) {s : Nat}
    (hs : st.H[s]? = some .free) (c : Array Value) (ty : TypeId) (sz : Nat) (es : List (List D)) (hc : es.length * sz ≤ c.size)
    (hlen : ∀ (i : Nat) (e : List D), es[i]? = some e → e.length = sz)
    (hv : ∀ (i : Nat) (e : List D) (j : Nat) (d : D), es[i]? = some e → e[j]? = some d → ∃ u, c[i * sz + j]? = some u ∧ V A w φ d u) :
    FRc G { st with H := st.H.set s (.live sz es) } a (w.alloc (.cells c ty)) A (upd φ s (.loc w.heap.size 0 sz es.length)) :=
  h.newR hG hs c ty sz es es.length (Nat.le_refl _) hc hlen hv

theorem FRc.drew {G : Gh} (hG : Stab G) {st : St} {a : Act} {w : World} {A : Rd} {φ : Nat → Loc} (h : FRc G st a w A φ) :
    FRc G st a w.drew A φ :=
  h.step hG (h.rh.move (fun _ _ => rfl) (fun _ _ => rfl) (Nat.le_refl _)) ⟨rfl, rfl, rfl, Nat.le_refl _, fun _ _ _ => rfl, fun _ x => .inl x⟩
    (fun _ x => x) (fun _ x => .inl x) fun _ => Loc.le_refl _

theorem FRc.room {G : Gh} {st : St} {a : Act} {w : World} {A : Rd} {φ : Nat → Loc} (h : FRc G st a w A φ) :
    FRc G { st with H := st.H ++ [.free] } a w A φ := ⟨h.rh.grow, h.tr, h.gh, h.df, h.dk, h.nd⟩

theorem set_room (H : List Blk) (x : Blk) : (H ++ [Blk.free]).set H.length x = H ++ [x] := by simp

/-- A world in which one block of cells reads otherwise. -/
structure Rewr (w w' : World) (n : Nat) (c' : Array Value) (ty : TypeId) : Prop where
  os : w'.os = w.os
  tape : w'.tape = w.tape
  output : w'.output = w.output
  size : w'.heap.size = w.heap.size
  blk : w'.heap[n]? = some (.cells c' ty (0, 0))
  same : ∀ m, m ≠ n → w'.heap[m]? = w.heap[m]?

/-- Own block b is written: it holds other elements, perhaps under another number (s), b being given up. -/
theorem FRc.rewr {G : Gh} (hG : Stab G) {st : St} {a : Act} {w w' : World} {A : Rd} {φ : Nat → Loc} (h : FRc G st a w A φ) {b n base room sz : Nat}
    (hb : φ b = .loc n base sz room) {c' : Array Value} {ty : TypeId} (hr : Rewr w w' n c' ty) (hlt : b < st.H.length) (es' : List (List D)) (hfit : es'.length ≤ room) (hsize : base + room * sz ≤ c'.size)
    (hlen : ∀ (i : Nat) (e : List D), es'[i]? = some e → e.length = sz)
    (hv : ∀ (i : Nat) (e : List D) (j : Nat) (d : D), es'[i]? = some e → e[j]? = some d → ∃ u, c'[base + i * sz + j]? = some u ∧ V A w φ d u) :
    FRc G { st with H := st.H.set b (.live sz es') } a w' A φ := by
  have hown : own φ n := ⟨b, _, _, _, hb⟩
  have hsame : ∀ m, A m → w'.heap[m]? = w.heap[m]? := fun m hm => hr.same m fun e => h.rh.dis n hown (e ▸ hm)
  have hup : upd φ b (.loc n base sz room) = φ := by funext x; by_cases e : x = b <;> simp [upd, e, hb]
  have hlay := h.rh.lay (A' := A) (w' := w') hlt (l := .loc n base sz room) (x := .live sz es') (by rw [hb]; exact Loc.le_refl _) hsame (fun _ x => x) (fun _ x => .inl x)
    (fun b' m base' sz' room' hne e => hr.same m fun e' => hne (h.rh.inj b' b n base' sz' room' base sz room (e' ▸ e) hb)) (by rw [hr.size]; exact Nat.le_refl _)
    ⟨by simp, by simp, fun sz' es'' e => by
      cases e
      exact .inr ⟨n, base, room, c', ty, rfl, hr.blk, hfit, hsize, hlen, fun i e j d h1 h2 =>
        let ⟨u, hu, hv'⟩ := hv i e j d h1 h2; ⟨u, hu, hv'.mono (fun _ x => x) hsame (by rw [hup]; exact fun _ => Loc.le_refl _)⟩⟩⟩
    (fun _ _ e => by cases e)
    (fun m base' sz' room' e => by
      cases e
      exact ⟨by rw [hr.size]; exact h.rh.olt n hown, h.rh.dis n hown, fun b' base' sz' room' hne e => hne (h.rh.inj b' b n base' sz' room' base sz room e hb), h.rh.ofr n hown⟩)
  rw [hup] at hlay
  exact h.step hG hlay ⟨hr.os, hr.tape, hr.output, by rw [hr.size]; exact Nat.le_refl _, fun m _ hm => hr.same m fun e => hm (e ▸ hown), fun m hm => .inl hm⟩ (fun _ x => x) (fun _ x => .inl x) fun _ => Loc.le_refl _

end
end Go.DL

/- Giving an own block up, appending, sealing an own block (it is read-only from then on), and how own blocks read (snap). -/
namespace Go.DL
open Go.RowKit

noncomputable section

section
variable {G : Gh} (hG : Stab G) {st : St} {a : Act} {w w' : World} {A : Rd} {φ : Nat → Loc}

theorem RH.kill {H : List Blk} (h : RH A φ w H) {b : Nat} (hb : b < H.length) : RH A (upd φ b .dead) w (H.set b .dead) :=
  h.lay hb (l := .dead) (x := .dead) (.inr (.inl rfl)) (fun _ _ => rfl) (fun _ x => x) (fun _ x => .inl x) (fun _ _ _ _ _ _ _ => rfl) (Nat.le_refl _)
    ⟨by simp, by simp, by simp⟩ (fun _ _ e => by cases e) (fun _ _ _ _ e => by cases e)

theorem FRc.kill (hG : Stab G) (h : FRc G st a w A φ) {b : Nat} (hb : b < st.H.length) : FRc G { st with H := st.H.set b .dead } a w A (upd φ b .dead) :=
  h.step hG (h.rh.kill hb) ⟨rfl, rfl, rfl, Nat.le_refl _, fun _ _ _ => rfl, fun n hn => by
    rcases own_upd hn with ⟨_, _, _, e⟩ | ⟨b, _, _, _, _, e⟩
    · cases e
    · exact .inl ⟨b, _, _, _, e⟩⟩ (fun _ x => x) (fun _ x => .inl x) (upd_le (.inr (.inl rfl)))

/-- Own block b is given up, its memory goes to s, which holds other elements. -/
theorem FRc.renew (hG : Stab G) (h : FRc G st a w A φ) {b s n base sz sz' room : Nat} (hb : φ b = .loc n base sz room) (hs : st.H[s]? = some .free) {c' : Array Value} {ty : TypeId} (hr : Rewr w w' n c' ty)
    (base' room' : Nat) (es' : List (List D)) (hfit : es'.length ≤ room') (hsize : base' + room' * sz' ≤ c'.size)
    (hlen : ∀ (i : Nat) (e : List D), es'[i]? = some e → e.length = sz')
    (hv : ∀ (i : Nat) (e : List D) (j : Nat) (d : D), es'[i]? = some e → e[j]? = some d → ∃ u, c'[base' + i * sz' + j]? = some u ∧ V A w φ d u) :
    FRc G { st with H := (st.H.set b .dead).set s (.live sz' es') } a w' A (upd (upd φ b .dead) s (.loc n base' sz' room')) := by
  have hf : φ s = .free := h.rh.free s hs
  have hslt : s < st.H.length := (List.getElem?_eq_some_iff.1 hs).1
  have hblt : b < st.H.length := by
    rcases Nat.lt_or_ge b st.H.length with x | x
    · exact x
    · rw [h.rh.out b (List.getElem?_eq_none x)] at hb; cases hb
  have hne : s ≠ b := fun e => by rw [e, hb] at hf; cases hf
  have hown : own φ n := ⟨b, _, _, _, hb⟩
  have hsame : ∀ m, A m → w'.heap[m]? = w.heap[m]? := fun m hm => hr.same m fun e => h.rh.dis n hown (e ▸ hm)
  have hk := h.rh.kill hblt
  have hle : ∀ x, (φ x).le (upd (upd φ b .dead) s (.loc n base' sz' room') x) := fun x =>
    Loc.le_trans (upd_le (φ := φ) (s := b) (.inr (.inl rfl)) x) (upd_le (by rw [upd_other hne]; exact .inl hf) x)
  have key : ∀ b' base'' sz'' room'', b' ≠ s → upd φ b .dead b' ≠ .loc n base'' sz'' room'' := fun b' base'' sz'' room'' _ e => by
    by_cases hbb : b' = b
    · subst hbb; rw [upd_same] at e; cases e
    · rw [upd_other hbb] at e; exact hbb (h.rh.inj b' b n _ _ _ _ _ _ e hb)
  refine h.step hG (hk.lay (s := s) (by simpa using hslt) (l := .loc n base' sz' room') (x := .live sz' es') (by rw [upd_other hne]; exact .inl hf) hsame (fun _ x => x) (fun _ x => .inl x)
    (fun b' m base'' sz'' room'' hb' e => hr.same m fun e' => key b' base'' sz'' room'' hb' (e' ▸ e)) (by rw [hr.size]; exact Nat.le_refl _) ⟨by simp, by simp, fun sz'' es'' e => ?_⟩ (fun _ _ e => by cases e) ?_) ?_
    (fun _ x => x) (fun _ x => .inl x) hle
  · cases e
    exact .inr ⟨n, base', room', c', ty, rfl, hr.blk, hfit, hsize, hlen, fun i e j d h1 h2 => let ⟨u, hu, hv'⟩ := hv i e j d h1 h2; ⟨u, hu, hv'.mono (fun _ x => x) hsame hle⟩⟩
  · intro m base'' sz'' room'' e
    cases e
    exact ⟨by rw [hr.size]; exact h.rh.olt n hown, h.rh.dis n hown, key, h.rh.ofr n hown⟩
  · refine ⟨hr.os, hr.tape, hr.output, by rw [hr.size]; exact Nat.le_refl _, fun m _ hm => hr.same m fun e => hm (e ▸ hown), fun m hm => ?_⟩
    rcases own_upd hm with ⟨_, _, _, e⟩ | ⟨b', _, _, _, _, e⟩
    · cases e; exact .inl hown
    · by_cases hbb : b' = b
      · subst hbb; rw [upd_same] at e; cases e
      · rw [upd_other hbb] at e; exact .inl ⟨b', _, _, _, e⟩
end

/-- Values that speak of no own block. -/
def flat1 : D → Bool
  | .v _ | .any | .nil | .sl _ | .rp _ => true
  | .fn _ [] [] => true
  | _ => false
def flat : D → Bool
  | .fn _ a b => a.all flat1 && b.all flat1
  | d => flat1 d

theorem V.flat1 {A A' : Rd} {w : World} {φ φ' : Nat → Loc} {d : D} {u : Value} (h : V A w φ d u) (hd : flat1 d = true) (hA : ∀ n, A n → A' n) : V A' w φ' d u := by
  cases h with
  | v => exact .v _ _
  | any => exact .any _ _
  | nil => exact .nil _ _
  | agg => cases hd
  | tup => cases hd
  | sl0 => exact .sl0 _ _ _
  | sl _ es n off sz cap u ha hcap hsz hc h => exact .sl _ _ n off sz cap u (hA n ha) hcap hsz hc fun i e j d h1 h2 => V.mono (A := A.all) (A' := A'.all) hA (fun _ _ => rfl) (fun _ => Loc.le_refl _) (h i e j d h1 h2)
  | fl0 => cases hd
  | fl => cases hd
  | rp _ cs n off u ha hc h => exact .rp _ _ n off u (hA n ha) hc fun j d h1 => V.mono (A := A.all) (A' := A'.all) hA (fun _ _ => rfl) (fun _ => Loc.le_refl _) (h j d h1)
  | ms => cases hd
  | mp => cases hd
  | fn _ f first caps vs us hl hl' h h' =>
    cases first with
    | nil => cases caps with
      | nil => exact .fn _ _ _ _ _ _ hl hl' (by simp) (by simp)
      | cons => cases hd
    | cons => cases caps <;> cases hd
  | mm => cases hd
theorem V.flat {A A' : Rd} {w : World} {φ φ' : Nat → Loc} {d : D} {u : Value} (h : V A w φ d u) (hd : flat d = true) (hA : ∀ n, A n → A' n) : V A' w φ' d u := by
  unfold DL.flat at hd
  split at hd
  · rename_i f a b
    simp only [Bool.and_eq_true, List.all_eq_true] at hd
    cases h with
    | fn _ f first caps vs us hl hl' h h' =>
      exact .fn _ _ _ _ _ _ hl hl' (fun i d u h1 h2 => (h i d u h1 h2).flat1 (hd.1 d (List.mem_of_getElem? h1)) hA) fun i d u h1 h2 => (h' i d u h1 h2).flat1 (hd.2 d (List.mem_of_getElem? h1)) hA
  · exact h.flat1 hd hA

/-- A cell of read-only memory, taken out. -/
def lowD : D → D
  | .fl es => .sl es
  | d => if flat d then d else .any

theorem V.low {A : Rd} {w : World} {φ : Nat → Loc} {d : D} {u : Value} (h : V A.all w nowhere d u) : V A w φ (lowD d) u := by
  unfold lowD
  split
  · exact h.of_fl.flat rfl fun _ x => x
  · split
    · rename_i hd; exact h.flat hd fun _ x => x
    · exact .any _ _

/-- How a value reads, own blocks as what they hold (lk: those that may be looked at). -/
def snap (lk : Nat → Option Blk) : Nat → D → D
  | 0, d => match d with
    | .nil => .sl []
    | .fl es => .sl es
    | d => if flat d then d else .any
  | _ + 1, .v x => .v x
  | _ + 1, .any => .any
  | _ + 1, .nil => .sl []
  | _ + 1, .sl es => .sl es
  | _ + 1, .fl es => .sl es
  | _ + 1, .rp cs => .rp cs
  | k + 1, .agg cs => .agg (cs.map (snap lk k))
  | k + 1, .tup cs => .tup (cs.map (snap lk k))
  | k + 1, .fn f first caps => .fn f (first.map (snap lk k)) (caps.map (snap lk k))
  | k + 1, .ms b off len _ => match lk b with
    | some (.live _ es) => if off + len ≤ es.length then .sl (((es.take (off + len)).drop off).map (List.map (snap lk k))) else .any
    | _ => .any
  | k + 1, .mp b i f => match lk b with
    | some (.live _ es) => match es[i]? with
      | some e => .rp ((e.drop f).map (snap lk k))
      | none => .any
    | _ => .any
  | _ + 1, .mm _ => .any

def both (A : Rd) (φ : Nat → Loc) : Rd := ⟨fun n => A n ∨ own φ n, A.b0⟩

theorem cell_of_blk {w : World} {n o : Nat} {c : Array Value} {ty : TypeId} (h : w.heap[n]? = some (.cells c ty (0, 0))) : w.cell? ⟨n, o, none⟩ = c[o]? := by
  simp [World.cell?, h]

theorem V.snap {A B : Rd} {w : World} {φ : Nat → Loc} {H : List Blk} (hr : RH A φ w H) {lk : Nat → Option Blk} (hlk : ∀ b sz es, lk b = some (.live sz es) → H[b]? = some (.live sz es))
    (hA : ∀ n, A n → B n) (hB : ∀ b sz es n base sz' room, lk b = some (.live sz es) → φ b = .loc n base sz' room → B n) :
    ∀ (k : Nat) {d : D} {u : Value}, V A w φ d u → V B w nowhere (snap lk k d) u
  | 0, d, u, h => by
    simp only [DL.snap]
    split
    · cases h; exact .sl0 _ _ _
    · exact h.of_fl.flat rfl hA
    · split
      · rename_i hd; exact h.flat hd hA
      · exact .any _ _
  | k + 1, d, u, h => by
    have ih := fun {d u} => V.snap hr hlk hA hB k (d := d) (u := u)
    cases h with
    | v => exact .v _ _
    | any => exact .any _ _
    | nil => exact .sl0 _ _ _
    | agg _ cs vs hl h =>
      refine .agg _ _ _ (by simpa using hl) fun i d u h1 h2 => ?_
      simp only [List.getElem?_map, Option.map_eq_some_iff] at h1
      obtain ⟨d0, h1, rfl⟩ := h1
      exact ih (h i d0 u h1 h2)
    | tup _ cs vs hl h =>
      refine .tup _ _ _ (by simpa using hl) fun i d u h1 h2 => ?_
      simp only [List.getElem?_map, Option.map_eq_some_iff] at h1
      obtain ⟨d0, h1, rfl⟩ := h1
      exact ih (h i d0 u h1 h2)
    | sl0 => exact .sl0 _ _ _
    | sl _ es n off sz cap u ha hcap hsz hc h => exact (V.sl φ es n off sz cap u ha hcap hsz hc h).flat rfl hA
    | fl0 => exact .sl0 _ _ _
    | fl _ es n off sz cap u ha hcap hsz hc h => exact (V.fl φ es n off sz cap u ha hcap hsz hc h).of_fl.flat rfl hA
    | rp _ cs n off u ha hc h => exact (V.rp φ cs n off u ha hc h).flat rfl hA
    | ms _ b off len cap cap' a hlen hcap h =>
      simp only [DL.snap]
      split
      · rename_i sz es hb0
        have hb := hlk _ _ _ hb0
        split
        · rename_i hol
          rcases hr.live b sz es hb with ⟨rfl, hp⟩ | ⟨n, base, room, c, ty, hp, hl⟩
          · simp at hol; obtain ⟨rfl, rfl⟩ := hol
            simp; exact .sl0 _ _ _
          · rw [hp] at h
            obtain ⟨h1, h2⟩ := h
            rcases Nat.eq_zero_or_pos len with hz | hz
            · subst hz; simp; exact .sl0 _ _ _
            have ha : a = some ⟨n, base + off * sz, none⟩ := h2.resolve_left (by omega)
            subst ha
            have hlen2 : (((es.take (off + len)).drop off).map (List.map (DL.snap lk k))).length = len := by simp; omega
            have hex : ∀ (i : Nat) (e : List D), (((es.take (off + len)).drop off).map (List.map (DL.snap lk k)))[i]? = some e → ∃ e0, es[off + i]? = some e0 ∧ e = e0.map (DL.snap lk k) := fun i e he => by
              simp only [List.getElem?_map, Option.map_eq_some_iff, List.getElem?_drop, List.getElem?_take] at he
              obtain ⟨e0, he, rfl⟩ := he
              split at he
              · exact ⟨e0, he, rfl⟩
              · cases he
            have hcell : ∀ (i : Nat) (e : List D) (j : Nat) (d : D), es[i]? = some e → e[j]? = some d → c[base + i * sz + j]? = some ((c[base + i * sz + j]?).getD default) := fun i e j d h3 h4 => by
              obtain ⟨u, hu, _⟩ := hl.val i e j d h3 h4; rw [hu]; rfl
            have := V.sl (A := B) (w := w) nowhere (((es.take (off + len)).drop off).map (List.map (DL.snap lk k))) n (base + off * sz) sz cap' (fun i j => (c[base + (off + i) * sz + j]?).getD default)
              (hB _ _ _ _ _ _ _ hb0 hp) (by omega)
              (fun i e he => by obtain ⟨e0, h3, rfl⟩ := hex i e he; simpa using hl.len _ _ h3)
              (fun i e j d he hd => by
                obtain ⟨e0, h3, rfl⟩ := hex i e he
                simp only [List.getElem?_map, Option.map_eq_some_iff] at hd
                obtain ⟨d0, h4, rfl⟩ := hd
                rw [cell_of_blk hl.blk, show base + off * sz + i * sz + j = base + (off + i) * sz + j by rw [Nat.add_mul]; omega]
                exact hcell _ _ _ _ h3 h4)
              (fun i e j d he hd => by
                obtain ⟨e0, h3, rfl⟩ := hex i e he
                simp only [List.getElem?_map, Option.map_eq_some_iff] at hd
                obtain ⟨d0, h4, rfl⟩ := hd
                obtain ⟨u, hu, hv⟩ := hl.val _ _ _ _ h3 h4
                simp only [hu, Option.getD_some]
                exact (V.mono (A := B) (A' := B.all) (fun _ x => x) (fun _ _ => rfl) (fun _ => Loc.le_refl _) (ih hv) (Nat.zero_le _)))
            rw [hlen2] at this
            exact this
        · exact .any _ _
      · exact .any _ _
    | mp _ b i f x h =>
      simp only [DL.snap]
      split
      · rename_i sz es hb0
        have hb := hlk _ _ _ hb0
        split
        · rename_i e he
          rcases hr.live b sz es hb with ⟨rfl, hp⟩ | ⟨n, base, room, c, ty, hp, hl⟩
          · simp at he
          · rw [hp] at h
            have hx : x = ⟨n, base + i * sz + f, none⟩ := h
            subst hx
            refine .rp _ _ n _ (fun j => (c[base + i * sz + f + j]?).getD default) (hB _ _ _ _ _ _ _ hb0 hp) (fun j d hd => ?_) (fun j d hd => ?_)
            all_goals
              simp only [List.getElem?_map, Option.map_eq_some_iff, List.getElem?_drop] at hd
              obtain ⟨d0, h4, rfl⟩ := hd
              obtain ⟨u, hu, hv⟩ := hl.val _ _ _ _ he h4
              rw [← Nat.add_assoc] at hu
            · rw [cell_of_blk hl.blk, hu]; rfl
            · simp only [hu, Option.getD_some]; exact V.mono (A := B) (A' := B.all) (fun _ x => x) (fun _ _ => rfl) (fun _ => Loc.le_refl _) (ih hv) (Nat.zero_le _)
        · exact .any _ _
      · exact .any _ _
    | fn _ f first caps vs us hl hl' h h' =>
      refine .fn _ f _ _ _ _ (by simpa using hl) (by simpa using hl') (fun i d u h1 h2 => ?_) (fun i d u h1 h2 => ?_)
      all_goals
        simp only [List.getElem?_map, Option.map_eq_some_iff] at h1
        obtain ⟨d0, h1, rfl⟩ := h1
      · exact ih (h i d0 u h1 h2)
      · exact ih (h' i d0 u h1 h2)
    | mm => exact .any _ _

/-- Cells of which a read-only block may be made; those that speak of no memory that came in. -/
def pur (d : D) : Bool := flat d || match d with | .fl _ => true | _ => false
def frs : D → Bool
  | .v _ | .any | .nil | .fl _ => true
  | _ => false
def unfl : D → D
  | .fl es => .sl es
  | d => d

theorem V.unfl {A A' : Rd} {w : World} {φ φ' : Nat → Loc} {d : D} {u : Value} (h : V A w φ d u) (hd : pur d = true) (hA : ∀ n, A n → A' n) : V A' w φ' (unfl d) u := by
  cases d with
  | fl es => exact h.of_fl.flat rfl hA
  | _ => exact h.flat (by simpa [pur] using hd) hA

theorem V.frs {A A' : Rd} {w : World} {φ φ' : Nat → Loc} {d : D} {u : Value} (h : V A w φ d u) (hd : frs d = true) (hA : ∀ n, A n → A.b0 ≤ n → A' n) : V A' w φ' (DL.unfl d) u := by
  cases h with
  | v => exact .v _ _
  | any => exact .any _ _
  | nil => exact .nil _ _
  | fl0 => exact .sl0 _ _ _
  | fl _ es n off sz cap u ha hcap hsz hc h =>
    exact .sl _ _ n off sz cap u (hA n ha.1 ha.2) hcap hsz hc fun i e j d h1 h2 => V.mono (A := A.fresh) (A' := A'.all) (fun m hm => hA m hm.1 hm.2) (fun _ _ => rfl) (fun _ => Loc.le_refl _) (h i e j d h1 h2)
  | _ => cases hd

/-- A sealed slice. -/
def sealS (es : List (List D)) (off len : Nat) : D :=
  if off + len ≤ es.length then
    if es.all (fun e => e.all frs) = true then .fl (((es.take (off + len)).drop off).map (List.map unfl)) else .sl (((es.take (off + len)).drop off).map (List.map unfl))
  else .any

/-- Own block b is read-only from now on: whatever pointed to it reads as what it held. -/
def sealD (b : Nat) (es : List (List D)) : D → D
  | .ms b' off len cap => if b' = b then sealS es off len else .ms b' off len cap
  | .mp b' i f => if b' = b then (match es[i]? with | some e => .rp ((e.drop f).map unfl) | none => .any) else .mp b' i f
  | d => d

def sealB (b : Nat) (es : List (List D)) : Blk → Blk
  | .live sz fs => .live sz (fs.map (List.map (sealD b es)))
  | x => x

def oneMore (A : Rd) (l : Loc) : Rd := ⟨fun n => A n ∨ ∃ base sz room, l = .loc n base sz room, A.b0⟩

theorem V.sealS {A : Rd} {w : World} {φ φ' : Nat → Loc} {H : List Blk} (hr : RH A φ w H) {b sz : Nat} {es : List (List D)} (hb : H[b]? = some (.live sz es))
    (hf : ∀ (i : Nat) (e : List D) (j : Nat) (d : D), es[i]? = some e → e[j]? = some d → pur d = true) {off len cap : Nat} {u : Value} (h : V A w φ (.ms b off len cap) u) :
    V (oneMore A (φ b)) w φ' (DL.sealS es off len) u := by
  cases h with
  | ms _ _ off len cap cap' a hlen hcap h =>
    unfold DL.sealS
    split
    · rename_i hol
      rcases hr.live b sz es hb with ⟨rfl, hp⟩ | ⟨n, base, room, c, ty, hp, hl⟩
      · simp at hol; obtain ⟨rfl, rfl⟩ := hol
        simp; exact .fl0 _ _ _
      · have hown : own φ n := ⟨b, _, _, _, hp⟩
        rw [hp] at h
        obtain ⟨h1, h2⟩ := h
        have hlen2 : (((es.take (off + len)).drop off).map (List.map DL.unfl)).length = len := by simp; omega
        rcases Nat.eq_zero_or_pos len with hz | hz
        · subst hz
          rw [List.eq_nil_of_length_eq_zero hlen2]
          split
          · exact .fl0 _ _ _
          · exact .sl0 _ _ _
        have ha : a = some ⟨n, base + off * sz, none⟩ := h2.resolve_left (by omega)
        subst ha
        have hex : ∀ (i : Nat) (e : List D), (((es.take (off + len)).drop off).map (List.map DL.unfl))[i]? = some e → ∃ e0, es[off + i]? = some e0 ∧ e = e0.map DL.unfl := fun i e he => by
          simp only [List.getElem?_map, Option.map_eq_some_iff, List.getElem?_drop, List.getElem?_take] at he
          obtain ⟨e0, he, rfl⟩ := he
          split at he
          · exact ⟨e0, he, rfl⟩
          · cases he
        have hcell : ∀ (i : Nat) (e : List D) (j : Nat) (d : D), (((es.take (off + len)).drop off).map (List.map DL.unfl))[i]? = some e → e[j]? = some d →
            w.cell? ⟨n, base + off * sz + i * sz + j, none⟩ = some ((c[base + (off + i) * sz + j]?).getD default) ∧
            ∃ d0, es[off + i]? = some (e.map id |> fun _ => (es[off + i]?).getD []) ∧ d = DL.unfl d0 ∧ ((es[off + i]?).getD [])[j]? = some d0 ∧ V A w φ d0 ((c[base + (off + i) * sz + j]?).getD default) := fun i e j d he hd => by
          obtain ⟨e0, h3, rfl⟩ := hex i e he
          simp only [List.getElem?_map, Option.map_eq_some_iff] at hd
          obtain ⟨d0, h4, rfl⟩ := hd
          obtain ⟨u, hu, hv⟩ := hl.val _ _ _ _ h3 h4
          refine ⟨?_, d0, by simp [h3], rfl, by simpa [h3] using h4, by rw [hu]; exact hv⟩
          rw [cell_of_blk hl.blk, show base + off * sz + i * sz + j = base + (off + i) * sz + j by rw [Nat.add_mul]; omega, hu]; rfl
        have hszz : ∀ (i : Nat) (e : List D), (((es.take (off + len)).drop off).map (List.map DL.unfl))[i]? = some e → e.length = sz := fun i e he => by
          obtain ⟨e0, h3, rfl⟩ := hex i e he; simpa using hl.len _ _ h3
        split
        · rename_i hall
          have hfr : ∀ (i : Nat) (e : List D) (j : Nat) (d : D), es[i]? = some e → e[j]? = some d → DL.frs d = true := fun i e j d h3 h4 => by
            rw [List.all_eq_true] at hall
            have := hall e (List.mem_of_getElem? h3)
            rw [List.all_eq_true] at this
            exact this d (List.mem_of_getElem? h4)
          have := V.fl (A := oneMore A (φ b)) (w := w) φ' (((es.take (off + len)).drop off).map (List.map DL.unfl)) n (base + off * sz) sz cap' (fun i j => (c[base + (off + i) * sz + j]?).getD default)
            ⟨.inr ⟨_, _, _, hp⟩, hr.ofr n hown⟩ (by omega) hszz (fun i e j d he hd => (hcell i e j d he hd).1) (fun i e j d he hd => by
              obtain ⟨_, d0, h5, rfl, h6, hv⟩ := hcell i e j d he hd
              exact hv.frs (hfr _ _ _ _ h5 h6) fun m hm hb => ⟨.inl hm, hb⟩)
          rw [hlen2] at this
          exact this
        · have := V.sl (A := oneMore A (φ b)) (w := w) φ' (((es.take (off + len)).drop off).map (List.map DL.unfl)) n (base + off * sz) sz cap' (fun i j => (c[base + (off + i) * sz + j]?).getD default)
            (.inr ⟨_, _, _, hp⟩) (by omega) hszz (fun i e j d he hd => (hcell i e j d he hd).1) (fun i e j d he hd => by
              obtain ⟨_, d0, h5, rfl, h6, hv⟩ := hcell i e j d he hd
              exact hv.unfl (hf _ _ _ _ h5 h6) fun m hm => .inl hm)
          rw [hlen2] at this
          exact this
    · exact .any _ _

theorem V.sealUp {A : Rd} {w : World} {φ : Nat → Loc} {H : List Blk} (hr : RH A φ w H) {b sz : Nat} {es : List (List D)} (hb : H[b]? = some (.live sz es))
    (hf : ∀ (i : Nat) (e : List D) (j : Nat) (d : D), es[i]? = some e → e[j]? = some d → pur d = true) {d : D} {u : Value} (h : V A w φ d u) :
    V (oneMore A (φ b)) w (upd φ b .dead) (sealD b es d) u := by
  have hm : V (oneMore A (φ b)) w (upd φ b .dead) d u := h.mono (fun _ => .inl) (fun _ _ => rfl) (upd_le (.inr (.inl rfl)))
  cases d with
  | ms b' off len cap =>
    simp only [sealD]
    split
    · rename_i e; subst e; exact h.sealS hr hb hf
    · exact hm
  | mp b' i f =>
    simp only [sealD]
    split
    · rename_i e
      subst e
      cases h with
      | mp _ _ _ _ x h =>
        split
        · rename_i e he
          rcases hr.live b' sz es hb with ⟨rfl, hp⟩ | ⟨n, base, room, c, ty, hp, hl⟩
          · simp at he
          · rw [hp] at h
            have hx : x = ⟨n, base + i * sz + f, none⟩ := h
            subst hx
            refine .rp _ _ n _ (fun j => (c[base + i * sz + f + j]?).getD default) (.inr ⟨_, _, _, hp⟩) (fun j d hd => ?_) (fun j d hd => ?_)
            all_goals
              simp only [List.getElem?_map, Option.map_eq_some_iff, List.getElem?_drop] at hd
              obtain ⟨d0, hd, rfl⟩ := hd
              obtain ⟨u, hu, hv⟩ := hl.val _ _ _ _ he hd
              rw [← Nat.add_assoc] at hu
            · rw [cell_of_blk hl.blk, hu]; rfl
            · simp only [hu, Option.getD_some]; exact hv.unfl (hf _ _ _ _ he hd) fun m hm => .inl hm
        · exact .any _ _
    · exact hm
  | _ => exact hm

theorem RH.sealUp {A : Rd} {w : World} {φ : Nat → Loc} {H : List Blk} (hr : RH A φ w H) {b sz : Nat} {es : List (List D)} (hb : H[b]? = some (.live sz es))
    (hf : ∀ (i : Nat) (e : List D) (j : Nat) (d : D), es[i]? = some e → e[j]? = some d → pur d = true) :
    RH (oneMore A (φ b)) (upd φ b .dead) w ((H.map (sealB b es)).set b .dead) := by
  have hlt : b < H.length := (List.getElem?_eq_some_iff.1 hb).1
  have hget : ∀ (b' : Nat) (x : Blk), b' ≠ b → ((H.map (sealB b es)).set b .dead)[b']? = some x → ∃ y, H[b']? = some y ∧ x = sealB b es y := fun b' x hne h => by
    rw [List.getElem?_set, if_neg (Ne.symm hne), List.getElem?_map, Option.map_eq_some_iff] at h
    obtain ⟨y, h1, h2⟩ := h; exact ⟨y, h1, h2.symm⟩
  refine ⟨fun b' h => ?_, fun b' h => ?_, fun b' h => ?_, fun b' sz' es' h => ?_, fun b' clk es' h => ?_, fun b1 b2 n base sz room base' sz' room' h1 h2 => ?_, fun n hn ha => ?_, fun n hn => ?_, fun n hn => ?_, fun n hn => ?_, hr.bsz⟩
  · have hne : b' ≠ b := fun e => by subst e; simp [hlt] at h
    rw [upd_other hne]; exact hr.out b' (by simpa [List.getElem?_set, Ne.symm hne] using h)
  · by_cases hne : b' = b
    · subst hne; simp [hlt] at h
    · obtain ⟨y, h1, h2⟩ := hget b' _ hne h
      rw [upd_other hne]; cases y <;> simp [sealB] at h2; exact hr.free b' h1
  · by_cases hne : b' = b
    · subst hne; exact upd_same _ _ _
    · obtain ⟨y, h1, h2⟩ := hget b' _ hne h
      rw [upd_other hne]; cases y <;> simp [sealB] at h2; exact hr.dead b' h1
  · by_cases hne : b' = b
    · subst hne; simp [hlt] at h
    · obtain ⟨y, h1, h2⟩ := hget b' _ hne h
      rw [upd_other hne]
      cases y with
      | free => simp [sealB] at h2
      | dead => simp [sealB] at h2
      | tab => simp [sealB] at h2
      | live sz0 fs =>
        simp only [sealB, Blk.live.injEq] at h2
        obtain ⟨rfl, rfl⟩ := h2
        rcases hr.live b' sz' fs h1 with ⟨rfl, h3⟩ | ⟨n, base, room, c, ty, h3, hl⟩
        · exact .inl ⟨rfl, h3⟩
        · refine .inr ⟨n, base, room, c, ty, h3, hl.blk, by simpa using hl.fits, hl.size, fun i e he => ?_, fun i e j d he hd => ?_⟩
          all_goals
            simp only [List.getElem?_map, Option.map_eq_some_iff] at he
            obtain ⟨e0, he, rfl⟩ := he
          · simpa using hl.len i e0 he
          · simp only [List.getElem?_map, Option.map_eq_some_iff] at hd
            obtain ⟨d0, hd, rfl⟩ := hd
            obtain ⟨u, hu, hv⟩ := hl.val i e0 j d0 he hd
            exact ⟨u, hu, hv.sealUp hr hb hf⟩
  · by_cases hne : b' = b
    · subst hne; simp [hlt] at h
    · obtain ⟨y, h1, h2⟩ := hget b' _ hne h
      rw [upd_other hne]
      cases y with
      | free => simp [sealB] at h2
      | dead => simp [sealB] at h2
      | live => simp [sealB] at h2
      | tab clk0 fs =>
        simp only [sealB, Blk.tab.injEq] at h2
        obtain ⟨rfl, rfl⟩ := h2
        obtain ⟨n, ms, h3, hl⟩ := hr.tab b' clk es' h1
        exact ⟨n, ms, h3, hl.mono (fun _ => .inl) (fun _ _ => rfl) (upd_le (.inr (.inl rfl))) rfl⟩
  · by_cases e1 : b1 = b
    · subst e1; rw [upd_same] at h1; cases h1
    · by_cases e2 : b2 = b
      · subst e2; rw [upd_same] at h2; cases h2
      · rw [upd_other e1] at h1; rw [upd_other e2] at h2; exact hr.inj _ _ _ _ _ _ _ _ _ h1 h2
  · rcases own_upd hn with ⟨_, _, _, e⟩ | ⟨b', base, sz', room, hne, e⟩
    · cases e
    · rcases ha with ha | ⟨_, _, _, ha⟩
      · exact hr.dis n ⟨b', _, _, _, e⟩ ha
      · exact hne (hr.inj _ _ _ _ _ _ _ _ _ e ha)
  · rcases hn with hn | ⟨_, _, _, hn⟩
    · exact hr.lt n hn
    · exact hr.olt n ⟨b, _, _, _, hn⟩
  · rcases own_upd hn with ⟨_, _, _, e⟩ | ⟨b', base, sz', room, hne, e⟩
    · cases e
    · exact hr.olt n ⟨b', _, _, _, e⟩
  · rcases own_upd hn with ⟨_, _, _, e⟩ | ⟨b', base, sz', room, hne, e⟩
    · cases e
    · exact hr.ofr n ⟨b', _, _, _, e⟩

/-- Own block b is read-only from now on; nothing is said of what pointed to it. -/
theorem RH.freeze {A : Rd} {w : World} {φ : Nat → Loc} {H : List Blk} (hr : RH A φ w H) {b : Nat} (hlt : b < H.length) :
    RH (oneMore A (φ b)) (upd φ b .dead) w (H.set b .dead) :=
  hr.lay hlt (l := .dead) (x := .dead) (.inr (.inl rfl)) (fun _ _ => rfl) (fun _ x => .inl x) (fun _ x => x) (fun _ _ _ _ _ _ _ => rfl) (Nat.le_refl _)
    ⟨by simp, by simp, by simp⟩ (fun _ _ e => by cases e) (fun _ _ _ _ e => by cases e)

theorem FRc.sealUp {G : Gh} (hG : Stab G) {st : St} {a : Act} {w : World} {A : Rd} {φ : Nat → Loc} (h : FRc G st a w A φ) {b sz : Nat} {es : List (List D)}
    (hb : st.H[b]? = some (.live sz es)) (hf : ∀ (i : Nat) (e : List D) (j : Nat) (d : D), es[i]? = some e → e[j]? = some d → pur d = true) :
    FRc G { st with t := st.t.map (sealD b es), H := (st.H.map (sealB b es)).set b .dead } a w (oneMore A (φ b)) (upd φ b .dead) := by
  have h1 := h.step hG (h.rh.sealUp hb hf) ⟨rfl, rfl, rfl, Nat.le_refl _, fun _ _ _ => rfl, fun n hn => by
    rcases own_upd hn with ⟨_, _, _, e⟩ | ⟨b, _, _, _, _, e⟩
    · cases e
    · exact .inl ⟨b, _, _, _, e⟩⟩ (fun _ => .inl) (fun m hm => hm.imp id fun ⟨_, _, _, e⟩ => .inl ⟨b, _, _, _, e⟩) (upd_le (.inr (.inl rfl)))
  refine ⟨h1.rh, ⟨by simpa using h.tr.size, fun i d u hd hu => ?_⟩, h1.gh, h1.df, h1.dk, h1.nd⟩
  simp only [List.getElem?_map, Option.map_eq_some_iff] at hd
  obtain ⟨d0, hd, rfl⟩ := hd
  exact (h.tr.val i d0 u hd hu).sealUp h.rh hb hf

end
end Go.DL
