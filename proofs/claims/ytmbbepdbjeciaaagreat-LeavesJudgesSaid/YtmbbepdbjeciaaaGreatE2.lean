/- Operations that leave memory alone, over abstract values. -/
import Derived.Test.YtmbbepdbjeciaaaGreatE1
import Derived.Laws.MakeOwn
set_option linter.all false
namespace Go.DL
open Go.RowKit

noncomputable section

/-- The number of cells of a type, if it is known. -/
def tsz (P : Program) (t : TypeId) : Option Nat := (P.info? t).map (·.size)

theorem run_typeInfo {P : Program} {t : TypeId} {i : TypeInfo} (h : P.info? t = some i) (w : World) : (typeInfo t).run P w = .ok i w := by simp [typeInfo, h]
theorem run_sizeOf {P : Program} {t : TypeId} {n : Nat} (h : tsz P t = some n) (w : World) : (sizeOf t).run P w = .ok n w := by
  simp only [tsz, Option.map_eq_some_iff] at h
  obtain ⟨i, hi, rfl⟩ := h
  simp [sizeOf, run_typeInfo hi]

def isAggD (P : Program) (t : TypeId) : Option Bool := (P.underlying t).map fun
  | .struct _ | .array _ _ => true
  | _ => false
theorem run_isAgg {P : Program} {t : TypeId} {b : Bool} (h : isAggD P t = some b) (w : World) : (isAgg t).run P w = .ok b w := by
  simp only [isAggD, Option.map_eq_some_iff] at h
  obtain ⟨d, hd, rfl⟩ := h
  simp only [isAgg, Sem.run_bind, run_underlying hd, Result.andThen]
  cases d <;> rfl

/-- Cells as a value of a type. -/
def takeD (P : Program) (t : TypeId) (cs : List D) : Option D :=
  match isAggD P t with
  | some true => match tsz P t with
    | some n => if n ≤ cs.length then some (.agg (cs.take n)) else none
    | none => none
  | some false => cs.head?
  | none => none

def intBin (op : BinOp) (k : IntKind) (a b : Int) : Option Value :=
  match op with
  | .add => some (.int k (k.wrap (a + b)))
  | .sub => some (.int k (k.wrap (a - b)))
  | .mul => some (.int k (k.wrap (a * b)))
  | .quo => if b = 0 then none else some (.int k (k.wrap (a.tdiv b)))
  | .rem => if b = 0 then none else some (.int k (a.tmod b))
  | .eql => some (.bool (a == b))
  | .neq => some (.bool (a != b))
  | .lss => some (.bool (decide (a < b)))
  | .leq => some (.bool (decide (a ≤ b)))
  | .gtr => some (.bool (decide (b < a)))
  | .geq => some (.bool (decide (b ≤ a)))
  | _ => none

def binD (P : Program) (op : BinOp) (t : TypeId) : D → D → Option D
  | .v (.int k a), .v (.int k' b) => if k = k' then (intBin op k a b).map .v else none
  | .v (.bool a), .v (.bool b) => match op, P.underlying t with
    | .eql, some .bool => some (.v (.bool (a == b)))
    | .neq, some .bool => some (.v (.bool (a != b)))
    | _, _ => none
  | _, _ => none

def unD (op : UnOp) : D → Option D
  | .v (.bool b) => match op with
    | .not => some (.v (.bool !b))
    | _ => none
  | .v (.int k n) => match op with
    | .neg => some (.v (.int k (k.wrap (0 - n))))
    | _ => none
  | _ => none

def convD (P : Program) (src dst : TypeId) : D → Option D
  | .v (.int _ n) => match P.underlying src, P.underlying dst with
    | some _, some (.int k) => some (.v (.int k (k.wrap n)))
    | _, _ => none
  | _ => none

def pickD (c a b : D) : Option D :=
  match c with
  | .v (.bool x) => some (if x then a else b)
  | _ => none

def extractD (d : D) (i : Nat) : Option D :=
  match d with
  | .tup ds => ds[i]?
  | _ => none

def fieldD (P : Program) (t : TypeId) (f : Nat) : D → Option D
  | .agg cs => match P.underlying t with
    | some (.struct fs) => match fs[f]? with
      | some x => takeD P x.type (cs.drop x.offset)
      | none => none
    | _ => none
  | _ => none

def intD : D → Option Int
  | .v (.int _ n) => some n
  | _ => none

def indexD (P : Program) (t : TypeId) (x i : D) : Option D :=
  match x, intD i with
  | .agg cs, some n => match P.underlying t with
    | some (.array len e) => match tsz P e with
      | some s => if 0 ≤ n ∧ n < (len : Int) then takeD P e (cs.drop (n.toNat * s)) else none
      | none => none
    | _ => none
  | _, _ => none

/-- The offset of a field whose type has cells. -/
def fieldOff (P : Program) (s : TypeId) (f : Nat) : Option Nat :=
  match P.underlying s with
  | some (.struct fs) => match fs[f]? with
    | some x => match tsz P x.type with
      | some n => if n = 0 then none else some x.offset
      | none => none
    | none => none
  | _ => none

def fieldAddrD (P : Program) (s : TypeId) (f : Nat) : D → Option D
  | .rp cs => (fieldOff P s f).map fun o => .rp (cs.drop o)
  | .mp b i g => (fieldOff P s f).map fun o => .mp b i (g + o)
  | _ => none

def elemT (P : Program) (t : TypeId) : Option (TypeId × Nat) :=
  match P.underlying t with
  | some (.slice e) => (tsz P e).map fun n => (e, n)
  | _ => none

def Blk.hasSz (n : Nat) : Option Blk → Bool
  | some (.live sz _) => sz == n
  | _ => false

def indexAddrD (P : Program) (H : List Blk) (t : TypeId) (x i : D) : Option D :=
  match unfl x, intD i with
  | .sl es, some n => match elemT P t with
    | some (_, s) => if 0 ≤ n ∧ n < (es.length : Int) then match es[n.toNat]? with
        | some e => if e.length = s then some (.rp e) else none
        | none => none
      else none
    | none => none
  | .ms b off len _, some n => match elemT P t with
    | some (_, s) => if Blk.hasSz s H[b]? ∧ 0 ≤ n ∧ n < (len : Int) then some (.mp b (off + n.toNat) 0) else none
    | none => none
  | .mp b j f, some n => match P.underlying t with
    | some (.array len e) => match tsz P e with
      | some s => if 0 ≤ n ∧ n < (len : Int) then some (.mp b j (f + n.toNat * s)) else none
      | none => none
    | _ => none
  | .rp cs, some n => match P.underlying t with
    | some (.array len e) => match tsz P e with
      | some s => if 0 ≤ n ∧ n < (len : Int) then some (.rp (cs.drop (n.toNat * s))) else none
      | none => none
    | _ => none
  | _, _ => none

def nilCheckD : D → Option D
  | .rp cs => some (.rp cs)
  | .mp b i f => some (.mp b i f)
  | .fn (.func f) a b => some (.fn (.func f) a b)
  | _ => none

def lenD : D → Option Int
  | .sl es => some es.length
  | .fl es => some es.length
  | .ms _ _ len _ => some len
  | .nil => some 0
  | _ => none

section
variable {A : Rd} {w : World} {φ : Nat → Loc} {P : Program}

theorem V.int {d : D} {u : Value} {n : Int} (h : V A w φ d u) (hd : intD d = some n) : ∃ k, u = .int k n := by
  cases h with
  | v _ =>
    cases u <;> simp [intD] at hd
    exact ⟨_, by rw [hd]⟩
  | _ => simp [intD] at hd

theorem V.unfl' {d : D} {u : Value} (h : V A w φ d u) : V A w φ (DL.unfl d) u := by
  cases d with
  | fl es => exact h.of_fl
  | _ => exact h

theorem V.v_inv {x u : Value} (h : V A w φ (.v x) u) : u = x := by cases h; rfl

/-- Cells that are read as a value of a type. -/
theorem run_loadVar_take {t : TypeId} {cs : List D} {d : D} (ht : takeD P t cs = some d) {n o : Nat}
    (hc : ∀ (j : Nat) (e : D), cs[j]? = some e → ∃ u, w.cell? ⟨n, o + j, none⟩ = some u ∧ V A w φ e u) :
    ∃ x, (loadVar t ⟨n, o, none⟩).run P w = .ok x w ∧ V A w φ d x := by
  have hadd : ∀ j, (⟨n, o, none⟩ : Addr).add j = ⟨n, o + j, none⟩ := fun j => by
    cases j <;> simp [Addr.add]
  unfold takeD at ht
  cases ha : isAggD P t with
  | none => rw [ha] at ht; cases ht
  | some b =>
    rw [ha] at ht
    cases b with
    | true =>
      cases hs : tsz P t with
      | none => simp [hs] at ht
      | some m =>
        simp only [hs] at ht
        split at ht
        · rename_i hm
          cases ht
          have hcell : ∀ j, j < m → w.cell? ((⟨n, o, none⟩ : Addr).add j) = some ((w.cell? ⟨n, o + j, none⟩).getD default) := fun j hj => by
            rw [hadd]
            obtain ⟨u, hu, _⟩ := hc j _ (List.getElem?_eq_getElem (by omega))
            rw [hu]; rfl
          refine ⟨.agg ((List.range m).map fun j => (w.cell? ⟨n, o + j, none⟩).getD default).toArray, ?_, ?_⟩
          · simp [loadVar, run_isAgg ha, run_sizeOf hs, run_loadCells w ⟨n, o, none⟩ m (fun j => (w.cell? ⟨n, o + j, none⟩).getD default) hcell]
          · refine .agg _ _ _ (by simp; omega) fun i d u h1 h2 => ?_
            rw [List.getElem?_take] at h1
            split at h1
            · rename_i hi
              obtain ⟨y, hy, hv⟩ := hc i d h1
              simp only [List.getElem?_toArray, List.getElem?_map, List.getElem?_range hi, Option.map_some, hy, Option.getD_some, Option.some.injEq] at h2
              exact h2 ▸ hv
            · cases h1
        · cases ht
    | false =>
      simp only at ht
      cases cs with
      | nil => cases ht
      | cons e r =>
        simp only [List.head?_cons, Option.some.injEq] at ht
        subst ht
        obtain ⟨u, hu, hv⟩ := hc 0 e rfl
        refine ⟨u, ?_, hv⟩
        simp only [Nat.add_zero] at hu
        simp [loadVar, run_isAgg ha, hu]

theorem V.part {t : TypeId} {cs : List D} {vs : Array Value} {o : Nat} {d : D} (hl : vs.size = cs.length)
    (h : ∀ (i : Nat) (d : D) (u : Value), cs[i]? = some d → vs[i]? = some u → V A w φ d u) (ht : takeD P t (cs.drop o) = some d) :
    ∃ x, (Go.part t vs o).run P w = .ok x w ∧ V A w φ d x := by
  unfold takeD at ht
  cases ha : isAggD P t with
  | none => rw [ha] at ht; cases ht
  | some b =>
    rw [ha] at ht
    cases b with
    | true =>
      cases hs : tsz P t with
      | none => simp [hs] at ht
      | some m =>
        simp only [hs] at ht
        split at ht
        · rename_i hm
          cases ht
          simp only [List.length_drop] at hm
          refine ⟨_, by simp only [Go.part, Sem.run_bind, run_isAgg ha, Result.andThen, run_sizeOf hs, if_true, Sem.run_pure]; rfl, ?_⟩
          refine .agg _ _ _ (by simp; omega) fun i d u h1 h2 => ?_
          rw [List.getElem?_take] at h1
          split at h1
          · rw [List.getElem?_drop] at h1
            refine h (o + i) d u h1 ?_
            rw [Array.getElem?_extract] at h2
            split at h2
            · exact h2
            · cases h2
          · cases h1
        · cases ht
    | false =>
      simp only [List.head?_drop] at ht
      have hlt : o < cs.length := (List.getElem?_eq_some_iff.1 ht).1
      have hlt' : o < vs.size := by omega
      refine ⟨vs[o], ?_, h o d _ ht (by simp [hlt'])⟩
      simp only [Go.part, Sem.run_bind, run_isAgg ha, Result.andThen, Bool.false_eq_true, if_false]
      simp [hlt']

theorem run_equal_bool {t : TypeId} (h : P.underlying t = some .bool) (a b : Bool) : (Op.equal t (.bool a) (.bool b)).run P w = .ok (a == b) w := by
  have key : ∀ d : Nat, (Op.equalIn (d + 1) t (.bool a) (.bool b)).run P w = .ok (a == b) w := fun d => by
    unfold Op.equalIn
    simp only [Sem.run_bind, run_underlying h, Result.andThen, Sem.run_pure]
  exact key 9999

theorem run_binD {op : BinOp} {t : TypeId} {x y d : D} {u v : Value} (xo yo : Operand) (hx : V A w φ x u) (hy : V A w φ y v) (h : binD P op t x y = some d) :
    ∃ r, (do eqGuard op t xo yo u v; binOp op t u v : Sem Value).run P w = .ok r w ∧ V A w φ d r := by
  unfold binD at h
  split at h
  · rename_i k a k' b
    have := hx.v_inv; subst this
    have := hy.v_inv; subst this
    split at h
    · rename_i hk; subst hk
      simp only [Option.map_eq_some_iff] at h
      obtain ⟨r, hr, rfl⟩ := h
      refine ⟨r, ?_, .v _ _⟩
      rw [eqGuard_at_int]
      cases op <;> simp only [intBin, Option.some.injEq, reduceCtorEq] at hr <;> first
        | (subst hr; simp [binOp, Op.intArith, Op.intCmp])
        | (split at hr
           · cases hr
           · rename_i hb; cases hr; simp [binOp, Op.intDiv, hb])
    · cases h
  · rename_i a b
    have := hx.v_inv; subst this
    have := hy.v_inv; subst this
    rw [eqGuard_at_bool]
    split at h
    · rename_i ht
      cases h
      exact ⟨.bool (a == b), by simp [binOp, run_equal_bool ht], .v _ _⟩
    · rename_i ht
      cases h
      exact ⟨.bool (a != b), by simp [binOp, run_equal_bool ht, bne], .v _ _⟩
    · cases h
  · cases h

theorem run_unD {op : UnOp} {x d : D} {u : Value} (hx : V A w φ x u) (h : unD op x = some d) : ∃ r, (Op.unary op u).run P w = .ok r w ∧ V A w φ d r := by
  unfold unD at h
  split at h
  · have := hx.v_inv; subst this
    split at h
    · cases h; exact ⟨_, rfl, .v _ _⟩
    · cases h
  · have := hx.v_inv; subst this
    split at h
    · cases h; exact ⟨_, rfl, .v _ _⟩
    · cases h
  · cases h

theorem run_convD {src dst : TypeId} {x d : D} {u : Value} (hx : V A w φ x u) (h : convD P src dst x = some d) : ∃ r, (convert src dst u).run P w = .ok r w ∧ V A w φ d r := by
  unfold convD at h
  split at h
  · have := hx.v_inv; subst this
    split at h
    · rename_i hs hd
      cases h
      exact ⟨_, by simp only [convert, Sem.run_bind, run_underlying hs, run_underlying hd, Result.andThen, Conv.intToInt, Sem.run_pure], .v _ _⟩
    · cases h
  · cases h

theorem run_extractD {x d : D} {u : Value} {i : Nat} (hx : V A w φ x u) (h : extractD x i = some d) : ∃ r, (Instr.extract u i).run P w = .ok r w ∧ V A w φ d r := by
  unfold extractD at h
  split at h
  · cases hx with
    | tup _ cs vs hl hh =>
      have hlt : i < vs.size := by rw [hl]; exact (List.getElem?_eq_some_iff.1 h).1
      exact ⟨vs[i], by simp [Instr.extract, hlt], hh i d _ h (by simp [hlt])⟩
  · cases h

theorem run_fieldD {t : TypeId} {f : Nat} {x d : D} {u : Value} (hx : V A w φ x u) (h : fieldD P t f x = some d) : ∃ r, (Instr.field t u f).run P w = .ok r w ∧ V A w φ d r := by
  unfold fieldD at h
  split at h
  · cases hx with
    | agg _ cs vs hl hh =>
      split at h
      · rename_i fs hu
        split at h
        · rename_i y hy
          obtain ⟨r, hr, hv⟩ := V.part hl hh h
          exact ⟨r, by simp [Instr.field, run_underlying hu, hy, asAgg, hr], hv⟩
        · cases h
      · cases h
  · cases h

theorem run_indexD {t : TypeId} {x i d : D} {u v : Value} (hx : V A w φ x u) (hi : V A w φ i v) (h : indexD P t x i = some d) :
    ∃ r, (Instr.index t u v).run P w = .ok r w ∧ V A w φ d r := by
  unfold indexD at h
  split at h
  · rename_i cs n hn
    obtain ⟨k, rfl⟩ := hi.int hn
    cases hx with
    | agg _ cs vs hl hh =>
      split at h
      · rename_i len e hu
        split at h
        · rename_i s hs
          split at h
          · rename_i hb
            obtain ⟨r, hr, hv⟩ := V.part hl hh h
            exact ⟨r, by simp [Instr.index, run_underlying hu, asIntOf, hb, run_sizeOf hs, hr], hv⟩
          · cases h
        · cases h
      · cases h
  · cases h

theorem run_fieldAddrD {s : TypeId} {f : Nat} {x d : D} {u : Value} (hx : V A w φ x u) (h : fieldAddrD P s f x = some d) :
    ∃ r, (Instr.fieldAt s u f).run P w = .ok r w ∧ V A w φ d r := by
  have key : ∀ o, fieldOff P s f = some o → ∀ a : Addr, (Instr.fieldAt s (.pointer (some a)) f).run P w = .ok (.pointer (some (a.add o))) w := fun o ho a => by
    unfold fieldOff at ho
    split at ho
    · rename_i fs hu
      split at ho
      · rename_i y hy
        split at ho
        · rename_i n hn
          split at ho
          · cases ho
          · rename_i hn0
            cases ho
            simp [Instr.fieldAt, run_underlying hu, hy, Instr.sureAddr, fieldPlace, run_sizeOf hn, hn0]
        · cases ho
      · cases ho
    · cases ho
  have hadd : ∀ n o j, (⟨n, o, none⟩ : Addr).add j = ⟨n, o + j, none⟩ := fun n o j => by cases j <;> simp [Addr.add]
  unfold fieldAddrD at h
  split at h
  · simp only [Option.map_eq_some_iff] at h
    obtain ⟨o, ho, rfl⟩ := h
    cases hx with
    | rp _ cs n off v ha hc hh =>
      refine ⟨_, key o ho _, ?_⟩
      rw [hadd]
      refine .rp _ _ n _ (fun j => v (o + j)) ha (fun j d hd => ?_) (fun j d hd => ?_)
      · rw [List.getElem?_drop] at hd; rw [Nat.add_assoc]; exact hc _ _ hd
      · rw [List.getElem?_drop] at hd; exact hh _ _ hd
  · rename_i b i g
    simp only [Option.map_eq_some_iff] at h
    obtain ⟨o, ho, rfl⟩ := h
    cases hx with
    | mp _ _ _ _ x hh =>
      refine ⟨_, key o ho _, .mp _ _ _ _ _ ?_⟩
      cases hb : φ b with
      | free => rw [hb] at hh; exact hh.elim
      | dead => trivial
      | ph => rw [hb] at hh; exact hh.elim
      | loc n base sz room =>
        rw [hb] at hh
        have hx : x = ⟨n, base + i * sz + g, none⟩ := hh
        subst hx
        rw [hadd]
        show (_ : Addr) = _
        rw [Nat.add_assoc]
  · cases h

theorem run_indexAddrD {H : List Blk} (hsub : ∀ b sz es, H[b]? = some (.live sz es) → φ b = .ph ∨ ∃ n base room, φ b = .loc n base sz room) {t : TypeId} {x i d : D} {u v : Value}
    (hx : V A w φ x u) (hi : V A w φ i v) (h : indexAddrD P H t x i = some d) : ∃ r, (Instr.indexAt t u v).run P w = .ok r w ∧ V A w φ d r := by
  have hadd : ∀ n o j, (⟨n, o, none⟩ : Addr).add j = ⟨n, o + j, none⟩ := fun n o j => by cases j <;> simp [Addr.add]
  have hel : ∀ {e s}, elemT P t = some (e, s) → P.underlying t = some (.slice e) ∧ tsz P e = some s := fun {e s} he => by
    unfold elemT at he
    split at he
    · rename_i e' hu
      simp only [Option.map_eq_some_iff, Prod.mk.injEq] at he
      obtain ⟨n, hn, rfl, rfl⟩ := he
      exact ⟨hu, hn⟩
    · cases he
  replace hx := hx.unfl'
  unfold indexAddrD at h
  split at h
  · rename_i es n hxe hn
    rw [hxe] at hx
    obtain ⟨k, rfl⟩ := hi.int hn
    split at h
    · rename_i et s he
      obtain ⟨hu, hs⟩ := hel he
      split at h
      · rename_i hb
        split at h
        · rename_i e hee
          split at h
          · rename_i hes
            cases h
            cases hx with
            | sl0 => simp at hee
            | sl _ es m off sz cap v ha hcap hsz hc hh =>
              have : sz = s := (hsz _ _ hee).symm.trans hes
              subst this
              refine ⟨_, by simp [Instr.indexAt, run_underlying hu, asIntOf, hb, run_sizeOf hs, hadd]; rfl, ?_⟩
              exact .rp _ _ m _ (fun j => v n.toNat j) ha (fun j d hd => hc _ _ _ _ hee hd) fun j d hd => hh _ _ _ _ hee hd
          · cases h
        · cases h
      · cases h
    · cases h
  · rename_i b off len cap n hxe hn
    rw [hxe] at hx
    obtain ⟨k, rfl⟩ := hi.int hn
    split at h
    · rename_i et s he
      obtain ⟨hu, hs⟩ := hel he
      split at h
      · rename_i hb
        cases h
        obtain ⟨hb1, hb2⟩ := hb
        cases hx with
        | ms _ _ _ _ _ cap' a hlen hcap hh =>
          unfold Blk.hasSz at hb1
          split at hb1
          · rename_i sz es hl
            simp only [beq_iff_eq] at hb1
            subst hb1
            rcases hsub b sz es hl with hp | ⟨m, base, room, hp⟩
            · rw [hp] at hh
              have hz : cap' = 0 := hh
              have : len = 0 := by omega
              subst this
              omega
            · rw [hp] at hh
              obtain ⟨h1, h2⟩ := hh
              have ha : a = some ⟨m, base + off * sz, none⟩ := h2.resolve_left (by omega)
              subst ha
              refine ⟨_, by simp [Instr.indexAt, run_underlying hu, asIntOf, hb2, run_sizeOf hs, hadd]; rfl, .mp _ _ _ _ _ ?_⟩
              rw [hp]
              show (_ : Addr) = _
              rw [Nat.add_mul, Nat.add_zero, Nat.add_assoc]
          · cases hb1
      · cases h
    · cases h
  · rename_i b j f n hxe hn
    rw [hxe] at hx
    obtain ⟨k, rfl⟩ := hi.int hn
    split at h
    · rename_i len e hu
      split at h
      · rename_i s hs
        split at h
        · rename_i hb
          cases h
          cases hx with
          | mp _ _ _ _ x hh =>
            refine ⟨_, by simp [Instr.indexAt, run_underlying hu, asIntOf, Instr.sureAddr, hb, run_sizeOf hs]; rfl, .mp _ _ _ _ _ ?_⟩
            cases hb : φ b with
            | free => rw [hb] at hh; exact hh.elim
            | dead => trivial
            | ph => rw [hb] at hh; exact hh.elim
            | loc m base sz room =>
              rw [hb] at hh
              have hx : x = ⟨m, base + j * sz + f, none⟩ := hh
              subst hx
              rw [hadd]
              show (_ : Addr) = _
              rw [Nat.add_assoc]
        · cases h
      · cases h
    · cases h
  · rename_i cs n hxe hn
    rw [hxe] at hx
    obtain ⟨k, rfl⟩ := hi.int hn
    split at h
    · rename_i len e hu
      split at h
      · rename_i s hs
        split at h
        · rename_i hb
          cases h
          cases hx with
          | rp _ cs m off v ha hc hh =>
            refine ⟨_, by simp [Instr.indexAt, run_underlying hu, asIntOf, Instr.sureAddr, hb, run_sizeOf hs, hadd]; rfl, ?_⟩
            refine .rp _ _ m _ (fun j => v (n.toNat * s + j)) ha (fun j d hd => ?_) (fun j d hd => ?_)
            · rw [List.getElem?_drop] at hd; rw [Nat.add_assoc]; exact hc _ _ hd
            · rw [List.getElem?_drop] at hd; exact hh _ _ hd
        · cases h
      · cases h
    · cases h
  · cases h

theorem V.lenD {x : D} {u : Value} {n : Int} (hx : V A w φ x u) (h : lenD x = some n) : ∃ a m c, u = .slice a m c ∧ (m : Int) = n := by
  cases hx <;> simp [DL.lenD] at h
  all_goals exact ⟨_, _, _, rfl, by simpa using h⟩
end

end
end Go.DL

/- Operations that read, write and make memory, over abstract values. -/
namespace Go.DL
open Go.RowKit

noncomputable section

def isCell : D → Bool
  | .v x => x.oneCell'
  | .agg _ | .tup _ | .any => false
  | _ => true

def cellsD : D → List D
  | .agg cs => cs
  | d => [d]

section
variable {A : Rd} {w : World} {φ : Nat → Loc} {P : Program}

theorem V.isCell {d : D} {u : Value} (h : V A w φ d u) (hd : isCell d = true) : u.oneCell' = true := by
  cases h <;> first | exact hd | rfl | cases hd

theorem V.cells {d : D} {u : Value} (h : V A w φ d u) (hd : (cellsD d).all DL.isCell = true) :
    u.cells.size = (cellsD d).length ∧ ∀ (j : Nat) (e : D), (cellsD d)[j]? = some e → ∃ y, u.cells[j]? = some y ∧ V A w φ e y ∧ y.oneCell' = true := by
  have one : ∀ {d : D} {u : Value}, V A w φ d u → cellsD d = [d] → DL.isCell d = true → u.cells = #[u] → u.cells.size = (cellsD d).length ∧
      ∀ (j : Nat) (e : D), (cellsD d)[j]? = some e → ∃ y, u.cells[j]? = some y ∧ V A w φ e y ∧ y.oneCell' = true := fun {d u} h h1 h2 h3 => by
    rw [h1, h3]
    refine ⟨rfl, fun j e he => ?_⟩
    cases j with
    | zero => simp at he; subst he; exact ⟨u, rfl, h, h.isCell h2⟩
    | succ j => simp at he
  cases h with
  | agg _ cs vs hl h =>
    refine ⟨hl, fun j e he => ?_⟩
    have hlt : j < vs.size := by rw [hl]; exact (List.getElem?_eq_some_iff.1 he).1
    have hv := h j e vs[j] he (by simp [hlt])
    refine ⟨vs[j], by simp [Value.cells, hlt], hv, hv.isCell ?_⟩
    rw [List.all_eq_true] at hd
    exact hd e (List.mem_of_getElem? he)
  | v _ =>
    have hc : u.oneCell' = true := by simpa [cellsD, DL.isCell] using hd
    exact one (.v _ _) rfl hc (by cases u <;> first | rfl | cases hc)
  | any => simp [cellsD, DL.isCell] at hd
  | tup => simp [cellsD, DL.isCell] at hd
  | nil => exact one (.nil _ _) rfl rfl rfl
  | sl0 => exact one (.sl0 _ _ _) rfl rfl rfl
  | fl0 => exact one (.fl0 _ _ _) rfl rfl rfl
  | fl _ es n off sz cap u ha hcap hsz hc h => exact one (.fl _ es n off sz cap u ha hcap hsz hc h) rfl rfl rfl
  | sl _ es n off sz cap u ha hcap hsz hc h => exact one (.sl _ es n off sz cap u ha hcap hsz hc h) rfl rfl rfl
  | rp _ cs n off u ha hc h => exact one (.rp _ cs n off u ha hc h) rfl rfl rfl
  | ms _ b off len cap cap' a hlen hcap h => exact one (.ms _ b off len cap cap' a hlen hcap h) rfl rfl rfl
  | mp _ b i f x h => exact one (.mp _ b i f x h) rfl rfl rfl
  | mm _ b r h => exact one (.mm _ b r h) rfl rfl rfl
  | fn _ f first caps vs us hl hl' h h' => exact one (.fn _ f first caps vs us hl hl' h h') rfl rfl rfl
end

/-- Part of the own blocks. -/
def Sub (Hm H : List Blk) : Prop := ∀ (b sz : Nat) (es : List (List D)), Hm[b]? = some (.live sz es) → H[b]? = some (.live sz es)
theorem Sub.refl (H : List Blk) : Sub H H := fun _ _ _ h => h

/-- What a pointer points to. -/
def peek (H : List Blk) : D → Option (List D)
  | .rp cs => some (cs.map lowD)
  | .mp b i f => match H[b]? with
    | some (.live _ es) => match es[i]? with
      | some e => some (e.drop f)
      | none => none
    | _ => none
  | _ => none

theorem add_none (n o j : Nat) : (⟨n, o, none⟩ : Addr).add j = ⟨n, o + j, none⟩ := by cases j <;> simp [Addr.add]

section
variable {A : Rd} {w : World} {φ : Nat → Loc} {P : Program} {H Hm : List Blk}

theorem peek_ok (hr : RH A φ w H) (hs : Sub Hm H) {p : D} {u : Value} {cs : List D} (h : V A w φ p u) (hp : peek Hm p = some cs) :
    ∃ n o, u = .pointer (some ⟨n, o, none⟩) ∧ ∀ (j : Nat) (d : D), cs[j]? = some d → ∃ y, w.cell? ⟨n, o + j, none⟩ = some y ∧ V A w φ d y := by
  unfold peek at hp
  split at hp
  · cases hp
    cases h with
    | rp _ cs n off v ha hc hh =>
      refine ⟨n, off, rfl, fun j d hd => ?_⟩
      simp only [List.getElem?_map, Option.map_eq_some_iff] at hd
      obtain ⟨d0, hd, rfl⟩ := hd
      exact ⟨_, hc j d0 hd, (hh j d0 hd).low⟩
  · rename_i b i f
    split at hp
    · rename_i sz es hb
      split at hp
      · rename_i e he
        cases hp
        cases h with
        | mp _ _ _ _ x h =>
          rcases hr.live b sz es (hs _ _ _ hb) with ⟨rfl, _⟩ | ⟨n, base, room, c, ty, hl, hlive⟩
          · simp at he
          · rw [hl] at h
            have hx : x = ⟨n, base + i * sz + f, none⟩ := h
            subst hx
            refine ⟨n, _, rfl, fun j d hd => ?_⟩
            rw [List.getElem?_drop] at hd
            obtain ⟨y, hy, hv⟩ := hlive.val i e _ d he hd
            refine ⟨y, ?_, hv⟩
            rw [cell_of_blk hlive.blk, Nat.add_assoc]
            exact hy
      · cases hp
    · cases hp
  · cases hp

def loadD (P : Program) (H : List Blk) (t : TypeId) (p : D) : Option D :=
  match peek H p with
  | some cs => takeD P t cs
  | none => none

theorem run_loadD (hr : RH A φ w H) (hs : Sub Hm H) {t : TypeId} {p d : D} {u : Value} (h : V A w φ p u) (hp : loadD P Hm t p = some d) :
    ∃ r, (Instr.loadAt t u).run P w = .ok r w ∧ V A w φ d r := by
  unfold loadD at hp
  split at hp
  · rename_i cs hcs
    obtain ⟨n, o, rfl, hc⟩ := peek_ok hr hs h hcs
    obtain ⟨r, h1, h2⟩ := run_loadVar_take hp hc
    exact ⟨r, by simp [Instr.loadAt, Instr.sureAddr, h1], h2⟩
  · cases hp

/-! ### stores -/
theorem rewr_setCell {n k : Nat} {c : Array Value} {ty : TypeId} {u : Value} (h : w.heap[n]? = some (.cells c ty (0, 0))) : Rewr w (w.setCell ⟨n, k, none⟩ u) n (c.setIfInBounds k u) ty := by
  refine ⟨rfl, rfl, rfl, by simp, ?_, fun m hm => ?_⟩
  · simp [World.setCell, Array.getElem?_modify, h]
  · simp only [World.setCell, Array.getElem?_modify]
    rw [if_neg (fun e => hm e.symm)]

theorem Rewr.trans {w w' w'' : World} {n : Nat} {c c' : Array Value} {ty ty' : TypeId} (h : Rewr w w' n c ty) (k : Rewr w' w'' n c' ty') : Rewr w w'' n c' ty' :=
  ⟨k.os.trans h.os, k.tape.trans h.tape, k.output.trans h.output, k.size.trans h.size, k.blk, fun m hm => (k.same m hm).trans (h.same m hm)⟩

/-- An array with some places written. -/
structure Wrote (c : Array Value) (o : Nat) (vs : List Value) (c' : Array Value) : Prop where
  size : c'.size = c.size
  new : ∀ j, j < vs.length → c'[o + j]? = vs[j]?
  old : ∀ k, k < o ∨ o + vs.length ≤ k → c'[k]? = c[k]?

theorem run_storeCells {n : Nat} {ty : TypeId} : ∀ (vs : List Value) (w : World) (c : Array Value) (o i : Nat), w.heap[n]? = some (.cells c ty (0, 0)) → o + i + vs.length ≤ c.size →
    (∀ u ∈ vs, u.oneCell' = true) → ∃ w' c', (storeCells ⟨n, o, none⟩ vs i).run P w = .ok () w' ∧ Rewr w w' n c' ty ∧ Wrote c (o + i) vs c'
  | [], w, c, o, i, h, _, _ => ⟨w, c, rfl, ⟨rfl, rfl, rfl, rfl, h, fun _ _ => rfl⟩, rfl, fun j hj => absurd hj (Nat.not_lt_zero _), fun _ _ => rfl⟩
  | u :: vs, w, c, o, i, h, hl, h1 => by
    simp only [List.length_cons] at hl
    have hr := rewr_setCell (k := o + i) (u := u) h
    obtain ⟨w', c', h2, h3, h4⟩ := run_storeCells vs (w.setCell ⟨n, o + i, none⟩ u) (c.setIfInBounds (o + i) u) o (i + 1) hr.blk (by simp; omega) fun x hx => h1 x (List.mem_cons_of_mem _ hx)
    have hcell : w.cell? ⟨n, o + i, none⟩ = some (c[o + i]'(by omega)) := by rw [cell_of_blk h]; simp
    have hfz : w.frozen? ⟨n, o + i, none⟩ = false := by simp [World.frozen?, h]
    refine ⟨w', c', ?_, hr.trans h3, ?_⟩
    · simp only [storeCells, Sem.run_bind, add_none]
      rw [run_store P w _ u _ (h1 u (List.mem_cons_self ..))]
      simp only [hcell, hfz, Bool.false_eq_true, if_false, Result.andThen, h2]
    · refine ⟨by rw [h4.size]; simp, fun j hj => ?_, fun k hk => ?_⟩
      · cases j with
        | zero => rw [h4.old (o + i + 0) (by omega), Nat.add_zero, Array.getElem?_setIfInBounds, if_pos rfl, if_pos (by omega)]; rfl
        | succ j =>
          have := h4.new j (by simpa using hj)
          rw [show o + i + (j + 1) = o + (i + 1) + j by omega, this]; simp
      · have hk' : k < o + i ∨ o + i + (vs.length + 1) ≤ k := by simpa using hk
        have h5 : k < o + (i + 1) ∨ o + (i + 1) + vs.length ≤ k := by omega
        have h6 : ¬ o + i = k := by omega
        rw [h4.old k h5, Array.getElem?_setIfInBounds, if_neg h6]

/-- A cell group written into an element. -/
def splice (e : List D) (f : Nat) (ds : List D) : List D := e.take f ++ ds ++ e.drop (f + ds.length)

theorem splice_length {e : List D} {f : Nat} {ds : List D} (h : f + ds.length ≤ e.length) : (splice e f ds).length = e.length := by simp [splice]; omega
theorem splice_get {e : List D} {f : Nat} {ds : List D} (h : f + ds.length ≤ e.length) {k : Nat} {d : D} (hd : (splice e f ds)[k]? = some d) :
    (f ≤ k ∧ k < f + ds.length ∧ ds[k - f]? = some d) ∨ ((k < f ∨ f + ds.length ≤ k) ∧ e[k]? = some d) := by
  unfold splice at hd
  have hf : f ≤ e.length := by omega
  rcases Nat.lt_or_ge k f with h1 | h1
  · rw [List.append_assoc, List.getElem?_append_left (by simp; omega), List.getElem?_take, if_pos h1] at hd
    exact .inr ⟨.inl h1, hd⟩
  · rcases Nat.lt_or_ge k (f + ds.length) with h2 | h2
    · rw [List.getElem?_append_left (by simp; omega), List.getElem?_append_right (by simp; omega)] at hd
      simp only [List.length_take, Nat.min_eq_left hf] at hd
      exact .inl ⟨h1, h2, hd⟩
    · rw [List.getElem?_append_right (by simp; omega)] at hd
      simp only [List.length_append, List.length_take, Nat.min_eq_left hf, List.getElem?_drop] at hd
      exact .inr ⟨.inr h2, by rw [← hd]; congr 1; omega⟩

def storeD (P : Program) (H : List Blk) (t : TypeId) (p d : D) : Option (Nat × Blk) :=
  match p with
  | .mp b i f => match H[b]? with
    | some (.live sz es) => match es[i]? with
      | some e => if (cellsD d).all isCell = true ∧ tsz P t = some (cellsD d).length ∧ f + (cellsD d).length ≤ e.length then some (b, .live sz (es.set i (splice e f (cellsD d)))) else none
      | none => none
    | _ => none
  | _ => none

theorem run_storeD {G : Gh} (hG : Stab G) {st : St} {a : Act} (hr : FRc G st a w A φ) (hs : Sub Hm st.H) {t : TypeId} {p d : D} {u x : Value} (hp : V A w φ p u) (hx : V A w φ d x)
    {b : Nat} {k : Blk} (h : storeD P Hm t p d = some (b, k)) : ∃ w', (Instr.storeAt t u x).run P w = .ok () w' ∧ FRc G { st with H := st.H.set b k } a w' A φ := by
  unfold storeD at h
  split at h
  · rename_i b' i f
    split at h
    · rename_i sz es hb
      split at h
      · rename_i e he
        split at h
        · rename_i hc
          cases h
          obtain ⟨hc1, hc2, hc3⟩ := hc
          obtain ⟨hv1, hv2⟩ := hx.cells hc1
          rcases hr.rh.live b sz es (hs _ _ _ hb) with ⟨rfl, _⟩ | ⟨n, base, room, c, ty, hl, hlive⟩
          · simp at he
          cases hp with
          | mp _ _ _ _ y hy =>
            rw [hl] at hy
            have hy : y = ⟨n, base + i * sz + f, none⟩ := hy
            subst hy
            have hi : i < es.length := (List.getElem?_eq_some_iff.1 he).1
            have hel : e.length = sz := hlive.len i e he
            have hsize := hlive.size
            have hfit := hlive.fits
            have hmul : i * sz + sz ≤ room * sz := by rw [← Nat.succ_mul]; exact Nat.mul_le_mul_right _ (by omega)
            obtain ⟨w', c', h1, h2, h3⟩ := run_storeCells (P := P) (n := n) (ty := ty) x.cells.toList w c (base + i * sz + f) 0 hlive.blk (by simp [hv1]; omega)
              (fun y hy => by
                obtain ⟨j, hj, rfl⟩ := List.mem_iff_getElem.1 hy
                simp only [Array.length_toList] at hj
                obtain ⟨y, hy1, _, hy2⟩ := hv2 j _ (List.getElem?_eq_getElem (by omega))
                simp only [Array.getElem?_eq_getElem hj, Option.some.injEq] at hy1
                simpa [hy1] using hy2)
            refine ⟨w', ?_, ?_⟩
            · have hne : ¬ x.cells.size ≠ (cellsD d).length := by simp [hv1]
              simp only [Instr.storeAt, Instr.sureAddr, storeVar, Sem.run_bind, Sem.run_pure, Result.andThen, run_sizeOf hc2, if_neg hne, h1]
            · have hcell : ∀ (k : Nat) (g : List D) (j : Nat) (d' : D), es[k]? = some g → g[j]? = some d' → ¬ (k = i ∧ f ≤ j ∧ j < f + (cellsD d).length) →
                  c'[base + k * sz + j]? = c[base + k * sz + j]? := fun k g j d' hk hj hne => by
                refine h3.old _ ?_
                simp only [Array.length_toList, hv1, Nat.add_zero]
                have hgl : g.length = sz := hlive.len k g hk
                have hjl : j < sz := by rw [← hgl]; exact (List.getElem?_eq_some_iff.1 hj).1
                rcases Nat.lt_trichotomy k i with h4 | h4 | h4
                · left
                  have : k * sz + sz ≤ i * sz := by rw [← Nat.succ_mul]; exact Nat.mul_le_mul_right _ h4
                  omega
                · subst h4
                  have : ¬ (f ≤ j ∧ j < f + (cellsD d).length) := fun h5 => hne ⟨rfl, h5⟩
                  omega
                · right
                  have : i * sz + sz ≤ k * sz := by rw [← Nat.succ_mul]; exact Nat.mul_le_mul_right _ h4
                  omega
              refine hr.rewr hG hl h2 (List.getElem?_eq_some_iff.1 (hs _ _ _ hb)).1 _ (by simpa using hfit) (by rw [h3.size]; exact hsize) (fun k g hk => ?_) (fun k g j d' hk hj => ?_)
              · by_cases hik : i = k
                · subst hik
                  rw [List.getElem?_set_self hi] at hk; cases hk; rw [splice_length hc3]; exact hel
                · rw [List.getElem?_set_ne hik] at hk; exact hlive.len k g hk
              · by_cases hik : i = k
                · subst hik
                  rw [List.getElem?_set_self hi] at hk; cases hk
                  rcases splice_get hc3 hj with ⟨h5, h6, h7⟩ | ⟨h5, h6⟩
                  · obtain ⟨y, hy1, hy2, _⟩ := hv2 _ _ h7
                    refine ⟨y, ?_, hy2⟩
                    have := h3.new (j - f) (by simp [hv1]; omega)
                    rw [show base + i * sz + f + 0 + (j - f) = base + i * sz + j by omega] at this
                    rw [this]; simpa using hy1
                  · obtain ⟨y, hy1, hy2⟩ := hlive.val i e j d' he h6
                    exact ⟨y, by rw [hcell i e j d' he h6 (by omega)]; exact hy1, hy2⟩
                · rw [List.getElem?_set_ne hik] at hk
                  obtain ⟨y, hy1, hy2⟩ := hlive.val k g j d' hk hj
                  exact ⟨y, by rw [hcell k g j d' hk hj (by omega)]; exact hy1, hy2⟩
        · cases h
      · cases h
    · cases h
  · cases h

/-! ### new blocks -/
def zeroD (P : Program) (t : TypeId) : Option (List D) := ((P.info? t).bind (·.zero)).map fun z => z.cells.toList.map ofV

theorem run_zeroD {t : TypeId} {z : List D} (h : zeroD P t = some z) : ∃ x, (∀ w : World, (zeroValue t).run P w = .ok x w) ∧ x.cells.size = z.length ∧
    ∀ (j : Nat) (d : D), z[j]? = some d → ∃ y, x.cells[j]? = some y ∧ V A w φ d y := by
  simp only [zeroD, Option.map_eq_some_iff, Option.bind_eq_some_iff] at h
  obtain ⟨x, ⟨i, hi, hx⟩, rfl⟩ := h
  refine ⟨x, fun w => by simp [zeroValue, run_typeInfo hi, hx], by simp, fun j d hd => ?_⟩
  simp only [List.getElem?_map, Option.map_eq_some_iff] at hd
  obtain ⟨y, hy, rfl⟩ := hd
  exact ⟨y, by simpa using hy, .ofV y⟩

section
variable {G : Gh} (hG : Stab G) {st : St} {a : Act} {s : Nat}

theorem run_box (hG : Stab G) (hr : FRc G st a w A φ) (hs : st.H[s]? = some .free) {t : TypeId} {d : D} {x : Value} (hx : V A w φ d x) (hc : (cellsD d).all isCell = true) :
    ∃ r w' φ', (Instr.box t x).run P w = .ok r w' ∧ V A w' φ' (.mp s 0 0) r ∧ FRc G { st with H := st.H.set s (.live (cellsD d).length [cellsD d]) } a w' A φ' := by
  obtain ⟨h1, h2⟩ := hx.cells hc
  refine ⟨.pointer (some ⟨w.heap.size, 0, none⟩), w.alloc (.cells x.cells t), _, by simp [Instr.box, newVar, newRow], .mp _ _ _ _ _ ?_, hr.new hG hs x.cells t _ [cellsD d] (by simp [h1]) (fun i e he => ?_) (fun i e j d' he hd => ?_)⟩
  · rw [upd_same]; show (_ : Addr) = _; simp
  · cases i <;> simp at he; subst he; rfl
  · cases i <;> simp at he; subst he
    obtain ⟨y, h3, h4, _⟩ := h2 j d' hd
    exact ⟨y, by simpa using h3, h4⟩

theorem run_allocD (hG : Stab G) (hr : FRc G st a w A φ) (hs : st.H[s]? = some .free) {t : TypeId} {z : List D} (hz : zeroD P t = some z) :
    ∃ r w' φ', (Instr.alloc t true (.tuple #[])).run P w = .ok r w' ∧ V A w' φ' (.mp s 0 0) r ∧ FRc G { st with H := st.H.set s (.live z.length [z]) } a w' A φ' := by
  obtain ⟨x, h0, h1, h2⟩ := run_zeroD (A := A) (w := w) (φ := φ) hz
  refine ⟨.pointer (some ⟨w.heap.size, 0, none⟩), w.alloc (.cells x.cells t), _, by simp [Instr.alloc, h0, newVar, newRow], .mp _ _ _ _ _ ?_, hr.new hG hs x.cells t _ [z] (by simp [h1]) (fun i e he => ?_) (fun i e j d' he hd => ?_)⟩
  · rw [upd_same]; show (_ : Addr) = _; simp
  · cases i <;> simp at he; subst he; rfl
  · cases i <;> simp at he; subst he
    obtain ⟨y, h3, h4⟩ := h2 j d' hd
    exact ⟨y, by simpa using h3, h4⟩
end
end
end
end Go.DL

/- Literals of structs and slices, make, slicing, append and copy, over abstract values. -/
namespace Go.DL
open Go.RowKit

noncomputable section

/-- Abstract cells stand for values. -/
structure CR (A : Rd) (w : World) (φ : Nat → Loc) (cs : List D) (vs : Array Value) : Prop where
  size : vs.size = cs.length
  val : ∀ (j : Nat) (d : D), cs[j]? = some d → ∃ y, vs[j]? = some y ∧ V A w φ d y

def fillD (place : Nat → Option (Nat × Nat)) (cells : List D) : List (Nat × D) → Option (List D)
  | [] => some cells
  | (i, d) :: rest => match place i with
    | none => none
    | some (off, size) => if (cellsD d).length = size ∧ (cellsD d).all isCell = true ∧ off + size ≤ cells.length then fillD place (splice cells off (cellsD d)) rest else none

def placesD (P : Program) : List Field → Option (List (Nat × Nat))
  | [] => some []
  | f :: r => match tsz P f.type, placesD P r with
    | some n, some l => some ((f.offset, n) :: l)
    | _, _ => none

def buildD (P : Program) (t : TypeId) (parts : List (Nat × D)) : Option D :=
  match zeroD P t, P.underlying t with
  | some z, some (.struct fs) => match placesD P fs.toList with
    | some pl => (fillD (fun i => pl[i]?) z parts).map .agg
    | none => none
  | some z, some (.array _ e) => match tsz P e with
    | some s => (fillD (fun i => some (i * s, s)) z parts).map .agg
    | none => none
  | _, _ => none

/-- The elements of a slice literal. -/
def rowsD (s : Nat) (es : List (List D)) : List (Nat × D) → Option (List (List D))
  | [] => some es
  | (i, d) :: rest => if (cellsD d).length = s ∧ (cellsD d).all isCell = true ∧ i < es.length then rowsD s (es.set i (cellsD d)) rest else none

section
variable {A : Rd} {w : World} {φ : Nat → Loc} {P : Program} {H Hm : List Blk}

theorem foldl_set (off : Nat) : ∀ (l : List (Value × Nat)) (s : Nat) (vs : List Value) (cs : Array Value), l = vs.zipIdx s → off + s + vs.length ≤ cs.size →
    Wrote cs (off + s) vs (l.foldl (fun cs (c, j) => cs.setIfInBounds (off + j) c) cs)
  | _, s, [], cs, rfl, _ => ⟨rfl, fun j hj => absurd hj (Nat.not_lt_zero _), fun _ _ => rfl⟩
  | _, s, v :: vs, cs, rfl, h => by
    simp only [List.length_cons] at h
    simp only [List.zipIdx_cons, List.foldl_cons]
    have ih := foldl_set off _ (s + 1) vs (cs.setIfInBounds (off + s) v) rfl (by simp; omega)
    refine ⟨by rw [ih.size]; simp, fun j hj => ?_, fun k hk => ?_⟩
    · cases j with
      | zero => rw [ih.old (off + s + 0) (by omega), Nat.add_zero, Array.getElem?_setIfInBounds, if_pos rfl, if_pos (by omega)]; rfl
      | succ j =>
        have := ih.new j (by simpa using hj)
        rw [show off + s + (j + 1) = off + (s + 1) + j by omega, this]; simp
    · have hk' : k < off + s ∨ off + s + (vs.length + 1) ≤ k := by simpa using hk
      have h5 : k < off + (s + 1) ∨ off + (s + 1) + vs.length ≤ k := by omega
      have h6 : ¬ off + s = k := by omega
      rw [ih.old k h5, Array.getElem?_setIfInBounds, if_neg h6]

theorem wrote_fill {cs : Array Value} {off : Nat} {u : Value} (h : off + u.cells.size ≤ cs.size) :
    Wrote cs off u.cells.toList (u.cells.zipIdx.foldl (fun cs (c, j) => cs.setIfInBounds (off + j) c) cs) := by
  rw [← Array.foldl_toList, Array.toList_zipIdx]
  have := foldl_set off _ 0 u.cells.toList cs rfl (by simpa using h)
  simpa using this

theorem CR.splice {cs : List D} {vs vs' : Array Value} {off : Nat} {d : D} {u : Value} (h : CR A w φ cs vs) (hv : V A w φ d u) (hc : (cellsD d).all isCell = true)
    (hfit : off + (cellsD d).length ≤ cs.length) (hw : Wrote vs off u.cells.toList vs') : CR A w φ (DL.splice cs off (cellsD d)) vs' := by
  obtain ⟨h1, h2⟩ := hv.cells hc
  refine ⟨by rw [hw.size, splice_length hfit, h.size], fun j e he => ?_⟩
  rcases splice_get hfit he with ⟨h3, h4, h5⟩ | ⟨h3, h4⟩
  · obtain ⟨y, hy, hyv, _⟩ := h2 _ _ h5
    refine ⟨y, ?_, hyv⟩
    have := hw.new (j - off) (by simp [h1]; omega)
    rw [show off + (j - off) = j by omega] at this
    rw [this]; simpa using hy
  · obtain ⟨y, hy, hyv⟩ := h.val j e h4
    exact ⟨y, by rw [hw.old j (by simpa [h1] using h3)]; exact hy, hyv⟩

theorem fill_ok {place : Nat → Option (Nat × Nat)} {t : List D} {a : Act} (ht : TR A w φ t a.tmps) : ∀ (ps : List (Nat × Operand)) (cs cs' : List D) (vs : Array Value), CR A w φ cs vs →
    fillD place cs (ps.map fun p => (p.1, ev t p.2)) = some cs' → ∃ vs', Instr.fill place vs (ps.map fun p => (p.1, a.eval p.2)) = some vs' ∧ CR A w φ cs' vs'
  | [], cs, cs', vs, h, he => by simp [fillD] at he; subst he; exact ⟨vs, rfl, h⟩
  | (i, x) :: ps, cs, cs', vs, h, he => by
    simp only [List.map_cons, fillD] at he
    cases hp : place i with
    | none => rw [hp] at he; cases he
    | some p =>
      obtain ⟨off, size⟩ := p
      simp only [hp] at he
      split at he
      · rename_i hc
        obtain ⟨hc1, hc2, hc3⟩ := hc
        obtain ⟨h1, _⟩ := (ht.ev x).cells hc2
        have hfit : off + (a.eval x).cells.size ≤ vs.size := by rw [h1, h.size, hc1]; exact hc3
        obtain ⟨vs', hv1, hv2⟩ := fill_ok ht ps _ cs' _ (h.splice (ht.ev x) hc2 (by rw [hc1]; exact hc3) (wrote_fill hfit)) he
        refine ⟨vs', ?_, hv2⟩
        have hne : ¬ (((decide ((a.eval x).cells.size ≠ size)) || (decide (off + (a.eval x).cells.size > vs.size))) = true) := by simp; omega
        simp only [List.map_cons, Instr.fill, hp]
        rw [if_neg hne]
        exact hv1
      · cases he

theorem run_placesD : ∀ (fs : List Field) (pl : List (Nat × Nat)), placesD P fs = some pl → ∀ w : World,
    (fs.mapM fun f => do pure (f.offset, ← sizeOf f.type) : Sem (List (Nat × Nat))).run P w = .ok pl w
  | [], pl, h, w => by simp [placesD] at h; subst h; rfl
  | f :: r, pl, h, w => by
    simp only [placesD] at h
    split at h
    · rename_i n l hn hl
      cases h
      have hr := run_placesD r l hl w
      simp only [List.mapM_cons, Sem.run_bind, run_sizeOf hn, Result.andThen, Sem.run_pure, hr]
    · cases h

theorem run_buildD {t : TypeId} {tm : List D} {a : Act} (ht : TR A w φ tm a.tmps) (ps : Array (Nat × Operand)) {d : D} (h : buildD P t (ps.toList.map fun p => (p.1, ev tm p.2)) = some d) :
    ∃ r, (Instr.build t (ps.map fun p => (p.1, a.eval p.2))).run P w = .ok r w ∧ V A w φ d r := by
  have fin : ∀ {cs : List D} {vs : Array Value}, CR A w φ cs vs → V A w φ (.agg cs) (.agg vs) := fun h =>
    .agg _ _ _ h.size fun i d u h1 h2 => let ⟨y, h3, h4⟩ := h.val i d h1; by rw [h3] at h2; cases h2; exact h4
  unfold buildD at h
  split at h
  · rename_i z fs hz hu
    obtain ⟨x, h0, h1, h2⟩ := run_zeroD (A := A) (w := w) (φ := φ) hz
    split at h
    · rename_i pl hp
      simp only [Option.map_eq_some_iff] at h
      obtain ⟨cs, hc, rfl⟩ := h
      obtain ⟨vs', hv1, hv2⟩ := fill_ok ht ps.toList z cs x.cells ⟨h1, h2⟩ hc
      refine ⟨.agg vs', ?_, fin hv2⟩
      have hm : (fs.mapM fun f => do pure (f.offset, ← sizeOf f.type) : Sem (Array (Nat × Nat))).run P w = .ok pl.toArray w := by
        rw [Array.mapM_eq_mapM_toList, Sem.run_map, run_placesD _ _ hp]; rfl
      have hpl : (fun i : Nat => pl.toArray[i]?) = fun i : Nat => pl[i]? := by funext i; simp
      simp only [Instr.build, Sem.run_bind, h0, Result.andThen, run_underlying hu, hm, hpl, Array.toList_map, hv1, Sem.run_pure]
    · cases h
  · rename_i z len e hz hu
    obtain ⟨x, h0, h1, h2⟩ := run_zeroD (A := A) (w := w) (φ := φ) hz
    split at h
    · rename_i s hs
      simp only [Option.map_eq_some_iff] at h
      obtain ⟨cs, hc, rfl⟩ := h
      obtain ⟨vs', hv1, hv2⟩ := fill_ok ht ps.toList z cs x.cells ⟨h1, h2⟩ hc
      refine ⟨.agg vs', ?_, fin hv2⟩
      simp only [Instr.build, Sem.run_bind, h0, Result.andThen, run_underlying hu, run_sizeOf hs, Array.toList_map, hv1, Sem.run_pure]
    · cases h
  · cases h

/-- Elements of s cells each stand for a row of cells. -/
structure RR (A : Rd) (w : World) (φ : Nat → Loc) (s : Nat) (es : List (List D)) (vs : Array Value) : Prop where
  size : vs.size = es.length * s
  len : ∀ (i : Nat) (e : List D), es[i]? = some e → e.length = s
  val : ∀ (i : Nat) (e : List D) (j : Nat) (d : D), es[i]? = some e → e[j]? = some d → ∃ y, vs[i * s + j]? = some y ∧ V A w φ d y

theorem RR.set {s : Nat} {es : List (List D)} {vs vs' : Array Value} {i : Nat} {d : D} {u : Value} (h : RR A w φ s es vs) (hv : V A w φ d u) (hc : (cellsD d).all isCell = true)
    (hs : (cellsD d).length = s) (hi : i < es.length) (hw : Wrote vs (i * s) u.cells.toList vs') : RR A w φ s (es.set i (cellsD d)) vs' := by
  obtain ⟨h1, h2⟩ := hv.cells hc
  refine ⟨by rw [hw.size, h.size]; simp, fun k g hk => ?_, fun k g j e hk hj => ?_⟩
  · by_cases hik : i = k
    · subst hik; rw [List.getElem?_set_self hi] at hk; cases hk; exact hs
    · rw [List.getElem?_set_ne hik] at hk; exact h.len k g hk
  · by_cases hik : i = k
    · subst hik
      rw [List.getElem?_set_self hi] at hk; cases hk
      obtain ⟨y, hy, hyv, _⟩ := h2 j e hj
      exact ⟨y, by rw [hw.new j (by simp [h1]; exact (List.getElem?_eq_some_iff.1 hj).1)]; simpa using hy, hyv⟩
    · rw [List.getElem?_set_ne hik] at hk
      obtain ⟨y, hy, hyv⟩ := h.val k g j e hk hj
      refine ⟨y, ?_, hyv⟩
      have hjl : j < s := by rw [← h.len k g hk]; exact (List.getElem?_eq_some_iff.1 hj).1
      rw [hw.old (k * s + j) ?_]; exact hy
      simp only [Array.length_toList, h1, hs]
      rcases Nat.lt_or_ge k i with h4 | h4
      · left
        have : k * s + s ≤ i * s := by rw [← Nat.succ_mul]; exact Nat.mul_le_mul_right _ h4
        omega
      · right
        have : i * s + s ≤ k * s := by rw [← Nat.succ_mul]; exact Nat.mul_le_mul_right _ (by omega)
        omega

theorem rows_ok {s : Nat} {t : List D} {a : Act} (ht : TR A w φ t a.tmps) : ∀ (ps : List (Nat × Operand)) (es es' : List (List D)) (vs : Array Value), RR A w φ s es vs →
    rowsD s es (ps.map fun p => (p.1, ev t p.2)) = some es' → ∃ vs', Instr.fill (fun i => some (i * s, s)) vs (ps.map fun p => (p.1, a.eval p.2)) = some vs' ∧ RR A w φ s es' vs' ∧ es'.length = es.length
  | [], es, es', vs, h, he => by simp [rowsD] at he; subst he; exact ⟨vs, rfl, h, rfl⟩
  | (i, x) :: ps, es, es', vs, h, he => by
    simp only [List.map_cons, rowsD] at he
    split at he
    · rename_i hc
      obtain ⟨hc1, hc2, hc3⟩ := hc
      obtain ⟨h1, _⟩ := (ht.ev x).cells hc2
      have hmul : i * s + s ≤ es.length * s := by rw [← Nat.succ_mul]; exact Nat.mul_le_mul_right _ hc3
      have hfit : i * s + (a.eval x).cells.size ≤ vs.size := by rw [h1, h.size, hc1]; exact hmul
      obtain ⟨vs', hv1, hv2, hv3⟩ := rows_ok ht ps _ es' _ (h.set (ht.ev x) hc2 hc1 hc3 (wrote_fill hfit)) he
      refine ⟨vs', ?_, hv2, by rw [hv3]; simp⟩
      have hne : ¬ (((decide ((a.eval x).cells.size ≠ s)) || (decide (i * s + (a.eval x).cells.size > vs.size))) = true) := by simp; omega
      simp only [List.map_cons, Instr.fill]
      rw [if_neg hne]
      exact hv1
    · cases he

theorem zero_rows {z : List D} {x : Value} (h1 : x.cells.size = z.length) (h2 : ∀ (j : Nat) (d : D), z[j]? = some d → ∃ y, x.cells[j]? = some y ∧ V A w φ d y) (n : Nat) :
    RR A w φ z.length (List.replicate n z) ((Array.range (n * z.length)).map (x.cells[· % x.cells.size]!)) := by
  refine ⟨by simp, fun i e he => ?_, fun i e j d he hd => ?_⟩
  · rw [List.getElem?_replicate] at he; split at he <;> cases he; rfl
  · rw [List.getElem?_replicate] at he
    split at he
    · rename_i hi
      cases he
      obtain ⟨y, hy, hv⟩ := h2 j d hd
      refine ⟨y, ?_, hv⟩
      have hj : j < z.length := (List.getElem?_eq_some_iff.1 hd).1
      have hlt : i * z.length + j < n * z.length := by
        have : i * z.length + z.length ≤ n * z.length := by rw [← Nat.succ_mul]; exact Nat.mul_le_mul_right _ hi
        omega
      have hmod : (i * z.length + j) % z.length = j := by rw [Nat.mul_comm, Nat.mul_add_mod]; exact Nat.mod_eq_of_lt hj
      simp only [Array.getElem?_map, Array.getElem?_range, hlt, if_true, Option.map_some, h1, hmod]
      have hj' : j < x.cells.size := by omega
      rw [Array.getElem?_eq_getElem hj', Option.some.injEq] at hy
      simp [hj', hy]
    · cases he

def buildSliceD (P : Program) (t : TypeId) (len : Nat) (parts : List (Nat × D)) : Option (Nat × List (List D)) :=
  match elemT P t with
  | some (e, s) => match zeroD P e with
    | some z => if 0 < s ∧ z.length = s ∧ len * s ≤ 16777216 then (rowsD s (List.replicate len z) parts).map fun es => (s, es) else none
    | none => none
  | none => none

theorem elemT_ok {t e : TypeId} {s : Nat} (h : elemT P t = some (e, s)) : P.underlying t = some (.slice e) ∧ tsz P e = some s := by
  unfold elemT at h
  split at h
  · rename_i e' hu
    simp only [Option.map_eq_some_iff, Prod.mk.injEq] at h
    obtain ⟨n, hn, rfl, rfl⟩ := h
    exact ⟨hu, hn⟩
  · cases h

section
variable {G : Gh} (hG : Stab G) {st : St} {a : Act} {s : Nat}

theorem run_buildSliceD (hG : Stab G) (hr : FRc G st a w A φ) (hs : st.H[s]? = some .free) {t : TypeId} {len : Nat} (ps : Array (Nat × Operand)) {sz : Nat} {es : List (List D)}
    (h : buildSliceD P t len (ps.toList.map fun p => (p.1, ev st.t p.2)) = some (sz, es)) :
    ∃ r w' φ', (Instr.buildSlice t len (ps.map fun p => (p.1, a.eval p.2))).run P w = .ok r w' ∧ V A w' φ' (.ms s 0 len len) r ∧ FRc G { st with H := st.H.set s (.live sz es) } a w' A φ' := by
  unfold buildSliceD at h
  split at h
  · rename_i e s' he
    obtain ⟨hu, hts⟩ := elemT_ok he
    split at h
    · rename_i z hz
      split at h
      · rename_i hc
        obtain ⟨hc1, hc2, hc3⟩ := hc
        simp only [Option.map_eq_some_iff, Prod.mk.injEq] at h
        obtain ⟨es', hes, rfl, rfl⟩ := h
        obtain ⟨x, h0, h1, h2⟩ := run_zeroD (A := A) (w := w) (φ := φ) hz
        subst hc2
        have hzr := zero_rows h1 h2 len
        obtain ⟨vs', hv1, hv2, hv3⟩ := rows_ok hr.tr ps.toList _ es' _ hzr hes
        have hlen : es'.length = len := by rw [hv3]; simp
        refine ⟨.slice (some ⟨w.heap.size, 0, none⟩) len len, w.alloc (.cells vs' e), _, ?_, .ms _ _ _ _ _ _ _ (Nat.le_refl _) (Nat.le_refl _) ?_,
          hr.new hG hs vs' e z.length es' (by rw [hv2.size]; exact Nat.le_refl _) hv2.len fun i e j d h3 h4 => hv2.val i e j d h3 h4⟩
        · have hn : ¬ (len * z.length > 2 ^ 24) := by simpa using hc3
          rcases Nat.eq_zero_or_pos len with hl | hl
          · subst hl
            have hnil : ps.toList = [] := by
              cases hp : ps.toList with
              | nil => rfl
              | cons p r => rw [hp] at hes; simp [rowsD] at hes
            rw [hnil] at hv1
            simp only [List.map_nil, Instr.fill, Option.some.injEq] at hv1
            subst hv1
            simp only [Instr.buildSlice, Sem.run_bind, run_underlying hu, Result.andThen, run_sizeOf hts, Nat.zero_mul, Array.toList_map, hnil]
            simp [Instr.fill, newRow, Array.range_zero']
          · have hne : ¬ (len * z.length = 0) := Nat.ne_of_gt (Nat.mul_pos hl hc1)
            simp only [Instr.buildSlice, Sem.run_bind, run_underlying hu, Result.andThen, run_sizeOf hts, if_neg hn, if_neg hne, h0, Array.toList_map]
            simp [hv1, newRow]
        · rw [upd_same]
          exact ⟨by omega, .inr (by simp)⟩
      · cases h
    · cases h
  · cases h

def makeSliceD (P : Program) (t : TypeId) (l c : D) : Option (Nat × Nat × Nat × List (List D)) :=
  match intD l, intD c, elemT P t with
  | some l, some c, some (e, s) => match zeroD P e with
    | some z => if 0 ≤ l ∧ l ≤ c ∧ (P.bytesOf e : Int) * c ≤ 281474976710656 ∧ c ≤ 9223372036854775807 ∧ 0 < s ∧ z.length = s then some (l.toNat, c.toNat, s, List.replicate c.toNat z) else none
    | none => none
  | _, _, _ => none

theorem run_makeSliceD (hG : Stab G) (hr : FRc G st a w A φ) (hs : st.H[s]? = some .free) {t : TypeId} {l c : D} {u v : Value} (hl : V A w φ l u) (hc : V A w φ c v) {ln cn sz : Nat} {es : List (List D)}
    (h : makeSliceD P t l c = some (ln, cn, sz, es)) :
    ∃ r w' φ', (Instr.makeSlice t u v).run P w = .ok r w' ∧ V A w' φ' (.ms s 0 ln cn) r ∧ FRc G { st with H := st.H.set s (.live sz es) } a w' A φ' := by
  unfold makeSliceD at h
  split at h
  · rename_i l' c' e s' hl' hc' he
    obtain ⟨hu, hts⟩ := elemT_ok he
    obtain ⟨k1, rfl⟩ := hl.int hl'
    obtain ⟨k2, rfl⟩ := hc.int hc'
    split at h
    · rename_i z hz
      split at h
      · rename_i hb
        obtain ⟨b1, b2, b3, b4, b5, b6⟩ := hb
        cases h
        have hz0 := hz
        simp only [zeroD, Option.map_eq_some_iff, Option.bind_eq_some_iff] at hz0
        obtain ⟨x, ⟨i, hi, hx⟩, rfl⟩ := hz0
        have hisz : i.size = sz := by simp only [tsz, hi, Option.map_some, Option.some.injEq] at hts; exact hts
        have hby : P.bytesOf e = i.bytes := by simp [Program.bytesOf, hi]
        rw [hby] at b3
        have hrun := run_make (P := P) w t e i x hu hi hx k1 k2 l' c' b1 b2 b3 b4
        have hxs : x.cells.size = sz := by simpa using b6
        have hzr := zero_rows (A := A) (w := w) (φ := φ) (z := x.cells.toList.map ofV) (x := x) (by simp) (fun j d hd => by
          simp only [List.getElem?_map, Option.map_eq_some_iff] at hd
          obtain ⟨y, hy, rfl⟩ := hd
          exact ⟨y, by simpa using hy, .ofV y⟩) c'.toNat
        have hcells : madeCells x.cells (c'.toNat * i.size) = (Array.range (c'.toNat * (x.cells.toList.map ofV).length)).map (x.cells[· % x.cells.size]!) := by
          rw [hisz, ← b6]; rfl
        refine ⟨_, _, upd φ s (.loc w.heap.size 0 sz c'.toNat), hrun, .ms _ _ _ _ _ _ _ (by omega) (Nat.le_refl _) ?_, ?_⟩
        · rw [upd_same]; exact ⟨by omega, .inr (by simp)⟩
        · have := hr.new hG hs (madeCells x.cells (c'.toNat * i.size)) e sz (List.replicate c'.toNat (x.cells.toList.map ofV)) (by rw [hcells, hzr.size]; simp [hxs])
            (fun j g hg => by rw [hzr.len j g hg, b6]) (fun j g k d hg hd => by rw [hcells, ← b6]; exact hzr.val j g k d hg hd)
          simpa using this
      · cases h
    · cases h
  · cases h
end
end
end
end Go.DL

/- Slicing, append and copy over abstract values. -/
namespace Go.DL
open Go.RowKit

noncomputable section

/-- An optional bound as a number. -/
def bndD (d : Option D) (dflt : Int) : Option Int :=
  match d with
  | none => some dflt
  | some x => intD x

/-- The result of slicing: of a read-only slice, of an own block's, of an empty one. -/
def sliceD (P : Program) (H : List Blk) (t : TypeId) (x : D) (lo hi mx : Option D) : Option D :=
  match elemT P t with
  | none => none
  | some (_, s) => match unfl x with
    | .sl es => match bndD lo 0, bndD hi es.length with
      | some l, some h => match mx with
        | none => if 0 ≤ l ∧ l ≤ h ∧ h ≤ (es.length : Int) ∧ (l = 0 ∨ es.all (fun e => e.length == s) = true) then some (.sl ((es.take h.toNat).drop l.toNat)) else none
        | some m => match intD m with
          | some m => if 0 ≤ l ∧ l = h ∧ l = m ∧ m ≤ (es.length : Int) then some .nil else none
          | none => none
      | _, _ => none
    | .nil => match bndD lo 0, bndD hi 0, bndD mx 0 with
      | some l, some h, some m => if l = 0 ∧ h = 0 ∧ m = 0 then some .nil else none
      | _, _, _ => none
    | .ms b off len cap => match bndD lo 0, bndD hi len, mx with
      | some l, some h, none => if Blk.hasSz s H[b]? = true ∧ 0 ≤ l ∧ l ≤ h ∧ h ≤ (cap : Int) then some (.ms b (off + l.toNat) (h.toNat - l.toNat) (cap - l.toNat)) else none
      | some l, some h, some m => match intD m with
        | some m => if Blk.hasSz s H[b]? = true ∧ 0 ≤ l ∧ l ≤ h ∧ h ≤ m ∧ m ≤ (cap : Int) then some (.ms b (off + l.toNat) (h.toNat - l.toNat) (m.toNat - l.toNat)) else none
        | none => none
      | _, _, _ => none
    | _ => none

/-- The elements that a slice has. -/
def elemsD (H : List Blk) : D → Option (List (List D))
  | .sl es => some (es.map (List.map lowD))
  | .fl es => some (es.map (List.map lowD))
  | .nil => some []
  | .ms b off len _ => match H[b]? with
    | some (.live _ es) => if off + len ≤ es.length then some ((es.take (off + len)).drop off) else none
    | _ => none
  | _ => none

section
variable {A : Rd} {w : World} {φ : Nat → Loc} {P : Program} {H Hm : List Blk}

theorem run_bound {d : D} {u : Value} {n : Int} {y : Nat} {code : BoundsCode} (h : V A w φ d u) (hd : intD d = some n) (h0 : 0 ≤ n) (h1 : n ≤ y) :
    (Instr.sliceBound u y code).run P w = .ok n.toNat w := by
  obtain ⟨k, rfl⟩ := h.int hd
  simp [Instr.sliceBound, asIntOf, h0, h1]

theorem run_bounds {lo hi mx : Option Operand} {t : List D} {a : Act} (ht : TR A w φ t a.tmps) {isS : Bool} {len cap : Nat} {l h m : Int}
    (hl : bndD (lo.map (ev t)) 0 = some l) (hh : bndD (hi.map (ev t)) len = some h) (hm : bndD (mx.map (ev t)) cap = some m)
    (h0 : 0 ≤ l) (h1 : l ≤ h) (h2 : h ≤ m) (h3 : m ≤ cap) (hx : mx.isSome = true → hi.isSome = true) :
    (Instr.sliceBounds isS len cap (lo.map a.eval) (hi.map a.eval) (mx.map a.eval)).run P w = .ok (l.toNat, h.toNat, m.toNat) w := by
  have e1 : ∀ {x : Option Operand} {d : Nat} {n : Int}, bndD (x.map (ev t)) d = some n → (x = none ∧ n = d) ∨ ∃ o, x = some o ∧ intD (ev t o) = some n := fun {x d n} h => by
    cases x with
    | none => simp [bndD] at h; exact .inl ⟨rfl, h.symm⟩
    | some o => exact .inr ⟨o, rfl, h⟩
  have e1' : (lo = none ∧ l = 0) ∨ ∃ o, lo = some o ∧ intD (ev t o) = some l := by
    cases lo with
    | none => simp [bndD] at hl; exact .inl ⟨rfl, hl.symm⟩
    | some o => exact .inr ⟨o, rfl, hl⟩
  have hmn : (m.toNat : Int) = m := by omega
  have hhn : (h.toNat : Int) = h := by omega
  rcases e1 hm with ⟨rfl, em⟩ | ⟨om, rfl, hm'⟩
  · rcases e1 hh with ⟨rfl, eh⟩ | ⟨oh, rfl, hh'⟩
    · rcases e1' with ⟨rfl, el⟩ | ⟨ol, rfl, hl'⟩
      · subst em; subst eh; subst el; simp [Instr.sliceBounds]
      · subst em; subst eh
        have := run_bound (P := P) (y := len) (code := .sliceB) (ht.ev ol) hl' h0 (by omega)
        simp [Instr.sliceBounds, this]
    · have hb := run_bound (P := P) (y := cap) (code := if isS then .sliceAcap else .sliceAlen) (ht.ev oh) hh' (by omega) (by omega)
      rcases e1' with ⟨rfl, el⟩ | ⟨ol, rfl, hl'⟩
      · subst em; subst el; simp [Instr.sliceBounds, hb]
      · subst em
        have := run_bound (P := P) (y := h.toNat) (code := .sliceB) (ht.ev ol) hl' h0 (by omega)
        simp [Instr.sliceBounds, hb, this]
  · have hb0 := run_bound (P := P) (y := cap) (code := if isS then .slice3Acap else .slice3Alen) (ht.ev om) hm' (by omega) (by omega)
    rcases e1 hh with ⟨rfl, eh⟩ | ⟨oh, rfl, hh'⟩
    · simp at hx
    · have hb := run_bound (P := P) (y := m.toNat) (code := .slice3B) (ht.ev oh) hh' (by omega) (by omega)
      rcases e1' with ⟨rfl, el⟩ | ⟨ol, rfl, hl'⟩
      · subst el; simp [Instr.sliceBounds, hb0, hb]
      · have := run_bound (P := P) (y := h.toNat) (code := .slice3C) (ht.ev ol) hl' h0 (by omega)
        simp [Instr.sliceBounds, hb0, hb, this]

theorem run_sliceAt {ty e : TypeId} {s : Nat} (hu : P.underlying ty = some (.slice e)) (hs : tsz P e = some s) {x : Option Addr} {len cap l h m : Nat} {lo hi mx : Option Value}
    (hb : (Instr.sliceBounds true len cap lo hi mx).run P w = .ok (l, h, m) w) :
    (Instr.sliceAt ty (.slice x len cap) lo hi mx).run P w = .ok (.slice (if m = l then x else x.map (·.add (l * s))) (h - l) (m - l)) w := by
  simp [Instr.sliceAt, run_underlying hu, Instr.slice, hb, run_sizeOf hs]

theorem run_sliceD (hr : RH A φ w H) (hsub : Sub Hm H) {ty : TypeId} {t : List D} {a : Act} (ht : TR A w φ t a.tmps) (x : Operand) (lo hi mx : Option Operand) {d : D}
    (h : sliceD P Hm ty (ev t x) (lo.map (ev t)) (hi.map (ev t)) (mx.map (ev t)) = some d) (hx : mx.isSome = true → hi.isSome = true) :
    ∃ r, (Instr.sliceAt ty (a.eval x) (lo.map a.eval) (hi.map a.eval) (mx.map a.eval)).run P w = .ok r w ∧ V A w φ d r := by
  have hv := (ht.ev x).unfl'
  unfold sliceD at h
  split at h
  · cases h
  · rename_i et s he
    obtain ⟨hu, hs⟩ := elemT_ok he
    split at h
    · rename_i es hes
      rw [hes] at hv
      split at h
      · rename_i l hh hl hhi
        split at h
        · rename_i hmx
          split at h
          · rename_i hc
            obtain ⟨c1, c2, c3, c4⟩ := hc
            cases h
            have hmn : mx = none := by cases mx <;> simp at hmx; rfl
            subst hmn
            obtain ⟨u, hue, hlen, hcap⟩ : ∃ u cap, a.eval x = .slice u es.length cap ∧ es.length ≤ cap := by
              generalize a.eval x = y at hv
              cases hv with
              | sl0 _ a cap => exact ⟨a, cap, rfl, Nat.zero_le _⟩
              | sl _ es n off sz cap u ha hcap hsz hc h => exact ⟨_, cap, rfl, hcap⟩
            rw [hlen] at hv ⊢
            have hb := run_bounds (P := P) (w := w) ht (isS := true) (len := es.length) (cap := hue) (l := l) (h := hh) (m := hue) (mx := none) hl hhi rfl c1 c2 (by omega) (by omega) hx
            refine ⟨_, run_sliceAt hu hs hb, ?_⟩
            simp only [Int.toNat_natCast]
            have hlen2 : ((es.take hh.toNat).drop l.toNat).length = hh.toNat - l.toNat := by simp; omega
            have hget : ∀ (i : Nat) (e : List D), ((es.take hh.toNat).drop l.toNat)[i]? = some e → es[l.toNat + i]? = some e := fun i e he => by
              rw [List.getElem?_drop, List.getElem?_take] at he
              split at he
              · exact he
              · cases he
            cases hv with
            | sl0 =>
              have hn : (List.drop l.toNat (List.take hh.toNat ([] : List (List D)))) = [] := by simp
              rw [hn] at hlen2 ⊢
              rw [← hlen2]; exact .sl0 _ _ _
            | sl _ _ n off sz _ v ha hcp hsz hcc hhh =>
              rcases Nat.eq_zero_or_pos (hh.toNat - l.toNat) with hz | hz
              · rw [hz] at hlen2 ⊢
                rw [List.eq_nil_of_length_eq_zero hlen2]; exact .sl0 _ _ _
              · have hne : ¬ (hue = l.toNat) := by omega
                rw [if_neg hne, ← hlen2]
                simp only [Option.map_some, add_none]
                have hzs : l.toNat * s = l.toNat * sz := by
                  rcases c4 with c4 | c4
                  · subst c4; simp
                  · congr 1
                    have h0 : 0 < es.length := by omega
                    have h1 := hsz 0 es[0] (List.getElem?_eq_getElem h0)
                    rw [List.all_eq_true] at c4
                    have h2 := c4 es[0] (List.getElem_mem h0)
                    simp only [beq_iff_eq] at h2
                    omega
                rw [hzs]
                refine .sl _ _ n _ sz _ (fun i j => v (l.toNat + i) j) ha (by rw [hlen2]; omega) (fun i e he => hsz _ _ (hget i e he)) (fun i e j d he hd => ?_) (fun i e j d he hd => hhh _ _ _ _ (hget i e he) hd)
                rw [show off + l.toNat * sz + i * sz + j = off + (l.toNat + i) * sz + j by rw [Nat.add_mul]; omega]
                exact hcc _ _ _ _ (hget i e he) hd
          · cases h
        · rename_i om hmx
          split at h
          · rename_i m hm
            split at h
            · rename_i hc
              obtain ⟨c1, c2, c3, c4⟩ := hc
              cases h
              obtain ⟨ox, rfl⟩ : ∃ ox, mx = some ox := by cases mx <;> simp at hmx; exact ⟨_, rfl⟩
              simp only [Option.map_some, Option.some.injEq] at hmx
              obtain ⟨u, cap, hlen, hcap⟩ : ∃ u cap, a.eval x = .slice u es.length cap ∧ es.length ≤ cap := by
                generalize a.eval x = y at hv
                cases hv with
                | sl0 _ a cap => exact ⟨a, cap, rfl, Nat.zero_le _⟩
                | sl _ es n off sz cap u ha hcap hsz hc h => exact ⟨_, cap, rfl, hcap⟩
              rw [hlen]
              have hb := run_bounds (P := P) (w := w) ht (isS := true) (len := es.length) (cap := cap) (l := l) (h := hh) (m := m) (mx := some ox) hl hhi (by simp only [Option.map_some, bndD]; rw [hmx]; exact hm) c1 (by omega) (by omega) (by omega) hx
              refine ⟨_, run_sliceAt hu hs hb, ?_⟩
              have e1 : hh.toNat - l.toNat = 0 := by omega
              have e2 : m.toNat - l.toNat = 0 := by omega
              rw [e1, e2]; exact .nil _ _
            · cases h
          · cases h
      · cases h
    · rename_i hes
      rw [hes] at hv
      split at h
      · rename_i l hh m hl hhi hm
        split at h
        · rename_i hc
          obtain ⟨rfl, rfl, rfl⟩ := hc
          cases h
          generalize hy : a.eval x = y at hv
          cases hv with
          | nil _ u =>
            have hb := run_bounds (P := P) (w := w) ht (isS := true) (len := 0) (cap := 0) (l := 0) (h := 0) (m := 0) hl hhi hm (by omega) (by omega) (by omega) (by omega) hx
            refine ⟨_, run_sliceAt hu hs hb, ?_⟩
            simp; exact .nil _ _
        · cases h
      · cases h
    · rename_i b off len cap hes
      rw [hes] at hv
      have key : ∀ {l hh : Int} {m cap' : Nat} {u : Option Addr}, Blk.hasSz s Hm[b]? = true → 0 ≤ l → l ≤ hh → hh ≤ m → m ≤ cap' → (φ b).msOk off cap' u → ∀ capm, hh.toNat - l.toNat ≤ capm → capm ≤ m - l.toNat →
          V A w φ (.ms b (off + l.toNat) (hh.toNat - l.toNat) capm) (.slice (if m = l.toNat then u else u.map (·.add (l.toNat * s))) (hh.toNat - l.toNat) (m - l.toNat)) :=
        fun {l hh m cap' u} hb h0 h1 h2 h3 hms capm h4 h5 => by
          refine .ms _ _ _ _ _ _ _ h4 h5 ?_
          unfold Blk.hasSz at hb
          split at hb
          · rename_i sz es hbl
            simp only [beq_iff_eq] at hb
            subst hb
            rcases hr.live b sz es (hsub _ _ _ hbl) with ⟨rfl, hp⟩ | ⟨n, base, room, c, ty', hp, hl⟩
            · rw [hp] at hms ⊢
              have : cap' = 0 := hms
              show m - l.toNat = 0
              omega
            · rw [hp] at hms ⊢
              obtain ⟨k1, k2⟩ := hms
              refine ⟨by omega, ?_⟩
              rcases Nat.eq_or_lt_of_le (show l.toNat ≤ m by omega) with e | e
              · left; omega
              · right
                have hu : u = some ⟨n, base + off * sz, none⟩ := k2.resolve_left (by omega)
                rw [if_neg (by omega), hu]
                simp only [Option.map_some, add_none, Nat.add_mul, Nat.add_assoc]
          · cases hb
      generalize hy : a.eval x = y at hv
      cases hv with
      | ms _ _ _ _ _ cap' u hlen hcap hms =>
        split at h
        · rename_i l hh hl hhi hmx
          split at h
          · rename_i hc
            obtain ⟨c0, c1, c2, c3⟩ := hc
            cases h
            have hmn : mx = none := by cases mx <;> simp at hmx; rfl
            subst hmn
            have hb := run_bounds (P := P) (w := w) ht (isS := true) (len := len) (cap := cap') (l := l) (h := hh) (m := cap') (mx := none) hl hhi rfl c1 c2 (by omega) (by omega) hx
            refine ⟨_, run_sliceAt hu hs hb, ?_⟩
            simp only [Int.toNat_natCast]
            exact key c0 c1 c2 (by omega) (Nat.le_refl _) hms _ (by omega) (by omega)
          · cases h
        · rename_i l hh om hl hhi hmx
          split at h
          · rename_i m hm
            split at h
            · rename_i hc
              obtain ⟨c0, c1, c2, c3, c4⟩ := hc
              cases h
              obtain ⟨ox, rfl⟩ : ∃ ox, mx = some ox := by cases mx <;> simp at hmx; exact ⟨_, rfl⟩
              simp only [Option.map_some, Option.some.injEq] at hmx
              have hb := run_bounds (P := P) (w := w) ht (isS := true) (len := len) (cap := cap') (l := l) (h := hh) (m := m) (mx := some ox) hl hhi (by simp only [Option.map_some, bndD]; rw [hmx]; exact hm) c1 c2 c3 (by omega) hx
              refine ⟨_, run_sliceAt hu hs hb, ?_⟩
              exact key c0 c1 c2 (by omega) (by omega) hms _ (by omega) (Nat.le_refl _)
            · cases h
          · cases h
        · cases h
    · cases h
end
end
end Go.DL
