/- Operations that leave memory alone, over abstract values. -/
import Derived.Test.YtmbbepdbjeciaaaGreatDl3
set_option linter.all false
namespace Go.DL
open Go.RowKit

noncomputable section

/-- The number of cells of a type, if it is known. -/
def tsz (P : Program) (t : TypeId) : Option Nat := (P.info? t).map (·.size)

theorem run_typeInfo {P : Program} {t : TypeId} {i : TypeInfo} (h : P.info? t = some i) (w : World) : (typeInfo t).run P w = .ok i w := by simp [typeInfo, h]
theorem run_sizeOf {P : Program} {t : TypeId} {n : Nat} (h : tsz P t = some n) (w : World) : (sizeOf t).run P w = .ok n w := by
  simp only [tsz, Option.map_eq_some_iff] at h
  obtain ⟨i, hi, rfl⟩ := h
  simp [sizeOf, run_typeInfo hi]

def isAggD (P : Program) (t : TypeId) : Option Bool := (P.underlying t).map fun
  | .struct _ | .array _ _ => true
  | _ => false
theorem run_isAgg {P : Program} {t : TypeId} {b : Bool} (h : isAggD P t = some b) (w : World) : (isAgg t).run P w = .ok b w := by
  simp only [isAggD, Option.map_eq_some_iff] at h
  obtain ⟨d, hd, rfl⟩ := h
  simp only [isAgg, Sem.run_bind, run_underlying hd, Result.andThen]
  cases d <;> rfl

/-- Cells as a value of a type. -/
def takeD (P : Program) (t : TypeId) (cs : List D) : Option D :=
  match isAggD P t with
  | some true => match tsz P t with
    | some n => if n ≤ cs.length then some (.agg (cs.take n)) else none
    | none => none
  | some false => cs.head?
  | none => none

def intBin (op : BinOp) (k : IntKind) (a b : Int) : Option Value :=
  match op with
  | .add => some (.int k (k.wrap (a + b)))
  | .sub => some (.int k (k.wrap (a - b)))
  | .mul => some (.int k (k.wrap (a * b)))
  | .quo => if b = 0 then none else some (.int k (k.wrap (a.tdiv b)))
  | .rem => if b = 0 then none else some (.int k (a.tmod b))
  | .eql => some (.bool (a == b))
  | .neq => some (.bool (a != b))
  | .lss => some (.bool (decide (a < b)))
  | .leq => some (.bool (decide (a ≤ b)))
  | .gtr => some (.bool (decide (b < a)))
  | .geq => some (.bool (decide (b ≤ a)))
  | _ => none

def binD (P : Program) (op : BinOp) (t : TypeId) : D → D → Option D
  | .v (.int k a), .v (.int k' b) => if k = k' then (intBin op k a b).map .v else none
  | .v (.bool a), .v (.bool b) => match op, P.underlying t with
    | .eql, some .bool => some (.v (.bool (a == b)))
    | .neq, some .bool => some (.v (.bool (a != b)))
    | _, _ => none
  | _, _ => none

def unD (op : UnOp) : D → Option D
  | .v (.bool b) => match op with
    | .not => some (.v (.bool !b))
    | _ => none
  | .v (.int k n) => match op with
    | .neg => some (.v (.int k (k.wrap (0 - n))))
    | _ => none
  | _ => none

def convD (P : Program) (src dst : TypeId) : D → Option D
  | .v (.int _ n) => match P.underlying src, P.underlying dst with
    | some _, some (.int k) => some (.v (.int k (k.wrap n)))
    | _, _ => none
  | _ => none

def pickD (c a b : D) : Option D :=
  match c with
  | .v (.bool x) => some (if x then a else b)
  | _ => none

def extractD (d : D) (i : Nat) : Option D :=
  match d with
  | .tup ds => ds[i]?
  | _ => none

def fieldD (P : Program) (t : TypeId) (f : Nat) : D → Option D
  | .agg cs => match P.underlying t with
    | some (.struct fs) => match fs[f]? with
      | some x => takeD P x.type (cs.drop x.offset)
      | none => none
    | _ => none
  | _ => none

def intD : D → Option Int
  | .v (.int _ n) => some n
  | _ => none

def indexD (P : Program) (t : TypeId) (x i : D) : Option D :=
  match x, intD i with
  | .agg cs, some n => match P.underlying t with
    | some (.array len e) => match tsz P e with
      | some s => if 0 ≤ n ∧ n < (len : Int) then takeD P e (cs.drop (n.toNat * s)) else none
      | none => none
    | _ => none
  | _, _ => none

/-- The offset of a field whose type has cells. -/
def fieldOff (P : Program) (s : TypeId) (f : Nat) : Option Nat :=
  match P.underlying s with
  | some (.struct fs) => match fs[f]? with
    | some x => match tsz P x.type with
      | some n => if n = 0 then none else some x.offset
      | none => none
    | none => none
  | _ => none

def fieldAddrD (P : Program) (s : TypeId) (f : Nat) : D → Option D
  | .rp cs => (fieldOff P s f).map fun o => .rp (cs.drop o)
  | .mp b i g => (fieldOff P s f).map fun o => .mp b i (g + o)
  | _ => none

def elemT (P : Program) (t : TypeId) : Option (TypeId × Nat) :=
  match P.underlying t with
  | some (.slice e) => (tsz P e).map fun n => (e, n)
  | _ => none

def Blk.hasSz (n : Nat) : Option Blk → Bool
  | some (.live sz _) => sz == n
  | _ => false

def indexAddrD (P : Program) (H : List Blk) (t : TypeId) (x i : D) : Option D :=
  match unfl x, intD i with
  | .sl es, some n => match elemT P t with
    | some (_, s) => if 0 ≤ n ∧ n < (es.length : Int) then match es[n.toNat]? with
        | some e => if e.length = s then some (.rp e) else none
        | none => none
      else none
    | none => none
  | .ms b off len _, some n => match elemT P t with
    | some (_, s) => if Blk.hasSz s H[b]? ∧ 0 ≤ n ∧ n < (len : Int) then some (.mp b (off + n.toNat) 0) else none
    | none => none
  | .mp b j f, some n => match P.underlying t with
    | some (.array len e) => match tsz P e with
      | some s => if 0 ≤ n ∧ n < (len : Int) then some (.mp b j (f + n.toNat * s)) else none
      | none => none
    | _ => none
  | .rp cs, some n => match P.underlying t with
    | some (.array len e) => match tsz P e with
      | some s => if 0 ≤ n ∧ n < (len : Int) then some (.rp (cs.drop (n.toNat * s))) else none
      | none => none
    | _ => none
  | _, _ => none

def nilCheckD : D → Option D
  | .rp cs => some (.rp cs)
  | .mp b i f => some (.mp b i f)
  | .fn (.func f) a b => some (.fn (.func f) a b)
  | _ => none

def lenD : D → Option Int
  | .sl es => some es.length
  | .fl es => some es.length
  | .ms _ _ len _ => some len
  | .nil => some 0
  | _ => none

section
variable {A : Rd} {w : World} {φ : Nat → Loc} {P : Program}

theorem V.int {d : D} {u : Value} {n : Int} (h : V A w φ d u) (hd : intD d = some n) : ∃ k, u = .int k n := by
  cases h with
  | v _ =>
    cases u <;> simp [intD] at hd
    exact ⟨_, by rw [hd]⟩
  | _ => simp [intD] at hd

theorem V.unfl' {d : D} {u : Value} (h : V A w φ d u) : V A w φ (DL.unfl d) u := by
  cases d with
  | fl es => exact h.of_fl
  | _ => exact h

theorem V.v_inv {x u : Value} (h : V A w φ (.v x) u) : u = x := by cases h; rfl

/-- Cells that are read as a value of a type. -/
theorem run_loadVar_take {t : TypeId} {cs : List D} {d : D} (ht : takeD P t cs = some d) {n o : Nat}
    (hc : ∀ (j : Nat) (e : D), cs[j]? = some e → ∃ u, w.cell? ⟨n, o + j, none⟩ = some u ∧ V A w φ e u) :
    ∃ x, (loadVar t ⟨n, o, none⟩).run P w = .ok x w ∧ V A w φ d x := by
  have hadd : ∀ j, (⟨n, o, none⟩ : Addr).add j = ⟨n, o + j, none⟩ := fun j => by
    cases j <;> simp [Addr.add]
  unfold takeD at ht
  cases ha : isAggD P t with
  | none => rw [ha] at ht; cases ht
  | some b =>
    rw [ha] at ht
    cases b with
    | true =>
      cases hs : tsz P t with
      | none => simp [hs] at ht
      | some m =>
        simp only [hs] at ht
        split at ht
        · rename_i hm
          cases ht
          have hcell : ∀ j, j < m → w.cell? ((⟨n, o, none⟩ : Addr).add j) = some ((w.cell? ⟨n, o + j, none⟩).getD default) := fun j hj => by
            rw [hadd]
            obtain ⟨u, hu, _⟩ := hc j _ (List.getElem?_eq_getElem (by omega))
            rw [hu]; rfl
          refine ⟨.agg ((List.range m).map fun j => (w.cell? ⟨n, o + j, none⟩).getD default).toArray, ?_, ?_⟩
          · simp [loadVar, run_isAgg ha, run_sizeOf hs, run_loadCells w ⟨n, o, none⟩ m (fun j => (w.cell? ⟨n, o + j, none⟩).getD default) hcell]
          · refine .agg _ _ _ (by simp; omega) fun i d u h1 h2 => ?_
            rw [List.getElem?_take] at h1
            split at h1
            · rename_i hi
              obtain ⟨y, hy, hv⟩ := hc i d h1
              simp only [List.getElem?_toArray, List.getElem?_map, List.getElem?_range hi, Option.map_some, hy, Option.getD_some, Option.some.injEq] at h2
              exact h2 ▸ hv
            · cases h1
        · cases ht
    | false =>
      simp only at ht
      cases cs with
      | nil => cases ht
      | cons e r =>
        simp only [List.head?_cons, Option.some.injEq] at ht
        subst ht
        obtain ⟨u, hu, hv⟩ := hc 0 e rfl
        refine ⟨u, ?_, hv⟩
        simp only [Nat.add_zero] at hu
        simp [loadVar, run_isAgg ha, hu]

theorem V.part {t : TypeId} {cs : List D} {vs : Array Value} {o : Nat} {d : D} (hl : vs.size = cs.length)
    (h : ∀ (i : Nat) (d : D) (u : Value), cs[i]? = some d → vs[i]? = some u → V A w φ d u) (ht : takeD P t (cs.drop o) = some d) :
    ∃ x, (Go.part t vs o).run P w = .ok x w ∧ V A w φ d x := by
  unfold takeD at ht
  cases ha : isAggD P t with
  | none => rw [ha] at ht; cases ht
  | some b =>
    rw [ha] at ht
    cases b with
    | true =>
      cases hs : tsz P t with
      | none => simp [hs] at ht
      | some m =>
        simp only [hs] at ht
        split at ht
        · rename_i hm
          cases ht
          simp only [List.length_drop] at hm
          refine ⟨_, by simp only [Go.part, Sem.run_bind, run_isAgg ha, Result.andThen, run_sizeOf hs, if_true, Sem.run_pure]; rfl, ?_⟩
          refine .agg _ _ _ (by simp; omega) fun i d u h1 h2 => ?_
          rw [List.getElem?_take] at h1
          split at h1
          · rw [List.getElem?_drop] at h1
            refine h (o + i) d u h1 ?_
            rw [Array.getElem?_extract] at h2
            split at h2
            · exact h2
            · cases h2
          · cases h1
        · cases ht
    | false =>
      simp only [List.head?_drop] at ht
      have hlt : o < cs.length := (List.getElem?_eq_some_iff.1 ht).1
      have hlt' : o < vs.size := by omega
      refine ⟨vs[o], ?_, h o d _ ht (by simp [hlt'])⟩
      simp only [Go.part, Sem.run_bind, run_isAgg ha, Result.andThen, Bool.false_eq_true, if_false]
      simp [hlt']

theorem run_equal_bool {t : TypeId} (h : P.underlying t = some .bool) (a b : Bool) : (Op.equal t (.bool a) (.bool b)).run P w = .ok (a == b) w := by
  have key : ∀ d : Nat, (Op.equalIn (d + 1) t (.bool a) (.bool b)).run P w = .ok (a == b) w := fun d => by
    unfold Op.equalIn
    simp only [Sem.run_bind, run_underlying h, Result.andThen, Sem.run_pure]
  exact key 9999

theorem run_binD {op : BinOp} {t : TypeId} {x y d : D} {u v : Value} (xo yo : Operand) (hx : V A w φ x u) (hy : V A w φ y v) (h : binD P op t x y = some d) :
    ∃ r, (do eqGuard op t xo yo u v; binOp op t u v : Sem Value).run P w = .ok r w ∧ V A w φ d r := by
  unfold binD at h
  split at h
  · rename_i k a k' b
    have := hx.v_inv; subst this
    have := hy.v_inv; subst this
    split at h
    · rename_i hk; subst hk
      simp only [Option.map_eq_some_iff] at h
      obtain ⟨r, hr, rfl⟩ := h
      refine ⟨r, ?_, .v _ _⟩
      rw [eqGuard_at_int]
      cases op <;> simp only [intBin, Option.some.injEq, reduceCtorEq] at hr <;> first
        | (subst hr; simp [binOp, Op.intArith, Op.intCmp])
        | (split at hr
           · cases hr
           · rename_i hb; cases hr; simp [binOp, Op.intDiv, hb])
    · cases h
  · rename_i a b
    have := hx.v_inv; subst this
    have := hy.v_inv; subst this
    rw [eqGuard_at_bool]
    split at h
    · rename_i ht
      cases h
      exact ⟨.bool (a == b), by simp [binOp, run_equal_bool ht], .v _ _⟩
    · rename_i ht
      cases h
      exact ⟨.bool (a != b), by simp [binOp, run_equal_bool ht, bne], .v _ _⟩
    · cases h
  · cases h

theorem run_unD {op : UnOp} {x d : D} {u : Value} (hx : V A w φ x u) (h : unD op x = some d) : ∃ r, (Op.unary op u).run P w = .ok r w ∧ V A w φ d r := by
  unfold unD at h
  split at h
  · have := hx.v_inv; subst this
    split at h
    · cases h; exact ⟨_, rfl, .v _ _⟩
    · cases h
  · have := hx.v_inv; subst this
    split at h
    · cases h; exact ⟨_, rfl, .v _ _⟩
    · cases h
  · cases h

theorem run_convD {src dst : TypeId} {x d : D} {u : Value} (hx : V A w φ x u) (h : convD P src dst x = some d) : ∃ r, (convert src dst u).run P w = .ok r w ∧ V A w φ d r := by
  unfold convD at h
  split at h
  · have := hx.v_inv; subst this
    split at h
    · rename_i hs hd
      cases h
      exact ⟨_, by simp only [convert, Sem.run_bind, run_underlying hs, run_underlying hd, Result.andThen, Conv.intToInt, Sem.run_pure], .v _ _⟩
    · cases h
  · cases h

theorem run_extractD {x d : D} {u : Value} {i : Nat} (hx : V A w φ x u) (h : extractD x i = some d) : ∃ r, (Instr.extract u i).run P w = .ok r w ∧ V A w φ d r := by
  unfold extractD at h
  split at h
  · cases hx with
    | tup _ cs vs hl hh =>
      have hlt : i < vs.size := by rw [hl]; exact (List.getElem?_eq_some_iff.1 h).1
      exact ⟨vs[i], by simp [Instr.extract, hlt], hh i d _ h (by simp [hlt])⟩
  · cases h

theorem run_fieldD {t : TypeId} {f : Nat} {x d : D} {u : Value} (hx : V A w φ x u) (h : fieldD P t f x = some d) : ∃ r, (Instr.field t u f).run P w = .ok r w ∧ V A w φ d r := by
  unfold fieldD at h
  split at h
  · cases hx with
    | agg _ cs vs hl hh =>
      split at h
      · rename_i fs hu
        split at h
        · rename_i y hy
          obtain ⟨r, hr, hv⟩ := V.part hl hh h
          exact ⟨r, by simp [Instr.field, run_underlying hu, hy, asAgg, hr], hv⟩
        · cases h
      · cases h
  · cases h

theorem run_indexD {t : TypeId} {x i d : D} {u v : Value} (hx : V A w φ x u) (hi : V A w φ i v) (h : indexD P t x i = some d) :
    ∃ r, (Instr.index t u v).run P w = .ok r w ∧ V A w φ d r := by
  unfold indexD at h
  split at h
  · rename_i cs n hn
    obtain ⟨k, rfl⟩ := hi.int hn
    cases hx with
    | agg _ cs vs hl hh =>
      split at h
      · rename_i len e hu
        split at h
        · rename_i s hs
          split at h
          · rename_i hb
            obtain ⟨r, hr, hv⟩ := V.part hl hh h
            exact ⟨r, by simp [Instr.index, run_underlying hu, asIntOf, hb, run_sizeOf hs, hr], hv⟩
          · cases h
        · cases h
      · cases h
  · cases h

theorem run_fieldAddrD {s : TypeId} {f : Nat} {x d : D} {u : Value} (hx : V A w φ x u) (h : fieldAddrD P s f x = some d) :
    ∃ r, (Instr.fieldAt s u f).run P w = .ok r w ∧ V A w φ d r := by
  have key : ∀ o, fieldOff P s f = some o → ∀ a : Addr, (Instr.fieldAt s (.pointer (some a)) f).run P w = .ok (.pointer (some (a.add o))) w := fun o ho a => by
    unfold fieldOff at ho
    split at ho
    · rename_i fs hu
      split at ho
      · rename_i y hy
        split at ho
        · rename_i n hn
          split at ho
          · cases ho
          · rename_i hn0
            cases ho
            simp [Instr.fieldAt, run_underlying hu, hy, Instr.sureAddr, fieldPlace, run_sizeOf hn, hn0]
        · cases ho
      · cases ho
    · cases ho
  have hadd : ∀ n o j, (⟨n, o, none⟩ : Addr).add j = ⟨n, o + j, none⟩ := fun n o j => by cases j <;> simp [Addr.add]
  unfold fieldAddrD at h
  split at h
  · simp only [Option.map_eq_some_iff] at h
    obtain ⟨o, ho, rfl⟩ := h
    cases hx with
    | rp _ cs n off v ha hc hh =>
      refine ⟨_, key o ho _, ?_⟩
      rw [hadd]
      refine .rp _ _ n _ (fun j => v (o + j)) ha (fun j d hd => ?_) (fun j d hd => ?_)
      · rw [List.getElem?_drop] at hd; rw [Nat.add_assoc]; exact hc _ _ hd
      · rw [List.getElem?_drop] at hd; exact hh _ _ hd
  · rename_i b i g
    simp only [Option.map_eq_some_iff] at h
    obtain ⟨o, ho, rfl⟩ := h
    cases hx with
    | mp _ _ _ _ x hh =>
      refine ⟨_, key o ho _, .mp _ _ _ _ _ ?_⟩
      cases hb : φ b with
      | free => rw [hb] at hh; exact hh.elim
      | dead => trivial
      | ph => rw [hb] at hh; exact hh.elim
      | loc n base sz room =>
        rw [hb] at hh
        have hx : x = ⟨n, base + i * sz + g, none⟩ := hh
        subst hx
        rw [hadd]
        show (_ : Addr) = _
        rw [Nat.add_assoc]
  · cases h

theorem run_indexAddrD {H : List Blk} (hsub : ∀ b sz es, H[b]? = some (.live sz es) → φ b = .ph ∨ ∃ n base room, φ b = .loc n base sz room) {t : TypeId} {x i d : D} {u v : Value}
    (hx : V A w φ x u) (hi : V A w φ i v) (h : indexAddrD P H t x i = some d) : ∃ r, (Instr.indexAt t u v).run P w = .ok r w ∧ V A w φ d r := by
  have hadd : ∀ n o j, (⟨n, o, none⟩ : Addr).add j = ⟨n, o + j, none⟩ := fun n o j => by cases j <;> simp [Addr.add]
  have hel : ∀ {e s}, elemT P t = some (e, s) → P.underlying t = some (.slice e) ∧ tsz P e = some s := fun {e s} he => by
    unfold elemT at he
    split at he
    · rename_i e' hu
      simp only [Option.map_eq_some_iff, Prod.mk.injEq] at he
      obtain ⟨n, hn, rfl, rfl⟩ := he
      exact ⟨hu, hn⟩
    · cases he
  replace hx := hx.unfl'
  unfold indexAddrD at h
  split at h
  · rename_i es n hxe hn
    rw [hxe] at hx
    obtain ⟨k, rfl⟩ := hi.int hn
    split at h
    · rename_i et s he
      obtain ⟨hu, hs⟩ := hel he
      split at h
      · rename_i hb
        split at h
        · rename_i e hee
          split at h
          · rename_i hes
            cases h
            cases hx with
            | sl0 => simp at hee
            | sl _ es m off sz cap v ha hcap hsz hc hh =>
              have : sz = s := (hsz _ _ hee).symm.trans hes
              subst this
              refine ⟨_, by simp [Instr.indexAt, run_underlying hu, asIntOf, hb, run_sizeOf hs, hadd]; rfl, ?_⟩
              exact .rp _ _ m _ (fun j => v n.toNat j) ha (fun j d hd => hc _ _ _ _ hee hd) fun j d hd => hh _ _ _ _ hee hd
          · cases h
        · cases h
      · cases h
    · cases h
  · rename_i b off len cap n hxe hn
    rw [hxe] at hx
    obtain ⟨k, rfl⟩ := hi.int hn
    split at h
    · rename_i et s he
      obtain ⟨hu, hs⟩ := hel he
      split at h
      · rename_i hb
        cases h
        obtain ⟨hb1, hb2⟩ := hb
        cases hx with
        | ms _ _ _ _ _ cap' a hlen hcap hh =>
          unfold Blk.hasSz at hb1
          split at hb1
          · rename_i sz es hl
            simp only [beq_iff_eq] at hb1
            subst hb1
            rcases hsub b sz es hl with hp | ⟨m, base, room, hp⟩
            · rw [hp] at hh
              have hz : cap' = 0 := hh
              have : len = 0 := by omega
              subst this
              omega
            · rw [hp] at hh
              obtain ⟨h1, h2⟩ := hh
              have ha : a = some ⟨m, base + off * sz, none⟩ := h2.resolve_left (by omega)
              subst ha
              refine ⟨_, by simp [Instr.indexAt, run_underlying hu, asIntOf, hb2, run_sizeOf hs, hadd]; rfl, .mp _ _ _ _ _ ?_⟩
              rw [hp]
              show (_ : Addr) = _
              rw [Nat.add_mul, Nat.add_zero, Nat.add_assoc]
          · cases hb1
      · cases h
    · cases h
  · rename_i b j f n hxe hn
    rw [hxe] at hx
    obtain ⟨k, rfl⟩ := hi.int hn
    split at h
    · rename_i len e hu
      split at h
      · rename_i s hs
        split at h
        · rename_i hb
          cases h
          cases hx with
          | mp _ _ _ _ x hh =>
            refine ⟨_, by simp [Instr.indexAt, run_underlying hu, asIntOf, Instr.sureAddr, hb, run_sizeOf hs]; rfl, .mp _ _ _ _ _ ?_⟩
            cases hb : φ b with
            | free => rw [hb] at hh; exact hh.elim
            | dead => trivial
            | ph => rw [hb] at hh; exact hh.elim
            | loc m base sz room =>
              rw [hb] at hh
              have hx : x = ⟨m, base + j * sz + f, none⟩ := hh
              subst hx
              rw [hadd]
              show (_ : Addr) = _
              rw [Nat.add_assoc]
        · cases h
      · cases h
    · cases h
  · rename_i cs n hxe hn
    rw [hxe] at hx
    obtain ⟨k, rfl⟩ := hi.int hn
    split at h
    · rename_i len e hu
      split at h
      · rename_i s hs
        split at h
        · rename_i hb
          cases h
          cases hx with
          | rp _ cs m off v ha hc hh =>
            refine ⟨_, by simp [Instr.indexAt, run_underlying hu, asIntOf, Instr.sureAddr, hb, run_sizeOf hs, hadd]; rfl, ?_⟩
            refine .rp _ _ m _ (fun j => v (n.toNat * s + j)) ha (fun j d hd => ?_) (fun j d hd => ?_)
            · rw [List.getElem?_drop] at hd; rw [Nat.add_assoc]; exact hc _ _ hd
            · rw [List.getElem?_drop] at hd; exact hh _ _ hd
        · cases h
      · cases h
    · cases h
  · cases h

theorem V.lenD {x : D} {u : Value} {n : Int} (hx : V A w φ x u) (h : lenD x = some n) : ∃ a m c, u = .slice a m c ∧ (m : Int) = n := by
  cases hx <;> simp [DL.lenD] at h
  all_goals exact ⟨_, _, _, rfl, by simpa using h⟩
end

end
end Go.DL
