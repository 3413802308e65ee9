/- A region that draws its order: one canonical run stands for all orders, where what is unordered commutes. -/
import Derived.Test.YtmbbepdbjeciaaaGreatDl11
import Derived.OrdersIn
set_option linter.all false
namespace Go.DL
open Go.RowKit Go.Proofs

noncomputable section

/-- What an operation does to own blocks: nothing, and it does not look; it looks; it makes one; it writes. -/
inductive Kind where
  | pure | look | make | write
  deriving DecidableEq

def kindOf (o : Oper) : Kind :=
  match o.op with
  | .move _ | .assign _ | .pick .. | .binOp .. | .unOp .. | .convert .. | .extract .. | .field .. | .index .. | .fieldAddr .. | .makeFunc .. | .build .. | .nilCheck _ => .pure
  | .call { callee := .builtin b, .. } => match b with
    | .len | .max | .min => .pure
    | _ => .write
  | .indexAddr .. | .slice .. | .load .. => .look
  | .call { callee := .value _, .. } => .look
  | .alloc _ | .box .. | .buildSlice .. | .makeSlice .. => .make
  | _ => .write

def depsOf (o : Oper) : List Nat := (o.after.toList.filter (Region.binds .any)).map (·.on)

/-- Of each operation those that come before it in every order. -/
def ancs : List Oper → List (List Nat) → List (List Nat)
  | [], acc => acc
  | o :: r, acc => ancs r (acc ++ [(depsOf o).flatMap fun j => j :: acc.getD j []])

def readsOf (ops : List Oper) (o : Oper) : List Nat :=
  (o.op.operands.toList.filterMap fun | .tmp t => some t | _ => none) ++
    match o.guard with
    | some (j, _) => match ops[j]? with
      | some p => p.dst.toList
      | none => []
    | none => []

/-- The place of an operation's new block among the region's. -/
def rankOf (ops : List Oper) (i : Nat) : Nat := ((ops.take i).filter fun o => kindOf o == .make || kindOf o == .write).length
def slots (ops : List Oper) : Nat := (ops.filter fun o => kindOf o == .make || kindOf o == .write).length
def needs (o : Oper) : Bool := kindOf o == .make || kindOf o == .write

/-- Two operations that may change places. -/
def indep (ops : List Oper) (an : List (List Nat)) (j i : Nat) : Bool :=
  match ops[j]?, ops[i]? with
  | some p, some o =>
    (match p.dst with | some d => !(readsOf ops o).contains d && o.dst != some d | none => true) &&
    (match o.dst with | some d => !(readsOf ops p).contains d | none => true) &&
    (match kindOf p, kindOf o with
      | .write, k => k == .pure
      | k, .write => k == .pure
      | .make, .look => !(an.getD i []).contains j
      | .look, .make => !(an.getD j []).contains i
      | _, _ => true)
  | _, _ => false

def drawOk (ops : List Oper) : Bool :=
  let an := ancs ops []
  (List.range ops.length).all fun i =>
    (((ops[i]?).map depsOf).getD []).all (fun j => decide (j < i)) &&
    (List.range i).all fun j => (an.getD i []).contains j || indep ops an j i

/-- The slots that an operation may not look at: those of what need not come before it. -/
def hiddenOf (ops : List Oper) (an : List (List Nat)) (i : Nat) : List Nat :=
  (List.range ops.length).filterMap fun k => match ops[k]? with
    | some o => if needs o && !(an.getD i []).contains k then some (rankOf ops k) else none
    | none => none

def maskL (base : Nat) (hs : List Nat) (H : List Blk) : List Blk := hs.foldl (fun H s => H.set (base + s) .free) H

section
variable {P : Program} {G : Gh}

theorem maskL_get (base : Nat) : ∀ (hs : List Nat) (H : List Blk) (b : Nat), (maskL base hs H)[b]? = if (∃ s ∈ hs, b = base + s) ∧ b < H.length then some .free else H[b]?
  | [], H, b => by simp [maskL]
  | s :: hs, H, b => by
    have ih := maskL_get base hs (H.set (base + s) .free) b
    have e : maskL base (s :: hs) H = maskL base hs (H.set (base + s) .free) := rfl
    rw [e, ih, List.length_set]
    by_cases h2 : b < H.length
    · by_cases h1 : ∃ s' ∈ hs, b = base + s'
      · obtain ⟨s', h3, h4⟩ := h1
        rw [if_pos ⟨⟨s', h3, h4⟩, h2⟩, if_pos ⟨⟨s', List.mem_cons_of_mem _ h3, h4⟩, h2⟩]
      · rw [if_neg (fun h => h1 h.1)]
        by_cases h3 : base + s = b
        · subst h3
          rw [List.getElem?_set_self h2, if_pos ⟨⟨s, List.mem_cons_self .., rfl⟩, h2⟩]
        · rw [List.getElem?_set_ne h3, if_neg]
          rintro ⟨⟨s', h4, h5⟩, _⟩
          rcases List.mem_cons.1 h4 with h6 | h6
          · subst h6; exact h3 h5.symm
          · exact h1 ⟨s', h6, h5⟩
    · rw [if_neg (fun h => h2 h.2), if_neg (fun h => h2 h.2), List.getElem?_eq_none (by simpa using h2), List.getElem?_eq_none (by simpa using h2)]

theorem maskL_sub (base : Nat) (hs : List Nat) (H : List Blk) : Sub (maskL base hs H) H := fun b sz es h => by
  rw [maskL_get] at h
  split at h
  · cases h
  · exact h

theorem maskL_set {base : Nat} {hs : List Nat} {H : List Blk} {s : Nat} {x : Blk} (h : s ∈ hs) : maskL base hs (H.set (base + s) x) = maskL base hs H := by
  apply List.ext_getElem?
  intro b
  rw [maskL_get, maskL_get, List.length_set, List.getElem?_set]
  by_cases h1 : (∃ s' ∈ hs, b = base + s') ∧ b < H.length
  · rw [if_pos h1, if_pos h1]
  · rw [if_neg h1, if_neg h1]
    split
    · rename_i e
      split
      · rename_i hl; exact absurd ⟨⟨s, h, e.symm⟩, e ▸ hl⟩ h1
      · rename_i hl; rw [List.getElem?_eq_none]; omega
    · rfl

/-- What one operation gives: its value and what it does to the own blocks. -/
def Acts (P : Program) (ops : List Oper) (o : Oper) (s : Nat) (t : List D) (H : List Blk) (d : D) (e : Eff) : Prop :=
  match o.guard with
  | none => go
  | some (j, want) => match guardD ops t j with
    | some b => if b = want then go else d = .any ∧ e = .keep
    | none => False
where go : Prop :=
  match o.op with
  | .call { callee := .value f, args, .. } => match callD t f args.toList with
    | some (g, xs) => Maps P g (xs.map (snap (fun b => H[b]?) 5)) d ∧ freshD 5 d = true ∧ e = .keep
    | none => False
  | op => stepD P H s t op = some (d, e)

theorem stepD_congr {H : List Blk} {s : Nat} {t t' : List D} {op : Op} (h : ∀ x ∈ op.operands, ev t x = ev t' x) : stepD P H s t op = stepD P H s t' op := by
  cases op with
  | move x => simp [stepD, h x (by simp [Op.operands])]
  | assign x => simp [stepD, h x (by simp [Op.operands])]
  | pick c a b => simp [stepD, h c (by simp [Op.operands]), h a (by simp [Op.operands]), h b (by simp [Op.operands])]
  | binOp op ty x y _ => simp [stepD, h x (by simp [Op.operands]), h y (by simp [Op.operands])]
  | unOp op _ x => simp [stepD, h x (by simp [Op.operands])]
  | convert src dst x => simp [stepD, h x (by simp [Op.operands])]
  | extract x i => simp [stepD, h x (by simp [Op.operands])]
  | field ty x f => simp [stepD, h x (by simp [Op.operands])]
  | index ty x i => simp [stepD, h x (by simp [Op.operands]), h i (by simp [Op.operands])]
  | fieldAddr ty x f => simp [stepD, h x (by simp [Op.operands])]
  | indexAddr ty x i => simp [stepD, h x (by simp [Op.operands]), h i (by simp [Op.operands])]
  | slice ty x lo hi mx =>
    have h1 : lo.map (ev t) = lo.map (ev t') := by cases lo <;> simp; exact h _ (by simp [Op.operands])
    have h2 : hi.map (ev t) = hi.map (ev t') := by cases hi <;> simp; exact h _ (by simp [Op.operands])
    have h3 : mx.map (ev t) = mx.map (ev t') := by cases mx <;> simp; exact h _ (by simp [Op.operands])
    simp only [stepD, h x (by simp [Op.operands]), h1, h2, h3]
  | load ty p => simp [stepD, h p (by simp [Op.operands])]
  | nilCheck x => simp [stepD, h x (by simp [Op.operands])]
  | makeFunc f a b =>
    have h1 : a.toList.map (ev t) = a.toList.map (ev t') := List.map_congr_left fun x hx => h x (by simp [Op.operands]; exact .inl (by simpa using hx))
    have h2 : b.toList.map (ev t) = b.toList.map (ev t') := List.map_congr_left fun x hx => h x (by simp [Op.operands]; exact .inr (by simpa using hx))
    simp only [stepD, h1, h2]
  | build ty ps =>
    have h1 : ps.toList.map (fun p => (p.1, ev t p.2)) = ps.toList.map (fun p => (p.1, ev t' p.2)) := List.map_congr_left fun p hp => by
      rw [h p.2 (by simp only [Op.operands, List.mem_toArray, List.mem_map]; exact ⟨p, hp, rfl⟩)]
    simp only [stepD, h1]
  | buildSlice ty len ps =>
    have h1 : ps.toList.map (fun p => (p.1, ev t p.2)) = ps.toList.map (fun p => (p.1, ev t' p.2)) := List.map_congr_left fun p hp => by
      rw [h p.2 (by simp only [Op.operands, List.mem_toArray, List.mem_map]; exact ⟨p, hp, rfl⟩)]
    simp only [stepD, h1]
  | makeSlice ty l c => simp [stepD, h l (by simp [Op.operands]), h c (by simp [Op.operands])]
  | alloc ty => rfl
  | box _ x => simp only [stepD, h x (by simp [Op.operands])]
  | store ty p x => simp [stepD, h p (by simp [Op.operands]), h x (by simp [Op.operands])]
  | call c =>
    obtain ⟨cal, args, tys⟩ := c
    cases cal with
    | builtin b =>
      have h1 : args.toList.map (ev t) = args.toList.map (ev t') := List.map_congr_left fun x hx => h x (by simp [Op.operands, Call.operands]; simpa using hx)
      simp only [stepD, h1]
    | _ => rfl
  | _ => rfl

theorem ev_setT {t : List D} {dst : Option Tmp} {d : D} {x : Operand} (h : ∀ i, dst = some i → x ≠ .tmp i) : ev (setT t dst d) x = ev t x := by
  cases x with
  | tmp j =>
    cases dst with
    | none => rfl
    | some i =>
      have hne : i ≠ j := fun e => h i rfl (by rw [e])
      simp [ev, lkF_eq, setT, List.getD, hne]
  | _ => rfl

theorem reads_op {ops : List Oper} {o : Oper} {i : Nat} (h : i ∉ readsOf ops o) : ∀ x ∈ o.op.operands, x ≠ .tmp i := fun x hx e => by
  subst e
  exact h (by simp only [readsOf, List.mem_append, List.mem_filterMap]; exact .inl ⟨_, by simpa using hx, rfl⟩)

theorem guardD_setT {ops : List Oper} {o : Oper} {t : List D} {dst : Option Tmp} {d : D} {j : Nat} {want : Bool} (hg : o.guard = some (j, want)) (h : ∀ i, dst = some i → i ∉ readsOf ops o) :
    guardD ops (setT t dst d) j = guardD ops t j := by
  unfold guardD
  cases hj : ops[j]? with
  | none => rfl
  | some p =>
    cases hp : p.dst with
    | none => simp [hp]
    | some k =>
      simp only [hp]
      cases dst with
      | none => rfl
      | some i =>
        have hne : i ≠ k := fun e => h i rfl (by subst e; simp [readsOf, hg, hj, hp])
        simp [setT, hne]

/-- An operation's act does not see a temporary that it does not read. -/
theorem Acts.setT {ops : List Oper} {o : Oper} {s : Nat} {t : List D} {H : List Blk} {d d' : D} {e : Eff} {dst : Option Tmp} (h : ∀ i, dst = some i → i ∉ readsOf ops o) :
    Acts P ops o s (DL.setT t dst d') H d e ↔ Acts P ops o s t H d e := by
  have hev : ∀ x ∈ o.op.operands, ev (DL.setT t dst d') x = ev t x := fun x hx => ev_setT fun i hi => reads_op (h i hi) x hx
  have hgo : Acts.go P o s (DL.setT t dst d') H d e = Acts.go P o s t H d e := by
    unfold Acts.go
    split
    · rename_i f args tys hop
      have h1 : callD (DL.setT t dst d') f args.toList = callD t f args.toList := by
        unfold callD
        have hf : ev (DL.setT t dst d') f = ev t f := hev f (by rw [hop]; simp [Op.operands, Call.operands])
        have ha : args.toList.map (ev (DL.setT t dst d')) = args.toList.map (ev t) := List.map_congr_left fun x hx => hev x (by rw [hop]; simp [Op.operands, Call.operands]; exact .inr (by simpa using hx))
        rw [hf, ha]
      rw [h1]
    · rw [stepD_congr hev]
  unfold Acts
  split
  · rw [hgo]
  · rename_i j want hg
    rw [guardD_setT hg h, hgo]

theorem builtin_pure {H H' : List Blk} {s : Nat} {b : Builtin} {xs : List D} {ts : List TypeId} (h : b = .len ∨ b = .max ∨ b = .min) : builtinD P H s b xs ts = builtinD P H' s b xs ts := by
  rcases h with rfl | rfl | rfl
  all_goals
    unfold builtinD
    split <;> first | rfl | simp_all

theorem stepD_pure {H H' : List Blk} {s : Nat} {t : List D} {o : Oper} (h : kindOf o = .pure ∨ kindOf o = .make) : stepD P H s t o.op = stepD P H' s t o.op := by
  unfold kindOf at h
  split at h <;> first
    | (rename_i ho; rw [ho]; rfl)
    | (rcases h with h | h <;> cases h)
    | (rename_i b args tys ho
       rw [ho]
       simp only [stepD]
       cases b <;> first | (simp at h; done) | exact builtin_pure (by simp))

theorem stepD_eff {H : List Blk} {s : Nat} {t : List D} {o : Oper} {d : D} {e : Eff} (h : stepD P H s t o.op = some (d, e)) :
    (kindOf o = .pure ∨ kindOf o = .look → e = .keep) ∧ (kindOf o = .make → ∃ x, e = .put x) := by
  have kd : ∀ {q : Option D}, keepD q = some (d, e) → e = .keep := fun {q} h => by
    simp only [keepD, Option.map_eq_some_iff, Prod.mk.injEq] at h
    obtain ⟨_, _, _, rfl⟩ := h; rfl
  have bl : ∀ {b : Builtin} {xs : List D} {ts : List TypeId}, (b = .len ∨ b = .max ∨ b = .min) → builtinD P H s b xs ts = some (d, e) → e = .keep := fun {b xs ts} hb h => by
    unfold builtinD at h
    split at h
    · split at h
      · simp only [Option.map_eq_some_iff, Prod.mk.injEq] at h
        obtain ⟨_, _, _, rfl⟩ := h; rfl
      · cases h
    · simp at hb
    · simp only [Option.map_eq_some_iff, Prod.mk.injEq] at h
      obtain ⟨_, _, _, rfl⟩ := h; rfl
    · simp only [Option.map_eq_some_iff, Prod.mk.injEq] at h
      obtain ⟨_, _, _, rfl⟩ := h; rfl
    · cases h
  unfold kindOf
  cases ho : o.op with
  | move x => rw [ho] at h; simp only [stepD, Option.some.injEq, Prod.mk.injEq] at h; exact ⟨fun _ => h.2.symm, fun x => by cases x⟩
  | assign x => rw [ho] at h; simp only [stepD, Option.some.injEq, Prod.mk.injEq] at h; exact ⟨fun _ => h.2.symm, fun x => by cases x⟩
  | makeFunc f a b => rw [ho] at h; simp only [stepD, Option.some.injEq, Prod.mk.injEq] at h; exact ⟨fun _ => h.2.symm, fun x => by cases x⟩
  | pick c a b => rw [ho] at h; exact ⟨fun _ => kd h, fun x => by cases x⟩
  | binOp op ty x y _ => rw [ho] at h; exact ⟨fun _ => kd h, fun x => by cases x⟩
  | unOp op _ x => rw [ho] at h; exact ⟨fun _ => kd h, fun x => by cases x⟩
  | convert src dst x => rw [ho] at h; exact ⟨fun _ => kd h, fun x => by cases x⟩
  | extract x i => rw [ho] at h; exact ⟨fun _ => kd h, fun x => by cases x⟩
  | field ty x f => rw [ho] at h; exact ⟨fun _ => kd h, fun x => by cases x⟩
  | index ty x i => rw [ho] at h; exact ⟨fun _ => kd h, fun x => by cases x⟩
  | fieldAddr ty x f => rw [ho] at h; exact ⟨fun _ => kd h, fun x => by cases x⟩
  | indexAddr ty x i => rw [ho] at h; exact ⟨fun _ => kd h, fun x => by cases x⟩
  | slice ty x lo hi mx =>
    rw [ho] at h
    simp only [stepD] at h
    split at h
    · cases h
    · exact ⟨fun _ => kd h, fun x => by cases x⟩
  | load ty p => rw [ho] at h; exact ⟨fun _ => kd h, fun x => by cases x⟩
  | nilCheck x => rw [ho] at h; exact ⟨fun _ => kd h, fun x => by cases x⟩
  | build ty ps => rw [ho] at h; exact ⟨fun _ => kd h, fun x => by cases x⟩
  | buildSlice ty len ps =>
    rw [ho] at h
    simp only [stepD, Option.map_eq_some_iff, Prod.mk.injEq, Prod.exists] at h
    obtain ⟨_, _, _, _, rfl⟩ := h
    exact ⟨fun x => (by rcases x with x | x <;> cases x), fun _ => ⟨_, rfl⟩⟩
  | makeSlice ty l c =>
    rw [ho] at h
    simp only [stepD, Option.map_eq_some_iff, Prod.mk.injEq, Prod.exists] at h
    obtain ⟨_, _, _, _, _, _, rfl⟩ := h
    exact ⟨fun x => (by rcases x with x | x <;> cases x), fun _ => ⟨_, rfl⟩⟩
  | alloc ty =>
    rw [ho] at h
    simp only [stepD, Option.map_eq_some_iff, Prod.mk.injEq] at h
    obtain ⟨_, _, _, rfl⟩ := h
    exact ⟨fun x => (by rcases x with x | x <;> cases x), fun _ => ⟨_, rfl⟩⟩
  | box _ x =>
    rw [ho] at h
    simp only [stepD] at h
    split at h
    · simp only [Option.some.injEq, Prod.mk.injEq] at h
      obtain ⟨_, rfl⟩ := h
      exact ⟨fun x => (by rcases x with x | x <;> cases x), fun _ => ⟨_, rfl⟩⟩
    · cases h
  | call c =>
    obtain ⟨cal, args, tys⟩ := c
    cases cal with
    | builtin b =>
      rw [ho] at h
      simp only [stepD] at h
      by_cases hb : b = .len ∨ b = .max ∨ b = .min
      · refine ⟨fun _ => bl hb h, fun x => ?_⟩
        rcases hb with rfl | rfl | rfl <;> simp at x
      · cases b <;> simp at hb ⊢
    | value f => rw [ho] at h; cases h
    | invoke r m => rw [ho] at h; cases h
  | store ty p x => exact ⟨fun x => (by rcases x with x | x <;> cases x), fun x => (by cases x)⟩
  | _ => rw [ho] at h; cases h

theorem Acts.go_eff {o : Oper} {s : Nat} {t : List D} {H : List Blk} {d : D} {e : Eff} (h : Acts.go P o s t H d e) :
    (kindOf o = .pure ∨ kindOf o = .look → e = .keep) ∧ (kindOf o = .make → ∃ x, e = .put x) := by
  unfold Acts.go at h
  split at h
  · rename_i ho
    split at h
    · exact ⟨fun _ => h.2.2, fun x => by unfold kindOf at x; rw [ho] at x; cases x⟩
    · exact h.elim
  · exact stepD_eff h

theorem Acts.eff {ops : List Oper} {o : Oper} {s : Nat} {t : List D} {H : List Blk} {d : D} {e : Eff} (h : Acts P ops o s t H d e) :
    (kindOf o = .pure ∨ kindOf o = .look → e = .keep) ∧ (kindOf o = .make → e = .keep ∨ ∃ x, e = .put x) := by
  unfold Acts at h
  split at h
  · exact ⟨(Acts.go_eff h).1, fun x => .inr ((Acts.go_eff h).2 x)⟩
  · split at h
    · split at h
      · exact ⟨(Acts.go_eff h).1, fun x => .inr ((Acts.go_eff h).2 x)⟩
      · exact ⟨fun _ => h.2, fun _ => .inl h.2⟩
    · exact h.elim

theorem Acts.heap {ops : List Oper} {o : Oper} {s : Nat} {t : List D} {H H' : List Blk} {d : D} {e : Eff} (hk : kindOf o = .pure ∨ kindOf o = .make) (h : Acts P ops o s t H d e) : Acts P ops o s t H' d e := by
  have hgo : Acts.go P o s t H d e → Acts.go P o s t H' d e := fun h => by
    unfold Acts.go at h ⊢
    split at h
    · rename_i ho
      unfold kindOf at hk; rw [ho] at hk; rcases hk with hk | hk <;> cases hk
    · rw [stepD_pure hk (H' := H')] at h; exact h
  unfold Acts at h ⊢
  split at h
  · exact hgo h
  · split at h
    · split at h
      · rename_i hb; rw [if_pos hb]; exact hgo h
      · rename_i hb; rw [if_neg hb]; exact h
    · exact h.elim

/-- The place that operation i has for a new block. -/
def slotAt (ops : List Oper) (base i : Nat) : Nat := base + (match ops[i]? with | some o => if needs o then rankOf ops i else slots ops | none => slots ops)

/-- One operation of a region, in whatever order. -/
def StepR (P : Program) (ops : List Oper) (an : List (List Nat)) (base i : Nat) (st st' : St) : Prop :=
  ∃ o d e, ops[i]? = some o ∧ Acts P ops o (slotAt ops base i) st.t (maskL base (hiddenOf ops an i) st.H) d e ∧ st' = { t := setT st.t o.dst d, H := e.app st.H (slotAt ops base i), ds := st.ds, g := st.g }

theorem setT_comm {t : List D} {a b : Option Tmp} {x y : D} (h : ∀ i, a = some i → b ≠ some i) : setT (setT t a x) b y = setT (setT t b y) a x := by
  cases a with
  | none => cases b <;> rfl
  | some i => cases b with
    | none => rfl
    | some j => exact List.set_comm _ _ (fun e => h i rfl (by rw [e]))

theorem rank_lt {ops : List Oper} {i : Nat} {o : Oper} (ho : ops[i]? = some o) (hn : needs o = true) : rankOf ops i < slots ops := by
  have hi := (List.getElem?_eq_some_iff.1 ho).1
  have he := (List.getElem?_eq_some_iff.1 ho).2
  have : slots ops = ((ops.take i ++ ops.drop i).filter fun o => kindOf o == .make || kindOf o == .write).length := by rw [List.take_append_drop]; rfl
  rw [this, List.filter_append, List.length_append, List.drop_eq_getElem_cons hi, he, List.filter_cons_of_pos (by simpa [needs] using hn)]
  simp [rankOf]

theorem rank_mono {ops : List Oper} {i j : Nat} {o : Oper} (ho : ops[j]? = some o) (hn : needs o = true) (h : j < i) : rankOf ops j < rankOf ops i := by
  have h1 : (ops.take i)[j]? = some o := by rw [List.getElem?_take, if_pos h]; exact ho
  have := rank_lt h1 hn
  have e : rankOf (ops.take i) j = rankOf ops j := by simp only [rankOf]; rw [List.take_take, Nat.min_eq_left (Nat.le_of_lt h)]
  rw [e] at this
  exact this

theorem slot_ne {ops : List Oper} {base i j : Nat} {o p : Oper} (ho : ops[i]? = some o) (hp : ops[j]? = some p) (hno : needs o = true) (hnp : needs p = true) (h : i ≠ j) : slotAt ops base i ≠ slotAt ops base j := by
  simp only [slotAt, ho, hp, hno, hnp, if_true]
  rcases Nat.lt_or_gt_of_ne h with h | h
  · have := rank_mono ho hno h; omega
  · have := rank_mono hp hnp h; omega

theorem hidden_mem {ops : List Oper} {an : List (List Nat)} {i j : Nat} {p : Oper} (hp : ops[j]? = some p) (hn : needs p = true) (h : (an.getD i []).contains j = false) : rankOf ops j ∈ hiddenOf ops an i := by
  simp only [hiddenOf, List.mem_filterMap, List.mem_range]
  exact ⟨j, (List.getElem?_eq_some_iff.1 hp).1, by simp only [hp, hn, h, Bool.not_false, Bool.and_true, if_true]⟩

/-- Two operations that may change places do. -/
theorem StepR.swap {ops : List Oper} {an : List (List Nat)} {base j i : Nat} {st s1 s2 : St} (hij : j ≠ i) (hind : indep ops an j i = true) (h1 : StepR P ops an base j st s1) (h2 : StepR P ops an base i s1 s2) :
    ∃ s1', StepR P ops an base i st s1' ∧ StepR P ops an base j s1' s2 := by
  obtain ⟨p, dp, ep, hp, ap, rfl⟩ := h1
  obtain ⟨o, d, e, ho, ao, rfl⟩ := h2
  simp only [indep, hp, ho, Bool.and_eq_true] at hind
  obtain ⟨⟨i1, i2⟩, i3⟩ := hind
  have r1 : ∀ k, p.dst = some k → k ∉ readsOf ops o := fun k hk => by rw [hk] at i1; simp at i1; exact i1.1
  have r2 : ∀ k, o.dst = some k → k ∉ readsOf ops p := fun k hk => by rw [hk] at i2; simpa using i2
  have r3 : ∀ k, p.dst = some k → o.dst ≠ some k := fun k hk => by rw [hk] at i1; simp at i1; exact i1.2
  have ao' := (Acts.setT r1).1 ao
  -- the heaps
  have key : Acts P ops o (slotAt ops base i) st.t (maskL base (hiddenOf ops an i) st.H) d e ∧ Acts P ops p (slotAt ops base j) st.t (maskL base (hiddenOf ops an j) (e.app st.H (slotAt ops base i))) dp ep ∧
      e.app (ep.app st.H (slotAt ops base j)) (slotAt ops base i) = ep.app (e.app st.H (slotAt ops base i)) (slotAt ops base j) := by
    have keepP : kindOf p = .pure ∨ kindOf p = .look → ep = .keep := ap.eff.1
    have keepO : kindOf o = .pure ∨ kindOf o = .look → e = .keep := ao.eff.1
    have needP : kindOf p = .make ∨ kindOf p = .write → needs p = true := fun h => by simp [needs]; exact h
    have needO : kindOf o = .make ∨ kindOf o = .write → needs o = true := fun h => by simp [needs]; exact h
    have slotO : needs o = true → slotAt ops base i = base + rankOf ops i := fun h => by simp [slotAt, ho, h]
    have slotP : needs p = true → slotAt ops base j = base + rankOf ops j := fun h => by simp [slotAt, hp, h]
    cases hkp : kindOf p with
    | pure =>
      have e1 := keepP (.inl hkp)
      subst e1
      exact ⟨ao', ap.heap (.inl hkp), rfl⟩
    | write =>
      rw [hkp] at i3
      have hko : kindOf o = .pure := by cases hk : kindOf o <;> rw [hk] at i3 <;> first | rfl | simp at i3
      have e1 := keepO (.inl hko)
      subst e1
      exact ⟨ao'.heap (.inl hko), ap, rfl⟩
    | look =>
      have e1 := keepP (.inr hkp)
      subst e1
      cases hko : kindOf o with
      | pure => have e2 := keepO (.inl hko); subst e2; exact ⟨ao', ap, rfl⟩
      | look => have e2 := keepO (.inr hko); subst e2; exact ⟨ao', ap, rfl⟩
      | write => rw [hkp, hko] at i3; simp at i3
      | make =>
        rw [hkp, hko] at i3
        have hc : (an.getD j []).contains i = false := by simpa using i3
        have hn := needO (.inl hko)
        refine ⟨ao', ?_, rfl⟩
        rcases ao.eff.2 hko with rfl | ⟨x, rfl⟩
        · exact ap
        · rw [slotO hn]
          simp only [Eff.app]
          rw [maskL_set (hidden_mem ho hn hc)]
          exact ap
    | make =>
      have hnp := needP (.inl hkp)
      have epc := ap.eff.2 hkp
      have nohide : (an.getD i []).contains j = false → maskL base (hiddenOf ops an i) (ep.app st.H (slotAt ops base j)) = maskL base (hiddenOf ops an i) st.H := fun hc => by
        rcases epc with rfl | ⟨x, rfl⟩
        · rfl
        · rw [slotP hnp]; simp only [Eff.app]; rw [maskL_set (hidden_mem hp hnp hc)]
      cases hko : kindOf o with
      | pure => have e2 := keepO (.inl hko); subst e2; exact ⟨ao'.heap (.inl hko), ap, rfl⟩
      | look =>
        rw [hkp, hko] at i3
        have hc : (an.getD i []).contains j = false := by simpa using i3
        have e2 := keepO (.inr hko); subst e2
        rw [nohide hc] at ao'
        exact ⟨ao', ap, rfl⟩
      | write => rw [hkp, hko] at i3; simp at i3
      | make =>
        refine ⟨ao'.heap (.inr hko), ap.heap (.inr hkp), ?_⟩
        have hno := needO (.inl hko)
        have hne := slot_ne (base := base) ho hp hno hnp (Ne.symm hij)
        rcases epc with rfl | ⟨x, rfl⟩
        · rfl
        · rcases ao.eff.2 hko with rfl | ⟨y, rfl⟩
          · rfl
          · exact List.set_comm _ _ (Ne.symm hne)
  refine ⟨_, ⟨o, d, e, ho, key.1, rfl⟩, p, dp, ep, hp, (Acts.setT r2).2 key.2.1, ?_⟩
  rw [setT_comm r3, key.2.2]
end
end
end Go.DL
