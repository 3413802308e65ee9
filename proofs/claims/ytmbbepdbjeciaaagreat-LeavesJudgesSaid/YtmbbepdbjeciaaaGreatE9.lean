/- Code over abstract values, said over short lists of the temporaries that matter: judgements for operations and for code, and the rules. -/
import Derived.Test.YtmbbepdbjeciaaaGreatE8
set_option linter.all false
namespace Go.DL
open Go.RowKit Go.Proofs

noncomputable section

abbrev AL := List (Nat × D)
/-- The value of a temporary. -/
def lk : AL → Nat → D
  | [], _ => .any
  | (k, d) :: r, i => bif Nat.beq k i then d else lk r i
def lkN (n : Nat) (a : AL) (i : Nat) : D := bif Nat.blt i n then lk a i else .any
/-- The temporaries of a frame. -/
def T (n : Nat) (a : AL) : List D := (List.range n).map (lk a)
def evA (n : Nat) (a : AL) : Operand → D
  | .tmp i => lkN n a i
  | .const x => ofV x
  | .global _ => .any
  | .func f => .fn (.func f) [] []
def setA (dst : Option Tmp) (d : D) (a : AL) : AL := match dst with
  | none => a
  | some i => (i, d) :: a

theorem T_length (n : Nat) (a : AL) : (T n a).length = n := by simp [T]
theorem T_get? (n : Nat) (a : AL) (i : Nat) : (T n a)[i]? = if i < n then some (lk a i) else none := by
  simp only [T, List.getElem?_map]
  by_cases h : i < n
  · rw [if_pos h, List.getElem?_range h]; rfl
  · rw [if_neg h, List.getElem?_eq_none (by simp; omega)]; rfl
theorem T_getD (n : Nat) (a : AL) (i : Nat) : (T n a).getD i .any = lkN n a i := by
  rw [List.getD_eq_getElem?_getD, T_get?, lkN]
  by_cases h : i < n
  · rw [if_pos h]; have : Nat.blt i n = true := by simpa [Nat.blt_eq] using h
    simp [this]
  · rw [if_neg h]; have : Nat.blt i n = false := by
      cases hb : Nat.blt i n with
      | false => rfl
      | true => exact absurd (by simpa [Nat.blt_eq] using hb) h
    simp [this]
theorem ev_T (n : Nat) (a : AL) (x : Operand) : ev (T n a) x = evA n a x := by
  cases x with
  | tmp i => exact (lkF_eq _ _).trans (T_getD n a i)
  | _ => rfl
theorem T_set (n : Nat) (a : AL) (i : Nat) (d : D) : (T n a).set i d = T n ((i, d) :: a) := by
  refine List.ext_getElem? fun j => ?_
  rw [List.getElem?_set, T_length, T_get?, T_get?]
  by_cases hij : i = j
  · subst hij
    by_cases h : i < n
    · simp [h, lk]
    · simp [h]
  · rw [if_neg hij]
    have : Nat.beq i j = false := by
      cases hb : Nat.beq i j with
      | false => rfl
      | true => exact absurd (Nat.eq_of_beq_eq_true hb) hij
    simp [lk, this]
theorem setT_T (n : Nat) (a : AL) (dst : Option Tmp) (d : D) : setT (T n a) dst d = T n (setA dst d a) := by
  cases dst with
  | none => rfl
  | some i => exact T_set n a i d
theorem map_ev_T (n : Nat) (a : AL) : ev (T n a) = evA n a := funext fun x => ev_T n a x

def callA (n : Nat) (a : AL) (f : Operand) (args : List Operand) : Option (FuncId × List D) :=
  match evA n a f with
  | .fn (.func g) first caps => some (g, first ++ (args.map (evA n a) ++ caps))
  | _ => none
theorem callD_T {n : Nat} {a : AL} {f : Operand} {args : List Operand} : callD (T n a) f args = callA n a f args := by
  simp only [callD, callA, map_ev_T]; rfl

/-- The temporary that a guard looks at. -/
def guardI (ops : List Oper) (j : Nat) : Option Nat := match ops[j]? with
  | some o => o.dst
  | none => none
def guardA (ops : List Oper) (n : Nat) (a : AL) (j : Nat) : Option Bool :=
  match guardI ops j with
  | some i => match lkN n a i with
    | .v (.bool b) => some b
    | _ => none
  | none => none
theorem guardD_T {ops : List Oper} {n : Nat} {a : AL} {j : Nat} {b : Bool} (h : guardA ops n a j = some b) : guardD ops (T n a) j = some b := by
  unfold guardA guardI at h
  unfold guardD
  cases ho : ops[j]? with
  | none => rw [ho] at h; cases h
  | some o =>
    rw [ho] at h
    simp only at h ⊢
    cases hd : o.dst with
    | none => rw [hd] at h; cases h
    | some i =>
      rw [hd] at h
      simp only [T_get?, lkN] at h ⊢
      by_cases hi : i < n
      · rw [if_pos hi]
        have : Nat.blt i n = true := by simpa [Nat.blt_eq] using hi
        rw [this] at h
        simp only [cond_true] at h
        split at h
        · rename_i hl; cases h; simp only [hl]
        · cases h
      · have : Nat.blt i n = false := by
          cases hb : Nat.blt i n with
          | false => rfl
          | true => exact absurd (by simpa [Nat.blt_eq] using hb) hi
        rw [this] at h
        cases h

/-- What a frame stands in. -/
theorem run_equal_slice {P : Program} {w : World} {t te : TypeId} (h : P.underlying t = some (.slice te)) (p q : Option Addr) (m c m' c' : Nat) (hn : p = none ∨ q = none) : ∃ b : Bool, (Op.equal t (.slice p m c) (.slice q m' c')).run P w = .ok b w ∧ (b = true ↔ p = q) := by
  have key : ∀ d : Nat, ∃ b : Bool, (Op.equalIn (d + 1) t (.slice p m c) (.slice q m' c')).run P w = .ok b w ∧ (b = true ↔ p = q) := fun d => by
    unfold Op.equalIn
    simp only [Sem.run_bind, run_underlying h, Result.andThen]
    cases p with
    | none => exact ⟨q.isNone, rfl, by cases q <;> simp⟩
    | some p => cases q with
      | none => exact ⟨false, rfl, by simp⟩
      | some q => simp at hn
  exact key 9999
theorem run_sliceEq {P : Program} {w : World} {t te : TypeId} (h : P.underlying t = some (.slice te)) (xo yo : Operand) (p q : Option Addr) (m c m' c' : Nat) (hn : p = none ∨ q = none) :
    ∃ b : Bool, (do eqGuard .eql t xo yo (.slice p m c) (.slice q m' c'); binOp .eql t (.slice p m c) (.slice q m' c') : Sem Value).run P w = .ok (.bool b) w ∧ (b = true ↔ p = q) := by
  obtain ⟨b, h1, h2⟩ := run_equal_slice (w := w) h p q m c m' c' hn
  exact ⟨b, by simp [eqGuard, binOp, h1], h2⟩

/-- Where it runs. -/
structure Ev where
  P : Program
  N : Nat := 0
  top : Bool := true
  Y : Nat → Gst → List D → (Bool → Gst → Prop) → Prop := fun _ _ _ _ => False
structure Ev.ok (E : Ev) (ro : Option Nat) (G : Gh) : Prop where
  ro : E.top = true → ro = none
  st : Stab G
  yk : YOk E.P G
  le : G.N ≤ E.N
  y : ∀ l g args K, E.Y l g args K → ∀ K' : Bool → Gst → Prop, (∀ b g', K b g' → K' b g') → G.Y l g args K'

abbrev KA := AL → List Blk → Gst → Prop
abbrev KX := Exit → AL → List Blk → Gst → Prop

structure RT (E : Ev) (ops l : List Oper) (n : Nat) (a : AL) (H : List Blk) (g : Gst) (K : KA) : Prop where
  out : ∀ ro G, E.ok ro G → ∀ ds (Q : Exit → Act → World → Prop), (∀ a' H' g' ac w, K a' H' g' → FR G { t := T n a', H := H', ds := ds, g := g' } ac w → Q .normal ac w) →
    ∀ ac w, FR G { t := T n a, H := H, ds := ds, g := g } ac w → wpListIn (FW ro) 0 E.P ops.toArray Q l ac w
structure VT (E : Ev) (c : Code) (n : Nat) (a : AL) (H : List Blk) (g : Gst) (Q : KX) : Prop where
  out : ∀ ro G, E.ok ro G → ∀ ds, Sp E.P ro G c { t := T n a, H := H, ds := ds, g := g } fun e s => ∃ a', s.t = T n a' ∧ Q e a' s.H s.g

section
variable {E : Ev} {ops r : List Oper} {n : Nat} {a : AL} {H : List Blk} {g : Gst} {K : KA}

theorem RT.nil (h : K a H g) : RT E ops [] n a H g K := ⟨fun _ _ _ _ _ hQ ac w hr => hQ _ _ _ ac w h hr⟩

theorem RT.stepG {o : Oper} {d : D} {e : Eff} (hg : o.guard = none) (hs : stepD E.P H H.length (T n a) o.op = some (d, e)) (h : RT E ops r n (setA o.dst d a) (e.seq H) g K) : RT E ops (o :: r) n a H g K := by
  refine ⟨fun ro G hE ds Q hQ ac w hr => ?_⟩
  unfold wpListIn
  rw [if_pos (by simp [Region.wanted, hg])]
  refine execO_ok hE.st hE.yk hr (K := fun s => s = { t := T n (setA o.dst d a), H := e.seq H, ds := ds, g := g }) ?_ ?_
  · unfold execO
    split
    · rename_i f args tys hop; rw [hop] at hs; cases hs
    · simp only [hs, setT_T]
  · rintro _ a' w' rfl hr'
    exact h.out ro G hE ds Q hQ a' w' hr'

theorem RT.callG {dst : Option Tmp} {f : Operand} {args : List Operand} {tys : Array TypeId} {ty : TypeId} {pos : String} {aft : Array Edge} {f' : FuncId} {xs : List D} (hc : callA n a f args = some (f', xs))
    (h : CallSp E.P f' xs H fun d H' => RT E ops r n (setA dst d a) H' g K) : RT E ops (⟨dst, .call { callee := .value f, args := args.toArray, argTypes := tys }, ty, pos, aft, none⟩ :: r) n a H g K := by
  refine ⟨fun ro G hE ds Q hQ ac w hr => ?_⟩
  unfold wpListIn
  rw [if_pos (by simp [Region.wanted])]
  refine execO_ok hE.st hE.yk hr (K := fun s => ∃ d H', s = { t := T n (setA dst d a), H := H', ds := ds, g := g } ∧ RT E ops r n (setA dst d a) H' g K) ?_ ?_
  · unfold execO
    have hc' : callD (T n a) f args = some (f', xs) := callD_T.trans hc
    simp only [callD_yieldD hc', hc', setT_T]
    exact h.mono fun d H' q => ⟨d, H', rfl, q⟩
  · rintro _ a' w' ⟨d, H', rfl, q⟩ hr'
    exact q.out ro G hE ds Q hQ a' w' hr'

/-- A call of the function to yield to. -/
theorem RT.yield {dst : Option Tmp} {f : Operand} {args : List Operand} {tys : Array TypeId} {ty : TypeId} {pos : String} {aft : Array Edge} {l : Nat} (hf : evA n a f = .fn (.yield l) [] [])
    (h : E.Y l g (args.map (evA n a)) fun b g' => RT E ops r n (setA dst (.v (.bool b)) a) H g' K) : RT E ops (⟨dst, .call { callee := .value f, args := args.toArray, argTypes := tys }, ty, pos, aft, none⟩ :: r) n a H g K := by
  refine ⟨fun ro G hE ds Q hQ ac w hr => ?_⟩
  unfold wpListIn
  rw [if_pos (by simp [Region.wanted])]
  refine execO_ok hE.st hE.yk hr (K := fun s => ∃ b g', s = { t := T n (setA dst (.v (.bool b)) a), H := H, ds := ds, g := g' } ∧ RT E ops r n (setA dst (.v (.bool b)) a) H g' K) ?_ ?_
  · unfold execO
    have hy : yieldD (T n a) f = some l := by unfold yieldD; rw [ev_T, hf]
    simp only [hy]
    rw [map_ev_T]
    exact hE.y _ _ _ _ h _ fun b g' q => ⟨b, g', by rw [setT_T], q⟩
  · rintro _ a' w' ⟨b, g', rfl, q⟩ hr'
    exact q.out ro G hE ds Q hQ a' w' hr'

/-- A guard that holds; one that does not. -/
theorem RT.gy {dst : Option Tmp} {op : Op} {ty : TypeId} {pos : String} {aft : Array Edge} {j : Nat} {w : Bool} (hj : guardA ops n a j = some w) (h : RT E ops (⟨dst, op, ty, pos, aft, none⟩ :: r) n a H g K) :
    RT E ops (⟨dst, op, ty, pos, aft, some (j, w)⟩ :: r) n a H g K := by
  refine ⟨fun ro G hE ds Q hQ ac w' hr => ?_⟩
  have h1 := h.out ro G hE ds Q hQ ac w' hr
  unfold wpListIn at h1 ⊢
  rw [if_pos (by simp [Region.wanted])] at h1
  obtain ⟨A, φ, hr'⟩ := hr
  have hy := guard_ok (ops := ops) hr'.tr (guardD_T hj)
  rw [if_pos (by simp [Region.wanted, hy])]
  exact h1
theorem RT.gn {dst : Option Tmp} {op : Op} {ty : TypeId} {pos : String} {aft : Array Edge} {j : Nat} {w b : Bool} (hj : guardA ops n a j = some b) (hb : (b == w) = false) (h : RT E ops r n (setA dst (.v undef) a) H g K) :
    RT E ops (⟨dst, op, ty, pos, aft, some (j, w)⟩ :: r) n a H g K := by
  refine ⟨fun ro G hE ds Q hQ ac w' hr => ?_⟩
  unfold wpListIn
  obtain ⟨A, φ, hr'⟩ := hr
  have hy := guard_ok (ops := ops) hr'.tr (guardD_T hj)
  rw [if_neg (by simp [Region.wanted, hy, hb])]
  refine ⟨fun _ _ => trivial, h.out ro G hE ds Q hQ _ _ ⟨A, φ, ?_⟩⟩
  have := hr'.value dst (d := .v undef) (.v _ undef)
  rw [setT_T] at this
  exact this
/-- A guard whose own operation was passed over. -/
def guardU (ops : List Oper) (n : Nat) (a : AL) (j : Nat) : Bool :=
  match guardI ops j with
  | some i => match lkN n a i with
    | .v (.tuple _) => true
    | _ => false
  | none => false
theorem RT.gu {dst : Option Tmp} {op : Op} {ty : TypeId} {pos : String} {aft : Array Edge} {j : Nat} {w : Bool} (hj : guardU ops n a j = true) (h : RT E ops r n (setA dst (.v undef) a) H g K) :
    RT E ops (⟨dst, op, ty, pos, aft, some (j, w)⟩ :: r) n a H g K := by
  refine ⟨fun ro G hE ds Q hQ ac w' hr => ?_⟩
  unfold wpListIn
  obtain ⟨A, φ, hr'⟩ := hr
  have hy : yielded ops.toArray ac.tmps j = none := by
    unfold guardU guardI at hj
    cases ho : ops[j]? with
    | none => rw [ho] at hj; cases hj
    | some o =>
      rw [ho] at hj
      simp only at hj
      cases hd : o.dst with
      | none => rw [hd] at hj; cases hj
      | some i =>
        rw [hd] at hj
        simp only at hj
        have hv := hr'.tr.ev (.tmp i)
        rw [ev_T] at hv
        simp only [evA] at hv
        split at hj
        · rename_i hl
          rw [hl] at hv
          have hu := hv.v_inv
          simp only [Act.eval] at hu
          simp only [yielded, List.getElem?_toArray, ho, Option.bind_some, hd]
          by_cases hi : i < ac.tmps.size
          · simp only [Array.getD, hi, dif_pos] at hu
            rw [Array.getElem?_eq_getElem hi]
            simp at hu
            rw [hu]
          · rw [Array.getElem?_eq_none (Nat.le_of_not_lt hi)]
        · cases hj
  rw [if_neg (by simp [Region.wanted, hy])]
  refine ⟨fun _ _ => trivial, h.out ro G hE ds Q hQ _ _ ⟨A, φ, ?_⟩⟩
  have := hr'.value dst (d := .v undef) (.v _ undef)
  rw [setT_T] at this
  exact this
end

section
variable {E : Ev} {ops r : List Oper} {n : Nat} {a : AL} {H : List Blk} {g : Gst} {K : KA}

/-- What is known of a temporary may be said anew. -/
theorem RT.case {b : Bool} {l : List Oper} {i : Nat} (he : lkN n a i = .v (.bool b)) (h1 : b = true → RT E ops l n ((i, .v (.bool true)) :: a) H g K) (h2 : b = false → RT E ops l n ((i, .v (.bool false)) :: a) H g K) : RT E ops l n a H g K := by
  have same : ∀ d, lkN n a i = d → T n ((i, d) :: a) = T n a := fun d hd => by
    rw [← T_set]
    refine List.ext_getElem? fun j => ?_
    rw [List.getElem?_set, T_length]
    by_cases hij : i = j
    · subst hij
      rw [if_pos rfl, T_get?]
      by_cases hi : i < n
      · rw [if_pos hi, if_pos hi]
        rw [← hd, lkN]
        have : Nat.blt i n = true := by simpa [Nat.blt_eq] using hi
        simp [this]
      · rw [if_neg hi, if_neg hi]
    · rw [if_neg hij]
  have go : ∀ d, lkN n a i = d → RT E ops l n ((i, d) :: a) H g K → RT E ops l n a H g K := fun d hd h => ⟨fun ro G hE ds Q hQ ac w hr =>
    h.out ro G hE ds Q hQ ac w (by rw [same d hd]; exact hr)⟩
  cases b with
  | true => exact go _ he (h1 rfl)
  | false => exact go _ he (h2 rfl)

/-- A slice is compared with nil. -/
theorem RT.nilEq {x : Operand} {i : Tmp} {ty te ty' tr : TypeId} {pos : String} {aft : Array Edge} (hu : E.P.underlying ty = some (.slice te)) (hx : evA n a x = .nil ∨ (∃ es, evA n a x = .sl es) ∨ (∃ es, evA n a x = .fl es) ∨ ∃ b o m c, evA n a x = .ms b o m c)
    (h : ∀ b : Bool, (b = true → ∀ es, elemsD H (evA n a x) = some es → es = []) → RT E ops r n ((i, .v (.bool b)) :: a) H g K) : RT E ops (⟨some i, .binOp .eql ty x (.const (.slice none 0 0)) ty', tr, pos, aft, none⟩ :: r) n a H g K := by
  refine ⟨fun ro G hE ds Q hQ ac w hr => ?_⟩
  unfold wpListIn
  rw [if_pos (by simp [Region.wanted])]
  obtain ⟨A, φ, hr'⟩ := hr
  have hv := hr'.tr.ev x
  rw [ev_T] at hv
  have hs : ∃ p m c, ac.eval x = .slice p m c := by
    generalize ac.eval x = u at hv
    rcases hx with e | ⟨es, e⟩ | ⟨es, e⟩ | ⟨b, o, m, c, e⟩
    all_goals (rw [e] at hv; cases hv <;> exact ⟨_, _, _, rfl⟩)
  obtain ⟨p, m, c, hs⟩ := hs
  have hrun : ∃ b : Bool, (b = true → p = none) ∧ (execOp ac.eval ⟨some i, .binOp .eql ty x (.const (.slice none 0 0)) ty', tr, pos, aft, none⟩).run E.P w = .ok (.value (.bool b)) w := by
    obtain ⟨b, h1, hbp⟩ := run_sliceEq (w := w) hu x (.const (.slice none 0 0)) p none m c 0 0 (.inr rfl)
    refine ⟨b, hbp.1, ?_⟩
    have h2 : execOp ac.eval ⟨some i, .binOp .eql ty x (.const (.slice none 0 0)) ty', tr, pos, aft, none⟩ = (do pure (.value (← (do eqGuard .eql ty x (.const (.slice none 0 0)) (ac.eval x) (.slice none 0 0); binOp .eql ty (ac.eval x) (.slice none 0 0) : Sem Value)))) := by simp only [execOp]; rfl
    rw [h2, hs, Sem.run_bind, h1]; rfl
  obtain ⟨b, hbp, hrun⟩ := hrun
  refine ⟨fun _ _ => trivial, ?_⟩
  rw [Oper.semAt_eq _ _ _ (by simp), hrun]
  have hbe : b = true → ∀ es, elemsD H (evA n a x) = some es → es = [] := fun hb es he => by
    have hp := hbp hb
    subst hp
    rw [hs] at hv
    rcases hx with e | ⟨es', e⟩ | ⟨es', e⟩ | ⟨k, o, m', c', e⟩
    · rw [e] at he; simp only [elemsD, Option.some.injEq] at he; exact he.symm
    · rw [e] at he hv
      cases hv with
      | sl0 => simp only [elemsD, Option.some.injEq] at he; simpa using he.symm
    · rw [e] at he hv
      cases hv with
      | fl0 => simp only [elemsD, Option.some.injEq] at he; simpa using he.symm
    · rw [e] at he hv
      cases hv with
      | ms _ _ _ _ _ cap' a' h1 h2 h3 =>
        simp only [elemsD] at he
        split at he
        · rename_i sz fs hf
          have h0 : m = 0 := by
            rcases hr'.rh.live k sz fs hf with ⟨_, h4⟩ | ⟨q, base, room, cc, ty, h4, _⟩
            · rw [h4] at h3; simp only [Loc.msOk] at h3; omega
            · rw [h4] at h3
              simp only [Loc.msOk] at h3
              rcases h3.2 with h5 | h5
              · omega
              · cases h5
          subst h0
          split at he
          · cases he; simp
          · cases he
        · cases he
  refine (h b hbe).out ro G hE ds Q hQ _ _ ⟨A, φ, ?_⟩
  have := hr'.value (some i) (d := .v (.bool b)) (.v _ (.bool b))
  rw [setT_T] at this
  exact this
end

/-! What may be forgotten. -/
def DLe (d d' : D) : Prop := d' = .any ∨ d' = d ∨ ∃ es, d = .fl es ∧ d' = .sl es
theorem DLe.v {d d' : D} (h : DLe d d') {A : Rd} {w : World} {φ : Nat → Loc} {u : Value} (hv : V A w φ d u) : V A w φ d' u := by
  rcases h with e | e | ⟨es, e, e'⟩
  · subst e; exact .any _ _
  · subst e; exact hv
  · subst e; subst e'; exact hv.of_fl

def Hd (n : Nat) (a : AL) : AL → Prop
  | [] => True
  | (i, d) :: r => DLe (lkN n a i) d ∧ Hd n a r
theorem Hd.lk {n : Nat} {a : AL} : ∀ {a' : AL}, Hd n a a' → ∀ i, DLe (lkN n a i) (lkN n a' i)
  | [], _, i => .inl (by simp [lkN, DL.lk])
  | (k, d) :: r, h, i => by
    have ih := h.2.lk i
    unfold lkN at ih ⊢
    cases hb : Nat.blt i n with
    | false => exact .inl rfl
    | true =>
      simp only [hb, cond_true, DL.lk] at ih ⊢
      cases hk : Nat.beq k i with
      | true =>
        have := Nat.eq_of_beq_eq_true hk
        subst this
        have h1 := h.1
        simpa [lkN, hb] using h1
      | false => simpa using ih

/-- The frame's state is a weaker one: fewer temporaries are known, own blocks at the end are forgotten. -/
structure Fg (N n : Nat) (a : AL) (H : List Blk) (a' : AL) (H' : List Blk) : Prop where
  hd : Hd n a a'
  pre : H.take H'.length = H'
  le : N ≤ H'.length
  ab : (a'.all fun p => lowB 4 H'.length p.2) = true
  hb : ∀ b ∈ H', BlkBelow H'.length b

theorem lk_lowB {K : Nat} : ∀ {a : AL}, (a.all fun p => lowB 4 K p.2) = true → ∀ i, lowB 4 K (lk a i) = true
  | [], _, i => rfl
  | (k, d) :: r, h, i => by
    simp only [List.all_cons, Bool.and_eq_true] at h
    simp only [lk]
    cases Nat.beq k i with
    | true => exact h.1
    | false => exact lk_lowB h.2 i

theorem Fg.fr {N n : Nat} {a a' : AL} {H H' : List Blk} (h : Fg N n a H a' H') {G : Gh} (hG : Stab G) (hN : G.N ≤ N) {ds : List Nat} {g : Gst} {ac : Act} {w : World}
    (hr : FR G { t := T n a, H := H, ds := ds, g := g } ac w) : FR G { t := T n a', H := H', ds := ds, g := g } ac w := by
  obtain ⟨A, φ, hr⟩ := hr
  have hown : ∀ {m}, own (cutφ H'.length φ) m → own φ m := fun {m} ⟨b, base, sz, room, e⟩ => by
    unfold cutφ at e
    split at e
    · exact ⟨b, base, sz, room, e⟩
    · cases e
  have hget : ∀ b x, H'[b]? = some x → b < H'.length ∧ H[b]? = some x := fun b x hx => by
    have hlt : b < H'.length := (List.getElem?_eq_some_iff.1 hx).1
    refine ⟨hlt, ?_⟩
    rw [← h.pre, List.getElem?_take] at hx
    rw [if_pos hlt] at hx; exact hx
  have hloc : ∀ {b n base sz room}, cutφ H'.length φ b = .loc n base sz room → φ b = .loc n base sz room := fun {b n base sz room} e => by
    unfold cutφ at e
    split at e
    · exact e
    · cases e
  refine ⟨A, cutφ H'.length φ, ⟨fun b hb => ?_, fun b hb => ?_, fun b hb => ?_, fun b sz es hb => ?_, fun b clk es hb => ?_, fun b b' n base sz room base' sz' room' h1 h2 => hr.rh.inj b b' n _ _ _ _ _ _ (hloc h1) (hloc h2), fun m hm => hr.rh.dis m (hown hm), hr.rh.lt, fun m hm => hr.rh.olt m (hown hm), fun m hm => hr.rh.ofr m (hown hm), hr.rh.bsz⟩, ⟨by simpa [T_length] using hr.tr.size, fun i d u h1 h2 => ?_⟩, ?_, hr.df, fun r hm => ?_, hr.nd⟩
  · unfold cutφ
    rw [if_neg]
    intro hlt
    have hb : H'[b]? = none := hb
    rw [List.getElem?_eq_none_iff] at hb; omega
  · obtain ⟨h1, h2⟩ := hget b _ hb
    rw [cutφ_lt h1]; exact hr.rh.free b h2
  · obtain ⟨h1, h2⟩ := hget b _ hb
    rw [cutφ_lt h1]; exact hr.rh.dead b h2
  · obtain ⟨h1, h2⟩ := hget b _ hb
    rw [cutφ_lt h1]
    rcases hr.rh.live b sz es h2 with h3 | ⟨m, base, room, c, ty, h3, h4⟩
    · exact .inl h3
    · refine .inr ⟨m, base, room, c, ty, h3, h4.blk, h4.fits, h4.size, h4.len, fun i e j d k1 k2 => ?_⟩
      obtain ⟨u, k3, k4⟩ := h4.val i e j d k1 k2
      exact ⟨u, k3, k4.cut 4 (h.hb _ (List.mem_of_getElem? hb) e (List.mem_of_getElem? k1) d (List.mem_of_getElem? k2))⟩
  · obtain ⟨h1, h2⟩ := hget b _ hb
    rw [cutφ_lt h1]
    obtain ⟨m, ms, h3, h4⟩ := hr.rh.tab b clk es h2
    refine ⟨m, ms, h3, h4.blk, h4.len, fun i k d q e k1 k2 => ?_⟩
    obtain ⟨k3, k4, k5⟩ := h4.ent i k d q e k1 k2
    exact ⟨k3, k4, k5.cut 4 (h.hb _ (List.mem_of_getElem? hb) _ (List.mem_of_getElem? k1))⟩
  · rw [T_get?] at h1
    split at h1
    · rename_i hi
      cases h1
      have h3 := hr.tr.val i (lk a i) u (by rw [T_get?, if_pos hi]) h2
      have h4 := h.hd.lk i
      have hb : Nat.blt i n = true := by simpa [Nat.blt_eq] using hi
      simp only [lkN, hb, cond_true] at h4
      exact (h4.v h3).cut 4 (lk_lowB h.ab i)
    · cases h1
  · refine hG _ _ _ _ _ hr.gh ⟨⟨rfl, rfl, rfl, Nat.le_refl _, fun _ _ _ => rfl, fun m hm => .inl (hm.imp hown id)⟩, fun _ x => x, fun _ x => .inl x, fun b hb => ?_, rfl⟩
    have : b < H'.length := Nat.lt_of_lt_of_le hb (Nat.le_trans hN h.le)
    show (φ b).le (cutφ H'.length φ b)
    rw [cutφ_lt this]; exact Loc.le_refl _
  · obtain ⟨h1, h2, h3⟩ := hr.dk r hm
    exact ⟨h1, h2, fun x => h3 (hown x)⟩


/-- The frame's state may be said so, instead. -/
structure Wk (N n : Nat) (a : AL) (H : List Blk) (a' : AL) (H' : List Blk) : Prop where
  out : ∀ {G : Gh}, Stab G → G.N ≤ N → ∀ {ds : List Nat} {g : Gst} {ac : Act} {w : World}, FR G { t := T n a, H := H, ds := ds, g := g } ac w → FR G { t := T n a', H := H', ds := ds, g := g } ac w
theorem Wk.fg {N n : Nat} {a a' : AL} {H H' : List Blk} (h : Fg N n a H a' H') : Wk N n a H a' H' := ⟨fun {_} hG hN {_ _ _ _} hr => h.fr hG hN hr⟩
theorem Wk.trans {N n : Nat} {a a' a'' : AL} {H H' H'' : List Blk} (h : Wk N n a H a' H') (k : Wk N n a' H' a'' H'') : Wk N n a H a'' H'' := ⟨fun {_} hG hN {_ _ _ _} hr => k.out hG hN (h.out hG hN hr)⟩

/-- A value that speaks neither of block k nor of block s. -/
def noB : Nat → Nat → Nat → D → Bool
  | _, k, s, .ms b _ _ _ => !(Nat.beq b k) && !(Nat.beq b s)
  | _, k, s, .mp b _ _ => !(Nat.beq b k) && !(Nat.beq b s)
  | _, k, s, .mm b => !(Nat.beq b k) && !(Nat.beq b s)
  | f + 1, k, s, .agg cs => cs.all (noB f k s)
  | f + 1, k, s, .tup cs => cs.all (noB f k s)
  | f + 1, k, s, .fn _ a b => a.all (noB f k s) && b.all (noB f k s)
  | _, _, _, .v _ => true
  | _, _, _, .any => true
  | _, _, _, .nil => true
  | _, _, _, .sl _ => true
  | _, _, _, .fl _ => true
  | _, _, _, .rp _ => true
  | 0, _, _, _ => false
theorem V.noB {A : Rd} {w : World} {φ φ' : Nat → Loc} {k s : Nat} (hφ : ∀ b, b ≠ k → b ≠ s → φ' b = φ b) : ∀ (f : Nat) {d : D} {u : Value}, V A w φ d u → DL.noB f k s d = true → V A w φ' d u := by
  have bne : ∀ {b : Nat}, (!(Nat.beq b k) && !(Nat.beq b s)) = true → φ' b = φ b := fun {b} h => by
    simp only [Bool.and_eq_true, Bool.not_eq_true'] at h
    exact hφ b (fun e => by rw [e] at h; simp at h) (fun e => by rw [e] at h; simp at h)
  intro f
  induction f with
  | zero =>
    intro d u h hb
    cases h with
    | ms _ b off len cap cap' a h1 h2 h3 => exact .ms _ _ _ _ _ _ _ h1 h2 (by rw [bne hb]; exact h3)
    | mp _ b i f x h1 => exact .mp _ _ _ _ _ (by rw [bne hb]; exact h1)
    | mm _ b r h1 => exact .mm _ _ _ (by rw [bne hb]; exact h1)
    | v => exact .v _ _
    | any => exact .any _ _
    | nil => exact .nil _ _
    | sl0 => exact .sl0 _ _ _
    | sl _ es n off sz cap u a b c d e => exact .sl _ es n off sz cap u a b c d e
    | fl0 => exact .fl0 _ _ _
    | fl _ es n off sz cap u a b c d e => exact .fl _ es n off sz cap u a b c d e
    | rp _ cs n off u a b c => exact .rp _ cs n off u a b c
    | agg => simp [DL.noB] at hb
    | tup => simp [DL.noB] at hb
    | fn => simp [DL.noB] at hb
  | succ f ih =>
    intro d u h hb
    have all : ∀ {cs : List D} {i : Nat} {d : D}, cs.all (DL.noB f k s) = true → cs[i]? = some d → DL.noB f k s d = true := fun h1 h2 => List.all_eq_true.1 h1 _ (List.mem_of_getElem? h2)
    cases h with
    | ms _ b off len cap cap' a h1 h2 h3 => exact .ms _ _ _ _ _ _ _ h1 h2 (by rw [bne hb]; exact h3)
    | mp _ b i f x h1 => exact .mp _ _ _ _ _ (by rw [bne hb]; exact h1)
    | mm _ b r h1 => exact .mm _ _ _ (by rw [bne hb]; exact h1)
    | v => exact .v _ _
    | any => exact .any _ _
    | nil => exact .nil _ _
    | sl0 => exact .sl0 _ _ _
    | sl _ es n off sz cap u a b c d e => exact .sl _ es n off sz cap u a b c d e
    | fl0 => exact .fl0 _ _ _
    | fl _ es n off sz cap u a b c d e => exact .fl _ es n off sz cap u a b c d e
    | rp _ cs n off u a b c => exact .rp _ cs n off u a b c
    | agg _ cs vs hl h => exact .agg _ _ _ hl fun i d u h1 h2 => ih (h i d u h1 h2) (all hb h1)
    | tup _ cs vs hl h => exact .tup _ _ _ hl fun i d u h1 h2 => ih (h i d u h1 h2) (all hb h1)
    | fn _ f' first caps vs us hl hl' h h' =>
      simp only [DL.noB, Bool.and_eq_true] at hb
      exact .fn _ f' _ _ _ _ hl hl' (fun i d u h1 h2 => ih (h i d u h1 h2) (all hb.1 h1)) fun i d u h1 h2 => ih (h' i d u h1 h2) (all hb.2 h1)

/-- What becomes of a value where block k moves to place s. -/
def DMv (k s : Nat) (d d' : D) : Prop := d' = .any ∨ (noB 4 k s d = true ∧ d' = d) ∨ (∃ o l c, d = .ms k o l c ∧ d' = .ms s o l c) ∨ ∃ i f, d = .mp k i f ∧ d' = .mp s i f
def Mv (k s n : Nat) (a : AL) : AL → Prop
  | [] => True
  | (i, d) :: r => DMv k s (lkN n a i) d ∧ Mv k s n a r
theorem Mv.lk {k s n : Nat} {a : AL} : ∀ {a' : AL}, Mv k s n a a' → ∀ i, DMv k s (lkN n a i) (lkN n a' i)
  | [], _, i => .inl (by simp [lkN, DL.lk])
  | (j, d) :: r, h, i => by
    have ih := h.2.lk i
    unfold lkN at ih ⊢
    cases hb : Nat.blt i n with
    | false => exact .inl rfl
    | true =>
      simp only [hb, cond_true, DL.lk] at ih ⊢
      cases hk : Nat.beq j i with
      | true =>
        have := Nat.eq_of_beq_eq_true hk
        subst this
        have h1 := h.1
        simpa [lkN, hb] using h1
      | false => simpa using ih
def BlkNo (k s : Nat) : Blk → Prop
  | .live _ es => ∀ e ∈ es, ∀ d ∈ e, noB 4 k s d = true
  | .tab _ es => ∀ e ∈ es, noB 4 k s e.2.1 = true
  | _ => True

/-- Block k moves to place s, which was given up. -/
theorem Wk.mv {N n k s : Nat} {a a' : AL} {H H' : List Blk} (hs : H[s]? = some .dead) (hk : Nat.blt k H.length = true) (hks : Nat.beq k s = false) (hN : N ≤ s) (hNk : N ≤ k) (ha : Mv k s n a a') (hb : ∀ b ∈ H, BlkNo k s b) (hH : (H.set s (H.getD k .dead)).set k .dead = H') : Wk N n a H a' H' := by
  subst hH
  refine ⟨fun {G} hG hGN {ds g ac w} ⟨A, φ, hr⟩ => ?_⟩
  have hkl : k < H.length := by simpa [Nat.blt_eq] using hk
  have hne : k ≠ s := fun e => by subst e; simp at hks
  have hsl : s < H.length := (List.getElem?_eq_some_iff.1 hs).1
  let φ2 : Nat → Loc := fun b => if b = s then φ k else if b = k then .dead else φ b
  have p_s : φ2 s = φ k := by simp [φ2]
  have p_k : φ2 k = .dead := by simp [φ2, hne]
  have p_o : ∀ b, b ≠ k → b ≠ s → φ2 b = φ b := fun b h1 h2 => by simp [φ2, h1, h2]
  have back : ∀ {b n base sz room}, φ2 b = .loc n base sz room → ∃ b', φ b' = .loc n base sz room ∧ b' = (if b = s then k else b) ∧ b ≠ k := fun {b n base sz room} h => by
    by_cases h1 : b = s
    · subst h1; rw [p_s] at h; exact ⟨k, h, by simp, Ne.symm hne⟩
    · by_cases h2 : b = k
      · subst h2; rw [p_k] at h; cases h
      · rw [p_o b h2 h1] at h; exact ⟨b, h, by simp [h1], h2⟩
  have own2 : ∀ {m}, own φ2 m → own φ m := fun ⟨b, base, sz, room, h⟩ => let ⟨b', h1, _⟩ := back h; ⟨b', base, sz, room, h1⟩
  have hget : H.getD k .dead = H[k] := by simp [hkl]
  have mv : ∀ {d d' : D} {u : Value}, DMv k s d d' → V A w φ d u → V A w φ2 d' u := fun {d d' u} h hv => by
    rcases h with e | ⟨h1, e⟩ | ⟨o, l, c, e, e'⟩ | ⟨i, f, e, e'⟩
    · subst e; exact .any _ _
    · subst e; exact hv.noB p_o 4 h1
    · subst e; subst e'
      cases hv with
      | ms _ _ _ _ _ cap' a h1 h2 h3 => exact .ms _ _ _ _ _ _ _ h1 h2 (by rw [p_s]; exact h3)
    · subst e; subst e'
      cases hv with
      | mp _ _ _ _ x h1 => exact .mp _ _ _ _ _ (by rw [p_s]; exact h1)
  have live : ∀ {b sz es}, H[b]? = some (Blk.live sz es) → ∀ {n base room c ty}, LiveAt A w φ n base room sz c ty es → LiveAt A w φ2 n base room sz c ty es := fun {b sz es} hb' {n base room c ty} h =>
    ⟨h.blk, h.fits, h.size, h.len, fun i e j d k1 k2 => let ⟨u, k3, k4⟩ := h.val i e j d k1 k2; ⟨u, k3, k4.noB p_o 4 (hb _ (List.mem_of_getElem? hb') e (List.mem_of_getElem? k1) d (List.mem_of_getElem? k2))⟩⟩
  have tab : ∀ {b clk es}, H[b]? = some (Blk.tab clk es) → ∀ {n ms}, TabAt A w φ n clk es ms → TabAt A w φ2 n clk es ms := fun {b clk es} hb' {n ms} h =>
    ⟨h.blk, h.len, fun i q d b' e k1 k2 => let ⟨k3, k4, k5⟩ := h.ent i q d b' e k1 k2; ⟨k3, k4, k5.noB p_o 4 (hb _ (List.mem_of_getElem? hb') _ (List.mem_of_getElem? k1))⟩⟩
  have g_s : ((H.set s (H.getD k .dead)).set k .dead)[s]? = H[k]? := by
    rw [List.getElem?_set_ne hne, List.getElem?_set_self hsl, hget, List.getElem?_eq_getElem hkl]
  have g_k : ((H.set s (H.getD k .dead)).set k .dead)[k]? = some .dead := List.getElem?_set_self (by simpa using hkl)
  have g_o : ∀ b, b ≠ k → b ≠ s → ((H.set s (H.getD k .dead)).set k .dead)[b]? = H[b]? := fun b h1 h2 => by
    rw [List.getElem?_set_ne (Ne.symm h1), List.getElem?_set_ne (Ne.symm h2)]
  refine ⟨A, φ2, ⟨fun b hb' => ?_, fun b hb' => ?_, fun b hb' => ?_, fun b sz es hb' => ?_, fun b clk es hb' => ?_, fun b b' n base sz room base' sz' room' h1 h2 => ?_, fun m hm => hr.rh.dis m (own2 hm), hr.rh.lt, fun m hm => hr.rh.olt m (own2 hm), fun m hm => hr.rh.ofr m (own2 hm), hr.rh.bsz⟩, ⟨by simpa [T_length] using hr.tr.size, fun i d u h1 h2 => ?_⟩, ?_, hr.df, fun r hm => ?_, hr.nd⟩
  · have hb2 : ((H.set s (H.getD k .dead)).set k .dead)[b]? = none := hb'
    rw [List.getElem?_eq_none_iff, List.length_set, List.length_set] at hb2
    rw [p_o b (by omega) (by omega)]
    exact hr.rh.out b (List.getElem?_eq_none hb2)
  · by_cases h1 : b = k
    · subst h1; rw [g_k] at hb'; cases hb'
    · by_cases h2 : b = s
      · subst h2; rw [g_s] at hb'; rw [p_s]; exact hr.rh.free k hb'
      · rw [g_o b h1 h2] at hb'; rw [p_o b h1 h2]; exact hr.rh.free b hb'
  · by_cases h1 : b = k
    · subst h1; exact p_k
    · by_cases h2 : b = s
      · subst h2; rw [g_s] at hb'; rw [p_s]; exact hr.rh.dead k hb'
      · rw [g_o b h1 h2] at hb'; rw [p_o b h1 h2]; exact hr.rh.dead b hb'
  · by_cases h1 : b = k
    · subst h1; rw [g_k] at hb'; cases hb'
    · by_cases h2 : b = s
      · subst h2
        rw [g_s] at hb'
        rw [p_s]
        rcases hr.rh.live k sz es hb' with h3 | ⟨n, base, room, c, ty, h3, h4⟩
        · exact .inl h3
        · exact .inr ⟨n, base, room, c, ty, h3, live hb' h4⟩
      · rw [g_o b h1 h2] at hb'
        rw [p_o b h1 h2]
        rcases hr.rh.live b sz es hb' with h3 | ⟨n, base, room, c, ty, h3, h4⟩
        · exact .inl h3
        · exact .inr ⟨n, base, room, c, ty, h3, live hb' h4⟩
  · by_cases h1 : b = k
    · subst h1; rw [g_k] at hb'; cases hb'
    · by_cases h2 : b = s
      · subst h2
        rw [g_s] at hb'
        rw [p_s]
        obtain ⟨n, ms, h3, h4⟩ := hr.rh.tab k clk es hb'
        exact ⟨n, ms, h3, tab hb' h4⟩
      · rw [g_o b h1 h2] at hb'
        rw [p_o b h1 h2]
        obtain ⟨n, ms, h3, h4⟩ := hr.rh.tab b clk es hb'
        exact ⟨n, ms, h3, tab hb' h4⟩
  · obtain ⟨c1, q1, r1, l1⟩ := back h1
    obtain ⟨c2, q2, r2, l2⟩ := back h2
    have := hr.rh.inj _ _ _ _ _ _ _ _ _ q1 q2
    rw [r1, r2] at this
    by_cases e1 : b = s
    · by_cases e2 : b' = s
      · rw [e1, e2]
      · simp [e1, e2] at this; exact absurd this.symm l2
    · by_cases e2 : b' = s
      · simp [e1, e2] at this; exact absurd this l1
      · simpa [e1, e2] using this
  · rw [T_get?] at h1
    split at h1
    · rename_i hi
      cases h1
      have h3 := hr.tr.val i (lk a i) u (by rw [T_get?, if_pos hi]) h2
      have h4 := ha.lk i
      have hb2 : Nat.blt i n = true := by simpa [Nat.blt_eq] using hi
      simp only [lkN, hb2, cond_true] at h4
      exact mv h4 h3
    · cases h1
  · refine hG _ _ _ _ _ hr.gh ⟨⟨rfl, rfl, rfl, Nat.le_refl _, fun _ _ _ => rfl, fun m hm => .inl (hm.imp own2 id)⟩, fun _ x => x, fun _ x => .inl x, fun b hb' => ?_, rfl⟩
    show (φ b).le (φ2 b)
    rw [p_o b (by omega) (by omega)]; exact Loc.le_refl _
  · obtain ⟨h1, h2, h3⟩ := hr.dk r hm
    exact ⟨h1, h2, fun x => h3 (own2 x)⟩

section
variable {E : Ev} {ops l : List Oper} {n : Nat} {a a' : AL} {H H' : List Blk} {g : Gst} {K : KA} {c : Code} {Q : KX}

theorem RT.forget (a' : AL) (H' : List Blk) (hf : Wk E.N n a H a' H') (h : RT E ops l n a' H' g K) : RT E ops l n a H g K :=
  ⟨fun ro G hE ds Q hQ ac w hr => h.out ro G hE ds Q hQ ac w (hf.out hE.st hE.le hr)⟩
theorem VT.forget (a' : AL) (H' : List Blk) (hf : Wk E.N n a H a' H') (h : VT E c n a' H' g Q) : VT E c n a H g Q :=
  ⟨fun ro G hE ds ac w hr => h.out ro G hE ds ac w (hf.out hE.st hE.le hr)⟩
theorem VT.mono {Q' : KX} (h : VT E c n a H g Q) (k : ∀ e a H g, Q e a H g → Q' e a H g) : VT E c n a H g Q' :=
  ⟨fun ro G hE ds => (h.out ro G hE ds).mono fun _ _ ⟨a', h1, h2⟩ => ⟨a', h1, k _ _ _ _ h2⟩⟩

/-! The pieces of code, found where they are needed. -/
def cL : Code → Code
  | .seq a _ => a
  | .cond _ a _ => a
  | .block _ c => c
  | .loop c => c
  | .scope c => c
  | .rangeFunc _ _ a _ => a
  | c => c
def cR : Code → Code
  | .seq _ b => b
  | .cond _ _ b => b
  | .rangeFunc _ _ _ b => b
  | c => c
def isSeqC : Code → Bool
  | .seq _ _ => true
  | _ => false
def isLoopC : Code → Bool
  | .loop _ => true
  | _ => false
def isRetC : Code → Bool
  | .ret => true
  | _ => false
def isSkipC : Code → Bool
  | .skip => true
  | _ => false
def exitC : Code → Option Nat
  | .exit id => some id
  | _ => none
def blockC : Code → Option Nat
  | .block id _ => some id
  | _ => none
def condC : Code → Option Operand
  | .cond x _ _ => some x
  | _ => none
def regC : Code → Option (Bool × Array Oper)
  | .region _ ops d => some (d, ops)
  | _ => none
def rangeC : Code → Option (Operand × Array Tmp)
  | .rangeFunc g ps _ _ => some (g, ps)
  | _ => none

def kSeq (E : Ev) (n : Nat) (y : Code) (Q : KX) : KX
  | .normal, a, H, g => VT E y n a H g Q
  | e, a, H, g => Q e a H g
def kBlk (id : Nat) (Q : KX) : KX
  | .exit id', a, H, g => if id' = id then Q .normal a H g else Q (.exit id') a H g
  | e, a, H, g => Q e a H g
abbrev LI := Nat → AL → List Blk → Gst → Prop
/-- The loop's head is come to again, with fewer rounds left. -/
def Again (N n : Nat) (I : LI) (j : Nat) (a : AL) (H : List Blk) (g : Gst) : Prop := ∃ j', j' < j ∧ ∃ a' H', I j' a' H' g ∧ Wk N n a H a' H'
def kLoop (E : Ev) (n : Nat) (I : LI) (j : Nat) (Q : KX) : KX
  | .normal, a, H, g => Again E.N n I j a H g
  | e, a, H, g => Q e a H g

theorem VT.seq (hc : isSeqC c = true) (h : VT E (cL c) n a H g (kSeq E n (cR c) Q)) : VT E c n a H g Q := by
  cases c with
  | seq x y =>
    refine ⟨fun ro G hE ds => ?_⟩
    refine Sp_seq ((h.out ro G hE ds).mono ?_)
    rintro e ⟨t1, H1, ds1, g1⟩ ⟨a', h1, h2⟩
    simp only at h1; subst h1
    cases e with
    | normal => exact h2.out ro G hE ds1
    | _ => exact ⟨a', rfl, h2⟩
  | _ => cases hc
theorem VT.ret (hc : isRetC c = true) (h : Q .ret a H g) : VT E c n a H g Q := by
  cases c with
  | ret => exact ⟨fun ro G hE ds _ _ hr => wpIn_ret ⟨_, ⟨a, rfl, h⟩, hr⟩⟩
  | _ => cases hc
theorem VT.skip (hc : isSkipC c = true) (h : Q .normal a H g) : VT E c n a H g Q := by
  cases c with
  | skip => exact ⟨fun ro G hE ds _ _ hr => wpIn_skip ⟨_, ⟨a, rfl, h⟩, hr⟩⟩
  | _ => cases hc
def isScopeC : Code → Bool
  | .scope _ => true
  | _ => false
/-- No goto goes through. -/
def kScope (Q : KX) : KX
  | .goto _, _, _, _ => False
  | e, a, H, g => Q e a H g
theorem VT.scope (hc : isScopeC c = true) (h : VT E (cL c) n a H g (kScope Q)) : VT E c n a H g Q := by
  cases c with
  | scope c =>
    refine ⟨fun ro G hE ds => Sp_scope ((h.out ro G hE ds).mono ?_)⟩
    rintro e s ⟨a', h1, h2⟩
    cases e with
    | goto l => exact h2.elim
    | _ => exact ⟨fun _ => by simp, a', h1, h2⟩
  | _ => cases hc
def isLabelC : Code → Bool
  | .label _ => true
  | _ => false
theorem VT.label (hc : isLabelC c = true) (h : Q .normal a H g) : VT E c n a H g Q := by
  cases c with
  | label _ => exact ⟨fun ro G hE ds _ _ hr => wpIn_label ⟨_, ⟨a, rfl, h⟩, hr⟩⟩
  | _ => cases hc
theorem VT.exit {id : Nat} (hc : exitC c = some id) (h : Q (.exit id) a H g) : VT E c n a H g Q := by
  cases c with
  | exit id => cases hc; exact ⟨fun ro G hE ds _ _ hr => wpIn_exit ⟨_, ⟨a, rfl, h⟩, hr⟩⟩
  | _ => cases hc
theorem VT.block {id : Nat} (hc : blockC c = some id) (h : VT E (cL c) n a H g (kBlk id Q)) : VT E c n a H g Q := by
  cases c with
  | block id c =>
    cases hc
    refine ⟨fun ro G hE ds => ?_⟩
    refine Sp_block ((h.out ro G hE ds).mono ?_)
    rintro e s ⟨a', h1, h2⟩
    cases e with
    | exit id' =>
      simp only [kBlk, QBlock] at h2 ⊢
      split at h2
      · rename_i hid; rw [if_pos hid]; exact ⟨a', h1, h2⟩
      · rename_i hid; rw [if_neg hid]; exact ⟨a', h1, h2⟩
    | _ => exact ⟨a', h1, h2⟩
  | _ => cases hc
theorem VT.reg {l : List Oper} (hc : regC c = some (false, l.toArray)) (h : RT E l l n a H g (Q .normal)) : VT E c n a H g Q := by
  cases c with
  | region id ops d =>
    cases hc
    refine ⟨fun ro G hE ds ac w hr => ?_⟩
    exact wpIn_region_lit (h.out ro G hE ds _ (fun a' H' g' ac w q r => ⟨_, ⟨a', rfl, q⟩, r⟩) ac w hr)
  | _ => cases hc
theorem VT.cond {x : Operand} {b : Bool} (hc : condC c = some x) (hx : evA n a x = .v (.bool b)) (h1 : b = true → VT E (cL c) n a H g Q) (h2 : b = false → VT E (cR c) n a H g Q) : VT E c n a H g Q := by
  cases c with
  | cond y l r =>
    cases hc
    refine ⟨fun ro G hE ds => ?_⟩
    exact Sp_cond (b := b) (by rw [ev_T]; exact hx) (fun e => (h1 e).out ro G hE ds) fun e => (h2 e).out ro G hE ds
  | _ => cases hc
theorem VT.condT {x : Operand} (hc : condC c = some x) (hx : evA n a x = .v (.bool true)) (h1 : VT E (cL c) n a H g Q) : VT E c n a H g Q := VT.cond hc hx (fun _ => h1) fun e => by cases e
theorem VT.condF {x : Operand} (hc : condC c = some x) (hx : evA n a x = .v (.bool false)) (h1 : VT E (cR c) n a H g Q) : VT E c n a H g Q := VT.cond hc hx (fun e => by cases e) fun _ => h1
theorem VT.condD {x : Operand} {p : Prop} [Decidable p] (hc : condC c = some x) (hx : evA n a x = .v (.bool (decide p))) (h1 : p → VT E (cL c) n a H g Q) (h2 : ¬ p → VT E (cR c) n a H g Q) : VT E c n a H g Q :=
  VT.cond hc hx (fun e => h1 (of_decide_eq_true e)) fun e => h2 (of_decide_eq_false e)
theorem VT.condY {x : Operand} {p : Prop} [Decidable p] (hc : condC c = some x) (hx : evA n a x = .v (.bool (decide p))) (hp : p) (h1 : VT E (cL c) n a H g Q) : VT E c n a H g Q :=
  VT.condD hc hx (fun _ => h1) fun e => absurd hp e
theorem VT.condN {x : Operand} {p : Prop} [Decidable p] (hc : condC c = some x) (hx : evA n a x = .v (.bool (decide p))) (hp : ¬ p) (h1 : VT E (cR c) n a H g Q) : VT E c n a H g Q :=
  VT.condD hc hx (fun e => absurd e hp) fun _ => h1
theorem VT.loop (I : LI) (hc : isLoopC c = true) (h0 : ∃ j a' H', I j a' H' g ∧ Wk E.N n a H a' H') (h : ∀ j a H g, I j a H g → VT E (cL c) n a H g (kLoop E n I j Q)) : VT E c n a H g Q := by
  cases c with
  | loop c =>
    obtain ⟨j, a', H', hI, hf⟩ := h0
    refine ⟨fun ro G hE ds => ?_⟩
    refine Sp_loop (fun j s => ∃ a1 a2 H2, s.t = T n a1 ∧ Wk E.N n a1 s.H a2 H2 ∧ I j a2 H2 s.g) ⟨j, a, a', H', rfl, hf, hI⟩ ?_
    rintro j ⟨t1, H1, ds1, g1⟩ ⟨a1, a2, H2, ht, hf, hI⟩
    simp only at ht hf hI; subst ht
    refine ((VT.forget a2 H2 hf (h j a2 H2 g1 hI)).out ro G hE ds1).mono ?_
    rintro e s ⟨a3, h1, h2⟩
    cases e with
    | normal => obtain ⟨j', h3, a4, H4, h5, h4⟩ := h2; exact ⟨j', h3, a3, a4, H4, h1, h4, h5⟩
    | _ => exact ⟨a3, h1, h2⟩
  | _ => cases hc
end
end
end Go.DL

/- Regions that draw their order, ranges over functions, and the ends of functions, over short lists of temporaries. -/
namespace Go.DL
open Go.RowKit Go.Proofs

noncomputable section

abbrev KP := AL → List Blk → Prop
structure PT (E : Ev) (ops : List Oper) (base : Nat) (pl : List (Nat × List Nat)) (l : List Oper) (n : Nat) (a : AL) (H : List Blk) (K : KP) : Prop where
  out : planT E.P ops base pl l (T n a) H fun t H => ∃ a', t = T n a' ∧ K a' H

section
variable {E : Ev} {ops r : List Oper} {base s : Nat} {hs : List Nat} {pl : List (Nat × List Nat)} {n : Nat} {a : AL} {H : List Blk} {K : KP}

theorem PT.nil (h : K a H) : PT E ops base pl [] n a H K := by
  refine ⟨?_⟩
  cases pl with
  | nil => exact ⟨a, rfl, h⟩
  | cons x pl => exact ⟨a, rfl, h⟩
theorem PT.stepG {o : Oper} {d : D} {e : Eff} (hg : o.guard = none) (hs' : stepD E.P (maskL base hs H) (base + s) (T n a) o.op = some (d, e)) (h : PT E ops base pl r n (setA o.dst d a) (e.app H (base + s)) K) : PT E ops base ((s, hs) :: pl) (o :: r) n a H K := by
  refine ⟨?_⟩
  unfold planT actOT
  simp only [hg]
  unfold actT
  split
  · rename_i f args tys hop; rw [hop] at hs'; cases hs'
  · simp only [hs', setT_T]; exact h.out
theorem PT.callG {dst : Option Tmp} {f : Operand} {args : List Operand} {tys : Array TypeId} {ty : TypeId} {pos : String} {aft : Array Edge} {f' : FuncId} {xs ys : List D} {d : D} (hc : callA n a f args = some (f', xs))
    (hm : Maps E.P f' ys d) (hy : xs.map (snap (fun b => (maskL base hs H)[b]?) 5) = ys) (hd : freshD 5 d = true) (h : PT E ops base pl r n (setA dst d a) H K) :
    PT E ops base ((s, hs) :: pl) (⟨dst, .call { callee := .value f, args := args.toArray, argTypes := tys }, ty, pos, aft, none⟩ :: r) n a H K := by
  refine ⟨?_⟩
  unfold planT actOT
  simp only
  unfold actT
  have hc' : callD (T n a) f args = some (f', xs) := callD_T.trans hc
  subst hy
  simp only [hc']
  exact ⟨d, hm, hd, by rw [setT_T]; exact h.out⟩
theorem PT.gy {dst : Option Tmp} {op : Op} {ty : TypeId} {pos : String} {aft : Array Edge} {j : Nat} {w : Bool} (hj : guardA ops n a j = some w) (h : PT E ops base ((s, hs) :: pl) (⟨dst, op, ty, pos, aft, none⟩ :: r) n a H K) :
    PT E ops base ((s, hs) :: pl) (⟨dst, op, ty, pos, aft, some (j, w)⟩ :: r) n a H K := by
  replace h := h.out
  refine ⟨?_⟩
  unfold planT actOT at h ⊢
  simp only [guardD_T hj] at h ⊢
  exact ⟨fun _ => h, fun hh => absurd rfl hh⟩
theorem PT.gn {dst : Option Tmp} {op : Op} {ty : TypeId} {pos : String} {aft : Array Edge} {j : Nat} {w b : Bool} (hj : guardA ops n a j = some b) (hb : (b == w) = false) (h : PT E ops base pl r n (setA dst .any a) H K) :
    PT E ops base ((s, hs) :: pl) (⟨dst, op, ty, pos, aft, some (j, w)⟩ :: r) n a H K := by
  refine ⟨?_⟩
  unfold planT actOT
  simp only [guardD_T hj, setT_T]
  exact ⟨fun hh => by subst hh; simp at hb, fun _ => h.out⟩
end

section
variable {E : Ev} {n : Nat} {a : AL} {H : List Blk} {g : Gst} {c : Code} {Q : KX}

/-- What follows a region that draws its order. -/
def KD (Q : KX) (g : Gst) : KP := fun a H => Q .normal a H.dropLast g
theorem PT.done {ops : List Oper} {base : Nat} {pl : List (Nat × List Nat)} {H' : List Blk} (hH : H.dropLast = H') (h : Q .normal a H' g) : PT E ops base pl [] n a H (KD Q g) := by
  subst hH; exact PT.nil h
theorem VT.draw (pl : List (Nat × List Nat)) (k : Nat) {l : List Oper} {base : Nat} {H1 : List Blk} (hm : E.P.follows .mixedOrders = true) (hc : regC c = some (true, l.toArray)) (hd : drawOk l = true) (hp : mkPlan l = pl) (hk : slots l + 1 = k) (hb : H.length = base)
    (hH : H ++ List.replicate k .free = H1) (h : PT E l base pl l n a H1 (KD Q g)) : VT E c n a H g Q := by
  subst hk; subst hb; subst hH
  cases c with
  | region id ops d =>
    cases hc
    refine ⟨fun ro G hE ds => ?_⟩
    exact Sp_draw hE.st hE.yk hm hd hp (planT_ok (K := fun t H' => ∃ a', t = T n a' ∧ Q .normal a' H'.dropLast g) (fun t H ⟨a', h1, h2⟩ => ⟨a', h1, h2⟩) pl l _ _ h.out)
  | _ => cases hc

theorem setPs_T : ∀ (ps : List (Tmp × D)) (n : Nat) (a : AL), setPs (T n a) ps = T n (ps.foldl (fun a p => p :: a) a)
  | [], n, a => rfl
  | (i, d) :: r, n, a => by rw [setPs, T_set, setPs_T r]; rfl

def Ev.body (E : Ev) (N : Nat) : Ev := { P := E.P, N := N, top := false }
theorem Ev.body_ok {E : Ev} {N l : Nat} {G : Gh} (h1 : Stab G) (h2 : YOk E.P G) (h3 : G.N = N) : (E.body N).ok (some l) G := ⟨fun e => by simp [Ev.body] at e, h1, h2, Nat.le_of_eq h3, fun _ _ _ _ h => h.elim⟩

theorem VT.range {x : Operand} {ps : List Tmp} {f : FuncId} {first caps fs cs : List D} (seq : List (List D)) (ks : List Nat) (J : Nat → List Blk → Prop) (htop : E.top = true) (hc : rangeC c = some (x, ps.toArray)) (hx : evA n a x = .fn (.func f) first caps)
    (hk : (ks.all fun b => Nat.blt b H.length) = true) (hf1 : first.map (snap (sel ks H) 5) = fs) (hf2 : caps.map (snap (sel ks H) 5) = cs) (hI : Iter E.P f fs cs seq)
    (hs : ∀ (i : Nat) args, seq[i]? = some args → args.length = ps.length ∧ args.all (still 3) = true) (h0 : J 0 (killL H ks))
    (hB : ∀ (i : Nat) args H', seq[i]? = some args → J i H' → VT (E.body H'.length) (cL c) n ((ps.zip args).foldl (fun a p => p :: a) a) H' (0, false) fun e a1 H1 g1 => e = .normal ∧ VT (E.body H'.length) (cR c) n a1 H1 g1 fun e' _ H2 _ => match e' with
      | .normal => J (i + 1) H2
      | .ret => Q .ret a H2 g
      | .exit id => Q (.exit id) a H2 g
      | _ => False)
    (hQ : ∀ H', J seq.length H' → Q .normal a H' g) : VT E c n a H g Q := by
  subst hf1; subst hf2
  cases c with
  | rangeFunc x' ps' asg body =>
    cases hc
    refine ⟨fun ro G hE ds => ?_⟩
    rw [hE.ro htop]
    refine Sp_range hE.st ks (by rw [ev_T]; exact hx) (fun b hb => by have := List.all_eq_true.1 hk b hb; simpa [Nat.blt_eq] using this) hI (fun i args h => by simpa using hs i args h) J h0 ?_ fun H' ds' hJ => ⟨a, rfl, hQ H' hJ⟩
    intro i args H' hsq hJ l Gb hGb hYb hN
    simp only [List.toList_toArray]
    rw [setPs_T]
    refine ((hB i args H' hsq hJ).out (some l) Gb (Ev.body_ok hGb hYb hN) []).mono ?_
    rintro e ⟨t1, H1, ds1, g1⟩ ⟨a1, h1, h2, h3⟩
    simp only at h1; subst h1
    refine ⟨h2, fun Gb' hGb' hYb' hN' => ?_⟩
    refine (h3.out (some l) Gb' (Ev.body_ok hGb' hYb' hN') ds1).mono ?_
    rintro e' s ⟨a2, q1, q2⟩
    cases e' with
    | normal => exact q2
    | ret => exact fun ds' => ⟨a, rfl, q2⟩
    | exit id => exact fun ds' => ⟨a, rfl, q2⟩
    | _ => exact q2
  | _ => cases hc

/-! The ends of functions. -/
def resA1 (P : Program) (n : Nat) (a : AL) (H : List Blk) : ResultVar → Option D
  | .tmp t => some (lkN n a t)
  | .cell b t => loadD P H t (lkN n a b)
def resAL (P : Program) (n : Nat) (a : AL) (H : List Blk) : List ResultVar → Option (List D)
  | [] => some []
  | r :: rs => match resA1 P n a H r, resAL P n a H rs with
    | some d, some ds => some (d :: ds)
    | _, _ => none
def resA (P : Program) (rs : List ResultVar) (n : Nat) (a : AL) (H : List Blk) : Option D :=
  match resAL P n a H rs with
  | some [d] => some d
  | some ds => some (.tup ds)
  | none => none
theorem resD_T {P : Program} {rs : List ResultVar} {n : Nat} {a : AL} {H : List Blk} {ds : List Nat} {g : Gst} : resD P rs { t := T n a, H := H, ds := ds, g := g } = resA P rs n a H := by
  have h1 : ∀ r, resOne P { t := T n a, H := H, ds := ds, g := g } r = resA1 P n a H r := fun r => by cases r <;> simp only [resOne, resA1, T_getD]
  have h2 : ∀ rs, resL P { t := T n a, H := H, ds := ds, g := g } rs = resAL P n a H rs := fun rs => by
    induction rs with
    | nil => rfl
    | cons r rs ih => simp only [resL, resAL, h1, ih]; rfl
  unfold resD resA; rw [h2]; rfl

def kEnd (P : Program) (rs : List ResultVar) (n : Nat) (R : D → List Blk → Gst → Prop) : KX
  | .normal, a, H, g => ∃ d, resA P rs n a H = some d ∧ R d H g
  | .ret, a, H, g => ∃ d, resA P rs n a H = some d ∧ R d H g
  | _, _, _, _ => False

theorem AL_args (args : List D) (n : Nat) (h : args.length ≤ n) : args ++ List.replicate (n - args.length) .any = T n (args.zipIdx.map fun p => (p.2, p.1)) := by
  have key : ∀ (l : List D) (k i : Nat), lk ((l.zipIdx k).map fun p => (p.2, p.1)) (k + i) = l.getD i .any := fun l => by
    induction l with
    | nil => intro k i; simp [lk]
    | cons d l ih =>
      intro k i
      simp only [List.zipIdx_cons, List.map_cons, lk]
      cases i with
      | zero => simp
      | succ i =>
        have hb : Nat.beq k (k + (i + 1)) = false := by
          cases hb : Nat.beq k (k + (i + 1)) with
          | false => rfl
          | true => have := Nat.eq_of_beq_eq_true hb; omega
        simp only [hb, cond_false]
        have := ih (k + 1) i
        rw [show k + (i + 1) = k + 1 + i by omega, this]; simp
  refine List.ext_getElem? fun j => ?_
  rw [T_get?]
  have := key args 0 j
  rw [Nat.zero_add] at this
  rw [this]
  by_cases hj : j < args.length
  · rw [List.getElem?_append_left hj, if_pos (by omega), List.getD_eq_getElem?_getD, List.getElem?_eq_getElem hj]; rfl
  · rw [List.getElem?_append_right (by omega), List.getElem?_replicate, List.getD_eq_getElem?_getD, List.getElem?_eq_none (by omega)]
    by_cases hn : j < n
    · rw [if_pos (by omega), if_pos hn]; rfl
    · rw [if_neg (by omega), if_neg hn]

def bodyC (fn : Func) : Code := fn.body.getD .skip
def hasBody (fn : Func) : Bool := match fn.body with
  | some _ => true
  | none => false
theorem bodyC_of {fn : Func} (h : hasBody fn = true) : fn.body = some (bodyC fn) := by
  unfold hasBody at h; unfold bodyC
  split at h
  · rename_i c hc; rw [hc]; rfl
  · cases h

theorem Maps.vt {P : Program} (hP : POk P) {f : FuncId} (fn : Func) {args : List D} {al : AL} {d : D} {n : Nat} {rs : List ResultVar} (hf : P.funcs[f]? = some fn) (hb : hasBody fn = true) (hn : fn.ntmps = n) (hrs : fn.results = rs.toArray)
    (ha : (args.zipIdx.map fun p => (p.2, p.1)) = al) (hl : Nat.ble args.length n = true) (h : ∀ g, VT { P := P } (bodyC fn) n al [] g (kEnd P rs n fun d' H _ => snapR (fun b => H[b]?) 5 d' = d)) : Maps P f args d := by
  subst hn; subst ha
  refine Maps.ofS hf (bodyC_of hb) (hP.name hf) fun G hG hY hN => ?_
  rw [AL_args _ _ (by simpa using hl)]
  refine ((h (0, false)).out none G ⟨fun _ => rfl, hG, hY, Nat.le_of_eq hN, fun _ _ _ _ h => h.elim⟩ []).mono ?_
  rintro e ⟨t, H, ds, g⟩ ⟨a', h1, q⟩
  simp only at h1; subst h1
  rw [hrs]
  simp only [List.toList_toArray]
  cases e with
  | normal => obtain ⟨d', q1, q2⟩ := q; simp only [Post, resD_T, q1, Option.map_some, q2]
  | ret => obtain ⟨d', q1, q2⟩ := q; simp only [Post, resD_T, q1, Option.map_some, q2]
  | _ => exact q.elim
theorem CallSp.vt {P : Program} (hP : POk P) {f : FuncId} (fn : Func) {args : List D} {al : AL} {H : List Blk} {Q : D → List Blk → Prop} {n N : Nat} {rs : List ResultVar} (hf : P.funcs[f]? = some fn) (hb : hasBody fn = true) (hn : fn.ntmps = n) (hrs : fn.results = rs.toArray)
    (ha : (args.zipIdx.map fun p => (p.2, p.1)) = al) (hl : Nat.ble args.length n = true) (hN : H.length = N) (h : ∀ g, VT { P := P, N := N } (bodyC fn) n al H g (kEnd P rs n fun d' H _ => Q d' H)) : CallSp P f args H Q := by
  subst hn; subst ha; subst hN
  refine CallSp.ofS hf (bodyC_of hb) (hP.name hf) fun G hG hY hN => ?_
  rw [AL_args _ _ (by simpa using hl)]
  refine ((h (0, false)).out none G ⟨fun _ => rfl, hG, hY, Nat.le_of_eq hN, fun _ _ _ _ h => h.elim⟩ []).mono ?_
  rintro e ⟨t, H, ds, g⟩ ⟨a', h1, q⟩
  simp only at h1; subst h1
  rw [hrs]
  simp only [List.toList_toArray]
  cases e with
  | normal => obtain ⟨d', q1, q2⟩ := q; exact ⟨d', by rw [resD_T, q1], q2⟩
  | ret => obtain ⟨d', q1, q2⟩ := q; exact ⟨d', by rw [resD_T, q1], q2⟩
  | _ => exact q.elim

/-- What an iterator's yield function does. -/
def Yit (l : Nat) (seq : List (List D)) : Nat → Gst → List D → (Bool → Gst → Prop) → Prop := fun l' g args K => l' = l ∧ ∃ i, g = (i, false) ∧ seq[i]? = some args ∧ K true (i + 1, false) ∧ K false (i, true)
theorem Iter.vt {P : Program} (hP : POk P) {f : FuncId} (fn : Func) {first caps : List D} {al : Nat → AL} {seq : List (List D)} {n : Nat} (hf : P.funcs[f]? = some fn) (hb : hasBody fn = true) (hn : fn.ntmps = n) (hrs : fn.results = #[])
    (ha : ∀ l, ((first ++ ([D.fn (.yield l) [] []] ++ caps)).zipIdx.map fun p => (p.2, p.1)) = al l) (hl : Nat.ble (first.length + 1 + caps.length) n = true)
    (h : ∀ l, VT { P := P, Y := Yit l seq } (bodyC fn) n (al l) [] (0, false) (kEnd P [] n fun _ _ g => g = (seq.length, false) ∨ g.2 = true)) : Iter P f first caps seq := by
  subst hn
  refine Iter.ofS hf (bodyC_of hb) (hP.name hf) fun G l hG hY hN hYY => ?_
  have hl' : (first ++ ([D.fn (.yield l) [] []] ++ caps)).length ≤ fn.ntmps := by
    have : first.length + 1 + caps.length ≤ fn.ntmps := by simpa using hl
    simp; omega
  rw [AL_args _ _ hl', ha]
  refine ((h l).out none G ⟨fun _ => rfl, hG, hY, Nat.le_of_eq hN, ?_⟩ []).mono ?_
  · rintro l' g args K ⟨rfl, i, rfl, h1, h2, h3⟩ K' hK
    exact hYY i args K' h1 (hK _ _ h2) (hK _ _ h3)
  rintro e ⟨t, H, ds, g⟩ ⟨a', h1, q⟩
  simp only at h1; subst h1
  rw [hrs]
  cases e with
  | normal => obtain ⟨d', q1, q2⟩ := q; exact ⟨d', by rw [resD_T]; exact q1, q2⟩
  | ret => obtain ⟨d', q1, q2⟩ := q; exact ⟨d', by rw [resD_T]; exact q1, q2⟩
  | _ => exact q.elim

/-! What follows a piece of code. -/
theorem kSn {y : Code} (h : VT E y n a H g Q) : kSeq E n y Q .normal a H g := h
theorem kSe {y : Code} {id : Nat} (h : Q (.exit id) a H g) : kSeq E n y Q (.exit id) a H g := h
theorem kSr {y : Code} (h : Q .ret a H g) : kSeq E n y Q .ret a H g := h
theorem kCn (h : Q .normal a H g) : kScope Q .normal a H g := h
theorem kCr (h : Q .ret a H g) : kScope Q .ret a H g := h
theorem kCe {id : Nat} (h : Q (.exit id) a H g) : kScope Q (.exit id) a H g := h
theorem kBn {id : Nat} (h : Q .normal a H g) : kBlk id Q .normal a H g := h
theorem kBr {id : Nat} (h : Q .ret a H g) : kBlk id Q .ret a H g := h
theorem kBe {id : Nat} (h : Q .normal a H g) : kBlk id Q (.exit id) a H g := by simp only [kBlk, if_pos]; exact h
theorem kBx {id id' : Nat} (hn : (id' == id) = false) (h : Q (.exit id') a H g) : kBlk id Q (.exit id') a H g := by
  simp only [kBlk]
  rw [if_neg (by simpa using hn)]; exact h
theorem kLn {I : LI} {j : Nat} (h : Again E.N n I j a H g) : kLoop E n I j Q .normal a H g := h
theorem kLr {I : LI} {j : Nat} (h : Q .ret a H g) : kLoop E n I j Q .ret a H g := h
theorem kLe {I : LI} {j id : Nat} (h : Q (.exit id) a H g) : kLoop E n I j Q (.exit id) a H g := h
theorem kEr {P : Program} {rs : List ResultVar} {R : D → List Blk → Gst → Prop} {d : D} (hd : resA P rs n a H = some d) (h : R d H g) : kEnd P rs n R .ret a H g := ⟨d, hd, h⟩
theorem kEn {P : Program} {rs : List ResultVar} {R : D → List Blk → Gst → Prop} {d : D} (hd : resA P rs n a H = some d) (h : R d H g) : kEnd P rs n R .normal a H g := ⟨d, hd, h⟩
end
end
end Go.DL
