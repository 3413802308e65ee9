/- Walks of regions that draw their order, where calls leave own blocks and appends claim what they take. -/
import Derived.Test.YtmbbepdbjeciaaaGreatE11
import Derived.Test.YtmbbepdbjeciaaaGreatE7
set_option linter.all false
namespace Go.DL
open Go.RowKit Go.Proofs

noncomputable section

def shw (base : Nat) (ws : List (Option Nat)) : List (Option Nat) := ws.map (Option.map (base + ·))
theorem shw_get (base : Nat) (ws : List (Option Nat)) (k : Nat) : (shw base ws).getD k none = (ws.getD k none).map (base + ·) := by
  simp only [shw, List.getD_eq_getElem?_getD, List.getElem?_map]
  cases ws[k]? <;> rfl
theorem slotQ_shift (ops : List Oper) (base i : Nat) : slotQ ops base i = base + slotQ ops 0 i := by simp [slotQ]
theorem hidQ_shift (ops : List Oper) (an : List (List Nat)) (ws : List (Option Nat)) (base i : Nat) : hidQ ops an (shw base ws) base i = (hidQ ops an ws 0 i).map (base + ·) := by
  unfold hidQ
  rw [List.map_append, List.map_filterMap, List.map_filterMap]
  congr 1
  · congr 1; funext k
    split
    · split <;> simp
    · rfl
  · congr 1; funext k
    rw [shw_get]
    split <;> simp
theorem maskL_shift (base : Nat) : ∀ (hs : List Nat) (H : List Blk), maskL 0 (hs.map (base + ·)) H = maskL base hs H
  | [], _ => rfl
  | s :: hs, H => by
    have h := maskL_shift base hs (H.set (base + s) .free)
    simp only [maskL, List.map_cons, List.foldl_cons, Nat.zero_add] at h ⊢
    exact h
theorem bneS (base x b : Nat) : (base + x != base + b) = (x != b) := by
  rw [Bool.eq_iff_iff, bne_iff_ne, bne_iff_ne]; omega
theorem bneO (base x b : Nat) : (some (base + x) != some (base + b)) = (some x != some b) := by
  rw [Bool.eq_iff_iff, bne_iff_ne, bne_iff_ne]
  constructor
  · intro h e; cases e; exact h rfl
  · intro h e
    have e' : base + x = base + b := Option.some.inj e
    exact h (by rw [show x = b by omega])
theorem indepQ_shift (ops : List Oper) (an : List (List Nat)) (ws : List (Option Nat)) (base j i : Nat) : indepQ ops an (shw base ws) base j i = indepQ ops an ws 0 j i := by
  unfold indepQ
  cases ops[j]? with
  | none => rfl
  | some p =>
    cases ops[i]? with
    | none => rfl
    | some o =>
      simp only
      rw [shw_get, shw_get, slotQ_shift ops base j, slotQ_shift ops base i]
      generalize ws.getD j none = wj
      generalize ws.getD i none = wi
      cases wj <;> cases wi <;> simp only [Option.map_some, Option.map_none, bneS, bneO] <;> first | done | rfl
theorem drawQ_shift (ops : List Oper) (ws : List (Option Nat)) (base : Nat) : drawQ ops (shw base ws) base = drawQ ops ws 0 := by
  unfold drawQ
  simp only [indepQ_shift]

abbrev PlQ := List (Nat × List Nat × Option Nat)
def planQ (ops : List Oper) (ws : List (Option Nat)) : PlQ := (List.range ops.length).map fun i => (slotQ ops 0 i, hidQ ops (ancs ops []) ws 0 i, ws.getD i none)
def planP (P : Program) (ops : List Oper) (base : Nat) : PlQ → List Oper → List D → List Blk → TH → Prop
  | (s, hs, w) :: pl, o :: l, t, H, K => ∃ d e, ActsQ P ops o (base + s) t (maskL base hs H) d e ∧ effOk e (needsQ o) (w.map (base + ·)) = true ∧ planP P ops base pl l (setT t o.dst d) (e.app H (base + s)) K
  | _, _, t, H, K => K t H
theorem planP_run {P : Program} {ops : List Oper} {ws : List (Option Nat)} {base : Nat} {K : TH} : ∀ (m i : Nat) (st : St), i + m = ops.length → planP P ops base ((planQ ops ws).drop i) (ops.drop i) st.t st.H K →
    ∃ stf, RunQ P ops (ancs ops []) (shw base ws) base (List.range' i m) st stf ∧ stf.ds = st.ds ∧ stf.g = st.g ∧ K stf.t stf.H
  | 0, i, st, hi, h => by
    have h1 : ops.drop i = [] := List.drop_eq_nil_of_le (by omega)
    have h2 : (planQ ops ws).drop i = [] := List.drop_eq_nil_of_le (by simp [planQ]; omega)
    rw [h1, h2] at h
    exact ⟨st, rfl, rfl, rfl, h⟩
  | m + 1, i, st, hi, h => by
    have hlt : i < ops.length := by omega
    have hlt2 : i < (planQ ops ws).length := by simp [planQ]; omega
    rw [List.drop_eq_getElem_cons hlt, List.drop_eq_getElem_cons hlt2] at h
    have hg : (planQ ops ws)[i] = (slotQ ops 0 i, hidQ ops (ancs ops []) ws 0 i, ws.getD i none) := by simp [planQ]
    rw [hg] at h
    obtain ⟨d, e, h1, h2, h3⟩ := h
    obtain ⟨stf, r1, r2, r3, r4⟩ := planP_run m (i + 1) { t := setT st.t ops[i].dst d, H := e.app st.H (base + slotQ ops 0 i), ds := st.ds, g := st.g } (by omega) h3
    refine ⟨stf, ?_, r2, r3, r4⟩
    rw [List.range'_succ]
    refine ⟨_, ⟨ops[i], d, e, List.getElem?_eq_getElem hlt, ?_, ?_, rfl⟩, ?_⟩
    · rw [hidQ_shift, maskL_shift, slotQ_shift]; exact h1
    · rw [shw_get]; exact h2
    · rw [slotQ_shift]; exact r1

structure QT (E : Ev) (ops : List Oper) (base : Nat) (pl : PlQ) (l : List Oper) (n : Nat) (a : AL) (H : List Blk) (K : KP) : Prop where
  out : planP E.P ops base pl l (T n a) H fun t H => ∃ a', t = T n a' ∧ K a' H
section
variable {E : Ev} {ops r : List Oper} {base s : Nat} {hs : List Nat} {w : Option Nat} {pl : PlQ} {n : Nat} {a : AL} {H H' : List Blk} {K : KP} {i : Tmp} {op : Op} {ty : TypeId} {pos : String} {aft : Array Edge} {d : D}
theorem QT.nil (h : K a H) : QT E ops base pl [] n a H K := by
  refine ⟨?_⟩
  cases pl with
  | nil => exact ⟨a, rfl, h⟩
  | cons x pl => exact ⟨a, rfl, h⟩
theorem QT.done {Q : KX} {g : Gst} (hH : H.dropLast = H') (h : Q .normal a H' g) : QT E ops base pl [] n a H (KD Q g) := by
  subst hH; exact QT.nil h
theorem QT.stepG {o : Oper} {d : D} {e : Eff} (hg : o.guard = none) (hs' : stepD E.P (maskL base hs H) (base + s) (T n a) o.op = some (d, e)) (hk : effOk e (needsQ o) (w.map (base + ·)) = true) (h : QT E ops base pl r n (setA o.dst d a) (e.app H (base + s)) K) : QT E ops base ((s, hs, w) :: pl) (o :: r) n a H K := by
  refine ⟨d, e, ?_, hk, ?_⟩
  · unfold ActsQ
    simp only [hg]
    unfold goQ
    split
    · rename_i f args tys hop; rw [hop] at hs'; cases hs'
    · exact hs'
  · rw [setT_T]; exact h.out
theorem QT.v (hv : Val E.P (maskL base hs H) (base + s) n a op d) (h : QT E ops base pl r n ((i, d) :: a) H K) : QT E ops base ((s, hs, w) :: pl) (⟨some i, op, ty, pos, aft, none⟩ :: r) n a H K := QT.stepG (e := .keep) rfl hv.out rfl h
theorem QT.vI (hm : maskL base hs H = H) (hv : Val E.P H (base + s) n a op d) (h : QT E ops base pl r n ((i, d) :: a) H K) : QT E ops base ((s, hs, w) :: pl) (⟨some i, op, ty, pos, aft, none⟩ :: r) n a H K := QT.v (by rw [hm]; exact hv) h
theorem QT.newI {k : Blk} {s' : Nat} (hm : maskL base hs H = H) (hn : needsQ ⟨some i, op, ty, pos, aft, none⟩ = true) (hs' : base + s = s') (hv : Mk E.P H s' n a op d k) (hH : H.set s' k = H') (h : QT E ops base pl r n ((i, d) :: a) H' K) : QT E ops base ((s, hs, w) :: pl) (⟨some i, op, ty, pos, aft, none⟩ :: r) n a H K := by
  subst hs'; subst hH; exact QT.stepG (e := .put k) rfl (by rw [hm]; exact hv.out) hn h
theorem QT.wrI {q : Nat} {k : Blk} (hm : maskL base hs H = H) (hn : needsQ ⟨none, op, ty, pos, aft, none⟩ = true) (hv : Wr E.P H (base + s) n a op (base + q) k) (hH : H.set (base + q) k = H') (h : QT E ops base pl r n a H' K) : QT E ops base ((s, hs, some q) :: pl) (⟨none, op, ty, pos, aft, none⟩ :: r) n a H K := by
  subst hH; exact QT.stepG (e := .upd (base + q) k) rfl (by rw [hm]; exact hv.out) (by simp [effOk, hn]) h
theorem QT.apI {s' q m : Nat} {k : Blk} (hm : maskL base hs H = H) (hn : needsQ ⟨some i, op, ty, pos, aft, none⟩ = true) (hs' : base + s = s') (hv : Ap E.P H s' n a op m (some (base + q)) k) (hH : (killO H (some (base + q))).set s' k = H') (h : QT E ops base pl r n ((i, .ms s' 0 m m) :: a) H' K) : QT E ops base ((s, hs, some q) :: pl) (⟨some i, op, ty, pos, aft, none⟩ :: r) n a H K := by
  subst hs'; subst hH; exact QT.stepG (e := .ren (some (base + q)) k) rfl (by rw [hm]; exact hv.out) (by simp [effOk, hn]) h
theorem QT.apN {s' m : Nat} {k : Blk} (hm : maskL base hs H = H) (hn : needsQ ⟨some i, op, ty, pos, aft, none⟩ = true) (hs' : base + s = s') (hv : Ap E.P H s' n a op m none k) (hH : H.set s' k = H') (h : QT E ops base pl r n ((i, .ms s' 0 m m) :: a) H' K) : QT E ops base ((s, hs, w) :: pl) (⟨some i, op, ty, pos, aft, none⟩ :: r) n a H K := by
  subst hs'; subst hH; exact QT.stepG (e := .ren none k) rfl (by rw [hm]; exact hv.out) (by simp [effOk, hn]) h
theorem QT.callMI {dst : Option Tmp} {f : Operand} {args : List Operand} {tys : Array TypeId} {f' : FuncId} {xs ys : List D} (hm0 : maskL base hs H = H) (hc : callA n a f args = some (f', xs))
    (hm : Maps E.P f' ys d) (hy : xs.map (snap (fun b => H[b]?) 5) = ys) (hd : freshD 5 d = true) (h : QT E ops base pl r n (setA dst d a) H K) :
    QT E ops base ((s, hs, w) :: pl) (⟨dst, .call { callee := .value f, args := args.toArray, argTypes := tys }, ty, pos, aft, none⟩ :: r) n a H K := by
  have hc' : callD (T n a) f args = some (f', xs) := callD_T.trans hc
  refine ⟨d, .keep, ?_, rfl, ?_⟩
  · unfold ActsQ
    simp only
    unfold goQ
    simp only [hc', hm0]
    exact .inl ⟨by rw [hy]; exact hm, hd, trivial⟩
  · rw [setT_T]; exact h.out
theorem QT.callAt {f : Operand} {args : List Operand} {tys : Array TypeId} {f' : FuncId} {xs : List D} {x : Blk} {s' : Nat} (hm0 : maskL base hs H = H) (hc : callA n a f args = some (f', xs)) (hs' : base + s = s')
    (hat : CallAt E.P f' xs H s' d x) (hH : H.set s' x = H') (h : QT E ops base pl r n ((i, d) :: a) H' K) :
    QT E ops base ((s, hs, w) :: pl) (⟨some i, .call { callee := .value f, args := args.toArray, argTypes := tys }, ty, pos, aft, none⟩ :: r) n a H K := by
  subst hs'; subst hH
  have hc' : callD (T n a) f args = some (f', xs) := callD_T.trans hc
  refine ⟨d, .put x, ?_, ?_, ?_⟩
  · unfold ActsQ
    simp only
    unfold goQ
    simp only [hc', hm0]
    exact .inr ⟨x, rfl, hat⟩
  · simp [effOk, needsQ, isCallV]
  · rw [setT_T]; exact h.out
end
section
variable {E : Ev} {n : Nat} {a : AL} {H : List Blk} {g : Gst} {c : Code} {Q : KX}
theorem VT.drawQ (ws : List (Option Nat)) (pl : PlQ) (k : Nat) {l : List Oper} {base : Nat} {H1 : List Blk} (hm : E.P.follows .mixedOrders = true) (hc : regC c = some (true, l.toArray)) (hd : drawQ l ws 0 = true) (hp : planQ l ws = pl) (hk : slotsQ l + 1 = k) (hb : H.length = base)
    (hH : H ++ List.replicate k .free = H1) (h : QT E l base pl l n a H1 (KD Q g)) : VT E c n a H g Q := by
  subst hk; subst hb; subst hH; subst hp
  cases c with
  | region id ops d =>
    cases hc
    refine ⟨fun ro G hE ds => ?_⟩
    obtain ⟨stf, h1, h2, h3, a', h4, h5⟩ := planP_run (P := E.P) (ops := l) (ws := ws) (base := H.length) (K := fun t H => ∃ a', t = T n a' ∧ KD Q g a' H) l.length 0 { t := T n a, H := H ++ List.replicate (slotsQ l + 1) .free, ds := ds, g := g } (by omega) (by simpa using h.out)
    rw [← List.range_eq_range'] at h1
    refine Sp_drawQ hE.st hE.yk hm (shw H.length ws) (by rw [drawQ_shift]; exact hd) h1 ?_
    simp only at h2 h3 h4
    exact ⟨a', h4, by rw [h3]; exact h5⟩
  | _ => cases hc
end
/-- The first elements of an own slice, cut off from what is behind. -/
theorem f_sl3O {P : Program} {H : List Blk} {s n : Nat} {al : AL} {x y z : Operand} {tx te : TypeId} {a : Int} {bk len cap sz k : Nat} {es : List (List D)} (hx : evA n al x = .ms bk 0 len cap) (hy : evA n al y = wI a) (hz : evA n al z = wI a) (hn : a = k) (hk : k ≤ len) (hc : len ≤ cap)
    (he : elemT P tx = some (te, sz)) (hb : H[bk]? = some (.live sz es)) : Val P H s n al (.slice tx x none (some y) (some z)) (.ms bk 0 k k) := by
  subst hn
  refine ⟨?_⟩
  simp only [stepD, ev_T, sliceD, he, hx, unfl, Option.map_none, Option.map_some, hy, hz, bndD, intD, Option.isSome_none, Option.isSome_some, reduceCtorEq, false_and, and_false, if_false]
  rw [if_pos ⟨by simp [Blk.hasSz, hb], by omega, by omega, by omega, by omega⟩]
  simp [keepD]
theorem snapWt {lk : Nat → Option Blk} {b m cap k : Nat} {o : List Int} (h : lk b = some (.live 1 (o.map eI))) (hm : m ≤ o.length) : snap lk (k + 1) (.ms b 0 m cap) = .sl ((o.take m).map eI) := by
  simp only [snap, h, Nat.zero_add, List.length_map, hm, if_true, List.drop_zero]
  rw [← List.map_take, eI_map _ _ fun x => by cases k <;> rfl]
/-- What is returned is known no longer. -/
theorem VT.retA {E : Ev} {n : Nat} {a a' : AL} {H : List Blk} {g : Gst} {c : Code} {Q : KX} (hc : isRetC c = true) (hd : Hd n a a') (h : Q .ret a' H g) : VT E c n a H g Q := VT.forget a' H (Wk.keep hd) (VT.ret hc h)
theorem QT.new {E : Ev} {ops r : List Oper} {base s : Nat} {hs : List Nat} {w : Option Nat} {pl : PlQ} {n : Nat} {a : AL} {H H' : List Blk} {K : KP} {i : Tmp} {op : Op} {ty : TypeId} {pos : String} {aft : Array Edge} {d : D} {k : Blk} {s' : Nat} (hn : needsQ ⟨some i, op, ty, pos, aft, none⟩ = true) (hs' : base + s = s') (hv : Mk E.P (maskL base hs H) s' n a op d k) (hH : H.set s' k = H') (h : QT E ops base pl r n ((i, d) :: a) H' K) : QT E ops base ((s, hs, w) :: pl) (⟨some i, op, ty, pos, aft, none⟩ :: r) n a H K := by
  subst hs'; subst hH; exact QT.stepG (e := .put k) rfl hv.out hn h
theorem killSet {H T T' T'' : List Blk} {i j b : Nat} {k : Blk} (hb : H.length = b) (h1 : T.set i .dead = T') (h2 : T'.set j k = T'') : (killO (H ++ T) (some (b + i))).set (b + j) k = H ++ T'' := by
  rw [killO, setLen hb h1, setLen hb h2]
theorem snap2 {lk : Nat → Option Blk} {x y x' y' : D} (h1 : snap lk 5 x = x') (h2 : snap lk 5 y = y') : [x, y].map (snap lk 5) = [x', y'] := by
  rw [List.map_cons, List.map_cons, List.map_nil, h1, h2]
end
end Go.DL

/- Walks of regions that draw their order, where operations claim blocks of the region and blocks that were there before. -/
namespace Go.DL
open Go.RowKit Go.Proofs

noncomputable section
/-- Numbers of blocks in a plan: first those that were there before, then those of the region. -/
def rho (ab : List Nat) (base i : Nat) : Nat := ab.getD i (base + (i - ab.length))
theorem rho_ge (ab : List Nat) (base s : Nat) : rho ab base (ab.length + s) = base + s := by
  rw [rho, List.getD_eq_getElem?_getD, List.getElem?_eq_none (by omega)]
  simp
theorem rho_inj {ab : List Nat} {base : Nat} (hl : ∀ b, b ∈ ab → b < base) (hn : ab.Nodup) {i j : Nat} (h : rho ab base i = rho ab base j) : i = j := by
  unfold rho at h
  simp only [List.getD_eq_getElem?_getD] at h
  by_cases hi : i < ab.length
  · rw [List.getElem?_eq_getElem hi] at h
    by_cases hj : j < ab.length
    · rw [List.getElem?_eq_getElem hj] at h
      exact (List.getElem_inj hn).1 h
    · rw [List.getElem?_eq_none (Nat.le_of_not_lt hj)] at h
      have := hl ab[i] (List.getElem_mem hi)
      simp at h; omega
  · rw [List.getElem?_eq_none (Nat.le_of_not_lt hi)] at h
    by_cases hj : j < ab.length
    · rw [List.getElem?_eq_getElem hj] at h
      have := hl ab[j] (List.getElem_mem hj)
      simp at h; omega
    · rw [List.getElem?_eq_none (Nat.le_of_not_lt hj)] at h
      simp at h; omega
section
variable (ab : List Nat) (base : Nat)
def shR (ws : List (Option Nat)) : List (Option Nat) := ws.map (Option.map (rho ab base))
theorem shR_get (ws : List (Option Nat)) (k : Nat) : (shR ab base ws).getD k none = (ws.getD k none).map (rho ab base) := by
  simp only [shR, List.getD_eq_getElem?_getD, List.getElem?_map]
  cases ws[k]? <;> rfl
theorem slotR (ops : List Oper) (i : Nat) : slotQ ops base i = rho ab base (slotQ ops ab.length i) := by
  rw [slotQ_shift ops ab.length, rho_ge, ← slotQ_shift]
theorem hidR (ops : List Oper) (an : List (List Nat)) (ws : List (Option Nat)) (i : Nat) : hidQ ops an (shR ab base ws) base i = (hidQ ops an ws ab.length i).map (rho ab base) := by
  unfold hidQ
  rw [List.map_append, List.map_filterMap, List.map_filterMap]
  congr 1
  · congr 1; funext k
    split
    · split
      · simp [rho_ge]
      · rfl
    · rfl
  · congr 1; funext k
    rw [shR_get]
    split <;> simp
end
theorem indepR {ab : List Nat} {base : Nat} (hi : ∀ i j, rho ab base i = rho ab base j → i = j) (ops : List Oper) (an : List (List Nat)) (ws : List (Option Nat)) (j i : Nat) : indepQ ops an (shR ab base ws) base j i = indepQ ops an ws ab.length j i := by
  have b1 : ∀ x y, (rho ab base x != rho ab base y) = (x != y) := fun x y => by
    rw [Bool.eq_iff_iff, bne_iff_ne, bne_iff_ne]
    exact ⟨fun h e => h (by rw [e]), fun h e => h (hi _ _ e)⟩
  have b2 : ∀ x y, (some (rho ab base x) != some (rho ab base y)) = (some x != some y) := fun x y => by
    rw [Bool.eq_iff_iff, bne_iff_ne, bne_iff_ne]
    exact ⟨fun h e => h (by cases e; rfl), fun h e => h (by rw [hi _ _ (Option.some.inj e)])⟩
  unfold indepQ
  cases ops[j]? with
  | none => rfl
  | some p =>
    cases ops[i]? with
    | none => rfl
    | some o =>
      simp only
      rw [shR_get, shR_get, slotR ab base ops j, slotR ab base ops i]
      generalize ws.getD j none = wj
      generalize ws.getD i none = wi
      cases wj <;> cases wi <;> simp only [Option.map_some, Option.map_none, b1, b2] <;> first | done | rfl
theorem drawR {ab : List Nat} {base : Nat} (hi : ∀ i j, rho ab base i = rho ab base j → i = j) (ops : List Oper) (ws : List (Option Nat)) : drawQ ops (shR ab base ws) base = drawQ ops ws ab.length := by
  unfold drawQ
  simp only [indepR hi]

def planR' (ops : List Oper) (ws : List (Option Nat)) (a : Nat) : PlQ := (List.range ops.length).map fun i => (slotQ ops 0 i, hidQ ops (ancs ops []) ws a i, ws.getD i none)
def planS (P : Program) (ops : List Oper) (ab : List Nat) (base : Nat) : PlQ → List Oper → List D → List Blk → TH → Prop
  | (s, hs, w) :: pl, o :: l, t, H, K => ∃ d e, ActsQ P ops o (base + s) t (maskL 0 (hs.map (rho ab base)) H) d e ∧ effOk e (needsQ o) (w.map (rho ab base)) = true ∧ planS P ops ab base pl l (setT t o.dst d) (e.app H (base + s)) K
  | _, _, t, H, K => K t H
theorem planS_run {P : Program} {ops : List Oper} {ws : List (Option Nat)} {ab : List Nat} {base : Nat} {K : TH} : ∀ (m i : Nat) (st : St), i + m = ops.length → planS P ops ab base ((planR' ops ws ab.length).drop i) (ops.drop i) st.t st.H K →
    ∃ stf, RunQ P ops (ancs ops []) (shR ab base ws) base (List.range' i m) st stf ∧ stf.ds = st.ds ∧ stf.g = st.g ∧ K stf.t stf.H
  | 0, i, st, hi, h => by
    have h1 : ops.drop i = [] := List.drop_eq_nil_of_le (by omega)
    have h2 : (planR' ops ws ab.length).drop i = [] := List.drop_eq_nil_of_le (by simp [planR']; omega)
    rw [h1, h2] at h
    exact ⟨st, rfl, rfl, rfl, h⟩
  | m + 1, i, st, hi, h => by
    have hlt : i < ops.length := by omega
    have hlt2 : i < (planR' ops ws ab.length).length := by simp [planR']; omega
    rw [List.drop_eq_getElem_cons hlt, List.drop_eq_getElem_cons hlt2] at h
    have hg : (planR' ops ws ab.length)[i] = (slotQ ops 0 i, hidQ ops (ancs ops []) ws ab.length i, ws.getD i none) := by simp [planR']
    rw [hg] at h
    obtain ⟨d, e, h1, h2, h3⟩ := h
    obtain ⟨stf, r1, r2, r3, r4⟩ := planS_run m (i + 1) { t := setT st.t ops[i].dst d, H := e.app st.H (base + slotQ ops 0 i), ds := st.ds, g := st.g } (by omega) h3
    refine ⟨stf, ?_, r2, r3, r4⟩
    rw [List.range'_succ]
    refine ⟨_, ⟨ops[i], d, e, List.getElem?_eq_getElem hlt, ?_, ?_, rfl⟩, ?_⟩
    · rw [hidR, slotQ_shift]; exact h1
    · rw [shR_get]; exact h2
    · rw [slotQ_shift]; exact r1

structure ST (E : Ev) (ops : List Oper) (ab : List Nat) (base : Nat) (pl : PlQ) (l : List Oper) (n : Nat) (a : AL) (H : List Blk) (K : KP) : Prop where
  out : planS E.P ops ab base pl l (T n a) H fun t H => ∃ a', t = T n a' ∧ K a' H
section
variable {E : Ev} {ops r : List Oper} {ab : List Nat} {base s : Nat} {hs : List Nat} {w : Option Nat} {pl : PlQ} {n : Nat} {a : AL} {H H' : List Blk} {K : KP} {i : Tmp} {op : Op} {ty : TypeId} {pos : String} {aft : Array Edge} {d : D}
theorem ST.nil (h : K a H) : ST E ops ab base pl [] n a H K := by
  refine ⟨?_⟩
  cases pl with
  | nil => exact ⟨a, rfl, h⟩
  | cons x pl => exact ⟨a, rfl, h⟩
theorem ST.done {Q : KX} {g : Gst} (hH : H.dropLast = H') (h : Q .normal a H' g) : ST E ops ab base pl [] n a H (KD Q g) := by
  subst hH; exact ST.nil h
theorem ST.stepG {o : Oper} {d : D} {e : Eff} (hg : o.guard = none) (hs' : stepD E.P (maskL 0 (hs.map (rho ab base)) H) (base + s) (T n a) o.op = some (d, e)) (hk : effOk e (needsQ o) (w.map (rho ab base)) = true) (h : ST E ops ab base pl r n (setA o.dst d a) (e.app H (base + s)) K) : ST E ops ab base ((s, hs, w) :: pl) (o :: r) n a H K := by
  refine ⟨d, e, ?_, hk, ?_⟩
  · unfold ActsQ
    simp only [hg]
    unfold goQ
    split
    · rename_i f args tys hop; rw [hop] at hs'; cases hs'
    · exact hs'
  · rw [setT_T]; exact h.out
theorem ST.v (hv : Val E.P (maskL 0 (hs.map (rho ab base)) H) (base + s) n a op d) (h : ST E ops ab base pl r n ((i, d) :: a) H K) : ST E ops ab base ((s, hs, w) :: pl) (⟨some i, op, ty, pos, aft, none⟩ :: r) n a H K := ST.stepG (e := .keep) rfl hv.out rfl h
theorem ST.new {k : Blk} {s' : Nat} (hn : needsQ ⟨some i, op, ty, pos, aft, none⟩ = true) (hs' : base + s = s') (hv : Mk E.P (maskL 0 (hs.map (rho ab base)) H) s' n a op d k) (hH : H.set s' k = H') (h : ST E ops ab base pl r n ((i, d) :: a) H' K) : ST E ops ab base ((s, hs, w) :: pl) (⟨some i, op, ty, pos, aft, none⟩ :: r) n a H K := by
  subst hs'; subst hH; exact ST.stepG (e := .put k) rfl hv.out hn h
theorem ST.wr {b q : Nat} {k : Blk} (hb : rho ab base q = b) (hn : needsQ ⟨none, op, ty, pos, aft, none⟩ = true) (hv : Wr E.P (maskL 0 (hs.map (rho ab base)) H) (base + s) n a op b k) (hH : H.set b k = H') (h : ST E ops ab base pl r n a H' K) : ST E ops ab base ((s, hs, some q) :: pl) (⟨none, op, ty, pos, aft, none⟩ :: r) n a H K := by
  subst hH; subst hb; exact ST.stepG (e := .upd (rho ab base q) k) rfl hv.out (by simp [effOk, hn]) h
theorem ST.ap {s' b q m : Nat} {k : Blk} (hb : rho ab base q = b) (hn : needsQ ⟨some i, op, ty, pos, aft, none⟩ = true) (hs' : base + s = s') (hv : Ap E.P (maskL 0 (hs.map (rho ab base)) H) s' n a op m (some b) k) (hH : (killO H (some b)).set s' k = H') (h : ST E ops ab base pl r n ((i, .ms s' 0 m m) :: a) H' K) : ST E ops ab base ((s, hs, some q) :: pl) (⟨some i, op, ty, pos, aft, none⟩ :: r) n a H K := by
  subst hs'; subst hH; subst hb; exact ST.stepG (e := .ren (some (rho ab base q)) k) rfl hv.out (by simp [effOk, hn]) h
theorem ST.apN {s' m : Nat} {k : Blk} (hn : needsQ ⟨some i, op, ty, pos, aft, none⟩ = true) (hs' : base + s = s') (hv : Ap E.P (maskL 0 (hs.map (rho ab base)) H) s' n a op m none k) (hH : H.set s' k = H') (h : ST E ops ab base pl r n ((i, .ms s' 0 m m) :: a) H' K) : ST E ops ab base ((s, hs, w) :: pl) (⟨some i, op, ty, pos, aft, none⟩ :: r) n a H K := by
  subst hs'; subst hH; exact ST.stepG (e := .ren none k) rfl hv.out (by simp [effOk, hn]) h
theorem ST.callM {dst : Option Tmp} {f : Operand} {args : List Operand} {tys : Array TypeId} {f' : FuncId} {xs ys : List D} (hc : callA n a f args = some (f', xs))
    (hm : Maps E.P f' ys d) (hy : xs.map (snap (fun b => (maskL 0 (hs.map (rho ab base)) H)[b]?) 5) = ys) (hd : freshD 5 d = true) (h : ST E ops ab base pl r n (setA dst d a) H K) :
    ST E ops ab base ((s, hs, w) :: pl) (⟨dst, .call { callee := .value f, args := args.toArray, argTypes := tys }, ty, pos, aft, none⟩ :: r) n a H K := by
  have hc' : callD (T n a) f args = some (f', xs) := callD_T.trans hc
  refine ⟨d, .keep, ?_, rfl, ?_⟩
  · unfold ActsQ
    simp only
    unfold goQ
    simp only [hc']
    exact .inl ⟨by rw [hy]; exact hm, hd, trivial⟩
  · rw [setT_T]; exact h.out
theorem ST.callAt {f : Operand} {args : List Operand} {tys : Array TypeId} {f' : FuncId} {xs : List D} {x : Blk} {s' : Nat} (hc : callA n a f args = some (f', xs)) (hs' : base + s = s')
    (hat : CallAt E.P f' xs (maskL 0 (hs.map (rho ab base)) H) s' d x) (hH : H.set s' x = H') (h : ST E ops ab base pl r n ((i, d) :: a) H' K) :
    ST E ops ab base ((s, hs, w) :: pl) (⟨some i, .call { callee := .value f, args := args.toArray, argTypes := tys }, ty, pos, aft, none⟩ :: r) n a H K := by
  subst hs'; subst hH
  have hc' : callD (T n a) f args = some (f', xs) := callD_T.trans hc
  refine ⟨d, .put x, ?_, ?_, ?_⟩
  · unfold ActsQ
    simp only
    unfold goQ
    simp only [hc']
    exact .inr ⟨x, rfl, hat⟩
  · simp [effOk, needsQ, isCallV]
  · rw [setT_T]; exact h.out
end
/-- What is not hidden is seen. -/
theorem mskR {ab : List Nat} {base b : Nat} {hs : List Nat} {H : List Blk} {x : Blk} (h : H[b]? = some x) (hn : ∀ i, i ∈ hs → rho ab base i ≠ b) : (maskL 0 (hs.map (rho ab base)) H)[b]? = some x := by
  rw [maskL_get, if_neg, h]
  rintro ⟨⟨c, hc, hb⟩, _⟩
  obtain ⟨i, hi, rfl⟩ := List.mem_map.1 hc
  exact hn i hi (by omega)
section
variable {E : Ev} {n : Nat} {a : AL} {H : List Blk} {g : Gst} {c : Code} {Q : KX}
theorem VT.drawS (ab : List Nat) (na : Nat) (ws : List (Option Nat)) (pl : PlQ) (k : Nat) {l : List Oper} {base : Nat} {H1 : List Blk} (hna : ab.length = na) (hl : ∀ b, b ∈ ab → b < base) (hn : ab.Nodup) (hm : E.P.follows .mixedOrders = true) (hc : regC c = some (true, l.toArray)) (hd : Go.DL.drawQ l ws na = true) (hp : planR' l ws na = pl) (hk : slotsQ l + 1 = k) (hb : H.length = base)
    (hH : H ++ List.replicate k .free = H1) (h : ST E l ab base pl l n a H1 (KD Q g)) : VT E c n a H g Q := by
  subst hk; subst hb; subst hH; subst hna; subst hp
  cases c with
  | region id ops d =>
    cases hc
    refine ⟨fun ro G hE ds => ?_⟩
    obtain ⟨stf, h1, h2, h3, a', h4, h5⟩ := planS_run (P := E.P) (ops := l) (ws := ws) (ab := ab) (base := H.length) (K := fun t H => ∃ a', t = T n a' ∧ KD Q g a' H) l.length 0 { t := T n a, H := H ++ List.replicate (slotsQ l + 1) .free, ds := ds, g := g } (by omega) (by simpa using h.out)
    rw [← List.range_eq_range'] at h1
    refine Sp_drawQ hE.st hE.yk hm (shR ab H.length ws) (by rw [drawR fun i j => rho_inj hl hn]; exact hd) h1 ?_
    simp only at h2 h3 h4
    exact ⟨a', h4, by rw [h3]; exact h5⟩
  | _ => cases hc
end
end
end Go.DL

/- The steps of walks in drawn regions with claims, with what may be said of the operations as automatic arguments. -/
namespace Go.DL
open Go.RowKit Go.Proofs

noncomputable section
section
variable {E : Ev} {ops r l : List Oper} {ab : List Nat} {base s : Nat} {hs : List Nat} {cw : Option Nat} {pl : PlQ} {n : Nat} {a : AL} {H H' : List Blk} {K : KP} {dst : Option Tmp} {i : Tmp} {op : Op} {x y z : Operand} {tx ty ty' : TypeId} {pos : String} {aft : Array Edge} {f : Nat} {bo : BinOp} {uo : UnOp} {cl : Call} {d : D}
theorem ST.mvA (h : ST E ops ab base pl r n ((i, d) :: a) H K) (hv : Val E.P (maskL 0 (hs.map (rho ab base)) H) (base + s) n a (.move x) d := by first | exact f_mvV rfl | exact f_mvS rfl | exact f_mvF rfl | exact f_mvO rfl | exact f_mvP rfl | exact f_mvR rfl | exact f_mvA rfl | exact f_mvT rfl | exact f_mvN rfl | exact f_mvU rfl | exact f_mvX rfl) : ST E ops ab base ((s, hs, cw) :: pl) (⟨some i, .move x, ty, pos, aft, none⟩ :: r) n a H K := ST.v hv h
theorem ST.asA (h : ST E ops ab base pl r n ((i, d) :: a) H K) (hv : Val E.P (maskL 0 (hs.map (rho ab base)) H) (base + s) n a (.assign x) d := by first | exact f_asV rfl | exact f_asS rfl | exact f_asF rfl | exact f_asO rfl | exact f_asP rfl | exact f_asR rfl | exact f_asA rfl | exact f_asT rfl | exact f_asN rfl | exact f_asU rfl | exact f_asX rfl) : ST E ops ab base ((s, hs, cw) :: pl) (⟨some i, .assign x, ty, pos, aft, none⟩ :: r) n a H K := ST.v hv h
theorem ST.ldA (h : ST E ops ab base pl r n ((i, d) :: a) H K) (hv : Val E.P (maskL 0 (hs.map (rho ab base)) H) (base + s) n a (.load tx x) d := by first | exact f_ldV rfl rfl | exact f_ldO rfl rfl rfl rfl rfl | exact f_ldW rfl rfl (by (first | omega | (simp only [List.length_set, List.length_replicate, List.length_append, List.length_map, List.length_cons, List.length_nil]; omega))) rfl | exact f_ldS rfl rfl | exact f_ldFl rfl rfl | exact f_ldOW rfl rfl rfl rfl rfl rfl | exact f_ldG rfl rfl rfl | exact f_ldA rfl rfl rfl rfl (by first | (simp only [nrm]; rfl) | (simp only [nrm, Nat.reduceAdd, Nat.zero_add]; rfl) | rfl)) : ST E ops ab base ((s, hs, cw) :: pl) (⟨some i, .load tx x, ty, pos, aft, none⟩ :: r) n a H K := ST.v hv h
theorem ST.faA (h : ST E ops ab base pl r n ((i, d) :: a) H K) (hv : Val E.P (maskL 0 (hs.map (rho ab base)) H) (base + s) n a (.fieldAddr tx x f) d := by first | exact f_fa0 rfl rfl (Nat.succ_ne_zero _) | exact f_fa1 rfl rfl (Nat.succ_ne_zero _) | exact f_fa2 rfl rfl (Nat.succ_ne_zero _) | exact f_fa3 rfl rfl (Nat.succ_ne_zero _) | exact f_faO0 (o := 0) rfl rfl (Nat.succ_ne_zero _) | exact f_faO0 (o := 1) rfl rfl (Nat.succ_ne_zero _) | exact f_faO0 (o := 2) rfl rfl (Nat.succ_ne_zero _) | exact f_faO0 (o := 3) rfl rfl (Nat.succ_ne_zero _) | exact f_faO0 rfl rfl (Nat.succ_ne_zero _) | exact f_faO rfl rfl (Nat.succ_ne_zero _)) : ST E ops ab base ((s, hs, cw) :: pl) (⟨some i, .fieldAddr tx x f, ty, pos, aft, none⟩ :: r) n a H K := ST.v hv h
theorem ST.bnA (h : ST E ops ab base pl r n ((i, d) :: a) H K) (hv : Val E.P (maskL 0 (hs.map (rho ab base)) H) (base + s) n a (.binOp bo tx x y ty') d := by first | exact f_lss rfl rfl | exact f_add rfl rfl (by omega) (by omega) | exact f_eql rfl rfl | exact f_neq rfl rfl | exact f_leq rfl rfl | exact f_gtr rfl rfl | exact f_geq rfl rfl | exact f_sub rfl rfl (by omega) (by omega) | exact f_mul rfl rfl (by omega) (by omega) | exact f_rem rfl rfl (by omega) (by omega) | exact f_quo rfl rfl (by omega) (by omega) (by omega)) : ST E ops ab base ((s, hs, cw) :: pl) (⟨some i, .binOp bo tx x y ty', ty, pos, aft, none⟩ :: r) n a H K := ST.v hv h
theorem ST.pkA (h : ST E ops ab base pl r n ((i, d) :: a) H K) (hv : Val E.P (maskL 0 (hs.map (rho ab base)) H) (base + s) n a (.pick x y z) d := by first | exact f_pickTV rfl rfl | exact f_pickFV rfl rfl) : ST E ops ab base ((s, hs, cw) :: pl) (⟨some i, .pick x y z, ty, pos, aft, none⟩ :: r) n a H K := ST.v hv h
theorem ST.exA (h : ST E ops ab base pl r n ((i, d) :: a) H K) (hv : Val E.P (maskL 0 (hs.map (rho ab base)) H) (base + s) n a (.extract x f) d := by exact f_ext rfl rfl) : ST E ops ab base ((s, hs, cw) :: pl) (⟨some i, .extract x f, ty, pos, aft, none⟩ :: r) n a H K := ST.v hv h
theorem ST.ixA (h : ST E ops ab base pl r n ((i, d) :: a) H K) (hv : Val E.P (maskL 0 (hs.map (rho ab base)) H) (base + s) n a (.indexAddr tx x y) d := by first | exact f_ixL rfl rfl (by first | with_reducible exact castR _ | with_reducible exact castS _ | rfl | omega) (by omega) rfl rfl | exact f_ix rfl rfl (by first | with_reducible exact castR _ | with_reducible exact castS _ | rfl | omega) (by assumption) rfl rfl | exact f_ixO0 rfl rfl (by first | with_reducible exact castR _ | with_reducible exact castS _ | rfl | omega) rfl rfl (by (first | omega | (simp only [List.length_set, List.length_replicate, List.length_append, List.length_map, List.length_cons, List.length_nil]; omega)))) : ST E ops ab base ((s, hs, cw) :: pl) (⟨some i, .indexAddr tx x y, ty, pos, aft, none⟩ :: r) n a H K := ST.v hv h
theorem ST.unA (h : ST E ops ab base pl r n ((i, d) :: a) H K) (hv : Val E.P (maskL 0 (hs.map (rho ab base)) H) (base + s) n a (.unOp uo tx x) d := by first | exact f_notT rfl | exact f_notF rfl | exact f_notD rfl | exact f_not rfl | exact f_neg rfl (by omega) (by omega)) : ST E ops ab base ((s, hs, cw) :: pl) (⟨some i, .unOp uo tx x, ty, pos, aft, none⟩ :: r) n a H K := ST.v hv h
theorem ST.clA (h : ST E ops ab base pl r n ((i, d) :: a) H K) (hv : Val E.P (maskL 0 (hs.map (rho ab base)) H) (base + s) n a (.call cl) d := by first | exact f_lenM rfl rfl | exact f_lenF rfl rfl | exact f_lenO rfl rfl | exact f_lenN rfl rfl | exact f_max rfl rfl | exact f_min rfl rfl) : ST E ops ab base ((s, hs, cw) :: pl) (⟨some i, .call cl, ty, pos, aft, none⟩ :: r) n a H K := ST.v hv h
theorem ST.msA (h : ST E ops ab base pl r n ((i, d) :: a) H K) (hv : Val E.P (maskL 0 (hs.map (rho ab base)) H) (base + s) n a (op) d := by first | exact f_slHi rfl rfl (by first | with_reducible exact castR _ | with_reducible exact castS _ | rfl | omega) (by omega) rfl | exact f_slLo rfl rfl (by first | with_reducible exact castR _ | with_reducible exact castS _ | rfl | omega) (by omega) rfl (fun _ => rfl) | exact f_build rfl | exact f_mkf (by first | (simp only [nrm]; rfl) | (simp only [nrm, Nat.reduceAdd, Nat.zero_add]; rfl) | rfl) (by first | (simp only [nrm]; rfl) | (simp only [nrm, Nat.reduceAdd, Nat.zero_add]; rfl) | rfl) | exact f_fd rfl rfl rfl) : ST E ops ab base ((s, hs, cw) :: pl) (⟨some i, op, ty, pos, aft, none⟩ :: r) n a H K := ST.v hv h
theorem d_ST (h : ST E ops ab base pl l n a H K) : ST E ops ab base pl l n a H K := h
end
end
end Go.DL
