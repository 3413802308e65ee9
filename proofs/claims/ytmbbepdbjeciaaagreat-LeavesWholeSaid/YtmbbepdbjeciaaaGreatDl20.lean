/- Regions that draw their order, ranges over functions, and the ends of functions, over short lists of temporaries. -/
import Derived.Test.YtmbbepdbjeciaaaGreatDl19
set_option linter.all false
namespace Go.DL
open Go.RowKit Go.Proofs

noncomputable section

theorem ev_out (n : Nat) (a : AL) (i : Nat) : (T n a).getD i .any = lkN n a i := T_getD n a i

abbrev KP := AL → List Blk → Prop
structure PT (E : Ev) (ops : List Oper) (base : Nat) (pl : List (Nat × List Nat)) (l : List Oper) (n : Nat) (a : AL) (H : List Blk) (K : KP) : Prop where
  out : planT E.P ops base pl l (T n a) H fun t H => ∃ a', t = T n a' ∧ K a' H

section
variable {E : Ev} {ops r : List Oper} {base s : Nat} {hs : List Nat} {pl : List (Nat × List Nat)} {n : Nat} {a : AL} {H : List Blk} {K : KP}

theorem PT.nil (h : K a H) : PT E ops base pl [] n a H K := by
  refine ⟨?_⟩
  cases pl with
  | nil => exact ⟨a, rfl, h⟩
  | cons x pl => exact ⟨a, rfl, h⟩
theorem PT.stepG {o : Oper} {d : D} {e : Eff} (hg : o.guard = none) (hs' : stepD E.P (maskL base hs H) (base + s) (T n a) o.op = some (d, e)) (h : PT E ops base pl r n (setA o.dst d a) (e.app H (base + s)) K) : PT E ops base ((s, hs) :: pl) (o :: r) n a H K := by
  refine ⟨?_⟩
  unfold planT actOT
  simp only [hg]
  unfold actT
  split
  · rename_i f args tys hop; rw [hop] at hs'; cases hs'
  · simp only [hs', setT_T]; exact h.out
theorem PT.callG {dst : Option Tmp} {f : Operand} {args : List Operand} {tys : Array TypeId} {ty : TypeId} {pos : String} {aft : Array Edge} {f' : FuncId} {xs ys : List D} {d : D} (hc : callA n a f args = some (f', xs))
    (hm : Maps E.P f' ys d) (hy : xs.map (snap (fun b => (maskL base hs H)[b]?) 5) = ys) (hd : freshD 5 d = true) (h : PT E ops base pl r n (setA dst d a) H K) :
    PT E ops base ((s, hs) :: pl) (⟨dst, .call { callee := .value f, args := args.toArray, argTypes := tys }, ty, pos, aft, none⟩ :: r) n a H K := by
  refine ⟨?_⟩
  unfold planT actOT
  simp only
  unfold actT
  have hc' : callD (T n a) f args = some (f', xs) := callD_T.trans hc
  subst hy
  simp only [hc']
  exact ⟨d, hm, hd, by rw [setT_T]; exact h.out⟩
theorem PT.gy {dst : Option Tmp} {op : Op} {ty : TypeId} {pos : String} {aft : Array Edge} {j : Nat} {w : Bool} (hj : guardA ops n a j = some w) (h : PT E ops base ((s, hs) :: pl) (⟨dst, op, ty, pos, aft, none⟩ :: r) n a H K) :
    PT E ops base ((s, hs) :: pl) (⟨dst, op, ty, pos, aft, some (j, w)⟩ :: r) n a H K := by
  replace h := h.out
  refine ⟨?_⟩
  unfold planT actOT at h ⊢
  simp only [guardD_T hj] at h ⊢
  exact ⟨fun _ => h, fun hh => absurd rfl hh⟩
theorem PT.gn {dst : Option Tmp} {op : Op} {ty : TypeId} {pos : String} {aft : Array Edge} {j : Nat} {w b : Bool} (hj : guardA ops n a j = some b) (hb : (b == w) = false) (h : PT E ops base pl r n (setA dst .any a) H K) :
    PT E ops base ((s, hs) :: pl) (⟨dst, op, ty, pos, aft, some (j, w)⟩ :: r) n a H K := by
  refine ⟨?_⟩
  unfold planT actOT
  simp only [guardD_T hj, setT_T]
  exact ⟨fun hh => by subst hh; simp at hb, fun _ => h.out⟩
end

section
variable {E : Ev} {n : Nat} {a : AL} {H : List Blk} {g : Gst} {c : Code} {Q : KX}

/-- What follows a region that draws its order. -/
def KD (Q : KX) (g : Gst) : KP := fun a H => Q .normal a H.dropLast g
theorem PT.done {ops : List Oper} {base : Nat} {pl : List (Nat × List Nat)} {H' : List Blk} (hH : H.dropLast = H') (h : Q .normal a H' g) : PT E ops base pl [] n a H (KD Q g) := by
  subst hH; exact PT.nil h
theorem VT.draw (pl : List (Nat × List Nat)) (k : Nat) {l : List Oper} {base : Nat} {H1 : List Blk} (hm : E.P.follows .mixedOrders = true) (hc : regC c = some (true, l.toArray)) (hd : drawOk l = true) (hp : mkPlan l = pl) (hk : slots l + 1 = k) (hb : H.length = base)
    (hH : H ++ List.replicate k .free = H1) (h : PT E l base pl l n a H1 (KD Q g)) : VT E c n a H g Q := by
  subst hk; subst hb; subst hH
  cases c with
  | region id ops d =>
    cases hc
    refine ⟨fun ro G hE ds => ?_⟩
    exact Sp_draw hE.st hE.yk hm hd hp (planT_ok (K := fun t H' => ∃ a', t = T n a' ∧ Q .normal a' H'.dropLast g) (fun t H ⟨a', h1, h2⟩ => ⟨a', h1, h2⟩) pl l _ _ h.out)
  | _ => cases hc

theorem setPs_T : ∀ (ps : List (Tmp × D)) (n : Nat) (a : AL), setPs (T n a) ps = T n (ps.foldl (fun a p => p :: a) a)
  | [], n, a => rfl
  | (i, d) :: r, n, a => by rw [setPs, T_set, setPs_T r]; rfl

def Ev.body (E : Ev) (N : Nat) : Ev := { P := E.P, N := N, top := false }
theorem Ev.body_ok {E : Ev} {N l : Nat} {G : Gh} (h1 : Stab G) (h2 : YOk E.P G) (h3 : G.N = N) : (E.body N).ok (some l) G := ⟨fun e => by simp [Ev.body] at e, h1, h2, Nat.le_of_eq h3, fun _ _ _ _ h => h.elim⟩

theorem VT.range {x : Operand} {ps : List Tmp} {f : FuncId} {first caps fs cs : List D} (seq : List (List D)) (ks : List Nat) (J : Nat → List Blk → Prop) (htop : E.top = true) (hc : rangeC c = some (x, ps.toArray)) (hx : evA n a x = .fn (.func f) first caps)
    (hk : (ks.all fun b => Nat.blt b H.length) = true) (hf1 : first.map (snap (sel ks H) 5) = fs) (hf2 : caps.map (snap (sel ks H) 5) = cs) (hI : Iter E.P f fs cs seq)
    (hs : ∀ (i : Nat) args, seq[i]? = some args → args.length = ps.length ∧ args.all (still 3) = true) (h0 : J 0 (killL H ks))
    (hB : ∀ (i : Nat) args H', seq[i]? = some args → J i H' → VT (E.body H'.length) (cL c) n ((ps.zip args).foldl (fun a p => p :: a) a) H' (0, false) fun e a1 H1 g1 => e = .normal ∧ VT (E.body H'.length) (cR c) n a1 H1 g1 fun e' _ H2 _ => match e' with
      | .normal => J (i + 1) H2
      | .ret => Q .ret a H2 g
      | .exit id => Q (.exit id) a H2 g
      | _ => False)
    (hQ : ∀ H', J seq.length H' → Q .normal a H' g) : VT E c n a H g Q := by
  subst hf1; subst hf2
  cases c with
  | rangeFunc x' ps' asg body =>
    cases hc
    refine ⟨fun ro G hE ds => ?_⟩
    rw [hE.ro htop]
    refine Sp_range hE.st ks (by rw [ev_T]; exact hx) (fun b hb => by have := List.all_eq_true.1 hk b hb; simpa [Nat.blt_eq] using this) hI (fun i args h => by simpa using hs i args h) J h0 ?_ fun H' ds' hJ => ⟨a, rfl, hQ H' hJ⟩
    intro i args H' hsq hJ l Gb hGb hYb hN
    simp only [List.toList_toArray]
    rw [setPs_T]
    refine ((hB i args H' hsq hJ).out (some l) Gb (Ev.body_ok hGb hYb hN) []).mono ?_
    rintro e ⟨t1, H1, ds1, g1⟩ ⟨a1, h1, h2, h3⟩
    simp only at h1; subst h1
    refine ⟨h2, fun Gb' hGb' hYb' hN' => ?_⟩
    refine (h3.out (some l) Gb' (Ev.body_ok hGb' hYb' hN') ds1).mono ?_
    rintro e' s ⟨a2, q1, q2⟩
    cases e' with
    | normal => exact q2
    | ret => exact fun ds' => ⟨a, rfl, q2⟩
    | exit id => exact fun ds' => ⟨a, rfl, q2⟩
    | _ => exact q2
  | _ => cases hc

/-! The ends of functions. -/
def resA1 (P : Program) (n : Nat) (a : AL) (H : List Blk) : ResultVar → Option D
  | .tmp t => some (lkN n a t)
  | .cell b t => loadD P H t (lkN n a b)
def resAL (P : Program) (n : Nat) (a : AL) (H : List Blk) : List ResultVar → Option (List D)
  | [] => some []
  | r :: rs => match resA1 P n a H r, resAL P n a H rs with
    | some d, some ds => some (d :: ds)
    | _, _ => none
def resA (P : Program) (rs : List ResultVar) (n : Nat) (a : AL) (H : List Blk) : Option D :=
  match resAL P n a H rs with
  | some [d] => some d
  | some ds => some (.tup ds)
  | none => none
theorem resD_T {P : Program} {rs : List ResultVar} {n : Nat} {a : AL} {H : List Blk} {ds : List Nat} {g : Gst} : resD P rs { t := T n a, H := H, ds := ds, g := g } = resA P rs n a H := by
  have h1 : ∀ r, resOne P { t := T n a, H := H, ds := ds, g := g } r = resA1 P n a H r := fun r => by cases r <;> simp only [resOne, resA1, T_getD]
  have h2 : ∀ rs, resL P { t := T n a, H := H, ds := ds, g := g } rs = resAL P n a H rs := fun rs => by
    induction rs with
    | nil => rfl
    | cons r rs ih => simp only [resL, resAL, h1, ih]; rfl
  unfold resD resA; rw [h2]; rfl

def kEnd (P : Program) (rs : List ResultVar) (n : Nat) (R : D → List Blk → Gst → Prop) : KX
  | .normal, a, H, g => ∃ d, resA P rs n a H = some d ∧ R d H g
  | .ret, a, H, g => ∃ d, resA P rs n a H = some d ∧ R d H g
  | _, _, _, _ => False

theorem AL_args (args : List D) (n : Nat) (h : args.length ≤ n) : args ++ List.replicate (n - args.length) .any = T n (args.zipIdx.map fun p => (p.2, p.1)) := by
  have key : ∀ (l : List D) (k i : Nat), lk ((l.zipIdx k).map fun p => (p.2, p.1)) (k + i) = l.getD i .any := fun l => by
    induction l with
    | nil => intro k i; simp [lk]
    | cons d l ih =>
      intro k i
      simp only [List.zipIdx_cons, List.map_cons, lk]
      cases i with
      | zero => simp
      | succ i =>
        have hb : Nat.beq k (k + (i + 1)) = false := by
          cases hb : Nat.beq k (k + (i + 1)) with
          | false => rfl
          | true => have := Nat.eq_of_beq_eq_true hb; omega
        simp only [hb, cond_false]
        have := ih (k + 1) i
        rw [show k + (i + 1) = k + 1 + i by omega, this]; simp
  refine List.ext_getElem? fun j => ?_
  rw [T_get?]
  have := key args 0 j
  rw [Nat.zero_add] at this
  rw [this]
  by_cases hj : j < args.length
  · rw [List.getElem?_append_left hj, if_pos (by omega), List.getD_eq_getElem?_getD, List.getElem?_eq_getElem hj]; rfl
  · rw [List.getElem?_append_right (by omega), List.getElem?_replicate, List.getD_eq_getElem?_getD, List.getElem?_eq_none (by omega)]
    by_cases hn : j < n
    · rw [if_pos (by omega), if_pos hn]; rfl
    · rw [if_neg (by omega), if_neg hn]

def bodyC (fn : Func) : Code := fn.body.getD .skip
def hasBody (fn : Func) : Bool := match fn.body with
  | some _ => true
  | none => false
theorem bodyC_of {fn : Func} (h : hasBody fn = true) : fn.body = some (bodyC fn) := by
  unfold hasBody at h; unfold bodyC
  split at h
  · rename_i c hc; rw [hc]; rfl
  · cases h

theorem Maps.vt {P : Program} (hP : POk P) {f : FuncId} (fn : Func) {args : List D} {al : AL} {d : D} {n : Nat} {rs : List ResultVar} (hf : P.funcs[f]? = some fn) (hb : hasBody fn = true) (hn : fn.ntmps = n) (hrs : fn.results = rs.toArray)
    (ha : (args.zipIdx.map fun p => (p.2, p.1)) = al) (hl : Nat.ble args.length n = true) (h : ∀ g, VT { P := P } (bodyC fn) n al [] g (kEnd P rs n fun d' H _ => snapR (fun b => H[b]?) 5 d' = d)) : Maps P f args d := by
  subst hn; subst ha
  refine Maps.ofS hf (bodyC_of hb) (hP.name hf) fun G hG hY hN => ?_
  rw [AL_args _ _ (by simpa using hl)]
  refine ((h (0, false)).out none G ⟨fun _ => rfl, hG, hY, Nat.le_of_eq hN, fun _ _ _ _ h => h.elim⟩ []).mono ?_
  rintro e ⟨t, H, ds, g⟩ ⟨a', h1, q⟩
  simp only at h1; subst h1
  rw [hrs]
  simp only [List.toList_toArray]
  cases e with
  | normal => obtain ⟨d', q1, q2⟩ := q; simp only [Post, resD_T, q1, Option.map_some, q2]
  | ret => obtain ⟨d', q1, q2⟩ := q; simp only [Post, resD_T, q1, Option.map_some, q2]
  | _ => exact q.elim
theorem CallSp.vt {P : Program} (hP : POk P) {f : FuncId} (fn : Func) {args : List D} {al : AL} {H : List Blk} {Q : D → List Blk → Prop} {n N : Nat} {rs : List ResultVar} (hf : P.funcs[f]? = some fn) (hb : hasBody fn = true) (hn : fn.ntmps = n) (hrs : fn.results = rs.toArray)
    (ha : (args.zipIdx.map fun p => (p.2, p.1)) = al) (hl : Nat.ble args.length n = true) (hN : H.length = N) (h : ∀ g, VT { P := P, N := N } (bodyC fn) n al H g (kEnd P rs n fun d' H _ => Q d' H)) : CallSp P f args H Q := by
  subst hn; subst ha; subst hN
  refine CallSp.ofS hf (bodyC_of hb) (hP.name hf) fun G hG hY hN => ?_
  rw [AL_args _ _ (by simpa using hl)]
  refine ((h (0, false)).out none G ⟨fun _ => rfl, hG, hY, Nat.le_of_eq hN, fun _ _ _ _ h => h.elim⟩ []).mono ?_
  rintro e ⟨t, H, ds, g⟩ ⟨a', h1, q⟩
  simp only at h1; subst h1
  rw [hrs]
  simp only [List.toList_toArray]
  cases e with
  | normal => obtain ⟨d', q1, q2⟩ := q; exact ⟨d', by rw [resD_T, q1], q2⟩
  | ret => obtain ⟨d', q1, q2⟩ := q; exact ⟨d', by rw [resD_T, q1], q2⟩
  | _ => exact q.elim

/-- What an iterator's yield function does. -/
def Yit (l : Nat) (seq : List (List D)) : Nat → Gst → List D → (Bool → Gst → Prop) → Prop := fun l' g args K => l' = l ∧ ∃ i, g = (i, false) ∧ seq[i]? = some args ∧ K true (i + 1, false) ∧ K false (i, true)
theorem Iter.vt {P : Program} (hP : POk P) {f : FuncId} (fn : Func) {first caps : List D} {al : Nat → AL} {seq : List (List D)} {n : Nat} (hf : P.funcs[f]? = some fn) (hb : hasBody fn = true) (hn : fn.ntmps = n) (hrs : fn.results = #[])
    (ha : ∀ l, ((first ++ ([D.fn (.yield l) [] []] ++ caps)).zipIdx.map fun p => (p.2, p.1)) = al l) (hl : Nat.ble (first.length + 1 + caps.length) n = true)
    (h : ∀ l, VT { P := P, Y := Yit l seq } (bodyC fn) n (al l) [] (0, false) (kEnd P [] n fun _ _ g => g = (seq.length, false) ∨ g.2 = true)) : Iter P f first caps seq := by
  subst hn
  refine Iter.ofS hf (bodyC_of hb) (hP.name hf) fun G l hG hY hN hYY => ?_
  have hl' : (first ++ ([D.fn (.yield l) [] []] ++ caps)).length ≤ fn.ntmps := by
    have : first.length + 1 + caps.length ≤ fn.ntmps := by simpa using hl
    simp; omega
  rw [AL_args _ _ hl', ha]
  refine ((h l).out none G ⟨fun _ => rfl, hG, hY, Nat.le_of_eq hN, ?_⟩ []).mono ?_
  · rintro l' g args K ⟨rfl, i, rfl, h1, h2, h3⟩ K' hK
    exact hYY i args K' h1 (hK _ _ h2) (hK _ _ h3)
  rintro e ⟨t, H, ds, g⟩ ⟨a', h1, q⟩
  simp only at h1; subst h1
  rw [hrs]
  cases e with
  | normal => obtain ⟨d', q1, q2⟩ := q; exact ⟨d', by rw [resD_T]; exact q1, q2⟩
  | ret => obtain ⟨d', q1, q2⟩ := q; exact ⟨d', by rw [resD_T]; exact q1, q2⟩
  | _ => exact q.elim

/-! What follows a piece of code. -/
theorem kSn {y : Code} (h : VT E y n a H g Q) : kSeq E n y Q .normal a H g := h
theorem kSe {y : Code} {id : Nat} (h : Q (.exit id) a H g) : kSeq E n y Q (.exit id) a H g := h
theorem kSr {y : Code} (h : Q .ret a H g) : kSeq E n y Q .ret a H g := h
theorem kCn (h : Q .normal a H g) : kScope Q .normal a H g := h
theorem kCr (h : Q .ret a H g) : kScope Q .ret a H g := h
theorem kCe {id : Nat} (h : Q (.exit id) a H g) : kScope Q (.exit id) a H g := h
theorem kBn {id : Nat} (h : Q .normal a H g) : kBlk id Q .normal a H g := h
theorem kBr {id : Nat} (h : Q .ret a H g) : kBlk id Q .ret a H g := h
theorem kBe {id : Nat} (h : Q .normal a H g) : kBlk id Q (.exit id) a H g := by simp only [kBlk, if_pos]; exact h
theorem kBx {id id' : Nat} (hn : (id' == id) = false) (h : Q (.exit id') a H g) : kBlk id Q (.exit id') a H g := by
  simp only [kBlk]
  rw [if_neg (by simpa using hn)]; exact h
theorem kLn {I : LI} {j : Nat} (h : Again E.N n I j a H g) : kLoop E n I j Q .normal a H g := h
theorem kLr {I : LI} {j : Nat} (h : Q .ret a H g) : kLoop E n I j Q .ret a H g := h
theorem kLe {I : LI} {j id : Nat} (h : Q (.exit id) a H g) : kLoop E n I j Q (.exit id) a H g := h
theorem kEr {P : Program} {rs : List ResultVar} {R : D → List Blk → Gst → Prop} {d : D} (hd : resA P rs n a H = some d) (h : R d H g) : kEnd P rs n R .ret a H g := ⟨d, hd, h⟩
theorem kEn {P : Program} {rs : List ResultVar} {R : D → List Blk → Gst → Prop} {d : D} (hd : resA P rs n a H = some d) (h : R d H g) : kEnd P rs n R .normal a H g := ⟨d, hd, h⟩
end
end
end Go.DL
