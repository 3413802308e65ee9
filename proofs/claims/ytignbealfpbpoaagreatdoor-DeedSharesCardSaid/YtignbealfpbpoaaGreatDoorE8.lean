/- An empty slice as a block of one's own; a block that is given up; slices.Clone of words. -/
import Derived.Test.YtignbealfpbpoaaGreatDoorE7
import Derived.Test.YtignbealfpbpoaaGreatDoorE3
import Derived.JoinedOf
import Derived.Carry
import Derived.Handed
import Derived.SizedLaws
import Derived.RowKit
import Derived.Test.YtignbealfpbpoaaGreatDoorE5
import Derived.Test.YtignbealfpbpoaaGreatDoorE4
import Derived.RecoverIn
import Derived.Test.YtignbealfpbpoaaGreatDoorE6
import Derived.Shelf.SlIter.Sorted
set_option linter.all false
namespace Go.DL
open Go.RowKit Go.Proofs
set_option linter.unusedSectionVars false
variable [Tabs]

section
variable {E : Ev} {ops l : List Oper} {n : Nat} {a : AL} {H H' : List Blk} {g : Gst} {K : KA} {c : Code} {Q : KX}

theorem fr_phantom {G : Gh} (hG : Stab G) {ds : List Nat} {ac : Act} {w : World} {i : Nat} (he : lkN n a i = .nil) (sz : Nat) (h : FR G { t := T n a, H := H, ds := ds, g := g } ac w) :
    FR G { t := T n ((i, .ms H.length 0 0 0) :: a), H := H ++ [.live sz []], ds := ds, g := g } ac w := by
  obtain ⟨A, φ, hr⟩ := h
  have h1 := FRc.phantom hG (hr.room) (s := H.length) (by simp) sz
  have e : (H ++ [Blk.free]).set H.length (.live sz []) = H ++ [.live sz []] := set_room _ _
  simp only at h1
  rw [e] at h1
  refine ⟨A, upd φ H.length .ph, h1.rh, ⟨by simpa [T_length] using h1.tr.size, fun j d u k1 k2 => ?_, h1.rh.la⟩, h1.gh, h1.df, h1.dk, h1.nd⟩
  rw [T_get?] at k1
  split at k1
  · rename_i hj
    cases k1
    simp only [lk]
    cases hb : Nat.beq i j with
    | false => exact h1.tr.val j _ u (by rw [T_get?, if_pos hj]; rfl) k2
    | true =>
      have := Nat.eq_of_beq_eq_true hb
      subst this
      have hv := h1.tr.val i (lk a i) u (by rw [T_get?, if_pos hj]) k2
      have hb2 : Nat.blt i n = true := by simpa [Nat.blt_eq] using hj
      simp only [lkN, hb2, cond_true] at he
      rw [he] at hv
      simp only [cond_true]
      cases hv with
      | nil _ x => exact .ms _ _ _ _ _ _ _ (Nat.le_refl _) (Nat.le_refl _) (by rw [upd_same]; rfl)
  · cases k1
theorem VT.phantom {i s : Nat} (sz : Nat) (he : lkN n a i = .nil) (hs : H.length = s) (hH : H ++ [.live sz []] = H') (h : VT E c n ((i, .ms s 0 0 0) :: a) H' g Q) : VT E c n a H g Q := by
  subst hs; subst hH
  exact ⟨fun ro G hE ds ac w hr => h.out ro G hE ds ac w (fr_phantom hE.st he sz hr)⟩
theorem VT.kill (b : Nat) (hb : Nat.blt b H.length = true) (hH : H.set b .dead = H') (h : VT E c n a H' g Q) : VT E c n a H g Q := by
  subst hH
  refine ⟨fun ro G hE ds ac w ⟨A, φ, hr⟩ => h.out ro G hE ds ac w ⟨A, _, FRc.kill hE.st hr (b := b) (by simpa [Nat.blt_eq] using hb)⟩⟩
theorem VT.addDead (h : VT E c n a (H ++ [.dead]) g Q) : VT E c n a H g Q := by
  refine ⟨fun ro G hE ds ac w ⟨A, φ, hr⟩ => h.out ro G hE ds ac w ⟨A, upd φ H.length .dead, ?_⟩⟩
  have h1 := FRc.kill hE.st hr.room (b := H.length) (by simp)
  have e : (H ++ [Blk.free]).set H.length .dead = H ++ [.dead] := set_room _ _
  simp only at h1
  rw [e] at h1
  exact h1
/-- A function ends with an empty slice that its callers take for a block of their own. -/
theorem VT.retP {i : Nat} (sz : Nat) (hc : isRetC c = true) (he : lkN n a i = .nil) (h : Q .ret ((i, .ms (H.length + 1) 0 0 0) :: a) (H ++ [.dead, .live sz []]) g) : VT E c n a H g Q :=
  VT.addDead (VT.phantom sz he (by simp) (by simp) (VT.ret hc h))
end

end Go.DL

/- Arguments of a statement, opened: what is read stands for abstract values over all that is there. -/
namespace Go.DL
open Go.RowKit Go.Proofs Go.ChangeShapes Go.WideShapes

noncomputable section
set_option linter.unusedSectionVars false
variable [Tabs]

section
variable {H : Type} {enc : TypeId × Value → H} {P : Program} {w : World}

/-- What is read at a type stands for abstract values of a kind, over any blocks among which are all that are there. -/
def Opens (enc : TypeId × Value → H) (P : Program) (w : World) (t : TypeId) (R : List D → Prop) : Prop :=
  ∀ (fuel : Nat) (cs : List Value) (x : DataW H × List MemPlace), DataW.trod enc P w 0 (fun _ => true) true fuel t cs = some x → (∀ n, n ∈ x.1.weights P t → n ≤ reachBytes) →
    ∃ ds : List D, R ds ∧ ds.length = cs.length ∧ ∀ A : Rd, (∀ n, n < w.heap.size → A n) → ∀ (i : Nat) (d : D) (u : Value), ds[i]? = some d → cs[i]? = some u → V A w nowhere d u

def Rint (k : IntKind) (ds : List D) : Prop := ∃ n : Int, (Lit.int k n).wf = true ∧ ds = [.v (.int k n)]
def Rcat : List (List D → Prop) → List D → Prop
  | [], ds => ds = []
  | R :: Rs, ds => ∃ a b, ds = a ++ b ∧ R a ∧ Rcat Rs b

theorem opens_int {t : TypeId} {k : IntKind} (ht : P.underlying t = some (.int k)) : Opens enc P w t (Rint k) := by
  intro fuel cs x h _
  obtain ⟨n, rfl, _, hw⟩ := DataW.trod_int ht h
  refine ⟨_, ⟨n, hw, rfl⟩, rfl, fun A _ i d u h1 h2 => ?_⟩
  match i, h1, h2 with
  | 0, h1, h2 => cases h1; cases h2; exact .v _ _

/-- The fields of a struct, one behind the other from a cell on. -/
def OpensF (enc : TypeId × Value → H) (P : Program) (w : World) : List Field → List (List D → Prop) → Nat → Nat → Prop
  | [], [], o, n => o = n
  | f :: fs, R :: Rs, o, n => f.offset = o ∧ o + P.cellsOf f.type ≤ n ∧ Opens enc P w f.type R ∧ OpensF enc P w fs Rs (o + P.cellsOf f.type) n
  | _, _, _, _ => False

theorem opens_fields {n fuel : Nat} {cs : List Value} (hn : cs.length = n) : ∀ (fs : List Field) (Rs : List (List D → Prop)) (o : Nat), OpensF enc P w fs Rs o n →
    (∀ f, f ∈ fs → ∃ y, DataW.trod enc P w 0 (fun _ => true) true fuel f.type ((cs.drop f.offset).take (P.cellsOf f.type)) = some y ∧ ∀ n, n ∈ y.1.weights P f.type → n ≤ reachBytes) →
    ∃ ds : List D, Rcat Rs ds ∧ ds.length = (cs.drop o).length ∧ ∀ A : Rd, (∀ n, n < w.heap.size → A n) → ∀ (i : Nat) (d : D) (u : Value), ds[i]? = some d → (cs.drop o)[i]? = some u → V A w nowhere d u
  | [], [], o, h, _ => by
    have e : o = n := h
    refine ⟨[], rfl, by simp; omega, fun A _ i d u h1 _ => by simp at h1⟩
  | f :: fs, R :: Rs, o, h, hr => by
    obtain ⟨h1, h1b, h2, h3⟩ := h
    obtain ⟨y, hy, hyw⟩ := hr f (List.mem_cons_self ..)
    rw [h1] at hy
    obtain ⟨a, k1, k2, k3⟩ := h2 _ _ _ hy hyw
    obtain ⟨b, q1, q2, q3⟩ := opens_fields hn fs Rs _ h3 fun g hg => hr g (List.mem_cons_of_mem _ hg)
    have hl : a.length = P.cellsOf f.type := by rw [k2]; simp; omega
    refine ⟨a ++ b, ⟨a, b, rfl, k1, q1⟩, ?_, fun A hA i d u e1 e2 => ?_⟩
    · rw [List.length_append, hl, q2]; simp; omega
    · by_cases hi : i < a.length
      · rw [List.getElem?_append_left hi] at e1
        exact k3 A hA i d u e1 (by rw [List.getElem?_take_of_lt (by omega)]; exact e2)
      · rw [List.getElem?_append_right (by omega)] at e1
        refine q3 A hA _ d u e1 ?_
        rw [List.getElem?_drop] at e2 ⊢
        rw [← e2]
        congr 1
        omega
  | [], _ :: _, _, h, _ => h.elim
  | _ :: _, [], _, h, _ => h.elim

theorem opens_struct {t : TypeId} {fs : Array Field} {Rs : List (List D → Prop)} (ht : P.underlying t = some (.struct fs)) (h : OpensF enc P w fs.toList Rs 0 (P.cellsOf t)) : Opens enc P w t (Rcat Rs) := by
  intro fuel cs x hx hwt
  obtain ⟨xs, n, _, rfl, hl, hlen, hf⟩ := DataW.trod_struct ht hx
  have := opens_fields (fuel := n) hl fs.toList Rs 0 h fun f hm => by
    obtain ⟨i, hi⟩ := List.getElem?_of_mem hm
    have h1 := hf i f (by simpa using hi)
    have hi' : i < xs.length := by rw [hlen]; simpa using (List.getElem?_eq_some_iff.1 hi).1
    refine ⟨xs[i], by rw [h1]; simp [hi'], fun n hn => hwt n ?_⟩
    simp only [DataW.weights, ht]
    exact DataW.weights_mem_each (j := i) (t := f.type) (d := xs[i].1) (by simp [hi]) (by simp [hi']) n hn
  simpa using this

/-! ### arguments -/
theorem arg_struct {r : Reach} {b0 : Nat} {t : TypeId} {fs : Array Field} {Rs : List (List D → Prop)} {v : Value} {x : DataW H} {ps : List MemPlace} (ht : P.underlying t = some (.struct fs))
    (h : OpensF enc P w fs.toList Rs 0 (P.cellsOf t)) (ho : Value.okWide P w r b0 t v) (hd : DataW.Trod enc P w 0 (fun _ => true) true t v x ps) (hw : ∀ n, n ∈ x.weights P t → n ≤ reachBytes) :
    ∃ ds : List D, Rcat Rs ds ∧ ∀ A : Rd, (∀ n, n < w.heap.size → A n) → V A w nowhere (.agg ds) v := by
  obtain ⟨cs, rfl, _⟩ : ∃ cs, v = .agg cs ∧ cs.size = P.cellsOf t := by
    unfold Value.okWide at ho
    rw [ht] at ho
    obtain ⟨cs, h1, h2, _⟩ := ho
    exact ⟨cs, h1, h2⟩
  obtain ⟨fuel, hf⟩ := hd
  obtain ⟨ds, h1, h2, h3⟩ := opens_struct ht h _ _ _ hf hw
  refine ⟨ds, h1, fun A hA => .agg _ _ _ (by simpa [Value.cells] using h2.symm) fun i d u e1 e2 => h3 A hA i d u e1 (by simpa [Value.cells] using e2)⟩
end

theorem Ext.below {w w' : World} (h : Ext w (fun _ => False) w' (fun _ => False)) : Below w.heap.size w w' :=
  ⟨h.os, h.tape, h.output, h.size, fun k hk => h.same k hk fun x => x⟩

/-- The row's end, where all that was there stays, and a truth value is returned. -/
theorem post_below {H : Type} {enc : TypeId × Value → H} {P : Program} {f : Func} {s : ChangeSpec} {apart fresh handsOn again : Bool} {W W' : World} {args : Array Value} {v : Value} {ds gs : List (DataW H)} {before pa pv : List MemPlace}
    (hW : DataW.Whole enc P f.params.toList s.vars apart W args.toList ds gs before)
    (hres : ∀ (b : Nat) (sp : Nat → Bool) (hd : Bool), DataW.TrodAll enc P W' b sp hd f.resultTypes.toList (v.resultList f.resultTypes.size) (s.fn H (ds ++ gs)).results [])
    (hargs : ∀ sp : Nat → Bool, (∀ p ∈ before, sp p.block = true) → DataW.TrodAll enc P W' 0 sp true f.params.toList args.toList (s.fn H (ds ++ gs)).args pa)
    (hvars : ∀ sp : Nat → Bool, (∀ p ∈ before, sp p.block = true) → DataW.TrodVars enc P W' sp s.vars (s.fn H (ds ++ gs)).vars pv)
    (hps : before = pa ++ pv) (hb : Below W.heap.size W W')
    (hok : ∀ (j : Nat) (t : TypeId) (r : Value), f.resultTypes[j]? = some t → (v.resultList f.resultTypes.size)[j]? = some r → Value.okWide P W' .any 0 t r) :
    s.post enc P f apart fresh handsOn again W args v W' := by
  have hlt := hW.lt
  have hold : ∀ p ∈ before, (fun b => decide (b < W.heap.size)) p.block = true := fun p hp => by simpa using hlt p hp
  refine ⟨ds, gs, before, [], pa, pv, hW, hres _ _ _, hargs _ hold, hvars _ hold, hb.frame _, fun _ => ?_⟩
  obtain ⟨_, _, _, _, _, hz, hn⟩ := hW
  refine ⟨hok, _, _, ([] ++ pa) ++ pv, ⟨[] ++ pa, pv, trodAll_append (hargs _ (fun _ _ => rfl)) (hres _ _ _), hvars _ (fun _ _ => rfl), rfl, ?_, ?_⟩, ?_⟩
  · intro b off hp
    have hp' : MemPlace.cell b off ∈ before := by rw [hps]; simpa using hp
    rw [hb.frozen (hlt _ hp')]
    exact hz b off hp'
  · intro ha
    have := hn ha
    rw [hps] at this
    simpa using this
  · intro p hp _
    rw [hps]
    simpa using hp

theorem trodAll_below {H : Type} {enc : TypeId × Value → H} {P : Program} {W W' : World} {sp : Nat → Bool} (hl : laidOutB P = true) (hb : Below W.heap.size W W') : ∀ {ts : List TypeId} {vs : List Value} {ds : List (DataW H)} {ps : List MemPlace},
    (∀ t, t ∈ ts → P.readableRec t = true ∧ t < P.types.size) → DataW.TrodAll enc P W 0 (fun _ => true) true ts vs ds ps → (∀ p, p ∈ ps → p.block < W.heap.size) → (∀ p, p ∈ ps → sp p.block = true) → DataW.TrodAll enc P W' 0 sp true ts vs ds ps
  | [], _, _, _, _, h, _, _ => by
    obtain ⟨rfl, rfl, rfl⟩ := trodAll_nil h
    exact rfl
  | t :: ts, _, _, _, ht, h, hlt, hsp => by
    obtain ⟨v, vs, d, ds, p, q, rfl, rfl, rfl, h1, h2⟩ := trodAll_cons h
    obtain ⟨k1, k2⟩ := ht t (List.mem_cons_self ..)
    exact ⟨p, q, WideElems.Trod_stays hl k1 k2 h1 (fun x hx => hb.same (hlt x (by simp [hx]))) (fun x hx => hsp x (by simp [hx])),
      trodAll_below hl hb (fun t' h' => ht t' (List.mem_cons_of_mem _ h')) h2 (fun x hx => hlt x (by simp [hx])) (fun x hx => hsp x (by simp [hx])), rfl⟩

/-- A law of a statement, out of a contract that says that it returns true. -/
theorem law_true {H : Type} {enc : TypeId × Value → H} {P : Program} {f : FuncId} {fn : Func} {s : ChangeSpec} {apart fresh handsOn again : Bool} {tb : TypeId} (hl : laidOutB P = true)
    (hp : ∀ t, t ∈ fn.params.toList → P.readableRec t = true ∧ t < P.types.size) (hr : fn.resultTypes = #[tb]) (htb : P.underlying tb = some .bool) (hv : s.vars = [])
    {W : World} {args : Array Value} {ds gs : List (DataW H)} {before : List MemPlace} (hW : DataW.Whole enc P fn.params.toList s.vars apart W args.toList ds gs before)
    (hs : ∀ gs, gs = [] → s.fn H (ds ++ gs) = { results := [.lit (.bool true)], args := ds })
    {xs : List D} (hx : VS ⟨fun n => n < W.heap.size, W.heap.size⟩ W nowhere xs args) (hm : Maps P f xs (.v (.bool true))) (hla : Laid (fun n => n < W.heap.size) W) :
    Calls P f args W fun e W' => ∃ v, e = .returned v ∧ s.post enc P fn apart fresh handsOn again W args v W' := by
  refine (callsIn_wide.1 (hm.2 W _ args (fun n h => h) hla hx)).mono ?_
  rintro e W' ⟨v, A', rfl, hvv, _, _, _, hext⟩
  have hvb := hvv.v_inv
  subst hvb
  obtain ⟨p, q, h1, h2, h3, _⟩ := id hW
  have hgs : gs = [] ∧ q = [] := by
    rw [hv] at h2
    cases gs with
    | nil => exact ⟨rfl, h2⟩
    | cons => exact h2.elim
  obtain ⟨rfl, rfl⟩ := hgs
  rw [List.append_nil] at h3
  subst h3
  refine ⟨_, rfl, post_below (pa := before) (pv := []) hW (fun b sp hd => ?_) (fun sp hsp => ?_) (fun sp _ => ?_) (by simp) hext.below (ok_one hr rfl (okWide_bool_mk htb _))⟩
  · rw [hs _ rfl, hr]
    exact trodAll_mk1 (shut_bool htb true)
  · rw [hs _ rfl]
    exact trodAll_below hl hext.below hp h1 hW.lt hsp
  · rw [hs _ rfl, hv]; rfl
end
end Go.DL

/- Drawn regions over blocks whose number is not known: where nothing that is hidden is laid yet. -/
namespace Go.DL
open Go.RowKit Go.Proofs

noncomputable section
set_option linter.unusedSectionVars false
variable [Tabs]
section
variable {E : Ev} {ops r : List Oper} {base s : Nat} {hs : List Nat} {pl : List (Nat × List Nat)} {n : Nat} {a : AL} {H H' : List Blk} {K : KP} {i : Tmp} {op : Op} {ty : TypeId} {pos : String} {aft : Array Edge} {d : D}
end

theorem lowB_mono {K K' : Nat} (hK : K ≤ K') : ∀ (k : Nat) (d : D), lowB k K d = true → lowB k K' d = true := by
  intro k
  induction k with
  | zero => intro d h; cases d <;> simp_all [lowB] <;> omega
  | succ k ih =>
    intro d h
    cases d with
    | agg cs => simp only [lowB, List.all_eq_true] at h ⊢; exact fun x hx => ih x (h x hx)
    | tup cs => simp only [lowB, List.all_eq_true] at h ⊢; exact fun x hx => ih x (h x hx)
    | fn f a b => simp only [lowB, List.all_eq_true, Bool.and_eq_true] at h ⊢; exact ⟨fun x hx => ih x (h.1 x hx), fun x hx => ih x (h.2 x hx)⟩
    | _ => simp_all [lowB] <;> omega
theorem BlkBelow.mono {K K' : Nat} (hK : K ≤ K') {b : Blk} (h : BlkBelow K b) : BlkBelow K' b := by
  cases b with
  | live sz es => exact fun e he d hd => lowB_mono hK 4 d (h e he d hd)
  | tab c es => exact fun e he => lowB_mono hK 4 _ (h e he)
  | _ => trivial
section
variable {P : Program} {n s : Nat} {al : AL} {H : List Blk} {x y : Operand} {tx ty' : TypeId} {a b : Int}
theorem f_eqlT (hx : evA n al x = wI a) (hy : evA n al y = wI b) (h : a = b) : Val P H s n al (.binOp .eql tx x y ty') (wB true) := by
  have h1 := f_eql (P := P) (H := H) (s := s) (tx := tx) (ty' := ty') hx hy
  rwa [decide_eq_true h] at h1
end
end
end Go.DL

/- The steps of walks, with what may be said of the operations as automatic arguments. -/
namespace Go.DL
open Go.RowKit Go.Proofs

noncomputable section
set_option linter.unusedSectionVars false
variable [Tabs]
section
variable {E : Ev} {ops r : List Oper} {n : Nat} {a : AL} {H H' : List Blk} {g : Gst} {K : KA} {dst : Option Tmp} {i : Tmp} {op : Op} {x y z : Operand} {tx ty ty' : TypeId} {pos : String} {aft : Array Edge} {f : Nat} {bo : BinOp} {uo : UnOp} {cl : Call} {d : D}
theorem RT.mvA (h : RT E ops r n ((i, d) :: a) H g K) (hv : Val E.P H H.length n a (.move x) d := by first | exact f_mvV rfl | exact f_mvS rfl | exact f_mvF rfl | exact f_mvO rfl | exact f_mvP rfl | exact f_mvR rfl | exact f_mvA rfl | exact f_mvT rfl | exact f_mvN rfl | exact f_mvU rfl | exact f_mvX rfl) : RT E ops (⟨some i, .move x, ty, pos, aft, none⟩ :: r) n a H g K := RT.v hv h
theorem RT.asA (h : RT E ops r n ((i, d) :: a) H g K) (hv : Val E.P H H.length n a (.assign x) d := by first | exact f_asV rfl | exact f_asS rfl | exact f_asF rfl | exact f_asO rfl | exact f_asP rfl | exact f_asR rfl | exact f_asA rfl | exact f_asT rfl | exact f_asN rfl | exact f_asU rfl | exact f_asX rfl) : RT E ops (⟨some i, .assign x, ty, pos, aft, none⟩ :: r) n a H g K := RT.v hv h
theorem RT.ldA (h : RT E ops r n ((i, d) :: a) H g K) (hv : Val E.P H H.length n a (.load tx x) d := by first | exact f_ldV rfl rfl | exact f_ldO rfl rfl rfl rfl rfl | exact f_ldW rfl rfl (by (first | omega | (simp only [List.length_set, List.length_replicate, List.length_append, List.length_map, List.length_cons, List.length_nil]; omega))) rfl | exact f_ldS rfl rfl | exact f_ldFl rfl rfl | exact f_ldOW rfl rfl rfl rfl rfl rfl | exact f_ldG rfl rfl rfl | exact f_ldA rfl rfl rfl rfl (by first | (simp only [nrm]; rfl) | (simp only [nrm, Nat.reduceAdd, Nat.zero_add]; rfl) | rfl)) : RT E ops (⟨some i, .load tx x, ty, pos, aft, none⟩ :: r) n a H g K := RT.v hv h
theorem RT.faA (h : RT E ops r n ((i, d) :: a) H g K) (hv : Val E.P H H.length n a (.fieldAddr tx x f) d := by first | exact f_fa0 rfl rfl (Nat.succ_ne_zero _) | exact f_fa1 rfl rfl (Nat.succ_ne_zero _) | exact f_fa2 rfl rfl (Nat.succ_ne_zero _) | exact f_fa3 rfl rfl (Nat.succ_ne_zero _) | exact f_faO0 (o := 0) rfl rfl (Nat.succ_ne_zero _) | exact f_faO0 (o := 1) rfl rfl (Nat.succ_ne_zero _) | exact f_faO0 (o := 2) rfl rfl (Nat.succ_ne_zero _) | exact f_faO0 (o := 3) rfl rfl (Nat.succ_ne_zero _) | exact f_faO0 rfl rfl (Nat.succ_ne_zero _) | exact f_faO rfl rfl (Nat.succ_ne_zero _)) : RT E ops (⟨some i, .fieldAddr tx x f, ty, pos, aft, none⟩ :: r) n a H g K := RT.v hv h
theorem RT.bnA (h : RT E ops r n ((i, d) :: a) H g K) (hv : Val E.P H H.length n a (.binOp bo tx x y ty') d := by first | exact f_lss rfl rfl | exact f_add rfl rfl (by omega) (by omega) | exact f_eql rfl rfl | exact f_neq rfl rfl | exact f_leq rfl rfl | exact f_gtr rfl rfl | exact f_geq rfl rfl | exact f_sub rfl rfl (by omega) (by omega) | exact f_mul rfl rfl (by omega) (by omega) | exact f_rem rfl rfl (by omega) (by omega) | exact f_quo rfl rfl (by omega) (by omega) (by omega)) : RT E ops (⟨some i, .binOp bo tx x y ty', ty, pos, aft, none⟩ :: r) n a H g K := RT.v hv h
theorem RT.pkA (h : RT E ops r n ((i, d) :: a) H g K) (hv : Val E.P H H.length n a (.pick x y z) d := by first | exact f_pickTV rfl rfl | exact f_pickFV rfl rfl) : RT E ops (⟨some i, .pick x y z, ty, pos, aft, none⟩ :: r) n a H g K := RT.v hv h
theorem RT.exA (h : RT E ops r n ((i, d) :: a) H g K) (hv : Val E.P H H.length n a (.extract x f) d := by exact f_ext rfl rfl) : RT E ops (⟨some i, .extract x f, ty, pos, aft, none⟩ :: r) n a H g K := RT.v hv h
theorem RT.unA (h : RT E ops r n ((i, d) :: a) H g K) (hv : Val E.P H H.length n a (.unOp uo tx x) d := by first | exact f_notT rfl | exact f_notF rfl | exact f_notD rfl | exact f_not rfl | exact f_neg rfl (by omega) (by omega)) : RT E ops (⟨some i, .unOp uo tx x, ty, pos, aft, none⟩ :: r) n a H g K := RT.v hv h
theorem RT.clA (h : RT E ops r n ((i, d) :: a) H g K) (hv : Val E.P H H.length n a (.call cl) d := by first | exact f_lenM rfl rfl | exact f_lenF rfl rfl | exact f_lenO rfl rfl | exact f_lenN rfl rfl | exact f_max rfl rfl | exact f_min rfl rfl) : RT E ops (⟨some i, .call cl, ty, pos, aft, none⟩ :: r) n a H g K := RT.v hv h
theorem RT.msA (h : RT E ops r n ((i, d) :: a) H g K) (hv : Val E.P H H.length n a (op) d := by first | exact f_slHi rfl rfl (by first | with_reducible exact castR _ | with_reducible exact castS _ | rfl | omega) (by omega) rfl | exact f_slLo rfl rfl (by first | with_reducible exact castR _ | with_reducible exact castS _ | rfl | omega) (by omega) rfl (fun _ => rfl) | exact f_build rfl | exact f_mkf (by first | (simp only [nrm]; rfl) | (simp only [nrm, Nat.reduceAdd, Nat.zero_add]; rfl) | rfl) (by first | (simp only [nrm]; rfl) | (simp only [nrm, Nat.reduceAdd, Nat.zero_add]; rfl) | rfl) | exact f_fd rfl rfl rfl) : RT E ops (⟨some i, op, ty, pos, aft, none⟩ :: r) n a H g K := RT.v hv h
theorem RT.nwA {s : Nat} {k : Blk} (h : RT E ops r n ((i, d) :: a) H' g K) (hs : H.length = s := by first | (simp only [nrm]; rfl) | (simp only [nrm, Nat.reduceAdd, Nat.zero_add]; rfl) | rfl) (hv : Mk E.P H s n a op d k := by first | exact f_boxV rfl rfl rfl | exact f_boxA rfl rfl (by first | (simp only [nrm]; rfl) | (simp only [nrm, Nat.reduceAdd, Nat.zero_add]; rfl) | rfl) | exact f_boxS rfl | exact f_boxU rfl | exact f_boxO rfl | exact f_boxF rfl | exact f_boxR rfl | exact f_boxP rfl | exact f_boxN rfl | exact f_allocL (z := [wI 0]) (m := 1) rfl rfl | exact f_allocL (z := [wI 0, wI 0]) (m := 2) rfl rfl | exact f_allocL (z := [wI 0, wI 0, wI 0]) (m := 3) rfl rfl | exact f_allocL (z := [wI 0, wI 0, wI 0, wI 0]) (m := 4) rfl rfl | exact f_allocL (z := [.nil, wI 0]) (m := 2) rfl rfl | exact f_allocL (z := [wI 0, .nil]) (m := 2) rfl rfl | exact f_allocL (z := [.nil]) (m := 1) rfl rfl | exact f_allocL (z := [.nil, .nil]) (m := 2) rfl rfl | exact f_alloc rfl | exact f_makeW rfl rfl rfl rfl rfl rfl (by (first | omega | (simp only [List.length_set, List.length_replicate, List.length_append, List.length_map, List.length_cons, List.length_nil]; omega))) | exact f_bslW1 rfl rfl rfl) (hH : H ++ [k] = H' := by first | (simp only [nrm]; rfl) | (simp only [nrm, Nat.reduceAdd, Nat.zero_add]; rfl) | rfl) : RT E ops (⟨some i, op, ty, pos, aft, none⟩ :: r) n a H g K := RT.new hs hv hH h
theorem RT.stA {b : Nat} {k : Blk} (h : RT E ops r n a H' g K) (hv : Wr E.P H H.length n a (.store tx x y) b k := by first | exact f_stW rfl rfl (by (first | omega | (simp only [List.length_set, List.length_replicate, List.length_append, List.length_map, List.length_cons, List.length_nil]; omega))) rfl rfl | exact f_stV rfl rfl rfl rfl rfl rfl rfl | exact f_stA rfl rfl rfl rfl rfl rfl rfl (by decide) (by first | (simp only [nrm]; rfl) | (simp only [nrm, Nat.reduceAdd, Nat.zero_add]; rfl) | rfl) | exact f_st rfl rfl rfl rfl rfl rfl rfl rfl (by decide) (by first | (simp only [nrm]; rfl) | (simp only [nrm, Nat.reduceAdd, Nat.zero_add]; rfl) | rfl)) (hH : H.set b k = H' := by first | (simp only [nrm]; rfl) | (simp only [nrm, Nat.reduceAdd, Nat.zero_add]; rfl) | rfl) : RT E ops (⟨none, .store tx x y, ty, pos, aft, none⟩ :: r) n a H g K := RT.wr hv hH h
end
section
variable {E : Ev} {ops r : List Oper} {base s : Nat} {hs : List Nat} {pl : List (Nat × List Nat)} {n : Nat} {a : AL} {H H' : List Blk} {K : KP} {dst : Option Tmp} {i : Tmp} {op : Op} {x y z : Operand} {tx ty ty' : TypeId} {pos : String} {aft : Array Edge} {f : Nat} {bo : BinOp} {uo : UnOp} {cl : Call} {d : D}
theorem PT.mvA (h : PT E ops base pl r n ((i, d) :: a) H K) (hv : Val E.P (maskL base hs H) (base + s) n a (.move x) d := by first | exact f_mvV rfl | exact f_mvS rfl | exact f_mvF rfl | exact f_mvO rfl | exact f_mvP rfl | exact f_mvR rfl | exact f_mvA rfl | exact f_mvT rfl | exact f_mvN rfl | exact f_mvU rfl | exact f_mvX rfl) : PT E ops base ((s, hs) :: pl) (⟨some i, .move x, ty, pos, aft, none⟩ :: r) n a H K := PT.v hv h
theorem PT.asA (h : PT E ops base pl r n ((i, d) :: a) H K) (hv : Val E.P (maskL base hs H) (base + s) n a (.assign x) d := by first | exact f_asV rfl | exact f_asS rfl | exact f_asF rfl | exact f_asO rfl | exact f_asP rfl | exact f_asR rfl | exact f_asA rfl | exact f_asT rfl | exact f_asN rfl | exact f_asU rfl | exact f_asX rfl) : PT E ops base ((s, hs) :: pl) (⟨some i, .assign x, ty, pos, aft, none⟩ :: r) n a H K := PT.v hv h
theorem PT.ldA (h : PT E ops base pl r n ((i, d) :: a) H K) (hv : Val E.P (maskL base hs H) (base + s) n a (.load tx x) d := by first | exact f_ldV rfl rfl | exact f_ldO rfl rfl rfl rfl rfl | exact f_ldW rfl rfl (by (first | omega | (simp only [List.length_set, List.length_replicate, List.length_append, List.length_map, List.length_cons, List.length_nil]; omega))) rfl | exact f_ldS rfl rfl | exact f_ldFl rfl rfl | exact f_ldOW rfl rfl rfl rfl rfl rfl | exact f_ldG rfl rfl rfl | exact f_ldA rfl rfl rfl rfl (by first | (simp only [nrm]; rfl) | (simp only [nrm, Nat.reduceAdd, Nat.zero_add]; rfl) | rfl)) : PT E ops base ((s, hs) :: pl) (⟨some i, .load tx x, ty, pos, aft, none⟩ :: r) n a H K := PT.v hv h
theorem PT.faA (h : PT E ops base pl r n ((i, d) :: a) H K) (hv : Val E.P (maskL base hs H) (base + s) n a (.fieldAddr tx x f) d := by first | exact f_fa0 rfl rfl (Nat.succ_ne_zero _) | exact f_fa1 rfl rfl (Nat.succ_ne_zero _) | exact f_fa2 rfl rfl (Nat.succ_ne_zero _) | exact f_fa3 rfl rfl (Nat.succ_ne_zero _) | exact f_faO0 (o := 0) rfl rfl (Nat.succ_ne_zero _) | exact f_faO0 (o := 1) rfl rfl (Nat.succ_ne_zero _) | exact f_faO0 (o := 2) rfl rfl (Nat.succ_ne_zero _) | exact f_faO0 (o := 3) rfl rfl (Nat.succ_ne_zero _) | exact f_faO0 rfl rfl (Nat.succ_ne_zero _) | exact f_faO rfl rfl (Nat.succ_ne_zero _)) : PT E ops base ((s, hs) :: pl) (⟨some i, .fieldAddr tx x f, ty, pos, aft, none⟩ :: r) n a H K := PT.v hv h
theorem PT.bnA (h : PT E ops base pl r n ((i, d) :: a) H K) (hv : Val E.P (maskL base hs H) (base + s) n a (.binOp bo tx x y ty') d := by first | exact f_lss rfl rfl | exact f_add rfl rfl (by omega) (by omega) | exact f_eql rfl rfl | exact f_neq rfl rfl | exact f_leq rfl rfl | exact f_gtr rfl rfl | exact f_geq rfl rfl | exact f_sub rfl rfl (by omega) (by omega) | exact f_mul rfl rfl (by omega) (by omega) | exact f_rem rfl rfl (by omega) (by omega) | exact f_quo rfl rfl (by omega) (by omega) (by omega)) : PT E ops base ((s, hs) :: pl) (⟨some i, .binOp bo tx x y ty', ty, pos, aft, none⟩ :: r) n a H K := PT.v hv h
theorem PT.pkA (h : PT E ops base pl r n ((i, d) :: a) H K) (hv : Val E.P (maskL base hs H) (base + s) n a (.pick x y z) d := by first | exact f_pickTV rfl rfl | exact f_pickFV rfl rfl) : PT E ops base ((s, hs) :: pl) (⟨some i, .pick x y z, ty, pos, aft, none⟩ :: r) n a H K := PT.v hv h
theorem PT.exA (h : PT E ops base pl r n ((i, d) :: a) H K) (hv : Val E.P (maskL base hs H) (base + s) n a (.extract x f) d := by exact f_ext rfl rfl) : PT E ops base ((s, hs) :: pl) (⟨some i, .extract x f, ty, pos, aft, none⟩ :: r) n a H K := PT.v hv h
theorem PT.unA (h : PT E ops base pl r n ((i, d) :: a) H K) (hv : Val E.P (maskL base hs H) (base + s) n a (.unOp uo tx x) d := by first | exact f_notT rfl | exact f_notF rfl | exact f_notD rfl | exact f_not rfl | exact f_neg rfl (by omega) (by omega)) : PT E ops base ((s, hs) :: pl) (⟨some i, .unOp uo tx x, ty, pos, aft, none⟩ :: r) n a H K := PT.v hv h
theorem PT.clA (h : PT E ops base pl r n ((i, d) :: a) H K) (hv : Val E.P (maskL base hs H) (base + s) n a (.call cl) d := by first | exact f_lenM rfl rfl | exact f_lenF rfl rfl | exact f_lenO rfl rfl | exact f_lenN rfl rfl | exact f_max rfl rfl | exact f_min rfl rfl) : PT E ops base ((s, hs) :: pl) (⟨some i, .call cl, ty, pos, aft, none⟩ :: r) n a H K := PT.v hv h
theorem PT.msA (h : PT E ops base pl r n ((i, d) :: a) H K) (hv : Val E.P (maskL base hs H) (base + s) n a (op) d := by first | exact f_slHi rfl rfl (by first | with_reducible exact castR _ | with_reducible exact castS _ | rfl | omega) (by omega) rfl | exact f_slLo rfl rfl (by first | with_reducible exact castR _ | with_reducible exact castS _ | rfl | omega) (by omega) rfl (fun _ => rfl) | exact f_build rfl | exact f_mkf (by first | (simp only [nrm]; rfl) | (simp only [nrm, Nat.reduceAdd, Nat.zero_add]; rfl) | rfl) (by first | (simp only [nrm]; rfl) | (simp only [nrm, Nat.reduceAdd, Nat.zero_add]; rfl) | rfl) | exact f_fd rfl rfl rfl) : PT E ops base ((s, hs) :: pl) (⟨some i, op, ty, pos, aft, none⟩ :: r) n a H K := PT.v hv h
theorem PT.nwA {s' : Nat} {k : Blk} (h : PT E ops base pl r n ((i, d) :: a) H' K) (hs' : base + s = s' := by rfl) (hv : Mk E.P (maskL base hs H) s' n a op d k := by first | exact f_boxV rfl rfl rfl | exact f_boxA rfl rfl (by first | (simp only [nrm]; rfl) | (simp only [nrm, Nat.reduceAdd, Nat.zero_add]; rfl) | rfl) | exact f_boxS rfl | exact f_boxU rfl | exact f_boxO rfl | exact f_boxF rfl | exact f_boxR rfl | exact f_boxP rfl | exact f_boxN rfl | exact f_allocL (z := [wI 0]) (m := 1) rfl rfl | exact f_allocL (z := [wI 0, wI 0]) (m := 2) rfl rfl | exact f_allocL (z := [wI 0, wI 0, wI 0]) (m := 3) rfl rfl | exact f_allocL (z := [wI 0, wI 0, wI 0, wI 0]) (m := 4) rfl rfl | exact f_allocL (z := [.nil, wI 0]) (m := 2) rfl rfl | exact f_allocL (z := [wI 0, .nil]) (m := 2) rfl rfl | exact f_allocL (z := [.nil]) (m := 1) rfl rfl | exact f_allocL (z := [.nil, .nil]) (m := 2) rfl rfl | exact f_alloc rfl | exact f_makeW rfl rfl rfl rfl rfl rfl (by (first | omega | (simp only [List.length_set, List.length_replicate, List.length_append, List.length_map, List.length_cons, List.length_nil]; omega))) | exact f_bslW1 rfl rfl rfl) (hH : H.set s' k = H' := by first | (simp only [nrm]; rfl) | (simp only [nrm, Nat.reduceAdd, Nat.zero_add]; rfl) | rfl) : PT E ops base ((s, hs) :: pl) (⟨some i, op, ty, pos, aft, none⟩ :: r) n a H K := PT.new hs' hv hH h
theorem PT.stA {b : Nat} {k : Blk} (h : PT E ops base pl r n a H' K) (hv : Wr E.P (maskL base hs H) (base + s) n a (.store tx x y) b k := by first | exact f_stW rfl rfl (by (first | omega | (simp only [List.length_set, List.length_replicate, List.length_append, List.length_map, List.length_cons, List.length_nil]; omega))) rfl rfl | exact f_stV rfl rfl rfl rfl rfl rfl rfl | exact f_stA rfl rfl rfl rfl rfl rfl rfl (by decide) (by first | (simp only [nrm]; rfl) | (simp only [nrm, Nat.reduceAdd, Nat.zero_add]; rfl) | rfl) | exact f_st rfl rfl rfl rfl rfl rfl rfl rfl (by decide) (by first | (simp only [nrm]; rfl) | (simp only [nrm, Nat.reduceAdd, Nat.zero_add]; rfl) | rfl)) (hH : H.set b k = H' := by first | (simp only [nrm]; rfl) | (simp only [nrm, Nat.reduceAdd, Nat.zero_add]; rfl) | rfl) : PT E ops base ((s, hs) :: pl) (⟨none, .store tx x y, ty, pos, aft, none⟩ :: r) n a H K := PT.wr hv hH h
end
theorem fgA {N n : Nat} {a a' : AL} {H H' : List Blk} (hd : Hd n a a' := by repeat first | exact True.intro | refine And.intro ?_ ?_ | exact Or.inr (Or.inl rfl) | exact Or.inl rfl | (refine DLe.i rfl ?_; omega) | (refine DLe.i rfl ?_; simp; done)) (pre : H.take H'.length = H' := by rfl) (le : N ≤ H'.length := by first | decide | exact Nat.zero_le _ | exact Nat.le_refl _ | (first | omega | (simp only [List.length_set, List.length_replicate, List.length_append, List.length_map, List.length_cons, List.length_nil]; omega))) (ab : (a'.all fun p => lowB 4 H'.length p.2) = true := by first | rfl | simp_all [lowB]) (hb : ∀ b ∈ H', BlkBelow H'.length b := by repeat first | exact bb_nil | refine bb_cons ?_ ?_ | exact eI_low _ _ | exact bb_dead | exact bb_free | exact bb_lit rfl | (simp [BlkBelow, lowB]; done)) : Wk N n a H a' H' := Wk.fg ⟨hd, pre, le, ab, hb⟩
end
end Go.DL

/- Only temporaries are forgotten; all own blocks stay. -/
namespace Go.DL
open Go.RowKit Go.Proofs
set_option linter.unusedSectionVars false
variable [Tabs]

theorem Wk.keep {N n : Nat} {a a' : AL} {H : List Blk} (hd : Hd n a a') : Wk N n a H a' H := ⟨fun {G} hG hN {ds g ac w} ⟨A, φ, hr⟩ => ⟨A, φ, hr.rh, ⟨by simpa [T_length] using hr.tr.size, (fun i d u h1 h2 => by
    rw [T_get?] at h1
    split at h1
    · rename_i hi
      cases h1
      have h3 := hr.tr.val i (lk a i) u (by rw [T_get?, if_pos hi]) h2
      have h4 := hd.lk i
      have hb : Nat.blt i n = true := by simpa [Nat.blt_eq] using hi
      simp only [lkN, hb, cond_true] at h4
      exact h4.v h3
    · cases h1), hr.rh.la⟩, hr.gh, hr.df, hr.dk, hr.nd⟩⟩
end Go.DL

/- Walks of regions that draw their order, where calls leave own blocks and appends claim what they take. -/
namespace Go.DL
open Go.RowKit Go.Proofs

noncomputable section
set_option linter.unusedSectionVars false
variable [Tabs]

def shw (base : Nat) (ws : List (Option Nat)) : List (Option Nat) := ws.map (Option.map (base + ·))
theorem shw_get (base : Nat) (ws : List (Option Nat)) (k : Nat) : (shw base ws).getD k none = (ws.getD k none).map (base + ·) := by
  simp only [shw, List.getD_eq_getElem?_getD, List.getElem?_map]
  cases ws[k]? <;> rfl
theorem slotQ_shift (ops : List Oper) (base i : Nat) : slotQ ops base i = base + slotQ ops 0 i := by simp [slotQ]
theorem hidQ_shift (ops : List Oper) (an : List (List Nat)) (ws : List (Option Nat)) (base i : Nat) : hidQ ops an (shw base ws) base i = (hidQ ops an ws 0 i).map (base + ·) := by
  unfold hidQ
  rw [List.map_append, List.map_filterMap, List.map_filterMap]
  congr 1
  · congr 1; funext k
    split
    · split <;> simp
    · rfl
  · congr 1; funext k
    rw [shw_get]
    split <;> simp
theorem maskL_shift (base : Nat) : ∀ (hs : List Nat) (H : List Blk), maskL 0 (hs.map (base + ·)) H = maskL base hs H
  | [], _ => rfl
  | s :: hs, H => by
    have h := maskL_shift base hs (H.set (base + s) .free)
    simp only [maskL, List.map_cons, List.foldl_cons, Nat.zero_add] at h ⊢
    exact h
theorem bneS (base x b : Nat) : (base + x != base + b) = (x != b) := by
  rw [Bool.eq_iff_iff, bne_iff_ne, bne_iff_ne]; omega
theorem bneO (base x b : Nat) : (some (base + x) != some (base + b)) = (some x != some b) := by
  rw [Bool.eq_iff_iff, bne_iff_ne, bne_iff_ne]
  constructor
  · intro h e; cases e; exact h rfl
  · intro h e
    have e' : base + x = base + b := Option.some.inj e
    exact h (by rw [show x = b by omega])
theorem indepQ_shift (ops : List Oper) (an : List (List Nat)) (ws : List (Option Nat)) (base j i : Nat) : indepQ ops an (shw base ws) base j i = indepQ ops an ws 0 j i := by
  unfold indepQ
  cases ops[j]? with
  | none => rfl
  | some p =>
    cases ops[i]? with
    | none => rfl
    | some o =>
      simp only
      rw [shw_get, shw_get, slotQ_shift ops base j, slotQ_shift ops base i]
      generalize ws.getD j none = wj
      generalize ws.getD i none = wi
      cases wj <;> cases wi <;> simp only [Option.map_some, Option.map_none, bneS, bneO] <;> first | done | rfl
theorem drawQ_shift (ops : List Oper) (ws : List (Option Nat)) (base : Nat) : drawQ ops (shw base ws) base = drawQ ops ws 0 := by
  unfold drawQ
  simp only [indepQ_shift]

abbrev PlQ := List (Nat × List Nat × Option Nat)
def planQ (ops : List Oper) (ws : List (Option Nat)) : PlQ := (List.range ops.length).map fun i => (slotQ ops 0 i, hidQ ops (ancs ops []) ws 0 i, ws.getD i none)
def planP (P : Program) (ops : List Oper) (base : Nat) : PlQ → List Oper → List D → List Blk → TH → Prop
  | (s, hs, w) :: pl, o :: l, t, H, K => ∃ d e, ActsQ P ops o (base + s) t (maskL base hs H) d e ∧ effOk e (needsQ o) (w.map (base + ·)) = true ∧ planP P ops base pl l (setT t o.dst d) (e.app H (base + s)) K
  | _, _, t, H, K => K t H
theorem planP_run {P : Program} {ops : List Oper} {ws : List (Option Nat)} {base : Nat} {K : TH} : ∀ (m i : Nat) (st : St), i + m = ops.length → planP P ops base ((planQ ops ws).drop i) (ops.drop i) st.t st.H K →
    ∃ stf, RunQ P ops (ancs ops []) (shw base ws) base (List.range' i m) st stf ∧ stf.ds = st.ds ∧ stf.g = st.g ∧ K stf.t stf.H
  | 0, i, st, hi, h => by
    have h1 : ops.drop i = [] := List.drop_eq_nil_of_le (by omega)
    have h2 : (planQ ops ws).drop i = [] := List.drop_eq_nil_of_le (by simp [planQ]; omega)
    rw [h1, h2] at h
    exact ⟨st, rfl, rfl, rfl, h⟩
  | m + 1, i, st, hi, h => by
    have hlt : i < ops.length := by omega
    have hlt2 : i < (planQ ops ws).length := by simp [planQ]; omega
    rw [List.drop_eq_getElem_cons hlt, List.drop_eq_getElem_cons hlt2] at h
    have hg : (planQ ops ws)[i] = (slotQ ops 0 i, hidQ ops (ancs ops []) ws 0 i, ws.getD i none) := by simp [planQ]
    rw [hg] at h
    obtain ⟨d, e, h1, h2, h3⟩ := h
    obtain ⟨stf, r1, r2, r3, r4⟩ := planP_run m (i + 1) { t := setT st.t ops[i].dst d, H := e.app st.H (base + slotQ ops 0 i), ds := st.ds, g := st.g } (by omega) h3
    refine ⟨stf, ?_, r2, r3, r4⟩
    rw [List.range'_succ]
    refine ⟨_, ⟨ops[i], d, e, List.getElem?_eq_getElem hlt, ?_, ?_, rfl⟩, ?_⟩
    · rw [hidQ_shift, maskL_shift, slotQ_shift]; exact h1
    · rw [shw_get]; exact h2
    · rw [slotQ_shift]; exact r1

structure QT (E : Ev) (ops : List Oper) (base : Nat) (pl : PlQ) (l : List Oper) (n : Nat) (a : AL) (H : List Blk) (K : KP) : Prop where
  out : planP E.P ops base pl l (T n a) H fun t H => ∃ a', t = T n a' ∧ K a' H
section
variable {E : Ev} {ops r : List Oper} {base s : Nat} {hs : List Nat} {w : Option Nat} {pl : PlQ} {n : Nat} {a : AL} {H H' : List Blk} {K : KP} {i : Tmp} {op : Op} {ty : TypeId} {pos : String} {aft : Array Edge} {d : D}
theorem QT.nil (h : K a H) : QT E ops base pl [] n a H K := by
  refine ⟨?_⟩
  cases pl with
  | nil => exact ⟨a, rfl, h⟩
  | cons x pl => exact ⟨a, rfl, h⟩
theorem QT.done {Q : KX} {g : Gst} (hH : H.dropLast = H') (h : Q .normal a H' g) : QT E ops base pl [] n a H (KD Q g) := by
  subst hH; exact QT.nil h
theorem QT.stepG {o : Oper} {d : D} {e : Eff} (hg : o.guard = none) (hs' : stepD E.P (maskL base hs H) (base + s) (T n a) o.op = some (d, e)) (hk : effOk e (needsQ o) (w.map (base + ·)) = true) (h : QT E ops base pl r n (setA o.dst d a) (e.app H (base + s)) K) : QT E ops base ((s, hs, w) :: pl) (o :: r) n a H K := by
  refine ⟨d, e, ?_, hk, ?_⟩
  · unfold ActsQ
    simp only [hg]
    unfold goQ
    split
    · rename_i f args tys hop; rw [hop] at hs'; cases hs'
    · exact hs'
  · rw [setT_T]; exact h.out
theorem QT.v (hv : Val E.P (maskL base hs H) (base + s) n a op d) (h : QT E ops base pl r n ((i, d) :: a) H K) : QT E ops base ((s, hs, w) :: pl) (⟨some i, op, ty, pos, aft, none⟩ :: r) n a H K := QT.stepG (e := .keep) rfl hv.out rfl h
end
section
variable {E : Ev} {n : Nat} {a : AL} {H : List Blk} {g : Gst} {c : Code} {Q : KX}
theorem VT.drawQ (ws : List (Option Nat)) (pl : PlQ) (k : Nat) {l : List Oper} {base : Nat} {H1 : List Blk} (hm : E.P.follows .mixedOrders = true) (hc : regC c = some (true, l.toArray)) (hd : drawQ l ws 0 = true) (hp : planQ l ws = pl) (hk : slotsQ l + 1 = k) (hb : H.length = base)
    (hH : H ++ List.replicate k .free = H1) (h : QT E l base pl l n a H1 (KD Q g)) : VT E c n a H g Q := by
  subst hk; subst hb; subst hH; subst hp
  cases c with
  | region id ops d =>
    cases hc
    refine ⟨fun ro G hE ds => ?_⟩
    obtain ⟨stf, h1, h2, h3, a', h4, h5⟩ := planP_run (P := E.P) (ops := l) (ws := ws) (base := H.length) (K := fun t H => ∃ a', t = T n a' ∧ KD Q g a' H) l.length 0 { t := T n a, H := H ++ List.replicate (slotsQ l + 1) .free, ds := ds, g := g } (by omega) (by simpa using h.out)
    rw [← List.range_eq_range'] at h1
    refine Sp_drawQ hE.st hE.yk hm (shw H.length ws) (by rw [drawQ_shift]; exact hd) h1 ?_
    simp only at h2 h3 h4
    exact ⟨a', h4, by rw [h3]; exact h5⟩
  | _ => cases hc
end
theorem QT.new {E : Ev} {ops r : List Oper} {base s : Nat} {hs : List Nat} {w : Option Nat} {pl : PlQ} {n : Nat} {a : AL} {H H' : List Blk} {K : KP} {i : Tmp} {op : Op} {ty : TypeId} {pos : String} {aft : Array Edge} {d : D} {k : Blk} {s' : Nat} (hn : needsQ ⟨some i, op, ty, pos, aft, none⟩ = true) (hs' : base + s = s') (hv : Mk E.P (maskL base hs H) s' n a op d k) (hH : H.set s' k = H') (h : QT E ops base pl r n ((i, d) :: a) H' K) : QT E ops base ((s, hs, w) :: pl) (⟨some i, op, ty, pos, aft, none⟩ :: r) n a H K := by
  subst hs'; subst hH; exact QT.stepG (e := .put k) rfl hv.out hn h
end
end Go.DL

/- Walks of regions that draw their order, where operations claim blocks of the region and blocks that were there before. -/
namespace Go.DL
open Go.RowKit Go.Proofs

noncomputable section
set_option linter.unusedSectionVars false
variable [Tabs]
/-- Numbers of blocks in a plan: first those that were there before, then those of the region. -/
def rho (ab : List Nat) (base i : Nat) : Nat := ab.getD i (base + (i - ab.length))
section
variable (ab : List Nat) (base : Nat)
end
def planS (P : Program) (ops : List Oper) (ab : List Nat) (base : Nat) : PlQ → List Oper → List D → List Blk → TH → Prop
  | (s, hs, w) :: pl, o :: l, t, H, K => ∃ d e, ActsQ P ops o (base + s) t (maskL 0 (hs.map (rho ab base)) H) d e ∧ effOk e (needsQ o) (w.map (rho ab base)) = true ∧ planS P ops ab base pl l (setT t o.dst d) (e.app H (base + s)) K
  | _, _, t, H, K => K t H
structure ST (E : Ev) (ops : List Oper) (ab : List Nat) (base : Nat) (pl : PlQ) (l : List Oper) (n : Nat) (a : AL) (H : List Blk) (K : KP) : Prop where
  out : planS E.P ops ab base pl l (T n a) H fun t H => ∃ a', t = T n a' ∧ K a' H
section
variable {E : Ev} {ops r : List Oper} {ab : List Nat} {base s : Nat} {hs : List Nat} {w : Option Nat} {pl : PlQ} {n : Nat} {a : AL} {H H' : List Blk} {K : KP} {i : Tmp} {op : Op} {ty : TypeId} {pos : String} {aft : Array Edge} {d : D}
theorem ST.nil (h : K a H) : ST E ops ab base pl [] n a H K := by
  refine ⟨?_⟩
  cases pl with
  | nil => exact ⟨a, rfl, h⟩
  | cons x pl => exact ⟨a, rfl, h⟩
theorem ST.done {Q : KX} {g : Gst} (hH : H.dropLast = H') (h : Q .normal a H' g) : ST E ops ab base pl [] n a H (KD Q g) := by
  subst hH; exact ST.nil h
theorem ST.stepG {o : Oper} {d : D} {e : Eff} (hg : o.guard = none) (hs' : stepD E.P (maskL 0 (hs.map (rho ab base)) H) (base + s) (T n a) o.op = some (d, e)) (hk : effOk e (needsQ o) (w.map (rho ab base)) = true) (h : ST E ops ab base pl r n (setA o.dst d a) (e.app H (base + s)) K) : ST E ops ab base ((s, hs, w) :: pl) (o :: r) n a H K := by
  refine ⟨d, e, ?_, hk, ?_⟩
  · unfold ActsQ
    simp only [hg]
    unfold goQ
    split
    · rename_i f args tys hop; rw [hop] at hs'; cases hs'
    · exact hs'
  · rw [setT_T]; exact h.out
theorem ST.v (hv : Val E.P (maskL 0 (hs.map (rho ab base)) H) (base + s) n a op d) (h : ST E ops ab base pl r n ((i, d) :: a) H K) : ST E ops ab base ((s, hs, w) :: pl) (⟨some i, op, ty, pos, aft, none⟩ :: r) n a H K := ST.stepG (e := .keep) rfl hv.out rfl h
theorem ST.new {k : Blk} {s' : Nat} (hn : needsQ ⟨some i, op, ty, pos, aft, none⟩ = true) (hs' : base + s = s') (hv : Mk E.P (maskL 0 (hs.map (rho ab base)) H) s' n a op d k) (hH : H.set s' k = H') (h : ST E ops ab base pl r n ((i, d) :: a) H' K) : ST E ops ab base ((s, hs, w) :: pl) (⟨some i, op, ty, pos, aft, none⟩ :: r) n a H K := by
  subst hs'; subst hH; exact ST.stepG (e := .put k) rfl hv.out hn h
theorem ST.wr {b q : Nat} {k : Blk} (hb : rho ab base q = b) (hn : needsQ ⟨none, op, ty, pos, aft, none⟩ = true) (hv : Wr E.P (maskL 0 (hs.map (rho ab base)) H) (base + s) n a op b k) (hH : H.set b k = H') (h : ST E ops ab base pl r n a H' K) : ST E ops ab base ((s, hs, some q) :: pl) (⟨none, op, ty, pos, aft, none⟩ :: r) n a H K := by
  subst hH; subst hb; exact ST.stepG (e := .upd (rho ab base q) k) rfl hv.out (by simp [effOk, hn]) h
theorem ST.ap {s' b q m : Nat} {k : Blk} (hb : rho ab base q = b) (hn : needsQ ⟨some i, op, ty, pos, aft, none⟩ = true) (hs' : base + s = s') (hv : Ap E.P (maskL 0 (hs.map (rho ab base)) H) s' n a op m (some b) k) (hH : (killO H (some b)).set s' k = H') (h : ST E ops ab base pl r n ((i, .ms s' 0 m m) :: a) H' K) : ST E ops ab base ((s, hs, some q) :: pl) (⟨some i, op, ty, pos, aft, none⟩ :: r) n a H K := by
  subst hs'; subst hH; subst hb; exact ST.stepG (e := .ren (some (rho ab base q)) k) rfl hv.out (by simp [effOk, hn]) h
theorem ST.callM {dst : Option Tmp} {f : Operand} {args : List Operand} {tys : Array TypeId} {f' : FuncId} {xs ys : List D} (hc : callA n a f args = some (f', xs))
    (hm : Maps E.P f' ys d) (hy : xs.map (snap (fun b => (maskL 0 (hs.map (rho ab base)) H)[b]?) 5) = ys) (hd : freshD 5 d = true) (h : ST E ops ab base pl r n (setA dst d a) H K) :
    ST E ops ab base ((s, hs, w) :: pl) (⟨dst, .call { callee := .value f, args := args.toArray, argTypes := tys }, ty, pos, aft, none⟩ :: r) n a H K := by
  have hc' : callD (T n a) f args = some (f', xs) := callD_T.trans hc
  refine ⟨d, .keep, ?_, rfl, ?_⟩
  · unfold ActsQ
    simp only
    unfold goQ
    simp only [hc']
    exact .inl ⟨by rw [hy]; exact hm, hd, trivial⟩
  · rw [setT_T]; exact h.out
end
/-- What is not hidden is seen. -/
theorem mskR {ab : List Nat} {base b : Nat} {hs : List Nat} {H : List Blk} {x : Blk} (h : H[b]? = some x) (hn : ∀ i, i ∈ hs → rho ab base i ≠ b) : (maskL 0 (hs.map (rho ab base)) H)[b]? = some x := by
  rw [maskL_get, if_neg, h]
  rintro ⟨⟨c, hc, hb⟩, _⟩
  obtain ⟨i, hi, rfl⟩ := List.mem_map.1 hc
  exact hn i hi (by omega)
section
variable {E : Ev} {n : Nat} {a : AL} {H : List Blk} {g : Gst} {c : Code} {Q : KX}
end
end
end Go.DL

/- The steps of walks in drawn regions with claims, with what may be said of the operations as automatic arguments. -/
namespace Go.DL
open Go.RowKit Go.Proofs

noncomputable section
set_option linter.unusedSectionVars false
variable [Tabs]
section
variable {E : Ev} {ops r l : List Oper} {ab : List Nat} {base s : Nat} {hs : List Nat} {cw : Option Nat} {pl : PlQ} {n : Nat} {a : AL} {H H' : List Blk} {K : KP} {dst : Option Tmp} {i : Tmp} {op : Op} {x y z : Operand} {tx ty ty' : TypeId} {pos : String} {aft : Array Edge} {f : Nat} {bo : BinOp} {uo : UnOp} {cl : Call} {d : D}
theorem ST.mvA (h : ST E ops ab base pl r n ((i, d) :: a) H K) (hv : Val E.P (maskL 0 (hs.map (rho ab base)) H) (base + s) n a (.move x) d := by first | exact f_mvV rfl | exact f_mvS rfl | exact f_mvF rfl | exact f_mvO rfl | exact f_mvP rfl | exact f_mvR rfl | exact f_mvA rfl | exact f_mvT rfl | exact f_mvN rfl | exact f_mvU rfl | exact f_mvX rfl) : ST E ops ab base ((s, hs, cw) :: pl) (⟨some i, .move x, ty, pos, aft, none⟩ :: r) n a H K := ST.v hv h
theorem ST.asA (h : ST E ops ab base pl r n ((i, d) :: a) H K) (hv : Val E.P (maskL 0 (hs.map (rho ab base)) H) (base + s) n a (.assign x) d := by first | exact f_asV rfl | exact f_asS rfl | exact f_asF rfl | exact f_asO rfl | exact f_asP rfl | exact f_asR rfl | exact f_asA rfl | exact f_asT rfl | exact f_asN rfl | exact f_asU rfl | exact f_asX rfl) : ST E ops ab base ((s, hs, cw) :: pl) (⟨some i, .assign x, ty, pos, aft, none⟩ :: r) n a H K := ST.v hv h
theorem ST.ldA (h : ST E ops ab base pl r n ((i, d) :: a) H K) (hv : Val E.P (maskL 0 (hs.map (rho ab base)) H) (base + s) n a (.load tx x) d := by first | exact f_ldV rfl rfl | exact f_ldO rfl rfl rfl rfl rfl | exact f_ldW rfl rfl (by (first | omega | (simp only [List.length_set, List.length_replicate, List.length_append, List.length_map, List.length_cons, List.length_nil]; omega))) rfl | exact f_ldS rfl rfl | exact f_ldFl rfl rfl | exact f_ldOW rfl rfl rfl rfl rfl rfl | exact f_ldG rfl rfl rfl | exact f_ldA rfl rfl rfl rfl (by first | (simp only [nrm]; rfl) | (simp only [nrm, Nat.reduceAdd, Nat.zero_add]; rfl) | rfl)) : ST E ops ab base ((s, hs, cw) :: pl) (⟨some i, .load tx x, ty, pos, aft, none⟩ :: r) n a H K := ST.v hv h
theorem ST.faA (h : ST E ops ab base pl r n ((i, d) :: a) H K) (hv : Val E.P (maskL 0 (hs.map (rho ab base)) H) (base + s) n a (.fieldAddr tx x f) d := by first | exact f_fa0 rfl rfl (Nat.succ_ne_zero _) | exact f_fa1 rfl rfl (Nat.succ_ne_zero _) | exact f_fa2 rfl rfl (Nat.succ_ne_zero _) | exact f_fa3 rfl rfl (Nat.succ_ne_zero _) | exact f_faO0 (o := 0) rfl rfl (Nat.succ_ne_zero _) | exact f_faO0 (o := 1) rfl rfl (Nat.succ_ne_zero _) | exact f_faO0 (o := 2) rfl rfl (Nat.succ_ne_zero _) | exact f_faO0 (o := 3) rfl rfl (Nat.succ_ne_zero _) | exact f_faO0 rfl rfl (Nat.succ_ne_zero _) | exact f_faO rfl rfl (Nat.succ_ne_zero _)) : ST E ops ab base ((s, hs, cw) :: pl) (⟨some i, .fieldAddr tx x f, ty, pos, aft, none⟩ :: r) n a H K := ST.v hv h
theorem ST.bnA (h : ST E ops ab base pl r n ((i, d) :: a) H K) (hv : Val E.P (maskL 0 (hs.map (rho ab base)) H) (base + s) n a (.binOp bo tx x y ty') d := by first | exact f_lss rfl rfl | exact f_add rfl rfl (by omega) (by omega) | exact f_eql rfl rfl | exact f_neq rfl rfl | exact f_leq rfl rfl | exact f_gtr rfl rfl | exact f_geq rfl rfl | exact f_sub rfl rfl (by omega) (by omega) | exact f_mul rfl rfl (by omega) (by omega) | exact f_rem rfl rfl (by omega) (by omega) | exact f_quo rfl rfl (by omega) (by omega) (by omega)) : ST E ops ab base ((s, hs, cw) :: pl) (⟨some i, .binOp bo tx x y ty', ty, pos, aft, none⟩ :: r) n a H K := ST.v hv h
theorem ST.pkA (h : ST E ops ab base pl r n ((i, d) :: a) H K) (hv : Val E.P (maskL 0 (hs.map (rho ab base)) H) (base + s) n a (.pick x y z) d := by first | exact f_pickTV rfl rfl | exact f_pickFV rfl rfl) : ST E ops ab base ((s, hs, cw) :: pl) (⟨some i, .pick x y z, ty, pos, aft, none⟩ :: r) n a H K := ST.v hv h
theorem ST.exA (h : ST E ops ab base pl r n ((i, d) :: a) H K) (hv : Val E.P (maskL 0 (hs.map (rho ab base)) H) (base + s) n a (.extract x f) d := by exact f_ext rfl rfl) : ST E ops ab base ((s, hs, cw) :: pl) (⟨some i, .extract x f, ty, pos, aft, none⟩ :: r) n a H K := ST.v hv h
theorem ST.unA (h : ST E ops ab base pl r n ((i, d) :: a) H K) (hv : Val E.P (maskL 0 (hs.map (rho ab base)) H) (base + s) n a (.unOp uo tx x) d := by first | exact f_notT rfl | exact f_notF rfl | exact f_notD rfl | exact f_not rfl | exact f_neg rfl (by omega) (by omega)) : ST E ops ab base ((s, hs, cw) :: pl) (⟨some i, .unOp uo tx x, ty, pos, aft, none⟩ :: r) n a H K := ST.v hv h
theorem ST.clA (h : ST E ops ab base pl r n ((i, d) :: a) H K) (hv : Val E.P (maskL 0 (hs.map (rho ab base)) H) (base + s) n a (.call cl) d := by first | exact f_lenM rfl rfl | exact f_lenF rfl rfl | exact f_lenO rfl rfl | exact f_lenN rfl rfl | exact f_max rfl rfl | exact f_min rfl rfl) : ST E ops ab base ((s, hs, cw) :: pl) (⟨some i, .call cl, ty, pos, aft, none⟩ :: r) n a H K := ST.v hv h
theorem ST.msA (h : ST E ops ab base pl r n ((i, d) :: a) H K) (hv : Val E.P (maskL 0 (hs.map (rho ab base)) H) (base + s) n a (op) d := by first | exact f_slHi rfl rfl (by first | with_reducible exact castR _ | with_reducible exact castS _ | rfl | omega) (by omega) rfl | exact f_slLo rfl rfl (by first | with_reducible exact castR _ | with_reducible exact castS _ | rfl | omega) (by omega) rfl (fun _ => rfl) | exact f_build rfl | exact f_mkf (by first | (simp only [nrm]; rfl) | (simp only [nrm, Nat.reduceAdd, Nat.zero_add]; rfl) | rfl) (by first | (simp only [nrm]; rfl) | (simp only [nrm, Nat.reduceAdd, Nat.zero_add]; rfl) | rfl) | exact f_fd rfl rfl rfl) : ST E ops ab base ((s, hs, cw) :: pl) (⟨some i, op, ty, pos, aft, none⟩ :: r) n a H K := ST.v hv h
end
end
end Go.DL

/- Maps whose keys are words, as lists of pairs: a look, a write, their number. -/
set_option maxRecDepth 100000
namespace Go.DL
open Go.RowKit Go.Proofs

noncomputable section
set_option linter.unusedSectionVars false
variable [Tabs]

abbrev KV := List (Int × D)
abbrev kW (k : Int) : Value := .int .i64 k
def tabE : Nat → KV → List (Value × D × Nat)
  | _, [] => []
  | j, p :: r => (kW p.1, p.2, j) :: tabE (j + 1) r
/-- A map with these pairs. -/
def tabB (kv : KV) : Blk := .tab kv.length (tabE 0 kv)

theorem tabE_len : ∀ (kv : KV) (j : Nat), (tabE j kv).length = kv.length
  | [], _ => rfl
  | _ :: r, j => by simp [tabE, tabE_len r]
section
variable {P : Program} {H : List Blk} {s n : Nat} {al : AL} {tx ty' : TypeId} {x y z : Operand} {k : Int} {b : Nat} {kv : KV} {te : TypeId}
theorem f_mvM (hx : evA n al x = .mm b) : Val P H s n al (.move x) (.mm b) := ⟨by simp [stepD, ev_T, hx]⟩
theorem f_asM (hx : evA n al x = .mm b) : Val P H s n al (.assign x) (.mm b) := ⟨by simp [stepD, ev_T, hx]⟩
end
/-- How many pairs a map has. -/
theorem RT.lenM {E : Ev} {ops r : List Oper} {n : Nat} {a : AL} {H : List Blk} {g : Gst} {K : KA} {i : Tmp} {x : Operand} {t kt et ty : TypeId} {pos : String} {aft : Array Edge} {b : Nat} {kv : KV} (hx : evA n a x = .mm b) (hu : E.P.underlying t = some (.map kt et))
    (hb : H[b]? = some (tabB kv)) (h : RT E ops r n ((i, wI kv.length) :: a) H g K) : RT E ops (⟨some i, .call { callee := .builtin .len, args := #[x], argTypes := #[t] }, ty, pos, aft, none⟩ :: r) n a H g K := by
  refine ⟨fun ro G hE ds Q hQ ac w hr => ?_⟩
  unfold wpListIn
  rw [if_pos (by simp [Region.wanted])]
  obtain ⟨A, φ, hr⟩ := hr
  have hv := hr.tr.ev x
  rw [ev_T, hx] at hv
  have hrun : (execOp ac.eval ⟨some i, .call { callee := .builtin .len, args := #[x], argTypes := #[t] }, ty, pos, aft, none⟩).run E.P w = .ok (.value (.int .i64 kv.length)) w := by
    have h3 : execOp ac.eval ⟨some i, .call { callee := .builtin .len, args := #[x], argTypes := #[t] }, ty, pos, aft, none⟩ = (do pure (.value (← Builtin.len_ #[t] ty #[ac.eval x]))) := by
      simp only [execOp, resolve, invoke]
      simp [builtin]
    have h4 := run_lenTab (P := E.P) (tx := ty) hr hu hv hb
    rw [tabE_len] at h4
    rw [h3, Sem.run_bind, h4]; rfl
  refine ⟨fun _ _ => trivial, ?_⟩
  rw [Oper.semAt_eq _ _ _ (by simp), hrun]
  have hr3 := hr.value (some i) (d := wI kv.length) (x := .int .i64 kv.length) (.v _ _)
  simp only [setT_T] at hr3
  exact h.out ro G hE ds Q hQ _ _ ⟨A, _, hr3⟩
end
end Go.DL

/- Steps over own blocks that are known by facts of the context. -/
namespace Go.DL
open Go.RowKit Go.Proofs

noncomputable section
set_option linter.unusedSectionVars false
variable [Tabs]
section
variable {H T : List Blk} {i j : Nat} {x y : Blk}
theorem hg_lt (h : H[i]? = some x) : i < H.length := (List.getElem?_eq_some_iff.1 h).1
theorem hg_app (T : List Blk) (h : H[i]? = some x) : (H ++ T)[i]? = some x := by
  rw [List.getElem?_append_left (hg_lt h)]; exact h
theorem hg_ne (h : H[i]? = some x) (hn : j ≠ i) : (H.set j y)[i]? = some x := by
  rw [List.getElem?_set_ne hn]; exact h
theorem hg_self (h : j < H.length) : (H.set j y)[j]? = some y := List.getElem?_set_self h
theorem hg_new : (H ++ x :: T)[H.length]? = some x := by
  rw [List.getElem?_append_right (Nat.le_refl _), Nat.sub_self]; rfl
theorem hg_at {t l : Nat} (hl : H.length = l) (h : T[t]? = some x) : (H ++ T)[l + t]? = some x := by
  subst hl
  rw [List.getElem?_append_right (by omega)]
  rw [show H.length + t - H.length = t by omega]; exact h
end
section
variable {P : Program} {H : List Blk} {s n : Nat} {al : AL} {tx : TypeId} {x y : Operand} {a : Int}
theorem f_ldWD {bk k : Nat} {o : List Int} (hx : evA n al x = .mp bk k 0) (hb : H[bk]? = some (.live 1 (o.map eI))) (hk : k < o.length) (ht : isAggD P tx = some false) : Val P H s n al (.load tx x) (wI (o.getD k 0)) := by
  have h := f_ldW (s := s) hx hb hk ht
  have e : o.getD k 0 = o[k] := by rw [List.getD_eq_getElem?_getD, List.getElem?_eq_getElem hk]; rfl
  rw [e]; exact h
theorem f_ldM {α : Type} {f : α → List D} {l : List α} {bk k fo sz : Nat} {rest : List D} {d : D} (hx : evA n al x = .mp bk k fo) (hb : H[bk]? = some (.live sz (l.map f))) (hk : k < l.length) (hd : (f l[k]).drop fo = d :: rest) (ht : isAggD P tx = some false) : Val P H s n al (.load tx x) d :=
  f_ldO hx hb (by rw [List.getElem?_map, List.getElem?_eq_getElem hk]; rfl) hd ht
theorem f_ldMW {α : Type} {f : α → List D} {l : List α} {bk k sz m : Nat} (hx : evA n al x = .mp bk k 0) (hb : H[bk]? = some (.live sz (l.map f))) (hk : k < l.length) (ht : isAggD P tx = some true) (hs : tsz P tx = some m) (hn : (f l[k]).length = m) : Val P H s n al (.load tx x) (.agg (f l[k])) :=
  f_ldOW hx hb (by rw [List.getElem?_map, List.getElem?_eq_getElem hk]; rfl) ht hs hn
end
section
variable {E : Ev} {ops r : List Oper} {n : Nat} {a : AL} {H H' : List Blk} {g : Gst} {K : KA} {dst : Option Tmp} {i : Tmp} {op : Op} {x y z : Operand} {tx ty ty' : TypeId} {pos : String} {aft : Array Edge} {f : Nat} {d : D}
theorem RT.mvM (h : RT E ops r n ((i, d) :: a) H g K) (hv : Val E.P H H.length n a (.move x) d := by exact f_mvM rfl) : RT E ops (⟨some i, .move x, ty, pos, aft, none⟩ :: r) n a H g K := RT.v hv h
theorem RT.asM (h : RT E ops r n ((i, d) :: a) H g K) (hv : Val E.P H H.length n a (.assign x) d := by exact f_asM rfl) : RT E ops (⟨some i, .assign x, ty, pos, aft, none⟩ :: r) n a H g K := RT.v hv h
theorem RT.ldH (h : RT E ops r n ((i, d) :: a) H g K) (hv : Val E.P H H.length n a (.load tx x) d := by first | exact f_ldO rfl (by repeat (first | assumption | exact hg_new | exact hg_at (by first | rfl | simp) rfl | exact hg_self (by first | assumption | omega | (simp only [List.length_set, List.length_append, List.length_cons, List.length_nil, List.length_map, List.length_replicate]; omega)) | refine hg_app _ ?_ | refine hg_ne ?_ (by first | assumption | omega) | refine mskR ?_ (by first | (simp [rho, -List.length_eq_zero_iff]; done) | (simp [rho, -List.length_eq_zero_iff]; omega)))) rfl rfl rfl | exact f_ldOW rfl (by repeat (first | assumption | exact hg_new | exact hg_at (by first | rfl | simp) rfl | exact hg_self (by first | assumption | omega | (simp only [List.length_set, List.length_append, List.length_cons, List.length_nil, List.length_map, List.length_replicate]; omega)) | refine hg_app _ ?_ | refine hg_ne ?_ (by first | assumption | omega) | refine mskR ?_ (by first | (simp [rho, -List.length_eq_zero_iff]; done) | (simp [rho, -List.length_eq_zero_iff]; omega)))) rfl rfl rfl rfl | exact f_ldWD rfl (by repeat (first | assumption | exact hg_new | exact hg_at (by first | rfl | simp) rfl | exact hg_self (by first | assumption | omega | (simp only [List.length_set, List.length_append, List.length_cons, List.length_nil, List.length_map, List.length_replicate]; omega)) | refine hg_app _ ?_ | refine hg_ne ?_ (by first | assumption | omega) | refine mskR ?_ (by first | (simp [rho, -List.length_eq_zero_iff]; done) | (simp [rho, -List.length_eq_zero_iff]; omega)))) (by first | assumption | omega | (simp only [List.length_set, List.length_append, List.length_cons, List.length_nil, List.length_map, List.length_replicate]; omega)) rfl | exact f_ldM rfl (by repeat (first | assumption | exact hg_new | exact hg_at (by first | rfl | simp) rfl | exact hg_self (by first | assumption | omega | (simp only [List.length_set, List.length_append, List.length_cons, List.length_nil, List.length_map, List.length_replicate]; omega)) | refine hg_app _ ?_ | refine hg_ne ?_ (by first | assumption | omega) | refine mskR ?_ (by first | (simp [rho, -List.length_eq_zero_iff]; done) | (simp [rho, -List.length_eq_zero_iff]; omega)))) (by first | assumption | omega | (simp only [List.length_set, List.length_append, List.length_cons, List.length_nil, List.length_map, List.length_replicate]; omega)) rfl rfl | exact f_ldMW rfl (by repeat (first | assumption | exact hg_new | exact hg_at (by first | rfl | simp) rfl | exact hg_self (by first | assumption | omega | (simp only [List.length_set, List.length_append, List.length_cons, List.length_nil, List.length_map, List.length_replicate]; omega)) | refine hg_app _ ?_ | refine hg_ne ?_ (by first | assumption | omega) | refine mskR ?_ (by first | (simp [rho, -List.length_eq_zero_iff]; done) | (simp [rho, -List.length_eq_zero_iff]; omega)))) (by first | assumption | omega | (simp only [List.length_set, List.length_append, List.length_cons, List.length_nil, List.length_map, List.length_replicate]; omega)) rfl rfl rfl) : RT E ops (⟨some i, .load tx x, ty, pos, aft, none⟩ :: r) n a H g K := RT.v hv h
theorem RT.stH {b : Nat} {k : Blk} (h : RT E ops r n a H' g K) (hv : Wr E.P H H.length n a (.store tx x y) b k := by first | exact f_stW rfl (by repeat (first | assumption | exact hg_new | exact hg_at (by first | rfl | simp) rfl | exact hg_self (by first | assumption | omega | (simp only [List.length_set, List.length_append, List.length_cons, List.length_nil, List.length_map, List.length_replicate]; omega)) | refine hg_app _ ?_ | refine hg_ne ?_ (by first | assumption | omega) | refine mskR ?_ (by first | (simp [rho, -List.length_eq_zero_iff]; done) | (simp [rho, -List.length_eq_zero_iff]; omega)))) (by first | assumption | omega | (simp only [List.length_set, List.length_append, List.length_cons, List.length_nil, List.length_map, List.length_replicate]; omega)) rfl rfl | exact f_stV rfl (by repeat (first | assumption | exact hg_new | exact hg_at (by first | rfl | simp) rfl | exact hg_self (by first | assumption | omega | (simp only [List.length_set, List.length_append, List.length_cons, List.length_nil, List.length_map, List.length_replicate]; omega)) | refine hg_app _ ?_ | refine hg_ne ?_ (by first | assumption | omega) | refine mskR ?_ (by first | (simp [rho, -List.length_eq_zero_iff]; done) | (simp [rho, -List.length_eq_zero_iff]; omega)))) rfl rfl rfl rfl rfl | exact f_stA rfl (by repeat (first | assumption | exact hg_new | exact hg_at (by first | rfl | simp) rfl | exact hg_self (by first | assumption | omega | (simp only [List.length_set, List.length_append, List.length_cons, List.length_nil, List.length_map, List.length_replicate]; omega)) | refine hg_app _ ?_ | refine hg_ne ?_ (by first | assumption | omega) | refine mskR ?_ (by first | (simp [rho, -List.length_eq_zero_iff]; done) | (simp [rho, -List.length_eq_zero_iff]; omega)))) rfl rfl rfl rfl rfl (by first | decide | exact Nat.le_refl _) rfl | exact f_st rfl (by repeat (first | assumption | exact hg_new | exact hg_at (by first | rfl | simp) rfl | exact hg_self (by first | assumption | omega | (simp only [List.length_set, List.length_append, List.length_cons, List.length_nil, List.length_map, List.length_replicate]; omega)) | refine hg_app _ ?_ | refine hg_ne ?_ (by first | assumption | omega) | refine mskR ?_ (by first | (simp [rho, -List.length_eq_zero_iff]; done) | (simp [rho, -List.length_eq_zero_iff]; omega)))) rfl rfl rfl rfl rfl rfl (by first | decide | exact Nat.le_refl _) rfl) (hH : H.set b k = H' := by rfl) : RT E ops (⟨none, .store tx x y, ty, pos, aft, none⟩ :: r) n a H g K := RT.wr hv hH h
theorem RT.lnH {t kt et : TypeId} {b : Nat} {kv : KV} (h : RT E ops r n ((i, wI kv.length) :: a) H g K) (hx : evA n a x = .mm b := by rfl) (hu : E.P.underlying t = some (.map kt et) := by rfl) (hb : H[b]? = some (tabB kv) := by exact (by repeat (first | assumption | exact hg_new | exact hg_at (by first | rfl | simp) rfl | exact hg_self (by first | assumption | omega | (simp only [List.length_set, List.length_append, List.length_cons, List.length_nil, List.length_map, List.length_replicate]; omega)) | refine hg_app _ ?_ | refine hg_ne ?_ (by first | assumption | omega) | refine mskR ?_ (by first | (simp [rho, -List.length_eq_zero_iff]; done) | (simp [rho, -List.length_eq_zero_iff]; omega))))) : RT E ops (⟨some i, .call { callee := .builtin .len, args := #[x], argTypes := #[t] }, ty, pos, aft, none⟩ :: r) n a H g K := RT.lenM hx hu hb h
end
section
variable {E : Ev} {ops r : List Oper} {base s : Nat} {hs : List Nat} {pl : List (Nat × List Nat)} {n : Nat} {a : AL} {H H' : List Blk} {K : KP} {dst : Option Tmp} {i : Tmp} {op : Op} {x y z : Operand} {tx ty ty' : TypeId} {pos : String} {aft : Array Edge} {f : Nat} {d : D}
end
section
variable {E : Ev} {ops r : List Oper} {ab : List Nat} {base s : Nat} {hs : List Nat} {cw : Option Nat} {pl : PlQ} {n : Nat} {a : AL} {H H' : List Blk} {K : KP} {dst : Option Tmp} {i : Tmp} {op : Op} {x y z : Operand} {tx ty ty' : TypeId} {pos : String} {aft : Array Edge} {f : Nat} {d : D}
theorem ST.mvM (h : ST E ops ab base pl r n ((i, d) :: a) H K) (hv : Val E.P (maskL 0 (hs.map (rho ab base)) H) (base + s) n a (.move x) d := by exact f_mvM rfl) : ST E ops ab base ((s, hs, cw) :: pl) (⟨some i, .move x, ty, pos, aft, none⟩ :: r) n a H K := ST.v hv h
theorem ST.asM (h : ST E ops ab base pl r n ((i, d) :: a) H K) (hv : Val E.P (maskL 0 (hs.map (rho ab base)) H) (base + s) n a (.assign x) d := by exact f_asM rfl) : ST E ops ab base ((s, hs, cw) :: pl) (⟨some i, .assign x, ty, pos, aft, none⟩ :: r) n a H K := ST.v hv h
theorem ST.ldH (h : ST E ops ab base pl r n ((i, d) :: a) H K) (hv : Val E.P (maskL 0 (hs.map (rho ab base)) H) (base + s) n a (.load tx x) d := by first | exact f_ldO rfl (by repeat (first | assumption | exact hg_new | exact hg_at (by first | rfl | simp) rfl | exact hg_self (by first | assumption | omega | (simp only [List.length_set, List.length_append, List.length_cons, List.length_nil, List.length_map, List.length_replicate]; omega)) | refine hg_app _ ?_ | refine hg_ne ?_ (by first | assumption | omega) | refine mskR ?_ (by first | (simp [rho, -List.length_eq_zero_iff]; done) | (simp [rho, -List.length_eq_zero_iff]; omega)))) rfl rfl rfl | exact f_ldOW rfl (by repeat (first | assumption | exact hg_new | exact hg_at (by first | rfl | simp) rfl | exact hg_self (by first | assumption | omega | (simp only [List.length_set, List.length_append, List.length_cons, List.length_nil, List.length_map, List.length_replicate]; omega)) | refine hg_app _ ?_ | refine hg_ne ?_ (by first | assumption | omega) | refine mskR ?_ (by first | (simp [rho, -List.length_eq_zero_iff]; done) | (simp [rho, -List.length_eq_zero_iff]; omega)))) rfl rfl rfl rfl | exact f_ldWD rfl (by repeat (first | assumption | exact hg_new | exact hg_at (by first | rfl | simp) rfl | exact hg_self (by first | assumption | omega | (simp only [List.length_set, List.length_append, List.length_cons, List.length_nil, List.length_map, List.length_replicate]; omega)) | refine hg_app _ ?_ | refine hg_ne ?_ (by first | assumption | omega) | refine mskR ?_ (by first | (simp [rho, -List.length_eq_zero_iff]; done) | (simp [rho, -List.length_eq_zero_iff]; omega)))) (by first | assumption | omega | (simp only [List.length_set, List.length_append, List.length_cons, List.length_nil, List.length_map, List.length_replicate]; omega)) rfl | exact f_ldM rfl (by repeat (first | assumption | exact hg_new | exact hg_at (by first | rfl | simp) rfl | exact hg_self (by first | assumption | omega | (simp only [List.length_set, List.length_append, List.length_cons, List.length_nil, List.length_map, List.length_replicate]; omega)) | refine hg_app _ ?_ | refine hg_ne ?_ (by first | assumption | omega) | refine mskR ?_ (by first | (simp [rho, -List.length_eq_zero_iff]; done) | (simp [rho, -List.length_eq_zero_iff]; omega)))) (by first | assumption | omega | (simp only [List.length_set, List.length_append, List.length_cons, List.length_nil, List.length_map, List.length_replicate]; omega)) rfl rfl | exact f_ldMW rfl (by repeat (first | assumption | exact hg_new | exact hg_at (by first | rfl | simp) rfl | exact hg_self (by first | assumption | omega | (simp only [List.length_set, List.length_append, List.length_cons, List.length_nil, List.length_map, List.length_replicate]; omega)) | refine hg_app _ ?_ | refine hg_ne ?_ (by first | assumption | omega) | refine mskR ?_ (by first | (simp [rho, -List.length_eq_zero_iff]; done) | (simp [rho, -List.length_eq_zero_iff]; omega)))) (by first | assumption | omega | (simp only [List.length_set, List.length_append, List.length_cons, List.length_nil, List.length_map, List.length_replicate]; omega)) rfl rfl rfl) : ST E ops ab base ((s, hs, cw) :: pl) (⟨some i, .load tx x, ty, pos, aft, none⟩ :: r) n a H K := ST.v hv h
end
end
end Go.DL

/- Guards of walks: the next operation is of a kind. -/
namespace Go.DL
open Go.RowKit Go.Proofs

noncomputable section
set_option linter.unusedSectionVars false
variable [Tabs]
section
variable {E : Ev} {ops r : List Oper} {n : Nat} {a : AL} {H : List Blk} {g : Gst} {K : KA} {dst : Option Tmp} {x y z : Operand} {tx ty ty' : TypeId} {pos : String} {aft : Array Edge} {f : Nat} {bo : BinOp} {uo : UnOp} {cl : Call} {b : Bool} {ps : Array (Nat × Operand)} {qs rs : Array Operand} {fn : Fn} {lo hi mx : Option Operand} {j : Nat × Bool}
theorem w_mv (h : RT E ops (⟨dst, .move x, ty, pos, aft, none⟩ :: r) n a H g K) : RT E ops (⟨dst, .move x, ty, pos, aft, none⟩ :: r) n a H g K := h
theorem w_as (h : RT E ops (⟨dst, .assign x, ty, pos, aft, none⟩ :: r) n a H g K) : RT E ops (⟨dst, .assign x, ty, pos, aft, none⟩ :: r) n a H g K := h
theorem w_ld (h : RT E ops (⟨dst, .load tx x, ty, pos, aft, none⟩ :: r) n a H g K) : RT E ops (⟨dst, .load tx x, ty, pos, aft, none⟩ :: r) n a H g K := h
theorem w_fa (h : RT E ops (⟨dst, .fieldAddr tx x f, ty, pos, aft, none⟩ :: r) n a H g K) : RT E ops (⟨dst, .fieldAddr tx x f, ty, pos, aft, none⟩ :: r) n a H g K := h
theorem w_bn (h : RT E ops (⟨dst, Op.binOp bo tx x y ty', ty, pos, aft, none⟩ :: r) n a H g K) : RT E ops (⟨dst, Op.binOp bo tx x y ty', ty, pos, aft, none⟩ :: r) n a H g K := h
theorem w_pk (h : RT E ops (⟨dst, .pick x y z, ty, pos, aft, none⟩ :: r) n a H g K) : RT E ops (⟨dst, .pick x y z, ty, pos, aft, none⟩ :: r) n a H g K := h
theorem w_ex (h : RT E ops (⟨dst, .extract x f, ty, pos, aft, none⟩ :: r) n a H g K) : RT E ops (⟨dst, .extract x f, ty, pos, aft, none⟩ :: r) n a H g K := h
theorem w_un (h : RT E ops (⟨dst, .unOp uo tx x, ty, pos, aft, none⟩ :: r) n a H g K) : RT E ops (⟨dst, .unOp uo tx x, ty, pos, aft, none⟩ :: r) n a H g K := h
theorem w_st (h : RT E ops (⟨dst, .store tx x y, ty, pos, aft, none⟩ :: r) n a H g K) : RT E ops (⟨dst, .store tx x y, ty, pos, aft, none⟩ :: r) n a H g K := h
theorem w_cl (h : RT E ops (⟨dst, .call cl, ty, pos, aft, none⟩ :: r) n a H g K) : RT E ops (⟨dst, .call cl, ty, pos, aft, none⟩ :: r) n a H g K := h
theorem w_al (h : RT E ops (⟨dst, .alloc tx, ty, pos, aft, none⟩ :: r) n a H g K) : RT E ops (⟨dst, .alloc tx, ty, pos, aft, none⟩ :: r) n a H g K := h
theorem w_bx (h : RT E ops (⟨dst, .box tx x, ty, pos, aft, none⟩ :: r) n a H g K) : RT E ops (⟨dst, .box tx x, ty, pos, aft, none⟩ :: r) n a H g K := h
theorem w_bd (h : RT E ops (⟨dst, .build tx ps, ty, pos, aft, none⟩ :: r) n a H g K) : RT E ops (⟨dst, .build tx ps, ty, pos, aft, none⟩ :: r) n a H g K := h
theorem w_g {op : Op} (h : RT E ops (⟨dst, op, ty, pos, aft, some j⟩ :: r) n a H g K) : RT E ops (⟨dst, op, ty, pos, aft, some j⟩ :: r) n a H g K := h
end
section
variable {E : Ev} {ops r : List Oper} {base : Nat} {pl : List (Nat × List Nat)} {n : Nat} {a : AL} {H : List Blk} {K : KP} {dst : Option Tmp} {x y z : Operand} {tx ty ty' : TypeId} {pos : String} {aft : Array Edge} {f : Nat} {bo : BinOp} {uo : UnOp} {cl : Call} {b : Bool} {ps : Array (Nat × Operand)} {qs rs : Array Operand} {fn : Fn} {lo hi mx : Option Operand} {j : Nat × Bool}
theorem q_mv (h : PT E ops base pl (⟨dst, .move x, ty, pos, aft, none⟩ :: r) n a H K) : PT E ops base pl (⟨dst, .move x, ty, pos, aft, none⟩ :: r) n a H K := h
theorem q_as (h : PT E ops base pl (⟨dst, .assign x, ty, pos, aft, none⟩ :: r) n a H K) : PT E ops base pl (⟨dst, .assign x, ty, pos, aft, none⟩ :: r) n a H K := h
theorem q_ld (h : PT E ops base pl (⟨dst, .load tx x, ty, pos, aft, none⟩ :: r) n a H K) : PT E ops base pl (⟨dst, .load tx x, ty, pos, aft, none⟩ :: r) n a H K := h
theorem q_fa (h : PT E ops base pl (⟨dst, .fieldAddr tx x f, ty, pos, aft, none⟩ :: r) n a H K) : PT E ops base pl (⟨dst, .fieldAddr tx x f, ty, pos, aft, none⟩ :: r) n a H K := h
theorem q_bn (h : PT E ops base pl (⟨dst, Op.binOp bo tx x y ty', ty, pos, aft, none⟩ :: r) n a H K) : PT E ops base pl (⟨dst, Op.binOp bo tx x y ty', ty, pos, aft, none⟩ :: r) n a H K := h
theorem q_pk (h : PT E ops base pl (⟨dst, .pick x y z, ty, pos, aft, none⟩ :: r) n a H K) : PT E ops base pl (⟨dst, .pick x y z, ty, pos, aft, none⟩ :: r) n a H K := h
theorem q_st (h : PT E ops base pl (⟨dst, .store tx x y, ty, pos, aft, none⟩ :: r) n a H K) : PT E ops base pl (⟨dst, .store tx x y, ty, pos, aft, none⟩ :: r) n a H K := h
theorem q_cl (h : PT E ops base pl (⟨dst, .call cl, ty, pos, aft, none⟩ :: r) n a H K) : PT E ops base pl (⟨dst, .call cl, ty, pos, aft, none⟩ :: r) n a H K := h
theorem q_al (h : PT E ops base pl (⟨dst, .alloc tx, ty, pos, aft, none⟩ :: r) n a H K) : PT E ops base pl (⟨dst, .alloc tx, ty, pos, aft, none⟩ :: r) n a H K := h
theorem q_bx (h : PT E ops base pl (⟨dst, .box tx x, ty, pos, aft, none⟩ :: r) n a H K) : PT E ops base pl (⟨dst, .box tx x, ty, pos, aft, none⟩ :: r) n a H K := h
theorem q_bd (h : PT E ops base pl (⟨dst, .build tx ps, ty, pos, aft, none⟩ :: r) n a H K) : PT E ops base pl (⟨dst, .build tx ps, ty, pos, aft, none⟩ :: r) n a H K := h
theorem q_g {op : Op} (h : PT E ops base pl (⟨dst, op, ty, pos, aft, some j⟩ :: r) n a H K) : PT E ops base pl (⟨dst, op, ty, pos, aft, some j⟩ :: r) n a H K := h
end
section
variable {E : Ev} {ops r : List Oper} {ab : List Nat} {base : Nat} {pl : PlQ} {n : Nat} {a : AL} {H : List Blk} {K : KP} {dst : Option Tmp} {x y z : Operand} {tx ty ty' : TypeId} {pos : String} {aft : Array Edge} {f : Nat} {bo : BinOp} {uo : UnOp} {cl : Call} {b : Bool} {ps : Array (Nat × Operand)} {qs rs : Array Operand} {fn : Fn} {lo hi mx : Option Operand} {j : Nat × Bool}
end
section
variable {E : Ev} {n : Nat} {a : AL} {H : List Blk} {g : Gst} {Q : KX} {ops : List Oper} {K : KA} {KK : KP} {c : Code} {l : List Oper} {base : Nat} {pl : List (Nat × List Nat)} {pq : PlQ} {ab : List Nat}
theorem w_nil (h : RT E ops [] n a H g K) : RT E ops [] n a H g K := h
theorem q_nil (h : PT E ops base pl [] n a H KK) : PT E ops base pl [] n a H KK := h
theorem w_any (h : RT E ops l n a H g K) : RT E ops l n a H g K := h
theorem q_any (h : PT E ops base pl l n a H KK) : PT E ops base pl l n a H KK := h
theorem v_any (h : VT E c n a H g Q) : VT E c n a H g Q := h
end
end
end Go.DL

/- What is read of an argument, as plain data: numbers, booleans, lists. -/
set_option maxRecDepth 100000
namespace Go.DL
open Go.RowKit Go.Proofs Go.ChangeShapes Go.WideShapes

noncomputable section
set_option linter.unusedSectionVars false
variable [Tabs]
section
variable {H : Type} {enc : TypeId × Value → H} {P : Program} {w : World}
end
theorem wf_i64 {n : Int} (h : (Lit.int .i64 n).wf = true) : -9223372036854775808 ≤ n ∧ n ≤ 9223372036854775807 := by
  simp only [Lit.wf, Bool.and_eq_true, decide_eq_true_eq] at h
  exact h
end
end Go.DL

/- Engine: structs of numbers, compared. -/
set_option maxRecDepth 100000
set_option maxHeartbeats 4000000
namespace Go.DL
open Go.Proofs Go
set_option linter.unusedSectionVars false
variable [Tabs]
section
variable {P : Program} {H : List Blk} {s n : Nat} {al : AL} {tx ty' : TypeId} {x y : Operand} {cs ds : List D} {b : Bool}
theorem f_eqlAgg (hx : evA n al x = .agg cs) (hy : evA n al y = .agg ds) (h : aggEqD P tx cs ds = some b) : Val P H s n al (.binOp .eql tx x y ty') (wB b) := by
  refine ⟨?_⟩
  simp only [stepD, ev_T, hx, hy, binO, binD, h, Option.map_some, keepD]
end
end Go.DL

/- What stays ahead of new blocks; results of a cell and a temporary; how arguments read. -/
namespace Go.DL
open Go.RowKit Go.Proofs

noncomputable section
set_option linter.unusedSectionVars false
variable [Tabs]
/-- The blocks H are as they were; others lie behind them. -/
structure Pre (H H2 : List Blk) : Prop where
  ex : ∃ T, H2 = H ++ T
section
variable {H H2 H3 : List Blk} {b : Nat} {x : Blk}
theorem Pre.refl (H : List Blk) : Pre H H := ⟨[], (List.append_nil _).symm⟩
theorem Pre.app (h : Pre H H2) (T : List Blk) : Pre H (H2 ++ T) := by
  obtain ⟨T1, rfl⟩ := h.ex
  exact ⟨T1 ++ T, List.append_assoc _ _ _⟩
theorem Pre.set (h : Pre H H2) (hb : H.length ≤ b) (x : Blk) : Pre H (H2.set b x) := by
  obtain ⟨T1, rfl⟩ := h.ex
  exact ⟨T1.set (b - H.length) x, List.set_append_right _ _ hb⟩
theorem Pre.trans (h : Pre H H2) (k : Pre H2 H3) : Pre H H3 := by
  obtain ⟨T1, rfl⟩ := h.ex
  obtain ⟨T2, rfl⟩ := k.ex
  exact ⟨T1 ++ T2, List.append_assoc _ _ _⟩
theorem Pre.len (h : Pre H H2) : H.length ≤ H2.length := by
  obtain ⟨T1, rfl⟩ := h.ex
  simp
theorem Pre.get (h : Pre H H2) (k : H[b]? = some x) : H2[b]? = some x := by
  obtain ⟨T1, rfl⟩ := h.ex
  exact hg_app _ k
end
end
end Go.DL

/- A drawn region with one call, whatever it does: walked as its text stands; an append in place in a drawn region. -/
namespace Go.DL
open Go.RowKit Go.Proofs

noncomputable section
set_option linter.unusedSectionVars false
variable [Tabs]

section
variable {P : Program}
end

structure XC (E : Ev) (ops l2 : List Oper) (o : Oper) (n : Nat) (a : AL) (H Hm : List Blk) (g : Gst) (Q : KX) : Prop where
  out : ∃ (dst : Tmp) (f : Operand) (args : List Operand) (tys : Array TypeId) (f' : FuncId) (xs : List D), o.op = .call { callee := .value f, args := args.toArray, argTypes := tys } ∧ o.dst = some dst ∧ callA n a f args = some (f', xs) ∧
    CallSp E.P f' xs H fun d H' => Sub Hm H' ∧ SubT Hm H' ∧ RT E ops l2 n ((dst, d) :: a) H' g fun a' H'' g' => Q .normal a' H'' g'

section
variable {E : Ev} {ops l2 : List Oper} {n : Nat} {a : AL} {H Hm : List Blk} {g : Gst} {Q : KX} {c : Code}

theorem XC.call {dst : Tmp} {f : Operand} {args : List Operand} {tys : Array TypeId} {ty : TypeId} {pos : String} {aft : Array Edge} {gu : Option (Nat × Bool)} {f' : FuncId} {xs : List D} (hc : callA n a f args = some (f', xs))
    (h : CallSp E.P f' xs H fun d H' => Sub Hm H' ∧ SubT Hm H' ∧ RT E ops l2 n ((dst, d) :: a) H' g fun a' H'' g' => Q .normal a' H'' g') :
    XC E ops l2 ⟨some dst, .call { callee := .value f, args := args.toArray, argTypes := tys }, ty, pos, aft, gu⟩ n a H Hm g Q := ⟨⟨dst, f, args, tys, f', xs, rfl, rfl, hc, h⟩⟩

end
end
end Go.DL

/- Appends in place in drawn regions; a call whose result reads its arguments' memory in one; the deletion of elements of an own slice. -/
namespace Go.DL
open Go.RowKit Go.Proofs

noncomputable section
set_option linter.unusedSectionVars false
variable [Tabs]

section
variable {E : Ev} {ops r : List Oper} {ab : List Nat} {base s : Nat} {hs : List Nat} {w : Option Nat} {pl : PlQ} {n : Nat} {a : AL} {H H' : List Blk} {K : KP} {i : Tmp} {op : Op} {ty : TypeId} {pos : String} {aft : Array Edge} {d : D}
end

theorem CallAt.flat {P : Program} {f : FuncId} {xs : List D} {Hm : List Blk} {s : Nat} {d : D} (h : Maps P f xs d) (hx : xs.all DL.flat = true) : CallAt P f xs Hm s d .free := by
  intro H _ hsub _ hfree
  rw [List.all_eq_true] at hx
  have hset : H.set s .free = H := by
    refine List.ext_getElem? fun i => ?_
    rw [List.getElem?_set]
    split
    · rename_i e; subst e
      rw [hfree, if_pos (List.getElem?_eq_some_iff.1 hfree).1]
    · rfl
  refine ⟨h.1, fun w A φ vs hr hv => ?_⟩
  refine (h.2 w A.on vs hr.lt hr.la ⟨hv.size, fun i d u h1 h2 => (hv.val i d u h1 h2).flat (hx d (List.mem_of_getElem? h1)) fun _ x => x⟩).mono ?_
  rintro e w' ⟨v, A', rfl, h1, h2, h3, h4, h5⟩
  have hs : ∀ m, m < w.heap.size → w'.heap[m]? = w.heap[m]? := fun m hm => h5.same m hm fun x => x
  have hr1 := hr.move (w' := w') (fun m hm => hs m (hr.lt m hm)) (fun m hm => hs m (hr.olt m hm)) h5.size
  refine ⟨v, d, H, ⟨fun m => A m ∨ (A' m ∧ w.heap.size ≤ m), A.b0⟩, φ, rfl, ⟨rfl, hset.symm⟩, ⟨hr1.out, hr1.free, hr1.dead, fun b sz es hb => (hr1.live b sz es hb).imp id fun ⟨n, base, room, c, ty, q1, q2⟩ =>
      ⟨n, base, room, c, ty, q1, q2.mono (fun _ x => Or.inl x) (fun _ _ => rfl) (fun _ => Loc.le_refl _) rfl⟩, fun b clk es hb => let ⟨n, ms, q1, q2⟩ := hr1.tab b clk es hb; ⟨n, ms, q1, q2.mono (fun _ x => Or.inl x) (fun _ _ => rfl) (fun _ => Loc.le_refl _) rfl⟩, hr1.inj, fun m hm ha => ?_, fun m hm => hm.elim (hr1.lt m) fun x => h4 m x.1, hr1.olt, hr1.ofr, hr1.bsz, hr1.la.mono (fun _ x => Or.inl x) (fun _ _ => rfl)⟩,
    V.mono (A := ⟨A', w.heap.size⟩) (fun m hm => (h3 m hm).elim Or.inl fun x => Or.inr ⟨hm, x⟩) (fun _ _ => rfl) (fun _ => .inl rfl) h1 hr.bsz, ⟨⟨h5.os, h5.tape, h5.output, h5.size, fun n hn _ => hs n hn, fun n hn => .inl hn⟩, fun _ x => Or.inl x, fun m hm => hm.imp id fun x => .inr x.2, fun _ => Loc.le_refl _, rfl⟩⟩
  rcases ha with ha | ha
  · exact hr1.dis m hm ha
  · have := hr.olt m hm; omega

end
end Go.DL

/- Deferred calls of functions: a frame that has deferred one function, which does nothing unless the frame panics. -/
namespace Go.DL
open Go.RowKit Go.Proofs

noncomputable section
set_option linter.unusedSectionVars false
variable [Tabs]

/-- Nothing happens when it is called behind a frame that returns. -/
def Quiet (P : Program) (g : FuncId) : Prop := Enters P g ∧ ∀ (vs : Array Value) (w : World), CallsDIn Fence.wide 0 P g vs .returning w fun e u' w' => (∃ v, e = .returned v) ∧ u' = .returning ∧ w' = w

/-- A frame's surroundings, with a deferred call. -/
def Gh.deferring (G : Gh) (d : Deferred) : Gh := { G with tail := [d] }

/-- A deferred call of this function. -/
def IsDef (g : FuncId) (d : Deferred) : Prop := ∃ cap args, d = ⟨.fn (.func g) cap, args⟩

theorem leaves_quiet {P : Program} {fn : Func} {tmps : Array Value} {R : Ending → World → Prop} {g : FuncId} {d : Deferred} (hd : IsDef g d) (hg : Quiet P g) {w : World}
    (h : ∃ v, (results fn tmps).run P w = .ok v w ∧ R (.returned v) w) : LeavesInM Fence.wide 0 P fn tmps R [d] .returning w := by
  obtain ⟨cap, args, rfl⟩ := hd
  refine ⟨by simp, .inr ⟨fun h => by simp [Fence.wide] at h, .func g, cap, g, args ++ cap, rfl, hg.1 _ _, fun _ _ => trivial, (hg.2 (args ++ cap) w).mono ?_⟩⟩
  rintro e u' w' ⟨⟨v, rfl⟩, rfl, rfl⟩
  exact h

section
variable {P : Program} {G : Gh}

/-- Code that defers a function once. -/
def SpD (P : Program) (G : Gh) (g : FuncId) (c : Code) (st : St) (Q : Exit → St → Prop) : Prop :=
  ∀ a w, FR G st a w → c.wpIn (FW none) 0 P (fun e a' w' => ∃ d st', IsDef g d ∧ Q e st' ∧ FR (G.deferring d) st' a' w') a w

theorem runOps_okT (hG : Stab G) (hY : YOk P G) {ro : Option Nat} {ops : List Oper} {Q : Exit → Act → World → Prop} {K : St → Prop} {r : List Oper} (hK : ∀ st' a' w', K st' → FR G st' a' w' → wpListIn (FW ro) 0 P ops.toArray Q r a' w') :
    ∀ (l : List Oper) (st : St) (a : Act) (w : World), FR G st a w → runOps P G ops l st K → wpListIn (FW ro) 0 P ops.toArray Q (l ++ r) a w
  | [], st, a, w, hr, h => hK st a w h hr
  | o :: l, st, a, w, hr, h => by
    have ih := runOps_okT (ops := ops) hG hY hK l
    unfold runOps at h
    show wpListIn (FW ro) 0 P ops.toArray Q (o :: (l ++ r)) a w
    unfold wpListIn
    split at h
    · rename_i hg
      rw [if_pos (by simp [Region.wanted, hg])]
      exact execO_ok hG hY hr h fun st' a' w' h1 h2 => ih st' a' w' h2 h1
    · rename_i j want hg
      split at h
      · rename_i b hb
        obtain ⟨A, φ, hr'⟩ := hr
        have hy := guard_ok (ops := ops) hr'.tr hb
        have hw : Region.wanted o (yielded ops.toArray a.tmps) = (b == want) := by simp [Region.wanted, hg, hy]
        rw [hw]
        split at h
        · rename_i hbw
          rw [if_pos (by simpa using hbw)]
          exact execO_ok hG hY ⟨A, φ, hr'⟩ h fun st' a' w' h1 h2 => ih st' a' w' h2 h1
        · rename_i hbw
          rw [if_neg (by simpa using hbw)]
          exact ⟨fun _ _ => trivial, ih _ _ _ ⟨A, φ, hr'.value o.dst (.v _ undef)⟩ h⟩
      · split at h
        · rename_i hu
          obtain ⟨A, φ, hr'⟩ := hr
          have hy := undef_ok (ops := ops) hr'.tr hu
          have hw : Region.wanted o (yielded ops.toArray a.tmps) = false := by simp [Region.wanted, hg, hy]
          rw [hw, if_neg (by simp)]
          exact ⟨fun _ _ => trivial, ih _ _ _ ⟨A, φ, hr'.value o.dst (.v _ undef)⟩ h⟩
        · exact h.elim

/-- A region whose last operation defers a function. -/
theorem SpD_region (hG : Stab G) (hY : YOk P G) (htl : G.tail = []) {id : Nat} {pre : List Oper} {o : Oper} {g : FuncId} {f : Operand} {args : Array Operand} {tys : Array TypeId} (ho : o.op = .defer { callee := .value f, args := args, argTypes := tys }) (hgd : o.guard = none)
    {st : St} {Q : Exit → St → Prop}
    (h : runOps P G (pre ++ [o]) pre st fun s => s.ds = [] ∧ (∃ caps, ev s.t f = .fn (.func g) [] caps) ∧ Q .normal { s with t := setT s.t o.dst (.v undef) }) : SpD P G g (.region id (pre ++ [o]).toArray false) st Q := by
  intro a w hr
  refine wpIn_region_lit (runOps_okT hG hY (r := [o]) ?_ pre st a w hr h)
  rintro s a' w' ⟨hds, ⟨caps, hf⟩, hq⟩ ⟨A, φ, hr⟩
  unfold wpListIn
  rw [if_pos (by simp [Region.wanted, hgd])]
  refine ⟨fun _ _ => trivial, ?_⟩
  have hvf := hr.tr.ev f
  rw [hf] at hvf
  generalize hu : a'.eval f = u at hvf
  cases hvf with
  | fn _ _ _ _ vs us hl hl' hh hh' =>
    obtain rfl : vs = #[] := Array.eq_empty_of_size_eq_zero hl
    have hsem : (o.semAt (FW none).round a'.eval).run P w' = .ok (.defer ⟨.fn (.func g) us, args.map a'.eval⟩) w' := by
      show (execOp a'.eval o).run P w' = _
      simp [execOp, ho, resolve, hu, Deferred.ofValue]
    rw [hsem, Oper.uponIn_defer]
    unfold wpListIn
    refine ⟨⟨.fn (.func g) us, args.map a'.eval⟩, _, ⟨us, args.map a'.eval, rfl⟩, hq, A, φ, hr.rh, TR.put (a := { tmps := a'.tmps, defers := ⟨.fn (.func g) us, args.map a'.eval⟩ :: a'.defers }) hr.tr o.dst (.v _ undef), hr.gh, ?_, hr.dk, hr.nd⟩
    rw [put_defers]
    show _ :: a'.defers = _
    rw [hr.df, hds, htl]
    rfl

theorem SpD_seq1 {x y : Code} {g : FuncId} {st : St} {Q : Exit → St → Prop} (h : Sp P none G x st fun e s => e = .normal ∧ SpD P G g y s Q) : SpD P G g (.seq x y) st Q :=
  fun a w hr => wpIn_seq (wpIn_mono (h a w hr) fun e a w ⟨s, ⟨q1, q2⟩, r⟩ => by subst q1; exact q2 a w r)

theorem SpD_seq2 {x y : Code} {g : FuncId} {st : St} {Q : Exit → St → Prop} (h : SpD P G g x st fun e s => e = .normal ∧ ∀ d, Sp P none (G.deferring d) y s Q) : SpD P G g (.seq x y) st Q :=
  fun a w hr => wpIn_seq (wpIn_mono (h a w hr) fun e a w ⟨d, s, hd, ⟨q1, q2⟩, r⟩ => by
    subst q1
    exact wpIn_mono (q2 d a w r) fun e a w ⟨s, q, r⟩ => ⟨d, s, hd, q, r⟩)

theorem SpD_mono {c : Code} {g : FuncId} {st : St} {Q Q' : Exit → St → Prop} (h : SpD P G g c st Q) (k : ∀ e s, Q e s → Q' e s) : SpD P G g c st Q' :=
  fun a w hr => wpIn_mono (h a w hr) fun e _ _ ⟨d, s, hd, q, r⟩ => ⟨d, s, hd, k e s q, r⟩

/-- THE RULE FOR A FUNCTION THAT DEFERS ONE, over own blocks. -/
theorem CallSp.ofD {f : FuncId} {fn : Func} {c : Code} {args : List D} {H : List Blk} {Q : D → List Blk → Prop} {g : FuncId} (hq : Quiet P g) (hf : P.funcs[f]? = some fn) (hb : fn.body = some c) (hname : (fn.name == "runtime.NumGoroutine") = false)
    (h : ∀ G, Stab G → YOk P G → G.N = H.length → G.tail = [] → SpD P G g c { t := args ++ List.replicate (fn.ntmps - args.length) .any, H := H, ds := [], g := (0, false) } (PostE P fn.results.toList fun d s => Q d s.H)) : CallSp P f args H Q := by
  refine ⟨enters_of hf hname hb, fun w A φ vs hr hv => ?_⟩
  have hG : Stab (Gh.keep H.length w ⟨own φ, A, φ⟩) := stab_keep _ w _
  have hY : YOk P (Gh.keep H.length w ⟨own φ, A, φ⟩) := fun l g ds vs K w F _ _ _ _ _ _ h => h.elim
  refine callsIn_of_wp_marks (F := Fence.wide) hf hb trivial ?_
  have hown : ∀ φ : Nat → Loc, ownAll φ [] = own φ := fun φ => by funext n; simp [ownAll]
  have hfr : FR (Gh.keep H.length w ⟨own φ, A, φ⟩) { t := args ++ List.replicate (fn.ntmps - args.length) .any, H := H, ds := [], g := (0, false) } { tmps := vs ++ Array.replicate (fn.ntmps - vs.size) undef, defers := [] } w :=
    ⟨A, φ, hr, enter_tr hr.la hv _, by rw [hown]; exact Keep.refl _ _ _, rfl, by simp, List.nodup_nil⟩
  have hend : ∀ d s a w', IsDef g d → PostE P fn.results.toList (fun d s => Q d s.H) .normal s → FR ((Gh.keep H.length w ⟨own φ, A, φ⟩).deferring d) s a w' →
      LeavesInM Fence.wide 0 P fn a.tmps (fun e w' => ∃ (v : Value) (d : D) (H' : List Blk) (A' : Rd) (φ' : Nat → Loc), e = .returned v ∧ Q d H' ∧ RH A' φ' w' H' ∧ V A' w' φ' d v ∧ Evo w A φ w' A' φ') a.defers .returning w' := by
    rintro d s a w' hd ⟨r, h1, h2⟩ ⟨A', φ', hr'⟩
    rw [hr'.df]
    refine leavesM (G := (Gh.keep H.length w ⟨own φ, A, φ⟩).deferring d) hG (t := s.t) (H := s.H) (g := s.g) (A := A') (φ := φ') a.tmps s.ds w' hr'.rh hr'.tr hr'.gh hr'.dk hr'.nd fun w'' k1 k2 k3 => ?_
    obtain ⟨x, h4, h5⟩ := run_resD (a := a) k1 k2 h1
    have hg : Keep H.length w ⟨own φ, A, φ⟩ w'' ⟨own φ', A', φ'⟩ := by rw [hown] at k3; exact k3
    refine leaves_quiet hd hq ⟨x, h4, x, r, s.H, A', φ', rfl, h2, k1, h5, ⟨hg.ext, hg.up, hg.new, fun b => ?_, hg.b0⟩⟩
    rcases Nat.lt_or_ge b H.length with hb | hb
    · exact hg.le b hb
    · rw [hr.out b (List.getElem?_eq_none hb)]; exact .inl rfl
  refine wpIn_mono (h _ hG hY rfl rfl _ w hfr) ?_
  rintro e a w' ⟨d, s, hd, q, r⟩
  cases e with
  | normal => exact hend d s a w' hd q r
  | ret => exact hend d s a w' hd q r
  | exit id => exact q.elim
  | goto l => exact q.elim
  | panic ch => exact q.elim
  | outgrown => exact q.elim

end
end
end Go.DL

/- The interpreter at a function that defers one. -/
namespace Go.DL
open Go.RowKit Go.Proofs

noncomputable section
set_option linter.unusedSectionVars false
variable [Tabs]

/-- A list and its last element. -/
def lastO : List Oper → Option (List Oper × Oper)
  | [] => none
  | o :: l => match l with
    | [] => some ([], o)
    | _ :: _ => match lastO l with
      | some (p, x) => some (o :: p, x)
      | none => none
theorem lastO_eq : ∀ {l p : List Oper} {x : Oper}, lastO l = some (p, x) → l = p ++ [x]
  | [], _, _, h => by cases h
  | o :: l, p, x, h => by
    unfold lastO at h
    split at h
    · cases h; rfl
    · split at h
      · rename_i q y hq
        cases h
        rw [List.cons_append, ← lastO_eq hq]
      · cases h

section
variable (C : Tbl) (F : Fns)

def defersD (g : FuncId) (ops : List Oper) (t : List D) (H : List Blk) : Option (List D × List Blk) :=
  match lastO ops with
  | some (pre, o) => match o.op, o.guard with
    | .defer { callee := .value f, .. }, none => match runO C F ops pre t H with
      | some (t, H) => match ev t f with
        | .fn (.func g') [] _ => if g' = g then some (setT t o.dst (.v undef), H) else none
        | _ => none
      | none => none
    | _, _ => none
  | none => none

/-- Code that defers once, with nothing but regions ahead of it. -/
def codeDR (g : FuncId) : Nat → Code → List D → List Blk → Res
  | 0, _, _, _ => none
  | n + 1, c, t, H => match c with
    | .seq (.region _ ops false) y => match defersD C F g ops.toList t H with
      | some (t, H) => F.code true y t H
      | none => match runO C F ops.toList ops.toList t H with
        | some (t, H) => codeDR g n y t H
        | none => none
    | _ => none

def bodyDR (gd g : FuncId) (xs : List D) (H : List Blk) : Option (D × List Blk) :=
  match C.P.funcs[g]? with
  | some fn => match fn.body with
    | some c => match (fL (fD 4) xs fun xs => fS (xs ++ List.replicate (fn.ntmps - xs.length) .any) fun t => codeDR C F gd 40 c t H) with
        | some (.normal, t, H) => match resD C.P fn.results.toList { t := t, H := H } with
          | some d => some (d, H)
          | none => none
        | some (.ret, t, H) => match resD C.P fn.results.toList { t := t, H := H } with
          | some d => some (d, H)
          | none => none
        | _ => none
    | none => none
  | none => none
end

section
variable {C : Tbl} {F : Fns}
theorem defersD_ok (hF : Fns.Ok C F) {G : Gh} (hG : Stab G) (hY : YOk C.P G) (htl : G.tail = []) {g : FuncId} {id : Nat} {ops : List Oper} {t t' : List D} {H H' : List Blk} {gs : Gst} (h : defersD C F g ops t H = some (t', H'))
    {Q : Exit → St → Prop} (hq : Q .normal { t := t', H := H', ds := [], g := gs }) : SpD C.P G g (.region id ops.toArray false) { t := t, H := H, ds := [], g := gs } Q := by
  unfold defersD at h
  split at h
  · rename_i pre o hl
    have he := lastO_eq hl
    subst he
    split at h
    · rename_i f args tys ho hgd
      split at h
      · rename_i t1 H1 hr
        split at h
        · rename_i g' caps hev
          split at h
          · rename_i hg
            subst hg
            cases h
            exact SpD_region hG hY htl ho hgd (runO_ok hF pre hr ⟨rfl, ⟨caps, hev⟩, hq⟩)
          · cases h
        · cases h
      · cases h
    · cases h
  · cases h

theorem codeDR_ok (hF : Fns.Ok C F) {G : Gh} (hG : Stab G) (hY : YOk C.P G) (htl : G.tail = []) {g : FuncId} {gs : Gst} : ∀ (n : Nat) {c : Code} {t t' : List D} {H H' : List Blk} {e : Exit}, codeDR C F g n c t H = some (e, t', H') →
    SpD C.P G g c { t := t, H := H, ds := [], g := gs } (Ends e t' H' gs)
  | 0, _, _, _, _, _, _, h => by cases h
  | n + 1, c, t, t', H, H', e, h => by
    unfold codeDR at h
    split at h
    · rename_i id ops y
      obtain ⟨ops, rfl⟩ : ∃ l : List Oper, l.toArray = ops := ⟨ops.toList, by simp⟩
      simp only [List.toList_toArray] at h
      split at h
      · rename_i t1 H1 hd
        refine SpD_seq2 (defersD_ok hF hG hY htl hd ⟨rfl, fun d => ?_⟩)
        have hG' : Stab (G.deferring d) := hG
        have hY' : YOk C.P (G.deferring d) := hY
        exact hF.code h (fun _ => rfl) hG' hY' [] gs
      · split at h
        · rename_i t1 H1 hr
          refine SpD_seq1 (Sp_region hG hY (runO_ok hF ops hr ⟨rfl, ?_⟩))
          exact codeDR_ok hF hG hY htl n h
        · cases h
    · cases h

theorem bodyDR_ok (hF : Fns.Ok C F) (hC : C.Ok) {gd g : FuncId} (hq : Quiet C.P gd) {xs : List D} {H H' : List Blk} {d : D} (h : bodyDR C F gd g xs H = some (d, H')) : CallSp C.P g xs H fun d' H'' => d' = d ∧ H'' = H' := by
  unfold bodyDR at h
  simp only [fL_eq (fD_eq 4), fS_eq] at h
  split at h
  · rename_i fn hfn
    split at h
    · rename_i c hc
      refine CallSp.ofD hq hfn hc (hC.name hfn) fun G hG hY _ htl => ?_
      have res : ∀ {t : List D} {H1 : List Blk} {s : St}, (match resD C.P fn.results.toList { t := t, H := H1 } with | some d => some (d, H1) | none => none) = some (d, H') → s.t = t → s.H = H1 →
          ∃ d', resD C.P fn.results.toList s = some d' ∧ d' = d ∧ s.H = H' := fun {t H1 s} hh h1 h2 => by
        have hloc : ∀ (r : ResultVar), resOne C.P s r = resOne C.P { t := t, H := H1 } r := fun r => by cases r <;> simp only [resOne, h1, h2]
        have hL : ∀ rs, resL C.P s rs = resL C.P { t := t, H := H1 } rs := fun rs => by
          induction rs with
          | nil => rfl
          | cons r rs ih => simp only [resL, ih, hloc]
        have hD : resD C.P fn.results.toList s = resD C.P fn.results.toList { t := t, H := H1 } := by unfold resD; rw [hL]
        rw [hD]
        split at hh
        · rename_i d0 h0
          simp only [Option.some.injEq, Prod.mk.injEq] at hh
          exact ⟨d0, h0, hh.1, h2.trans hh.2⟩
        · cases hh
      split at h
      · rename_i t1 H1 h1
        refine SpD_mono (codeDR_ok hF hG hY htl 40 h1) ?_
        rintro e s ⟨rfl, k1, k2, k3⟩
        exact res h k1 k2
      · rename_i t1 H1 h1
        refine SpD_mono (codeDR_ok hF hG hY htl 40 h1) ?_
        rintro e s ⟨rfl, k1, k2, k3⟩
        exact res h k1 k2
      · cases h
    · cases h
  · cases h
end
end
end Go.DL

/- Own maps with string keys, as the library speaks of them; the keys in their order. -/
set_option maxRecDepth 100000
namespace Go.DL
open Go.Proofs Go Go.RowKit Go.Maps Go.Sort Go.Shelf
set_option linter.unusedSectionVars false
variable [Tabs]
open Go.WideElems (Fit rd rg pl rd_val elemAt)

theorem ins_perm {H : Type} (x : Lit × DataW H) : ∀ l : List (Lit × DataW H), (DataW.insert x l).Perm (x :: l)
  | [] => List.Perm.refl _
  | y :: r => by
    unfold DataW.insert
    split
    · exact .refl _
    · exact ((ins_perm x r).cons y).trans (.swap x y r)
theorem foldr_perm {H : Type} : ∀ l : List (Lit × DataW H), (l.foldr DataW.insert []).Perm l
  | [] => .refl _
  | x :: l => (ins_perm x _).trans ((foldr_perm l).cons x)
def insB (x : List UInt8) : List (List UInt8) → List (List UInt8)
  | [] => [x]
  | y :: r => if x ≤ y then x :: y :: r else y :: insB x r
def sortK : List (List UInt8) → List (List UInt8)
  | [] => []
  | x :: l => insB x (sortK l)
theorem insB_perm (x : List UInt8) : ∀ l, (insB x l).Perm (x :: l)
  | [] => .refl _
  | y :: r => by
    unfold insB
    split
    · exact .refl _
    · exact ((insB_perm x r).cons y).trans (.swap x y r)
theorem sortK_perm : ∀ l, (sortK l).Perm l
  | [] => .refl _
  | x :: l => (insB_perm x _).trans ((sortK_perm l).cons x)
theorem insB_sorted (x : List UInt8) : ∀ l : List (List UInt8), l.Pairwise (· ≤ ·) → (insB x l).Pairwise (· ≤ ·)
  | [], _ => by simp [insB]
  | y :: r, h => by
    unfold insB
    rw [List.pairwise_cons] at h
    split
    · rename_i hxy
      refine List.pairwise_cons.2 ⟨fun a ha => ?_, List.pairwise_cons.2 h⟩
      rcases List.mem_cons.1 ha with rfl | ha
      · exact hxy
      · exact List.le_trans hxy (h.1 a ha)
    · rename_i hxy
      refine List.pairwise_cons.2 ⟨fun a ha => ?_, insB_sorted x r h.2⟩
      rcases List.mem_cons.1 ((insB_perm x r).mem_iff.1 ha) with rfl | ha
      · exact (List.le_total a y).resolve_left hxy
      · exact h.1 a ha
theorem sortK_sorted : ∀ l, (sortK l).Pairwise (· ≤ ·)
  | [] => .nil
  | x :: l => insB_sorted x _ (sortK_sorted l)
theorem sortK_eq {ss ks : List (List UInt8)} (h : ss.Perm ks) : ss.mergeSort (fun x y => decide (x ≤ y)) = sortK ks := by
  refine List.Perm.eq_of_pairwise (le := (· ≤ ·)) (fun a b _ _ h1 h2 => List.le_antisymm h1 h2) ?_ (sortK_sorted ks) ((List.mergeSort_perm _ _).trans (h.trans (sortK_perm ks).symm))
  refine (List.pairwise_mergeSort (le := fun x y => decide (x ≤ y)) (fun a b c h1 h2 => ?_) (fun a b => ?_) ss).imp fun h => by simpa using h
  · simp only [decide_eq_true_eq] at *; exact List.le_trans h1 h2
  · simp only [Bool.or_eq_true, decide_eq_true_eq]; exact List.le_total a b

def keyB : Value → List UInt8
  | .string s => s.data.toList
  | _ => []
def isStr : Value → Bool
  | .string s => Nat.ble s.size maxLen
  | _ => false
def stampB (es : List (Value × D × Nat)) (clk : Nat) : Bool :=
  es.all (fun e => Nat.blt e.2.2 clk && isStr e.1) && decide ((es.map (·.2.2)).Nodup) && decide ((es.map fun e => keyB e.1).Nodup) && Nat.ble es.length 1000000

def Rany : Value → Option (DataW Unit × List MemPlace) := fun _ => some (.nil, [])
theorem ownsMap_of [Tabs] {P : Program} {k : TypeId} (hk : P.underlying k = some .string) {A : Rd} {w : World} {φ : Nat → Loc} {n clk : Nat} {es : List (Value × D × Nat)} {ms : Array MapEntry} (h : TabAt A w φ n clk es ms) (hst : stampB es clk = true) :
    ∃ D0 : DataW Unit, w.ownsMap P k Rany n es.length D0 ∧ Maps.size D0 = es.length ∧ (strKeys D0).Perm (es.map fun e => keyB e.1) ∧ es.length ≤ 1000000 := by
  simp only [stampB, Bool.and_eq_true, List.all_eq_true, decide_eq_true_eq] at hst
  obtain ⟨⟨⟨h1, h2⟩, h3⟩, h4⟩ := hst
  have h4 := Nat.le_of_ble_eq_true h4
  have hlen : ms.toList.length = es.length := by simpa using h.len
  have at' : ∀ i (x : MapEntry), ms.toList[i]? = some x → ∃ e : Value × D × Nat, es[i]? = some e ∧ x.key = e.1 ∧ x.born = e.2.2 := fun i x hx => by
    have hi : i < es.length := by have := (List.getElem?_eq_some_iff.1 hx).1; omega
    have he : es[i]? = some es[i] := List.getElem?_eq_getElem hi
    obtain ⟨k1, k2, _⟩ := h.ent i es[i].1 es[i].2.1 es[i].2.2 x he (by simpa using hx)
    exact ⟨_, he, k1, k2⟩
  have mapk : ms.toList.map (·.key) = es.map (·.1) := by
    refine List.ext_getElem? fun i => ?_
    rw [List.getElem?_map, List.getElem?_map]
    cases hx : ms.toList[i]? with
    | none =>
      have : es[i]? = none := by rw [List.getElem?_eq_none_iff] at hx ⊢; omega
      rw [this]; rfl
    | some x =>
      obtain ⟨e, he, hk, _⟩ := at' i x hx
      rw [he]; simp [hk]
  have mapb : ms.toList.map (·.born) = es.map (·.2.2) := by
    refine List.ext_getElem? fun i => ?_
    rw [List.getElem?_map, List.getElem?_map]
    cases hx : ms.toList[i]? with
    | none =>
      have : es[i]? = none := by rw [List.getElem?_eq_none_iff] at hx ⊢; omega
      rw [this]; rfl
    | some x =>
      obtain ⟨e, he, _, hb⟩ := at' i x hx
      rw [he]; simp [hb]
  have memx : ∀ x ∈ ms.toList, ∃ e ∈ es, x.key = e.1 ∧ x.born = e.2.2 := fun x hx => by
    obtain ⟨i, hi⟩ := List.getElem?_of_mem hx
    obtain ⟨e, he, h1, h2⟩ := at' i x hi
    exact ⟨e, List.mem_of_getElem? he, h1, h2⟩
  have keyx : ∀ x ∈ ms.toList, keyOf P k x.key = some (.string (keyB x.key)) := fun x hx => by
    obtain ⟨e, he, q1, q2⟩ := memx x hx
    have := (h1 e he).2
    rw [q1]
    cases hv : e.1 <;> rw [hv] at this <;> try cases this
    rename_i s
    exact Go.WideMaps.keyOf_string_mk hk (Nat.le_of_ble_eq_true this)
  have rdx : ∀ x ∈ ms.toList, rd P k Rany x = some (.string (keyB x.key), .nil) := fun x hx => by
    unfold rd
    rw [keyx x hx]; rfl
  have hsz : ms.size = es.length := h.len
  refine ⟨_, ⟨ms, clk, h.blk, ⟨?_, ⟨fun x hx => ?_, ?_, ?_⟩, fun x hx => ⟨_, rdx x hx⟩⟩, Nat.le_of_eq hsz, rfl⟩, ?_, ?_, h4⟩
  · rw [hsz]; unfold maxLen; omega
  · obtain ⟨e, he, q1, q2⟩ := memx x hx
    rw [q2]; exact Nat.blt_eq.mp (h1 e he).1
  · rw [mapb]; exact h2
  · rw [mapk]
    have : (es.map fun e => keyB e.1) = (es.map (·.1)).map keyB := by simp
    rw [this] at h3
    exact (List.pairwise_map.1 h3).imp fun hn e => hn (by rw [e])
  · show List.length _ = _
    rw [(foldr_perm _).length_eq]; simp [hsz]
  · show (List.map _ _).Perm _
    refine ((foldr_perm _).map _).trans (.of_eq ?_)
    have : (es.map fun e => keyB e.1) = (es.map (·.1)).map keyB := by simp
    rw [this, ← mapk, List.map_map, List.map_map]
    refine List.map_congr_left fun x hx => ?_
    simp [rg, rdx x hx, strOf]
end Go.DL
