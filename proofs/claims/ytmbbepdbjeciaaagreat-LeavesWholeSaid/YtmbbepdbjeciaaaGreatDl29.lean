/- Arguments of a statement, opened: what is read stands for abstract values over all that is there. -/
import Derived.Test.YtmbbepdbjeciaaaGreatDl10
import Derived.JoinedOf
import Derived.Carry
import Derived.Handed
import Derived.SizedLaws
import Derived.RowKit
set_option linter.all false
namespace Go.DL
open Go.RowKit Go.Proofs Go.ChangeShapes Go.WideShapes

noncomputable section

section
variable {H : Type} {enc : TypeId × Value → H} {P : Program} {w : World}

/-- What is read at a type stands for abstract values of a kind, over any blocks among which are all that are there. -/
def Opens (enc : TypeId × Value → H) (P : Program) (w : World) (t : TypeId) (R : List D → Prop) : Prop :=
  ∀ (fuel : Nat) (cs : List Value) (x : DataW H × List MemPlace), DataW.trod enc P w 0 (fun _ => true) true fuel t cs = some x → (∀ n, n ∈ x.1.weights P t → n ≤ reachBytes) →
    ∃ ds : List D, R ds ∧ ds.length = cs.length ∧ ∀ A : Rd, (∀ n, n < w.heap.size → A n) → ∀ (i : Nat) (d : D) (u : Value), ds[i]? = some d → cs[i]? = some u → V A w nowhere d u

def Rint (k : IntKind) (ds : List D) : Prop := ∃ n : Int, (Lit.int k n).wf = true ∧ ds = [.v (.int k n)]
def Rsl (R : List D → Prop) (ds : List D) : Prop := ∃ es : List (List D), es.length ≤ reachBytes ∧ (∀ e, e ∈ es → R e) ∧ ds = [.sl es]
def Rcat : List (List D → Prop) → List D → Prop
  | [], ds => ds = []
  | R :: Rs, ds => ∃ a b, ds = a ++ b ∧ R a ∧ Rcat Rs b

theorem weightsAll_mem {H : Type} {P : Program} {e : TypeId} {n : Nat} {d : DataW H} (hn : n ∈ d.weights P e) : ∀ {l : List (DataW H)}, d ∈ l → n ∈ DataW.weightsAll P e l
  | a :: l, h => by
    unfold DataW.weightsAll
    rw [List.mem_append]
    rcases List.mem_cons.1 h with h | h
    · subst h; exact .inl hn
    · exact .inr (weightsAll_mem hn h)
theorem opens_int {t : TypeId} {k : IntKind} (ht : P.underlying t = some (.int k)) : Opens enc P w t (Rint k) := by
  intro fuel cs x h _
  obtain ⟨n, rfl, _, hw⟩ := DataW.trod_int ht h
  refine ⟨_, ⟨n, hw, rfl⟩, rfl, fun A _ i d u h1 h2 => ?_⟩
  match i, h1, h2 with
  | 0, h1, h2 => cases h1; cases h2; exact .v _ _

theorem opens_slice {t e : TypeId} {R : List D → Prop} (ht : P.underlying t = some (.slice e)) (hc : 0 < P.cellsOf e) (hb : 0 < P.bytesOf e) (he : Opens enc P w e R) : Opens enc P w t (Rsl R) := by
  intro fuel cs x h hwt
  rcases DataW.trod_slice ht h with ⟨rfl, _⟩ | ⟨a, len, cap, elems, rest, n, _, rfl, rfl, _, hl, hm, hlen, hel, _⟩
  · refine ⟨[.sl []], ⟨[], Nat.zero_le _, (fun e h => by cases h), rfl⟩, rfl, fun A _ i d u h1 h2 => ?_⟩
    match i, h1, h2 with
    | 0, h1, h2 => cases h1; cases h2; exact .sl0 _ _ _
  · have key : ∀ i, i < len → ∃ ds cs' : List _, (R ds ∧ ds.length = cs'.length ∧ ∀ A : Rd, (∀ n, n < w.heap.size → A n) → ∀ (j : Nat) (d : D) (u : Value), ds[j]? = some d → cs'[j]? = some u → V A w nowhere d u) ∧
        w.cells? 0 (a.add (i * P.cellsOf e)) (P.cellsOf e) = some cs' := by
      intro i hi
      obtain ⟨y, hy⟩ : ∃ y, elems[i]? = some y := ⟨elems[i]'(by omega), by simp [show i < elems.length by omega]⟩
      have h1 := hel i hi
      rw [hy, Option.bind_eq_some_iff] at h1
      obtain ⟨cs', h2, h3⟩ := h1
      have hyl : y ∈ elems := List.mem_of_getElem? hy
      obtain ⟨ds, h4⟩ := he _ _ _ h3 fun n hn => hwt n (by
        simp only [DataW.weights, ht, List.mem_cons, List.mem_append]
        exact .inr (.inl (weightsAll_mem hn (List.mem_map.2 ⟨y, hyl, rfl⟩))))
      exact ⟨ds, cs', h4, h2⟩
    let f : Nat → List D := fun i => if h : i < len then (key i h).choose else []
    have hf : ∀ i, i < len → ∃ cs' : List _, (R (f i) ∧ (f i).length = cs'.length ∧ ∀ A : Rd, (∀ n, n < w.heap.size → A n) → ∀ (j : Nat) (d : D) (u : Value), (f i)[j]? = some d → cs'[j]? = some u → V A w nowhere d u) ∧
        w.cells? 0 (a.add (i * P.cellsOf e)) (P.cellsOf e) = some cs' := by
      intro i hi
      have := (key i hi).choose_spec
      simp only [f, dif_pos hi]
      exact this
    let es : List (List D) := (List.range len).map f
    have hes : es.length = len := by simp [es]
    have hget : ∀ (i : Nat) (e : List D), es[i]? = some e → i < len ∧ e = f i := by
      intro i e h
      have hi : i < len := by rw [← hes]; exact (List.getElem?_eq_some_iff.1 h).1
      refine ⟨hi, ?_⟩
      simp [es, hi] at h
      exact h.symm
    have hlr : len ≤ reachBytes := by
      have := hwt (((elems.map (·.1)).length + (rest.map (·.1)).length) * P.bytesOf e) (by simp only [DataW.weights, ht]; exact List.mem_cons_self ..)
      have h2 : len * 1 ≤ ((elems.map (·.1)).length + (rest.map (·.1)).length) * P.bytesOf e := Nat.mul_le_mul (by simp; omega) hb
      omega
    refine ⟨[.sl es], ⟨es, by rw [hes]; exact hlr, fun e h => ?_, rfl⟩, rfl, fun A hA i d u h1 h2 => ?_⟩
    · obtain ⟨i, hi⟩ := List.getElem?_of_mem h
      obtain ⟨h1, rfl⟩ := hget i e hi
      obtain ⟨cs', h2, _⟩ := hf i h1
      exact h2.1
    · match i, h1, h2 with
      | 0, h1, h2 =>
        cases h1
        cases h2
        by_cases h0 : len = 0
        · have : es = [] := List.eq_nil_of_length_eq_zero (by omega)
          rw [this, h0]
          exact .sl0 _ _ _
        · have hsp : a = ⟨a.block, a.off, none⟩ ∧ a.block < w.heap.size := by
            obtain ⟨cs', h3, h4⟩ := hf 0 (by omega)
            obtain ⟨_, h5, h6⟩ := World.cells?_some h4
            have h7 := h6 0 hc
            obtain ⟨c0, hc0⟩ : ∃ c0, cs'[0]? = some c0 := ⟨cs'[0]'(by omega), by simp [show 0 < cs'.length by omega]⟩
            rw [hc0] at h7
            have h8 := World.block_lt_of_cell? w _ h7
            refine ⟨?_, by simpa [Addr.add] using h8⟩
            unfold World.cell? at h7
            cases a with
            | mk b o s =>
              cases s with
              | none => rfl
              | some s =>
                simp [Addr.add] at h7
                split at h7 <;> cases h7
          have hc' : ∀ (i : Nat) (e' : List D) (j : Nat) (d : D), es[i]? = some e' → e'[j]? = some d → ∃ u, w.cell? ⟨a.block, a.off + i * P.cellsOf e + j, none⟩ = some u ∧ ∀ A : Rd, (∀ n, n < w.heap.size → A n) → V A w nowhere d u := by
            intro i e' j d h1 h2
            obtain ⟨hi, rfl⟩ := hget i e' h1
            obtain ⟨cs', h3, h4⟩ := hf i hi
            obtain ⟨_, h5, h6⟩ := World.cells?_some h4
            have hj : j < (f i).length := (List.getElem?_eq_some_iff.1 h2).1
            have hj' : j < cs'.length := by rw [← h3.2.1]; exact hj
            have h7 := h6 j (by omega)
            rw [hsp.1] at h7
            refine ⟨cs'[j], ?_, fun A hA => h3.2.2 A hA j d _ h2 (by simp [hj'])⟩
            rw [show cs'[j]? = some cs'[j] by simp [hj']] at h7
            rw [add_none, add_none] at h7
            exact h7
          have hsz : ∀ (i : Nat) (e' : List D), es[i]? = some e' → e'.length = P.cellsOf e := by
            intro i e' h1
            obtain ⟨hi, rfl⟩ := hget i e' h1
            obtain ⟨cs', h3, h4⟩ := hf i hi
            rw [h3.2.1]; exact (World.cells?_some h4).2.1
          rw [hsp.1, ← hes]
          refine .sl _ es a.block a.off (P.cellsOf e) cap (fun i j => (w.cell? ⟨a.block, a.off + i * P.cellsOf e + j, none⟩).getD default) (hA _ hsp.2) (by omega) hsz (fun i e' j d h1 h2 => ?_) fun i e' j d h1 h2 => ?_
          · obtain ⟨u, h3, _⟩ := hc' i e' j d h1 h2
            simp only [h3]; rfl
          · obtain ⟨u, h3, h4⟩ := hc' i e' j d h1 h2
            simp only [h3]
            exact h4 A.all hA

/-- The fields of a struct, one behind the other from a cell on. -/
def OpensF (enc : TypeId × Value → H) (P : Program) (w : World) : List Field → List (List D → Prop) → Nat → Nat → Prop
  | [], [], o, n => o = n
  | f :: fs, R :: Rs, o, n => f.offset = o ∧ o + P.cellsOf f.type ≤ n ∧ Opens enc P w f.type R ∧ OpensF enc P w fs Rs (o + P.cellsOf f.type) n
  | _, _, _, _ => False

theorem opens_fields {n fuel : Nat} {cs : List Value} (hn : cs.length = n) : ∀ (fs : List Field) (Rs : List (List D → Prop)) (o : Nat), OpensF enc P w fs Rs o n →
    (∀ f, f ∈ fs → ∃ y, DataW.trod enc P w 0 (fun _ => true) true fuel f.type ((cs.drop f.offset).take (P.cellsOf f.type)) = some y ∧ ∀ n, n ∈ y.1.weights P f.type → n ≤ reachBytes) →
    ∃ ds : List D, Rcat Rs ds ∧ ds.length = (cs.drop o).length ∧ ∀ A : Rd, (∀ n, n < w.heap.size → A n) → ∀ (i : Nat) (d : D) (u : Value), ds[i]? = some d → (cs.drop o)[i]? = some u → V A w nowhere d u
  | [], [], o, h, _ => by
    have e : o = n := h
    refine ⟨[], rfl, by simp; omega, fun A _ i d u h1 _ => by simp at h1⟩
  | f :: fs, R :: Rs, o, h, hr => by
    obtain ⟨h1, h1b, h2, h3⟩ := h
    obtain ⟨y, hy, hyw⟩ := hr f (List.mem_cons_self ..)
    rw [h1] at hy
    obtain ⟨a, k1, k2, k3⟩ := h2 _ _ _ hy hyw
    obtain ⟨b, q1, q2, q3⟩ := opens_fields hn fs Rs _ h3 fun g hg => hr g (List.mem_cons_of_mem _ hg)
    have hl : a.length = P.cellsOf f.type := by rw [k2]; simp; omega
    refine ⟨a ++ b, ⟨a, b, rfl, k1, q1⟩, ?_, fun A hA i d u e1 e2 => ?_⟩
    · rw [List.length_append, hl, q2]; simp; omega
    · by_cases hi : i < a.length
      · rw [List.getElem?_append_left hi] at e1
        exact k3 A hA i d u e1 (by rw [List.getElem?_take_of_lt (by omega)]; exact e2)
      · rw [List.getElem?_append_right (by omega)] at e1
        refine q3 A hA _ d u e1 ?_
        rw [List.getElem?_drop] at e2 ⊢
        rw [← e2]
        congr 1
        omega
  | [], _ :: _, _, h, _ => h.elim
  | _ :: _, [], _, h, _ => h.elim

theorem opens_struct {t : TypeId} {fs : Array Field} {Rs : List (List D → Prop)} (ht : P.underlying t = some (.struct fs)) (h : OpensF enc P w fs.toList Rs 0 (P.cellsOf t)) : Opens enc P w t (Rcat Rs) := by
  intro fuel cs x hx hwt
  obtain ⟨xs, n, _, rfl, hl, hlen, hf⟩ := DataW.trod_struct ht hx
  have := opens_fields (fuel := n) hl fs.toList Rs 0 h fun f hm => by
    obtain ⟨i, hi⟩ := List.getElem?_of_mem hm
    have h1 := hf i f (by simpa using hi)
    have hi' : i < xs.length := by rw [hlen]; simpa using (List.getElem?_eq_some_iff.1 hi).1
    refine ⟨xs[i], by rw [h1]; simp [hi'], fun n hn => hwt n ?_⟩
    simp only [DataW.weights, ht]
    exact DataW.weights_mem_each (j := i) (t := f.type) (d := xs[i].1) (by simp [hi]) (by simp [hi']) n hn
  simpa using this

/-! ### arguments -/
theorem arg_plain {t : TypeId} {v : Value} {x : DataW H} {ps : List MemPlace} {R : List D → Prop} (h : Opens enc P w t R) (hv : v.cells = #[v]) (hd : DataW.Trod enc P w 0 (fun _ => true) true t v x ps) (hw : ∀ n, n ∈ x.weights P t → n ≤ reachBytes) :
    ∃ d, R [d] ∧ ∀ A : Rd, (∀ n, n < w.heap.size → A n) → V A w nowhere d v := by
  obtain ⟨fuel, hf⟩ := hd
  obtain ⟨ds, h1, h2, h3⟩ := h _ _ _ hf hw
  rw [hv] at h2 h3
  match ds, h2 with
  | [d], _ => exact ⟨d, h1, fun A hA => h3 A hA 0 d v rfl rfl⟩

theorem arg_int {r : Reach} {b0 : Nat} {t : TypeId} {k : IntKind} {v : Value} {x : DataW H} {ps : List MemPlace} (ht : P.underlying t = some (.int k)) (ho : Value.okWide P w r b0 t v)
    (hd : DataW.Trod enc P w 0 (fun _ => true) true t v x ps) : ∃ n : Int, (Lit.int k n).wf = true ∧ ∀ A : Rd, (∀ n, n < w.heap.size → A n) → V A w nowhere (.v (.int k n)) v := by
  have hv : v.cells = #[v] := by
    cases v <;> first | rfl | simp [Value.okWide, Cell.okWide, Cell.ok, ht] at ho
  obtain ⟨d, ⟨n, h1, h2⟩, h3⟩ := arg_plain (opens_int ht) hv hd (fun n hn => by
    obtain ⟨fuel, hf⟩ := hd
    obtain ⟨m, _, hx, _⟩ := DataW.trod_int ht hf
    cases hx
    simp [DataW.weights] at hn)
  cases h2
  exact ⟨n, h1, h3⟩

theorem arg_slice {r : Reach} {b0 : Nat} {t e : TypeId} {R : List D → Prop} {v : Value} {x : DataW H} {ps : List MemPlace} (ht : P.underlying t = some (.slice e)) (hc : 0 < P.cellsOf e) (hb : 0 < P.bytesOf e) (he : Opens enc P w e R)
    (ho : Value.okWide P w r b0 t v) (hd : DataW.Trod enc P w 0 (fun _ => true) true t v x ps) (hw : ∀ n, n ∈ x.weights P t → n ≤ reachBytes) :
    ∃ es : List (List D), es.length ≤ reachBytes ∧ (∀ e, e ∈ es → R e) ∧ ∀ A : Rd, (∀ n, n < w.heap.size → A n) → V A w nowhere (.sl es) v := by
  have hv : v.cells = #[v] := by
    cases v <;> first | rfl | simp [Value.okWide, Cell.okWide, Cell.ok, ht] at ho
  obtain ⟨d, ⟨es, h1, h2, h3⟩, h4⟩ := arg_plain (opens_slice ht hc hb he) hv hd hw
  cases h3
  exact ⟨es, h1, h2, h4⟩

theorem arg_struct {r : Reach} {b0 : Nat} {t : TypeId} {fs : Array Field} {Rs : List (List D → Prop)} {v : Value} {x : DataW H} {ps : List MemPlace} (ht : P.underlying t = some (.struct fs))
    (h : OpensF enc P w fs.toList Rs 0 (P.cellsOf t)) (ho : Value.okWide P w r b0 t v) (hd : DataW.Trod enc P w 0 (fun _ => true) true t v x ps) (hw : ∀ n, n ∈ x.weights P t → n ≤ reachBytes) :
    ∃ ds : List D, Rcat Rs ds ∧ ∀ A : Rd, (∀ n, n < w.heap.size → A n) → V A w nowhere (.agg ds) v := by
  obtain ⟨cs, rfl, _⟩ : ∃ cs, v = .agg cs ∧ cs.size = P.cellsOf t := by
    unfold Value.okWide at ho
    rw [ht] at ho
    obtain ⟨cs, h1, h2, _⟩ := ho
    exact ⟨cs, h1, h2⟩
  obtain ⟨fuel, hf⟩ := hd
  obtain ⟨ds, h1, h2, h3⟩ := opens_struct ht h _ _ _ hf hw
  refine ⟨ds, h1, fun A hA => .agg _ _ _ (by simpa [Value.cells] using h2.symm) fun i d u e1 e2 => h3 A hA i d u e1 (by simpa [Value.cells] using e2)⟩
end

theorem Ext.below {w w' : World} (h : Ext w (fun _ => False) w' (fun _ => False)) : Below w.heap.size w w' :=
  ⟨h.os, h.tape, h.output, h.size, fun k hk => h.same k hk fun x => x⟩

/-- The row's end, where all that was there stays, and a truth value is returned. -/
theorem post_below {H : Type} {enc : TypeId × Value → H} {P : Program} {f : Func} {s : ChangeSpec} {apart fresh handsOn again : Bool} {W W' : World} {args : Array Value} {v : Value} {ds gs : List (DataW H)} {before pa pv : List MemPlace}
    (hW : DataW.Whole enc P f.params.toList s.vars apart W args.toList ds gs before)
    (hres : ∀ (b : Nat) (sp : Nat → Bool) (hd : Bool), DataW.TrodAll enc P W' b sp hd f.resultTypes.toList (v.resultList f.resultTypes.size) (s.fn H (ds ++ gs)).results [])
    (hargs : ∀ sp : Nat → Bool, (∀ p ∈ before, sp p.block = true) → DataW.TrodAll enc P W' 0 sp true f.params.toList args.toList (s.fn H (ds ++ gs)).args pa)
    (hvars : ∀ sp : Nat → Bool, (∀ p ∈ before, sp p.block = true) → DataW.TrodVars enc P W' sp s.vars (s.fn H (ds ++ gs)).vars pv)
    (hps : before = pa ++ pv) (hb : Below W.heap.size W W')
    (hok : ∀ (j : Nat) (t : TypeId) (r : Value), f.resultTypes[j]? = some t → (v.resultList f.resultTypes.size)[j]? = some r → Value.okWide P W' .any 0 t r) :
    s.post enc P f apart fresh handsOn again W args v W' := by
  have hlt := hW.lt
  have hold : ∀ p ∈ before, (fun b => decide (b < W.heap.size)) p.block = true := fun p hp => by simpa using hlt p hp
  refine ⟨ds, gs, before, [], pa, pv, hW, hres _ _ _, hargs _ hold, hvars _ hold, hb.frame _, fun _ => ?_⟩
  obtain ⟨_, _, _, _, _, hz, hn⟩ := hW
  refine ⟨hok, _, _, ([] ++ pa) ++ pv, ⟨[] ++ pa, pv, trodAll_append (hargs _ (fun _ _ => rfl)) (hres _ _ _), hvars _ (fun _ _ => rfl), rfl, ?_, ?_⟩, ?_⟩
  · intro b off hp
    have hp' : MemPlace.cell b off ∈ before := by rw [hps]; simpa using hp
    rw [hb.frozen (hlt _ hp')]
    exact hz b off hp'
  · intro ha
    have := hn ha
    rw [hps] at this
    simpa using this
  · intro p hp _
    rw [hps]
    simpa using hp

theorem trodAll_below {H : Type} {enc : TypeId × Value → H} {P : Program} {W W' : World} {sp : Nat → Bool} (hl : laidOutB P = true) (hb : Below W.heap.size W W') : ∀ {ts : List TypeId} {vs : List Value} {ds : List (DataW H)} {ps : List MemPlace},
    (∀ t, t ∈ ts → P.readableRec t = true ∧ t < P.types.size) → DataW.TrodAll enc P W 0 (fun _ => true) true ts vs ds ps → (∀ p, p ∈ ps → p.block < W.heap.size) → (∀ p, p ∈ ps → sp p.block = true) → DataW.TrodAll enc P W' 0 sp true ts vs ds ps
  | [], _, _, _, _, h, _, _ => by
    obtain ⟨rfl, rfl, rfl⟩ := trodAll_nil h
    exact rfl
  | t :: ts, _, _, _, ht, h, hlt, hsp => by
    obtain ⟨v, vs, d, ds, p, q, rfl, rfl, rfl, h1, h2⟩ := trodAll_cons h
    obtain ⟨k1, k2⟩ := ht t (List.mem_cons_self ..)
    exact ⟨p, q, WideElems.Trod_stays hl k1 k2 h1 (fun x hx => hb.same (hlt x (by simp [hx]))) (fun x hx => hsp x (by simp [hx])),
      trodAll_below hl hb (fun t' h' => ht t' (List.mem_cons_of_mem _ h')) h2 (fun x hx => hlt x (by simp [hx])) (fun x hx => hsp x (by simp [hx])), rfl⟩

/-- A law of a statement, out of a contract that says that it returns true. -/
theorem law_true {H : Type} {enc : TypeId × Value → H} {P : Program} {f : FuncId} {fn : Func} {s : ChangeSpec} {apart fresh handsOn again : Bool} {tb : TypeId} (hl : laidOutB P = true)
    (hp : ∀ t, t ∈ fn.params.toList → P.readableRec t = true ∧ t < P.types.size) (hr : fn.resultTypes = #[tb]) (htb : P.underlying tb = some .bool) (hv : s.vars = [])
    {W : World} {args : Array Value} {ds gs : List (DataW H)} {before : List MemPlace} (hW : DataW.Whole enc P fn.params.toList s.vars apart W args.toList ds gs before)
    (hs : ∀ gs, gs = [] → s.fn H (ds ++ gs) = { results := [.lit (.bool true)], args := ds })
    {xs : List D} (hx : VS ⟨fun n => n < W.heap.size, W.heap.size⟩ W nowhere xs args) (hm : Maps P f xs (.v (.bool true))) :
    Calls P f args W fun e W' => ∃ v, e = .returned v ∧ s.post enc P fn apart fresh handsOn again W args v W' := by
  refine (callsIn_wide.1 (hm.2 W _ args (fun n h => h) hx)).mono ?_
  rintro e W' ⟨v, A', rfl, hvv, _, _, _, hext⟩
  have hvb := hvv.v_inv
  subst hvb
  obtain ⟨p, q, h1, h2, h3, _⟩ := id hW
  have hgs : gs = [] ∧ q = [] := by
    rw [hv] at h2
    cases gs with
    | nil => exact ⟨rfl, h2⟩
    | cons => exact h2.elim
  obtain ⟨rfl, rfl⟩ := hgs
  rw [List.append_nil] at h3
  subst h3
  refine ⟨_, rfl, post_below (pa := before) (pv := []) hW (fun b sp hd => ?_) (fun sp hsp => ?_) (fun sp _ => ?_) (by simp) hext.below (ok_one hr rfl (okWide_bool_mk htb _))⟩
  · rw [hs _ rfl, hr]
    exact trodAll_mk1 (shut_bool htb true)
  · rw [hs _ rfl]
    exact trodAll_below hl hext.below hp h1 hW.lt hsp
  · rw [hs _ rfl, hv]; rfl
end
end Go.DL
