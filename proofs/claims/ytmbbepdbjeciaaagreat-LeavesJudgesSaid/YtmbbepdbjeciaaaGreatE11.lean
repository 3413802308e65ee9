/- Arguments of a statement, opened: what is read stands for abstract values over all that is there. -/
import Derived.Test.YtmbbepdbjeciaaaGreatE4
import Derived.JoinedOf
import Derived.Carry
import Derived.Handed
import Derived.SizedLaws
import Derived.RowKit
import Derived.Test.YtmbbepdbjeciaaaGreatE10
set_option linter.all false
namespace Go.DL
open Go.RowKit Go.Proofs Go.ChangeShapes Go.WideShapes

noncomputable section

section
variable {H : Type} {enc : TypeId × Value → H} {P : Program} {w : World}

/-- What is read at a type stands for abstract values of a kind, over any blocks among which are all that are there. -/
def Opens (enc : TypeId × Value → H) (P : Program) (w : World) (t : TypeId) (R : List D → Prop) : Prop :=
  ∀ (fuel : Nat) (cs : List Value) (x : DataW H × List MemPlace), DataW.trod enc P w 0 (fun _ => true) true fuel t cs = some x → (∀ n, n ∈ x.1.weights P t → n ≤ reachBytes) →
    ∃ ds : List D, R ds ∧ ds.length = cs.length ∧ ∀ A : Rd, (∀ n, n < w.heap.size → A n) → ∀ (i : Nat) (d : D) (u : Value), ds[i]? = some d → cs[i]? = some u → V A w nowhere d u

def Rint (k : IntKind) (ds : List D) : Prop := ∃ n : Int, (Lit.int k n).wf = true ∧ ds = [.v (.int k n)]
def Rsl (R : List D → Prop) (ds : List D) : Prop := ∃ es : List (List D), es.length ≤ reachBytes ∧ (∀ e, e ∈ es → R e) ∧ ds = [.sl es]
def Rcat : List (List D → Prop) → List D → Prop
  | [], ds => ds = []
  | R :: Rs, ds => ∃ a b, ds = a ++ b ∧ R a ∧ Rcat Rs b

theorem weightsAll_mem {H : Type} {P : Program} {e : TypeId} {n : Nat} {d : DataW H} (hn : n ∈ d.weights P e) : ∀ {l : List (DataW H)}, d ∈ l → n ∈ DataW.weightsAll P e l
  | a :: l, h => by
    unfold DataW.weightsAll
    rw [List.mem_append]
    rcases List.mem_cons.1 h with h | h
    · subst h; exact .inl hn
    · exact .inr (weightsAll_mem hn h)
theorem opens_int {t : TypeId} {k : IntKind} (ht : P.underlying t = some (.int k)) : Opens enc P w t (Rint k) := by
  intro fuel cs x h _
  obtain ⟨n, rfl, _, hw⟩ := DataW.trod_int ht h
  refine ⟨_, ⟨n, hw, rfl⟩, rfl, fun A _ i d u h1 h2 => ?_⟩
  match i, h1, h2 with
  | 0, h1, h2 => cases h1; cases h2; exact .v _ _

theorem opens_slice {t e : TypeId} {R : List D → Prop} (ht : P.underlying t = some (.slice e)) (hc : 0 < P.cellsOf e) (hb : 0 < P.bytesOf e) (he : Opens enc P w e R) : Opens enc P w t (Rsl R) := by
  intro fuel cs x h hwt
  rcases DataW.trod_slice ht h with ⟨rfl, _⟩ | ⟨a, len, cap, elems, rest, n, _, rfl, rfl, _, hl, hm, hlen, hel, _⟩
  · refine ⟨[.sl []], ⟨[], Nat.zero_le _, (fun e h => by cases h), rfl⟩, rfl, fun A _ i d u h1 h2 => ?_⟩
    match i, h1, h2 with
    | 0, h1, h2 => cases h1; cases h2; exact .sl0 _ _ _
  · have key : ∀ i, i < len → ∃ ds cs' : List _, (R ds ∧ ds.length = cs'.length ∧ ∀ A : Rd, (∀ n, n < w.heap.size → A n) → ∀ (j : Nat) (d : D) (u : Value), ds[j]? = some d → cs'[j]? = some u → V A w nowhere d u) ∧
        w.cells? 0 (a.add (i * P.cellsOf e)) (P.cellsOf e) = some cs' := by
      intro i hi
      obtain ⟨y, hy⟩ : ∃ y, elems[i]? = some y := ⟨elems[i]'(by omega), by simp [show i < elems.length by omega]⟩
      have h1 := hel i hi
      rw [hy, Option.bind_eq_some_iff] at h1
      obtain ⟨cs', h2, h3⟩ := h1
      have hyl : y ∈ elems := List.mem_of_getElem? hy
      obtain ⟨ds, h4⟩ := he _ _ _ h3 fun n hn => hwt n (by
        simp only [DataW.weights, ht, List.mem_cons, List.mem_append]
        exact .inr (.inl (weightsAll_mem hn (List.mem_map.2 ⟨y, hyl, rfl⟩))))
      exact ⟨ds, cs', h4, h2⟩
    let f : Nat → List D := fun i => if h : i < len then (key i h).choose else []
    have hf : ∀ i, i < len → ∃ cs' : List _, (R (f i) ∧ (f i).length = cs'.length ∧ ∀ A : Rd, (∀ n, n < w.heap.size → A n) → ∀ (j : Nat) (d : D) (u : Value), (f i)[j]? = some d → cs'[j]? = some u → V A w nowhere d u) ∧
        w.cells? 0 (a.add (i * P.cellsOf e)) (P.cellsOf e) = some cs' := by
      intro i hi
      have := (key i hi).choose_spec
      simp only [f, dif_pos hi]
      exact this
    let es : List (List D) := (List.range len).map f
    have hes : es.length = len := by simp [es]
    have hget : ∀ (i : Nat) (e : List D), es[i]? = some e → i < len ∧ e = f i := by
      intro i e h
      have hi : i < len := by rw [← hes]; exact (List.getElem?_eq_some_iff.1 h).1
      refine ⟨hi, ?_⟩
      simp [es, hi] at h
      exact h.symm
    have hlr : len ≤ reachBytes := by
      have := hwt (((elems.map (·.1)).length + (rest.map (·.1)).length) * P.bytesOf e) (by simp only [DataW.weights, ht]; exact List.mem_cons_self ..)
      have h2 : len * 1 ≤ ((elems.map (·.1)).length + (rest.map (·.1)).length) * P.bytesOf e := Nat.mul_le_mul (by simp; omega) hb
      omega
    refine ⟨[.sl es], ⟨es, by rw [hes]; exact hlr, fun e h => ?_, rfl⟩, rfl, fun A hA i d u h1 h2 => ?_⟩
    · obtain ⟨i, hi⟩ := List.getElem?_of_mem h
      obtain ⟨h1, rfl⟩ := hget i e hi
      obtain ⟨cs', h2, _⟩ := hf i h1
      exact h2.1
    · match i, h1, h2 with
      | 0, h1, h2 =>
        cases h1
        cases h2
        by_cases h0 : len = 0
        · have : es = [] := List.eq_nil_of_length_eq_zero (by omega)
          rw [this, h0]
          exact .sl0 _ _ _
        · have hsp : a = ⟨a.block, a.off, none⟩ ∧ a.block < w.heap.size := by
            obtain ⟨cs', h3, h4⟩ := hf 0 (by omega)
            obtain ⟨_, h5, h6⟩ := World.cells?_some h4
            have h7 := h6 0 hc
            obtain ⟨c0, hc0⟩ : ∃ c0, cs'[0]? = some c0 := ⟨cs'[0]'(by omega), by simp [show 0 < cs'.length by omega]⟩
            rw [hc0] at h7
            have h8 := World.block_lt_of_cell? w _ h7
            refine ⟨?_, by simpa [Addr.add] using h8⟩
            unfold World.cell? at h7
            cases a with
            | mk b o s =>
              cases s with
              | none => rfl
              | some s =>
                simp [Addr.add] at h7
                split at h7 <;> cases h7
          have hc' : ∀ (i : Nat) (e' : List D) (j : Nat) (d : D), es[i]? = some e' → e'[j]? = some d → ∃ u, w.cell? ⟨a.block, a.off + i * P.cellsOf e + j, none⟩ = some u ∧ ∀ A : Rd, (∀ n, n < w.heap.size → A n) → V A w nowhere d u := by
            intro i e' j d h1 h2
            obtain ⟨hi, rfl⟩ := hget i e' h1
            obtain ⟨cs', h3, h4⟩ := hf i hi
            obtain ⟨_, h5, h6⟩ := World.cells?_some h4
            have hj : j < (f i).length := (List.getElem?_eq_some_iff.1 h2).1
            have hj' : j < cs'.length := by rw [← h3.2.1]; exact hj
            have h7 := h6 j (by omega)
            rw [hsp.1] at h7
            refine ⟨cs'[j], ?_, fun A hA => h3.2.2 A hA j d _ h2 (by simp [hj'])⟩
            rw [show cs'[j]? = some cs'[j] by simp [hj']] at h7
            rw [add_none, add_none] at h7
            exact h7
          have hsz : ∀ (i : Nat) (e' : List D), es[i]? = some e' → e'.length = P.cellsOf e := by
            intro i e' h1
            obtain ⟨hi, rfl⟩ := hget i e' h1
            obtain ⟨cs', h3, h4⟩ := hf i hi
            rw [h3.2.1]; exact (World.cells?_some h4).2.1
          rw [hsp.1, ← hes]
          refine .sl _ es a.block a.off (P.cellsOf e) cap (fun i j => (w.cell? ⟨a.block, a.off + i * P.cellsOf e + j, none⟩).getD default) (hA _ hsp.2) (by omega) hsz (fun i e' j d h1 h2 => ?_) fun i e' j d h1 h2 => ?_
          · obtain ⟨u, h3, _⟩ := hc' i e' j d h1 h2
            simp only [h3]; rfl
          · obtain ⟨u, h3, h4⟩ := hc' i e' j d h1 h2
            simp only [h3]
            exact h4 A.all hA

/-- The fields of a struct, one behind the other from a cell on. -/
def OpensF (enc : TypeId × Value → H) (P : Program) (w : World) : List Field → List (List D → Prop) → Nat → Nat → Prop
  | [], [], o, n => o = n
  | f :: fs, R :: Rs, o, n => f.offset = o ∧ o + P.cellsOf f.type ≤ n ∧ Opens enc P w f.type R ∧ OpensF enc P w fs Rs (o + P.cellsOf f.type) n
  | _, _, _, _ => False

theorem opens_fields {n fuel : Nat} {cs : List Value} (hn : cs.length = n) : ∀ (fs : List Field) (Rs : List (List D → Prop)) (o : Nat), OpensF enc P w fs Rs o n →
    (∀ f, f ∈ fs → ∃ y, DataW.trod enc P w 0 (fun _ => true) true fuel f.type ((cs.drop f.offset).take (P.cellsOf f.type)) = some y ∧ ∀ n, n ∈ y.1.weights P f.type → n ≤ reachBytes) →
    ∃ ds : List D, Rcat Rs ds ∧ ds.length = (cs.drop o).length ∧ ∀ A : Rd, (∀ n, n < w.heap.size → A n) → ∀ (i : Nat) (d : D) (u : Value), ds[i]? = some d → (cs.drop o)[i]? = some u → V A w nowhere d u
  | [], [], o, h, _ => by
    have e : o = n := h
    refine ⟨[], rfl, by simp; omega, fun A _ i d u h1 _ => by simp at h1⟩
  | f :: fs, R :: Rs, o, h, hr => by
    obtain ⟨h1, h1b, h2, h3⟩ := h
    obtain ⟨y, hy, hyw⟩ := hr f (List.mem_cons_self ..)
    rw [h1] at hy
    obtain ⟨a, k1, k2, k3⟩ := h2 _ _ _ hy hyw
    obtain ⟨b, q1, q2, q3⟩ := opens_fields hn fs Rs _ h3 fun g hg => hr g (List.mem_cons_of_mem _ hg)
    have hl : a.length = P.cellsOf f.type := by rw [k2]; simp; omega
    refine ⟨a ++ b, ⟨a, b, rfl, k1, q1⟩, ?_, fun A hA i d u e1 e2 => ?_⟩
    · rw [List.length_append, hl, q2]; simp; omega
    · by_cases hi : i < a.length
      · rw [List.getElem?_append_left hi] at e1
        exact k3 A hA i d u e1 (by rw [List.getElem?_take_of_lt (by omega)]; exact e2)
      · rw [List.getElem?_append_right (by omega)] at e1
        refine q3 A hA _ d u e1 ?_
        rw [List.getElem?_drop] at e2 ⊢
        rw [← e2]
        congr 1
        omega
  | [], _ :: _, _, h, _ => h.elim
  | _ :: _, [], _, h, _ => h.elim

theorem opens_struct {t : TypeId} {fs : Array Field} {Rs : List (List D → Prop)} (ht : P.underlying t = some (.struct fs)) (h : OpensF enc P w fs.toList Rs 0 (P.cellsOf t)) : Opens enc P w t (Rcat Rs) := by
  intro fuel cs x hx hwt
  obtain ⟨xs, n, _, rfl, hl, hlen, hf⟩ := DataW.trod_struct ht hx
  have := opens_fields (fuel := n) hl fs.toList Rs 0 h fun f hm => by
    obtain ⟨i, hi⟩ := List.getElem?_of_mem hm
    have h1 := hf i f (by simpa using hi)
    have hi' : i < xs.length := by rw [hlen]; simpa using (List.getElem?_eq_some_iff.1 hi).1
    refine ⟨xs[i], by rw [h1]; simp [hi'], fun n hn => hwt n ?_⟩
    simp only [DataW.weights, ht]
    exact DataW.weights_mem_each (j := i) (t := f.type) (d := xs[i].1) (by simp [hi]) (by simp [hi']) n hn
  simpa using this

/-! ### arguments -/
theorem arg_plain {t : TypeId} {v : Value} {x : DataW H} {ps : List MemPlace} {R : List D → Prop} (h : Opens enc P w t R) (hv : v.cells = #[v]) (hd : DataW.Trod enc P w 0 (fun _ => true) true t v x ps) (hw : ∀ n, n ∈ x.weights P t → n ≤ reachBytes) :
    ∃ d, R [d] ∧ ∀ A : Rd, (∀ n, n < w.heap.size → A n) → V A w nowhere d v := by
  obtain ⟨fuel, hf⟩ := hd
  obtain ⟨ds, h1, h2, h3⟩ := h _ _ _ hf hw
  rw [hv] at h2 h3
  match ds, h2 with
  | [d], _ => exact ⟨d, h1, fun A hA => h3 A hA 0 d v rfl rfl⟩

theorem arg_int {r : Reach} {b0 : Nat} {t : TypeId} {k : IntKind} {v : Value} {x : DataW H} {ps : List MemPlace} (ht : P.underlying t = some (.int k)) (ho : Value.okWide P w r b0 t v)
    (hd : DataW.Trod enc P w 0 (fun _ => true) true t v x ps) : ∃ n : Int, (Lit.int k n).wf = true ∧ ∀ A : Rd, (∀ n, n < w.heap.size → A n) → V A w nowhere (.v (.int k n)) v := by
  have hv : v.cells = #[v] := by
    cases v <;> first | rfl | simp [Value.okWide, Cell.okWide, Cell.ok, ht] at ho
  obtain ⟨d, ⟨n, h1, h2⟩, h3⟩ := arg_plain (opens_int ht) hv hd (fun n hn => by
    obtain ⟨fuel, hf⟩ := hd
    obtain ⟨m, _, hx, _⟩ := DataW.trod_int ht hf
    cases hx
    simp [DataW.weights] at hn)
  cases h2
  exact ⟨n, h1, h3⟩

theorem arg_slice {r : Reach} {b0 : Nat} {t e : TypeId} {R : List D → Prop} {v : Value} {x : DataW H} {ps : List MemPlace} (ht : P.underlying t = some (.slice e)) (hc : 0 < P.cellsOf e) (hb : 0 < P.bytesOf e) (he : Opens enc P w e R)
    (ho : Value.okWide P w r b0 t v) (hd : DataW.Trod enc P w 0 (fun _ => true) true t v x ps) (hw : ∀ n, n ∈ x.weights P t → n ≤ reachBytes) :
    ∃ es : List (List D), es.length ≤ reachBytes ∧ (∀ e, e ∈ es → R e) ∧ ∀ A : Rd, (∀ n, n < w.heap.size → A n) → V A w nowhere (.sl es) v := by
  have hv : v.cells = #[v] := by
    cases v <;> first | rfl | simp [Value.okWide, Cell.okWide, Cell.ok, ht] at ho
  obtain ⟨d, ⟨es, h1, h2, h3⟩, h4⟩ := arg_plain (opens_slice ht hc hb he) hv hd hw
  cases h3
  exact ⟨es, h1, h2, h4⟩

theorem arg_struct {r : Reach} {b0 : Nat} {t : TypeId} {fs : Array Field} {Rs : List (List D → Prop)} {v : Value} {x : DataW H} {ps : List MemPlace} (ht : P.underlying t = some (.struct fs))
    (h : OpensF enc P w fs.toList Rs 0 (P.cellsOf t)) (ho : Value.okWide P w r b0 t v) (hd : DataW.Trod enc P w 0 (fun _ => true) true t v x ps) (hw : ∀ n, n ∈ x.weights P t → n ≤ reachBytes) :
    ∃ ds : List D, Rcat Rs ds ∧ ∀ A : Rd, (∀ n, n < w.heap.size → A n) → V A w nowhere (.agg ds) v := by
  obtain ⟨cs, rfl, _⟩ : ∃ cs, v = .agg cs ∧ cs.size = P.cellsOf t := by
    unfold Value.okWide at ho
    rw [ht] at ho
    obtain ⟨cs, h1, h2, _⟩ := ho
    exact ⟨cs, h1, h2⟩
  obtain ⟨fuel, hf⟩ := hd
  obtain ⟨ds, h1, h2, h3⟩ := opens_struct ht h _ _ _ hf hw
  refine ⟨ds, h1, fun A hA => .agg _ _ _ (by simpa [Value.cells] using h2.symm) fun i d u e1 e2 => h3 A hA i d u e1 (by simpa [Value.cells] using e2)⟩
end

theorem Ext.below {w w' : World} (h : Ext w (fun _ => False) w' (fun _ => False)) : Below w.heap.size w w' :=
  ⟨h.os, h.tape, h.output, h.size, fun k hk => h.same k hk fun x => x⟩

/-- The row's end, where all that was there stays, and a truth value is returned. -/
theorem post_below {H : Type} {enc : TypeId × Value → H} {P : Program} {f : Func} {s : ChangeSpec} {apart fresh handsOn again : Bool} {W W' : World} {args : Array Value} {v : Value} {ds gs : List (DataW H)} {before pa pv : List MemPlace}
    (hW : DataW.Whole enc P f.params.toList s.vars apart W args.toList ds gs before)
    (hres : ∀ (b : Nat) (sp : Nat → Bool) (hd : Bool), DataW.TrodAll enc P W' b sp hd f.resultTypes.toList (v.resultList f.resultTypes.size) (s.fn H (ds ++ gs)).results [])
    (hargs : ∀ sp : Nat → Bool, (∀ p ∈ before, sp p.block = true) → DataW.TrodAll enc P W' 0 sp true f.params.toList args.toList (s.fn H (ds ++ gs)).args pa)
    (hvars : ∀ sp : Nat → Bool, (∀ p ∈ before, sp p.block = true) → DataW.TrodVars enc P W' sp s.vars (s.fn H (ds ++ gs)).vars pv)
    (hps : before = pa ++ pv) (hb : Below W.heap.size W W')
    (hok : ∀ (j : Nat) (t : TypeId) (r : Value), f.resultTypes[j]? = some t → (v.resultList f.resultTypes.size)[j]? = some r → Value.okWide P W' .any 0 t r) :
    s.post enc P f apart fresh handsOn again W args v W' := by
  have hlt := hW.lt
  have hold : ∀ p ∈ before, (fun b => decide (b < W.heap.size)) p.block = true := fun p hp => by simpa using hlt p hp
  refine ⟨ds, gs, before, [], pa, pv, hW, hres _ _ _, hargs _ hold, hvars _ hold, hb.frame _, fun _ => ?_⟩
  obtain ⟨_, _, _, _, _, hz, hn⟩ := hW
  refine ⟨hok, _, _, ([] ++ pa) ++ pv, ⟨[] ++ pa, pv, trodAll_append (hargs _ (fun _ _ => rfl)) (hres _ _ _), hvars _ (fun _ _ => rfl), rfl, ?_, ?_⟩, ?_⟩
  · intro b off hp
    have hp' : MemPlace.cell b off ∈ before := by rw [hps]; simpa using hp
    rw [hb.frozen (hlt _ hp')]
    exact hz b off hp'
  · intro ha
    have := hn ha
    rw [hps] at this
    simpa using this
  · intro p hp _
    rw [hps]
    simpa using hp

theorem trodAll_below {H : Type} {enc : TypeId × Value → H} {P : Program} {W W' : World} {sp : Nat → Bool} (hl : laidOutB P = true) (hb : Below W.heap.size W W') : ∀ {ts : List TypeId} {vs : List Value} {ds : List (DataW H)} {ps : List MemPlace},
    (∀ t, t ∈ ts → P.readableRec t = true ∧ t < P.types.size) → DataW.TrodAll enc P W 0 (fun _ => true) true ts vs ds ps → (∀ p, p ∈ ps → p.block < W.heap.size) → (∀ p, p ∈ ps → sp p.block = true) → DataW.TrodAll enc P W' 0 sp true ts vs ds ps
  | [], _, _, _, _, h, _, _ => by
    obtain ⟨rfl, rfl, rfl⟩ := trodAll_nil h
    exact rfl
  | t :: ts, _, _, _, ht, h, hlt, hsp => by
    obtain ⟨v, vs, d, ds, p, q, rfl, rfl, rfl, h1, h2⟩ := trodAll_cons h
    obtain ⟨k1, k2⟩ := ht t (List.mem_cons_self ..)
    exact ⟨p, q, WideElems.Trod_stays hl k1 k2 h1 (fun x hx => hb.same (hlt x (by simp [hx]))) (fun x hx => hsp x (by simp [hx])),
      trodAll_below hl hb (fun t' h' => ht t' (List.mem_cons_of_mem _ h')) h2 (fun x hx => hlt x (by simp [hx])) (fun x hx => hsp x (by simp [hx])), rfl⟩

/-- A law of a statement, out of a contract that says that it returns true. -/
theorem law_true {H : Type} {enc : TypeId × Value → H} {P : Program} {f : FuncId} {fn : Func} {s : ChangeSpec} {apart fresh handsOn again : Bool} {tb : TypeId} (hl : laidOutB P = true)
    (hp : ∀ t, t ∈ fn.params.toList → P.readableRec t = true ∧ t < P.types.size) (hr : fn.resultTypes = #[tb]) (htb : P.underlying tb = some .bool) (hv : s.vars = [])
    {W : World} {args : Array Value} {ds gs : List (DataW H)} {before : List MemPlace} (hW : DataW.Whole enc P fn.params.toList s.vars apart W args.toList ds gs before)
    (hs : ∀ gs, gs = [] → s.fn H (ds ++ gs) = { results := [.lit (.bool true)], args := ds })
    {xs : List D} (hx : VS ⟨fun n => n < W.heap.size, W.heap.size⟩ W nowhere xs args) (hm : Maps P f xs (.v (.bool true))) :
    Calls P f args W fun e W' => ∃ v, e = .returned v ∧ s.post enc P fn apart fresh handsOn again W args v W' := by
  refine (callsIn_wide.1 (hm.2 W _ args (fun n h => h) hx)).mono ?_
  rintro e W' ⟨v, A', rfl, hvv, _, _, _, hext⟩
  have hvb := hvv.v_inv
  subst hvb
  obtain ⟨p, q, h1, h2, h3, _⟩ := id hW
  have hgs : gs = [] ∧ q = [] := by
    rw [hv] at h2
    cases gs with
    | nil => exact ⟨rfl, h2⟩
    | cons => exact h2.elim
  obtain ⟨rfl, rfl⟩ := hgs
  rw [List.append_nil] at h3
  subst h3
  refine ⟨_, rfl, post_below (pa := before) (pv := []) hW (fun b sp hd => ?_) (fun sp hsp => ?_) (fun sp _ => ?_) (by simp) hext.below (ok_one hr rfl (okWide_bool_mk htb _))⟩
  · rw [hs _ rfl, hr]
    exact trodAll_mk1 (shut_bool htb true)
  · rw [hs _ rfl]
    exact trodAll_below hl hext.below hp h1 hW.lt hsp
  · rw [hs _ rfl, hv]; rfl
end
end Go.DL

/- Elements of several cells: appended to a slice of one's own. -/
namespace Go.DL
open Go.RowKit Go.Proofs

section
variable {P : Program} {H : List Blk} {s n : Nat} {al : AL} {tx : TypeId} {x y : Operand}
theorem f_appG {α : Type} {f : α → List D} {te : TypeId} {m c m' c' b1 b2 sz by' : Nat} {o v : List α} (hx : evA n al x = .ms b1 0 m c) (hy : evA n al y = .ms b2 0 m' c') (hb1 : H[b1]? = some (.live sz (o.map f))) (hb2 : H[b2]? = some (.live sz (v.map f))) (hm : m = o.length) (hm' : m' = v.length)
    (he : elemT P tx = some (te, sz)) (h0 : 0 < sz) (hz : (zeroD P te).map List.length = some sz) (hby : P.bytesOf te = by') (hf : ∀ a, (f a).length = sz ∧ (f a).all isCell = true) (hl : (o.length + v.length) * by' ≤ 140737488355328) (hl2 : o.length + v.length ≤ 9223372036854775807) :
    Ap P H s n al (.call { callee := .builtin .append, args := #[x, y], argTypes := #[tx, tx] }) (o ++ v).length (some b1) (.live sz ((o ++ v).map f)) := by
  subst hm; subst hm'
  have hu : P.underlying tx = some (.slice te) := by
    unfold elemT at he
    split at he
    · rename_i e hu; simp only [Option.map_eq_some_iff] at he; obtain ⟨_, _, h⟩ := he; cases h; exact hu
    · cases he
  refine f_app hx hy ?_ (by simp)
  have e1 : elemsD H (.ms b1 0 o.length c) = some (o.map f) := by
    simp only [elemsD, hb1, Nat.zero_add, List.length_map, Nat.le_refl, if_true, List.drop_zero]
    rw [List.take_of_length_le (by simp)]
  have e2 : elemsD H (.ms b2 0 v.length c') = some (v.map f) := by
    simp only [elemsD, hb2, Nat.zero_add, List.length_map, Nat.le_refl, if_true, List.drop_zero]
    rw [List.take_of_length_le (by simp)]
  have e3 : ∀ l : List α, (l.map f).all (fun e => e.length == sz) = true := fun l => List.all_eq_true.2 fun e he => by
    obtain ⟨a, _, rfl⟩ := List.mem_map.1 he
    simpa using (hf a).1
  have e4 : (v.map f).all (fun e => e.all isCell) = true := List.all_eq_true.2 fun e he => by
    obtain ⟨a, _, rfl⟩ := List.mem_map.1 he
    exact (hf a).2
  simp only [appendD, addedD, he, hu, e1, e2]
  rw [if_pos]
  · simp only [hb1, Blk.hasSz]; simp
  · refine ⟨h0, hz, e3 o, e3 v, e4, ?_, ?_⟩
    · rw [hby, List.length_map, List.length_map]; exact hl
    · rw [List.length_map, List.length_map]; exact hl2
end
end Go.DL

/- Drawn regions over blocks whose number is not known: where nothing that is hidden is laid yet. -/
namespace Go.DL
open Go.RowKit Go.Proofs

noncomputable section
theorem maskL_id {base : Nat} {hs : List Nat} {H : List Blk} (h : ∀ i, i ∈ hs → H[base + i]? = some .free) : maskL base hs H = H := by
  refine List.ext_getElem? fun b => ?_
  rw [maskL_get]
  split
  · rename_i hc
    obtain ⟨⟨s, hs, rfl⟩, _⟩ := hc
    exact (h s hs).symm
  · rfl
def freeAt (T : List Blk) (i : Nat) : Bool := match T[i]? with
  | some .free => true
  | _ => false
theorem mask_app {H0 T : List Blk} {hs : List Nat} (h : hs.all (freeAt T) = true) : maskL H0.length hs (H0 ++ T) = H0 ++ T :=
  maskL_id fun i hi => by
    have h1 := List.all_eq_true.1 h i hi
    unfold freeAt at h1
    rw [List.getElem?_append_right (by omega), show H0.length + i - H0.length = i by omega]
    split at h1
    · assumption
    · cases h1
section
variable {E : Ev} {ops r : List Oper} {base s : Nat} {hs : List Nat} {pl : List (Nat × List Nat)} {n : Nat} {a : AL} {H H' : List Blk} {K : KP} {i : Tmp} {op : Op} {ty : TypeId} {pos : String} {aft : Array Edge} {d : D}
theorem PT.vI (hm : maskL base hs H = H) (hv : Val E.P H (base + s) n a op d) (h : PT E ops base pl r n ((i, d) :: a) H K) : PT E ops base ((s, hs) :: pl) (⟨some i, op, ty, pos, aft, none⟩ :: r) n a H K :=
  PT.v (by rw [hm]; exact hv) h
theorem PT.newI {k : Blk} {s' : Nat} (hm : maskL base hs H = H) (hs' : base + s = s') (hv : Mk E.P H s' n a op d k) (hH : H.set s' k = H') (h : PT E ops base pl r n ((i, d) :: a) H' K) : PT E ops base ((s, hs) :: pl) (⟨some i, op, ty, pos, aft, none⟩ :: r) n a H K :=
  PT.new hs' (by rw [hm]; exact hv) hH h
theorem PT.wrI {b : Nat} {k : Blk} (hm : maskL base hs H = H) (hv : Wr E.P H (base + s) n a op b k) (hH : H.set b k = H') (h : PT E ops base pl r n a H' K) : PT E ops base ((s, hs) :: pl) (⟨none, op, ty, pos, aft, none⟩ :: r) n a H K :=
  PT.wr (by rw [hm]; exact hv) hH h
theorem PT.callI {dst : Option Tmp} {f : Operand} {args : List Operand} {tys : Array TypeId} {f' : FuncId} {xs ys : List D} (hm0 : maskL base hs H = H) (hc : callA n a f args = some (f', xs))
    (hm : Maps E.P f' ys d) (hy : xs.map (snap (fun b => H[b]?) 5) = ys) (hd : freshD 5 d = true) (h : PT E ops base pl r n (setA dst d a) H K) :
    PT E ops base ((s, hs) :: pl) (⟨dst, .call { callee := .value f, args := args.toArray, argTypes := tys }, ty, pos, aft, none⟩ :: r) n a H K :=
  PT.callG hc hm (by rw [hm0]; exact hy) hd h
end

theorem lowB_mono {K K' : Nat} (hK : K ≤ K') : ∀ (k : Nat) (d : D), lowB k K d = true → lowB k K' d = true := by
  intro k
  induction k with
  | zero => intro d h; cases d <;> simp_all [lowB] <;> omega
  | succ k ih =>
    intro d h
    cases d with
    | agg cs => simp only [lowB, List.all_eq_true] at h ⊢; exact fun x hx => ih x (h x hx)
    | tup cs => simp only [lowB, List.all_eq_true] at h ⊢; exact fun x hx => ih x (h x hx)
    | fn f a b => simp only [lowB, List.all_eq_true, Bool.and_eq_true] at h ⊢; exact ⟨fun x hx => ih x (h.1 x hx), fun x hx => ih x (h.2 x hx)⟩
    | _ => simp_all [lowB] <;> omega
theorem BlkBelow.mono {K K' : Nat} (hK : K ≤ K') {b : Blk} (h : BlkBelow K b) : BlkBelow K' b := by
  cases b with
  | live sz es => exact fun e he d hd => lowB_mono hK 4 d (h e he d hd)
  | tab c es => exact fun e he => lowB_mono hK 4 _ (h e he)
  | _ => trivial
section
variable {P : Program} {n s : Nat} {al : AL} {H : List Blk} {x y : Operand} {tx ty' : TypeId} {a b : Int}
theorem f_neqF (hx : evA n al x = wI a) (hy : evA n al y = wI b) (h : a = b) : Val P H s n al (.binOp .neq tx x y ty') (wB false) := by
  have h1 := f_neq (P := P) (H := H) (s := s) (tx := tx) (ty' := ty') hx hy
  rwa [decide_eq_false (fun q => q h)] at h1
theorem f_neqT (hx : evA n al x = wI a) (hy : evA n al y = wI b) (h : ¬ a = b) : Val P H s n al (.binOp .neq tx x y ty') (wB true) := by
  have h1 := f_neq (P := P) (H := H) (s := s) (tx := tx) (ty' := ty') hx hy
  rwa [decide_eq_true h] at h1
theorem f_eqlF (hx : evA n al x = wI a) (hy : evA n al y = wI b) (h : ¬ a = b) : Val P H s n al (.binOp .eql tx x y ty') (wB false) := by
  have h1 := f_eql (P := P) (H := H) (s := s) (tx := tx) (ty' := ty') hx hy
  rwa [decide_eq_false h] at h1
theorem f_eqlT (hx : evA n al x = wI a) (hy : evA n al y = wI b) (h : a = b) : Val P H s n al (.binOp .eql tx x y ty') (wB true) := by
  have h1 := f_eql (P := P) (H := H) (s := s) (tx := tx) (ty' := ty') hx hy
  rwa [decide_eq_true h] at h1
end
/-- Some blocks, then many that are alike; what lies behind is forgotten. -/
theorem fg_ws {N n : Nat} {a a' : AL} {pre ws T : List Blk} (hd : Hd n a a') (le : N ≤ (pre ++ ws).length) (ab : (a'.all fun p => lowB 4 pre.length p.2) = true)
    (hb1 : ∀ b, b ∈ pre → BlkBelow (pre ++ ws).length b) (hb2 : ∀ b, b ∈ ws → BlkBelow 0 b) : Wk N n a (pre ++ (ws ++ T)) a' (pre ++ ws) :=
  Wk.fg ⟨hd, by rw [← List.append_assoc, List.take_left], le,
    List.all_eq_true.2 fun p hp => lowB_mono (by rw [List.length_append]; omega) 4 _ (List.all_eq_true.1 ab p hp),
    fun b hb => (List.mem_append.1 hb).elim (hb1 b) fun h => (hb2 b h).mono (Nat.zero_le _)⟩

theorem fg_ws0 {N n : Nat} {a a' : AL} {pre ws : List Blk} (hd : Hd n a a') (le : N ≤ (pre ++ ws).length) (ab : (a'.all fun p => lowB 4 pre.length p.2) = true)
    (hb1 : ∀ b, b ∈ pre → BlkBelow (pre ++ ws).length b) (hb2 : ∀ b, b ∈ ws → BlkBelow 0 b) : Wk N n a (pre ++ ws) a' (pre ++ ws) := by
  have h := fg_ws (T := []) hd le ab hb1 hb2
  rw [List.append_nil] at h
  exact h
theorem sel_app {H0 : List Blk} {x y : Blk} : sel [H0.length, H0.length + 1] (H0 ++ [x, y]) H0.length = some x ∧ sel [H0.length, H0.length + 1] (H0 ++ [x, y]) (H0.length + 1) = some y := by
  constructor
  · simp [sel]
  · simp [sel, List.getElem?_append_right]
theorem kill_app {H0 : List Blk} {x y : Blk} : killL (H0 ++ [x, y]) [H0.length, H0.length + 1] = H0 ++ [.dead, .dead] := by
  simp [killL, List.set_append_right]
end
end Go.DL

/- The steps of walks, with what may be said of the operations as automatic arguments. -/
namespace Go.DL
open Go.RowKit Go.Proofs

noncomputable section
section
variable {E : Ev} {ops r : List Oper} {n : Nat} {a : AL} {H H' : List Blk} {g : Gst} {K : KA} {dst : Option Tmp} {i : Tmp} {op : Op} {x y z : Operand} {tx ty ty' : TypeId} {pos : String} {aft : Array Edge} {f : Nat} {bo : BinOp} {uo : UnOp} {cl : Call} {d : D}
theorem RT.mvA (h : RT E ops r n ((i, d) :: a) H g K) (hv : Val E.P H H.length n a (.move x) d := by first | exact f_mvV rfl | exact f_mvS rfl | exact f_mvF rfl | exact f_mvO rfl | exact f_mvP rfl | exact f_mvR rfl | exact f_mvA rfl | exact f_mvT rfl | exact f_mvN rfl | exact f_mvU rfl | exact f_mvX rfl) : RT E ops (⟨some i, .move x, ty, pos, aft, none⟩ :: r) n a H g K := RT.v hv h
theorem RT.asA (h : RT E ops r n ((i, d) :: a) H g K) (hv : Val E.P H H.length n a (.assign x) d := by first | exact f_asV rfl | exact f_asS rfl | exact f_asF rfl | exact f_asO rfl | exact f_asP rfl | exact f_asR rfl | exact f_asA rfl | exact f_asT rfl | exact f_asN rfl | exact f_asU rfl | exact f_asX rfl) : RT E ops (⟨some i, .assign x, ty, pos, aft, none⟩ :: r) n a H g K := RT.v hv h
theorem RT.ldA (h : RT E ops r n ((i, d) :: a) H g K) (hv : Val E.P H H.length n a (.load tx x) d := by first | exact f_ldV rfl rfl | exact f_ldO rfl rfl rfl rfl rfl | exact f_ldW rfl rfl (by (first | omega | (simp only [List.length_set, List.length_replicate, List.length_append, List.length_map, List.length_cons, List.length_nil]; omega))) rfl | exact f_ldS rfl rfl | exact f_ldFl rfl rfl | exact f_ldOW rfl rfl rfl rfl rfl rfl | exact f_ldG rfl rfl rfl | exact f_ldA rfl rfl rfl rfl (by first | (simp only [nrm]; rfl) | (simp only [nrm, Nat.reduceAdd, Nat.zero_add]; rfl) | rfl)) : RT E ops (⟨some i, .load tx x, ty, pos, aft, none⟩ :: r) n a H g K := RT.v hv h
theorem RT.faA (h : RT E ops r n ((i, d) :: a) H g K) (hv : Val E.P H H.length n a (.fieldAddr tx x f) d := by first | exact f_fa0 rfl rfl (Nat.succ_ne_zero _) | exact f_fa1 rfl rfl (Nat.succ_ne_zero _) | exact f_fa2 rfl rfl (Nat.succ_ne_zero _) | exact f_fa3 rfl rfl (Nat.succ_ne_zero _) | exact f_faO0 (o := 0) rfl rfl (Nat.succ_ne_zero _) | exact f_faO0 (o := 1) rfl rfl (Nat.succ_ne_zero _) | exact f_faO0 (o := 2) rfl rfl (Nat.succ_ne_zero _) | exact f_faO0 (o := 3) rfl rfl (Nat.succ_ne_zero _) | exact f_faO0 rfl rfl (Nat.succ_ne_zero _) | exact f_faO rfl rfl (Nat.succ_ne_zero _)) : RT E ops (⟨some i, .fieldAddr tx x f, ty, pos, aft, none⟩ :: r) n a H g K := RT.v hv h
theorem RT.bnA (h : RT E ops r n ((i, d) :: a) H g K) (hv : Val E.P H H.length n a (.binOp bo tx x y ty') d := by first | exact f_lss rfl rfl | exact f_add rfl rfl (by omega) (by omega) | exact f_eql rfl rfl | exact f_neq rfl rfl | exact f_leq rfl rfl | exact f_gtr rfl rfl | exact f_geq rfl rfl | exact f_sub rfl rfl (by omega) (by omega) | exact f_mul rfl rfl (by omega) (by omega) | exact f_rem rfl rfl (by omega) (by omega) | exact f_quo rfl rfl (by omega) (by omega) (by omega)) : RT E ops (⟨some i, .binOp bo tx x y ty', ty, pos, aft, none⟩ :: r) n a H g K := RT.v hv h
theorem RT.pkA (h : RT E ops r n ((i, d) :: a) H g K) (hv : Val E.P H H.length n a (.pick x y z) d := by first | exact f_pickTV rfl rfl | exact f_pickFV rfl rfl) : RT E ops (⟨some i, .pick x y z, ty, pos, aft, none⟩ :: r) n a H g K := RT.v hv h
theorem RT.exA (h : RT E ops r n ((i, d) :: a) H g K) (hv : Val E.P H H.length n a (.extract x f) d := by exact f_ext rfl rfl) : RT E ops (⟨some i, .extract x f, ty, pos, aft, none⟩ :: r) n a H g K := RT.v hv h
theorem RT.ixA (h : RT E ops r n ((i, d) :: a) H g K) (hv : Val E.P H H.length n a (.indexAddr tx x y) d := by first | exact f_ixL rfl rfl (by first | with_reducible exact castR _ | with_reducible exact castS _ | rfl | omega) (by omega) rfl rfl | exact f_ix rfl rfl (by first | with_reducible exact castR _ | with_reducible exact castS _ | rfl | omega) (by assumption) rfl rfl | exact f_ixO0 rfl rfl (by first | with_reducible exact castR _ | with_reducible exact castS _ | rfl | omega) rfl rfl (by (first | omega | (simp only [List.length_set, List.length_replicate, List.length_append, List.length_map, List.length_cons, List.length_nil]; omega)))) : RT E ops (⟨some i, .indexAddr tx x y, ty, pos, aft, none⟩ :: r) n a H g K := RT.v hv h
theorem RT.unA (h : RT E ops r n ((i, d) :: a) H g K) (hv : Val E.P H H.length n a (.unOp uo tx x) d := by first | exact f_notT rfl | exact f_notF rfl | exact f_notD rfl | exact f_not rfl | exact f_neg rfl (by omega) (by omega)) : RT E ops (⟨some i, .unOp uo tx x, ty, pos, aft, none⟩ :: r) n a H g K := RT.v hv h
theorem RT.clA (h : RT E ops r n ((i, d) :: a) H g K) (hv : Val E.P H H.length n a (.call cl) d := by first | exact f_lenM rfl rfl | exact f_lenF rfl rfl | exact f_lenO rfl rfl | exact f_lenN rfl rfl | exact f_max rfl rfl | exact f_min rfl rfl) : RT E ops (⟨some i, .call cl, ty, pos, aft, none⟩ :: r) n a H g K := RT.v hv h
theorem RT.msA (h : RT E ops r n ((i, d) :: a) H g K) (hv : Val E.P H H.length n a (op) d := by first | exact f_slHi rfl rfl (by first | with_reducible exact castR _ | with_reducible exact castS _ | rfl | omega) (by omega) rfl | exact f_slLo rfl rfl (by first | with_reducible exact castR _ | with_reducible exact castS _ | rfl | omega) (by omega) rfl (fun _ => rfl) | exact f_build rfl | exact f_mkf (by first | (simp only [nrm]; rfl) | (simp only [nrm, Nat.reduceAdd, Nat.zero_add]; rfl) | rfl) (by first | (simp only [nrm]; rfl) | (simp only [nrm, Nat.reduceAdd, Nat.zero_add]; rfl) | rfl) | exact f_fd rfl rfl rfl) : RT E ops (⟨some i, op, ty, pos, aft, none⟩ :: r) n a H g K := RT.v hv h
theorem RT.nwA {s : Nat} {k : Blk} (h : RT E ops r n ((i, d) :: a) H' g K) (hs : H.length = s := by first | (simp only [nrm]; rfl) | (simp only [nrm, Nat.reduceAdd, Nat.zero_add]; rfl) | rfl) (hv : Mk E.P H s n a op d k := by first | exact f_boxV rfl rfl rfl | exact f_boxA rfl rfl (by first | (simp only [nrm]; rfl) | (simp only [nrm, Nat.reduceAdd, Nat.zero_add]; rfl) | rfl) | exact f_boxS rfl | exact f_boxU rfl | exact f_boxO rfl | exact f_boxF rfl | exact f_boxR rfl | exact f_boxP rfl | exact f_boxN rfl | exact f_allocL (z := [wI 0]) (m := 1) rfl rfl | exact f_allocL (z := [wI 0, wI 0]) (m := 2) rfl rfl | exact f_allocL (z := [wI 0, wI 0, wI 0]) (m := 3) rfl rfl | exact f_allocL (z := [wI 0, wI 0, wI 0, wI 0]) (m := 4) rfl rfl | exact f_allocL (z := [.nil, wI 0]) (m := 2) rfl rfl | exact f_allocL (z := [wI 0, .nil]) (m := 2) rfl rfl | exact f_allocL (z := [.nil]) (m := 1) rfl rfl | exact f_allocL (z := [.nil, .nil]) (m := 2) rfl rfl | exact f_alloc rfl | exact f_makeW rfl rfl rfl rfl rfl rfl (by (first | omega | (simp only [List.length_set, List.length_replicate, List.length_append, List.length_map, List.length_cons, List.length_nil]; omega))) | exact f_bslW1 rfl rfl rfl) (hH : H ++ [k] = H' := by first | (simp only [nrm]; rfl) | (simp only [nrm, Nat.reduceAdd, Nat.zero_add]; rfl) | rfl) : RT E ops (⟨some i, op, ty, pos, aft, none⟩ :: r) n a H g K := RT.new hs hv hH h
theorem RT.stA {b : Nat} {k : Blk} (h : RT E ops r n a H' g K) (hv : Wr E.P H H.length n a (.store tx x y) b k := by first | exact f_stW rfl rfl (by (first | omega | (simp only [List.length_set, List.length_replicate, List.length_append, List.length_map, List.length_cons, List.length_nil]; omega))) rfl rfl | exact f_stV rfl rfl rfl rfl rfl rfl rfl | exact f_stA rfl rfl rfl rfl rfl rfl rfl (by decide) (by first | (simp only [nrm]; rfl) | (simp only [nrm, Nat.reduceAdd, Nat.zero_add]; rfl) | rfl) | exact f_st rfl rfl rfl rfl rfl rfl rfl rfl (by decide) (by first | (simp only [nrm]; rfl) | (simp only [nrm, Nat.reduceAdd, Nat.zero_add]; rfl) | rfl)) (hH : H.set b k = H' := by first | (simp only [nrm]; rfl) | (simp only [nrm, Nat.reduceAdd, Nat.zero_add]; rfl) | rfl) : RT E ops (⟨none, .store tx x y, ty, pos, aft, none⟩ :: r) n a H g K := RT.wr hv hH h
end
section
variable {E : Ev} {ops r : List Oper} {base s : Nat} {hs : List Nat} {pl : List (Nat × List Nat)} {n : Nat} {a : AL} {H H' : List Blk} {K : KP} {dst : Option Tmp} {i : Tmp} {op : Op} {x y z : Operand} {tx ty ty' : TypeId} {pos : String} {aft : Array Edge} {f : Nat} {bo : BinOp} {uo : UnOp} {cl : Call} {d : D}
theorem PT.mvA (h : PT E ops base pl r n ((i, d) :: a) H K) (hv : Val E.P (maskL base hs H) (base + s) n a (.move x) d := by first | exact f_mvV rfl | exact f_mvS rfl | exact f_mvF rfl | exact f_mvO rfl | exact f_mvP rfl | exact f_mvR rfl | exact f_mvA rfl | exact f_mvT rfl | exact f_mvN rfl | exact f_mvU rfl | exact f_mvX rfl) : PT E ops base ((s, hs) :: pl) (⟨some i, .move x, ty, pos, aft, none⟩ :: r) n a H K := PT.v hv h
theorem PT.mvI (hm : maskL base hs H = H) (h : PT E ops base pl r n ((i, d) :: a) H K) (hv : Val E.P H (base + s) n a (.move x) d := by first | exact f_mvV rfl | exact f_mvS rfl | exact f_mvF rfl | exact f_mvO rfl | exact f_mvP rfl | exact f_mvR rfl | exact f_mvA rfl | exact f_mvT rfl | exact f_mvN rfl | exact f_mvU rfl | exact f_mvX rfl) : PT E ops base ((s, hs) :: pl) (⟨some i, .move x, ty, pos, aft, none⟩ :: r) n a H K := PT.vI hm hv h
theorem PT.asA (h : PT E ops base pl r n ((i, d) :: a) H K) (hv : Val E.P (maskL base hs H) (base + s) n a (.assign x) d := by first | exact f_asV rfl | exact f_asS rfl | exact f_asF rfl | exact f_asO rfl | exact f_asP rfl | exact f_asR rfl | exact f_asA rfl | exact f_asT rfl | exact f_asN rfl | exact f_asU rfl | exact f_asX rfl) : PT E ops base ((s, hs) :: pl) (⟨some i, .assign x, ty, pos, aft, none⟩ :: r) n a H K := PT.v hv h
theorem PT.asI (hm : maskL base hs H = H) (h : PT E ops base pl r n ((i, d) :: a) H K) (hv : Val E.P H (base + s) n a (.assign x) d := by first | exact f_asV rfl | exact f_asS rfl | exact f_asF rfl | exact f_asO rfl | exact f_asP rfl | exact f_asR rfl | exact f_asA rfl | exact f_asT rfl | exact f_asN rfl | exact f_asU rfl | exact f_asX rfl) : PT E ops base ((s, hs) :: pl) (⟨some i, .assign x, ty, pos, aft, none⟩ :: r) n a H K := PT.vI hm hv h
theorem PT.ldA (h : PT E ops base pl r n ((i, d) :: a) H K) (hv : Val E.P (maskL base hs H) (base + s) n a (.load tx x) d := by first | exact f_ldV rfl rfl | exact f_ldO rfl rfl rfl rfl rfl | exact f_ldW rfl rfl (by (first | omega | (simp only [List.length_set, List.length_replicate, List.length_append, List.length_map, List.length_cons, List.length_nil]; omega))) rfl | exact f_ldS rfl rfl | exact f_ldFl rfl rfl | exact f_ldOW rfl rfl rfl rfl rfl rfl | exact f_ldG rfl rfl rfl | exact f_ldA rfl rfl rfl rfl (by first | (simp only [nrm]; rfl) | (simp only [nrm, Nat.reduceAdd, Nat.zero_add]; rfl) | rfl)) : PT E ops base ((s, hs) :: pl) (⟨some i, .load tx x, ty, pos, aft, none⟩ :: r) n a H K := PT.v hv h
theorem PT.ldI (hm : maskL base hs H = H) (h : PT E ops base pl r n ((i, d) :: a) H K) (hv : Val E.P H (base + s) n a (.load tx x) d := by first | exact f_ldV rfl rfl | exact f_ldO rfl rfl rfl rfl rfl | exact f_ldW rfl rfl (by (first | omega | (simp only [List.length_set, List.length_replicate, List.length_append, List.length_map, List.length_cons, List.length_nil]; omega))) rfl | exact f_ldS rfl rfl | exact f_ldFl rfl rfl | exact f_ldOW rfl rfl rfl rfl rfl rfl | exact f_ldG rfl rfl rfl | exact f_ldA rfl rfl rfl rfl (by first | (simp only [nrm]; rfl) | (simp only [nrm, Nat.reduceAdd, Nat.zero_add]; rfl) | rfl)) : PT E ops base ((s, hs) :: pl) (⟨some i, .load tx x, ty, pos, aft, none⟩ :: r) n a H K := PT.vI hm hv h
theorem PT.faA (h : PT E ops base pl r n ((i, d) :: a) H K) (hv : Val E.P (maskL base hs H) (base + s) n a (.fieldAddr tx x f) d := by first | exact f_fa0 rfl rfl (Nat.succ_ne_zero _) | exact f_fa1 rfl rfl (Nat.succ_ne_zero _) | exact f_fa2 rfl rfl (Nat.succ_ne_zero _) | exact f_fa3 rfl rfl (Nat.succ_ne_zero _) | exact f_faO0 (o := 0) rfl rfl (Nat.succ_ne_zero _) | exact f_faO0 (o := 1) rfl rfl (Nat.succ_ne_zero _) | exact f_faO0 (o := 2) rfl rfl (Nat.succ_ne_zero _) | exact f_faO0 (o := 3) rfl rfl (Nat.succ_ne_zero _) | exact f_faO0 rfl rfl (Nat.succ_ne_zero _) | exact f_faO rfl rfl (Nat.succ_ne_zero _)) : PT E ops base ((s, hs) :: pl) (⟨some i, .fieldAddr tx x f, ty, pos, aft, none⟩ :: r) n a H K := PT.v hv h
theorem PT.faI (hm : maskL base hs H = H) (h : PT E ops base pl r n ((i, d) :: a) H K) (hv : Val E.P H (base + s) n a (.fieldAddr tx x f) d := by first | exact f_fa0 rfl rfl (Nat.succ_ne_zero _) | exact f_fa1 rfl rfl (Nat.succ_ne_zero _) | exact f_fa2 rfl rfl (Nat.succ_ne_zero _) | exact f_fa3 rfl rfl (Nat.succ_ne_zero _) | exact f_faO0 (o := 0) rfl rfl (Nat.succ_ne_zero _) | exact f_faO0 (o := 1) rfl rfl (Nat.succ_ne_zero _) | exact f_faO0 (o := 2) rfl rfl (Nat.succ_ne_zero _) | exact f_faO0 (o := 3) rfl rfl (Nat.succ_ne_zero _) | exact f_faO0 rfl rfl (Nat.succ_ne_zero _) | exact f_faO rfl rfl (Nat.succ_ne_zero _)) : PT E ops base ((s, hs) :: pl) (⟨some i, .fieldAddr tx x f, ty, pos, aft, none⟩ :: r) n a H K := PT.vI hm hv h
theorem PT.bnA (h : PT E ops base pl r n ((i, d) :: a) H K) (hv : Val E.P (maskL base hs H) (base + s) n a (.binOp bo tx x y ty') d := by first | exact f_lss rfl rfl | exact f_add rfl rfl (by omega) (by omega) | exact f_eql rfl rfl | exact f_neq rfl rfl | exact f_leq rfl rfl | exact f_gtr rfl rfl | exact f_geq rfl rfl | exact f_sub rfl rfl (by omega) (by omega) | exact f_mul rfl rfl (by omega) (by omega) | exact f_rem rfl rfl (by omega) (by omega) | exact f_quo rfl rfl (by omega) (by omega) (by omega)) : PT E ops base ((s, hs) :: pl) (⟨some i, .binOp bo tx x y ty', ty, pos, aft, none⟩ :: r) n a H K := PT.v hv h
theorem PT.bnI (hm : maskL base hs H = H) (h : PT E ops base pl r n ((i, d) :: a) H K) (hv : Val E.P H (base + s) n a (.binOp bo tx x y ty') d := by first | exact f_lss rfl rfl | exact f_add rfl rfl (by omega) (by omega) | exact f_eql rfl rfl | exact f_neq rfl rfl | exact f_leq rfl rfl | exact f_gtr rfl rfl | exact f_geq rfl rfl | exact f_sub rfl rfl (by omega) (by omega) | exact f_mul rfl rfl (by omega) (by omega) | exact f_rem rfl rfl (by omega) (by omega) | exact f_quo rfl rfl (by omega) (by omega) (by omega)) : PT E ops base ((s, hs) :: pl) (⟨some i, .binOp bo tx x y ty', ty, pos, aft, none⟩ :: r) n a H K := PT.vI hm hv h
theorem PT.pkA (h : PT E ops base pl r n ((i, d) :: a) H K) (hv : Val E.P (maskL base hs H) (base + s) n a (.pick x y z) d := by first | exact f_pickTV rfl rfl | exact f_pickFV rfl rfl) : PT E ops base ((s, hs) :: pl) (⟨some i, .pick x y z, ty, pos, aft, none⟩ :: r) n a H K := PT.v hv h
theorem PT.pkI (hm : maskL base hs H = H) (h : PT E ops base pl r n ((i, d) :: a) H K) (hv : Val E.P H (base + s) n a (.pick x y z) d := by first | exact f_pickTV rfl rfl | exact f_pickFV rfl rfl) : PT E ops base ((s, hs) :: pl) (⟨some i, .pick x y z, ty, pos, aft, none⟩ :: r) n a H K := PT.vI hm hv h
theorem PT.exA (h : PT E ops base pl r n ((i, d) :: a) H K) (hv : Val E.P (maskL base hs H) (base + s) n a (.extract x f) d := by exact f_ext rfl rfl) : PT E ops base ((s, hs) :: pl) (⟨some i, .extract x f, ty, pos, aft, none⟩ :: r) n a H K := PT.v hv h
theorem PT.exI (hm : maskL base hs H = H) (h : PT E ops base pl r n ((i, d) :: a) H K) (hv : Val E.P H (base + s) n a (.extract x f) d := by exact f_ext rfl rfl) : PT E ops base ((s, hs) :: pl) (⟨some i, .extract x f, ty, pos, aft, none⟩ :: r) n a H K := PT.vI hm hv h
theorem PT.ixA (h : PT E ops base pl r n ((i, d) :: a) H K) (hv : Val E.P (maskL base hs H) (base + s) n a (.indexAddr tx x y) d := by first | exact f_ixL rfl rfl (by first | with_reducible exact castR _ | with_reducible exact castS _ | rfl | omega) (by omega) rfl rfl | exact f_ix rfl rfl (by first | with_reducible exact castR _ | with_reducible exact castS _ | rfl | omega) (by assumption) rfl rfl | exact f_ixO0 rfl rfl (by first | with_reducible exact castR _ | with_reducible exact castS _ | rfl | omega) rfl rfl (by (first | omega | (simp only [List.length_set, List.length_replicate, List.length_append, List.length_map, List.length_cons, List.length_nil]; omega)))) : PT E ops base ((s, hs) :: pl) (⟨some i, .indexAddr tx x y, ty, pos, aft, none⟩ :: r) n a H K := PT.v hv h
theorem PT.ixI (hm : maskL base hs H = H) (h : PT E ops base pl r n ((i, d) :: a) H K) (hv : Val E.P H (base + s) n a (.indexAddr tx x y) d := by first | exact f_ixL rfl rfl (by first | with_reducible exact castR _ | with_reducible exact castS _ | rfl | omega) (by omega) rfl rfl | exact f_ix rfl rfl (by first | with_reducible exact castR _ | with_reducible exact castS _ | rfl | omega) (by assumption) rfl rfl | exact f_ixO0 rfl rfl (by first | with_reducible exact castR _ | with_reducible exact castS _ | rfl | omega) rfl rfl (by (first | omega | (simp only [List.length_set, List.length_replicate, List.length_append, List.length_map, List.length_cons, List.length_nil]; omega)))) : PT E ops base ((s, hs) :: pl) (⟨some i, .indexAddr tx x y, ty, pos, aft, none⟩ :: r) n a H K := PT.vI hm hv h
theorem PT.unA (h : PT E ops base pl r n ((i, d) :: a) H K) (hv : Val E.P (maskL base hs H) (base + s) n a (.unOp uo tx x) d := by first | exact f_notT rfl | exact f_notF rfl | exact f_notD rfl | exact f_not rfl | exact f_neg rfl (by omega) (by omega)) : PT E ops base ((s, hs) :: pl) (⟨some i, .unOp uo tx x, ty, pos, aft, none⟩ :: r) n a H K := PT.v hv h
theorem PT.unI (hm : maskL base hs H = H) (h : PT E ops base pl r n ((i, d) :: a) H K) (hv : Val E.P H (base + s) n a (.unOp uo tx x) d := by first | exact f_notT rfl | exact f_notF rfl | exact f_notD rfl | exact f_not rfl | exact f_neg rfl (by omega) (by omega)) : PT E ops base ((s, hs) :: pl) (⟨some i, .unOp uo tx x, ty, pos, aft, none⟩ :: r) n a H K := PT.vI hm hv h
theorem PT.clA (h : PT E ops base pl r n ((i, d) :: a) H K) (hv : Val E.P (maskL base hs H) (base + s) n a (.call cl) d := by first | exact f_lenM rfl rfl | exact f_lenF rfl rfl | exact f_lenO rfl rfl | exact f_lenN rfl rfl | exact f_max rfl rfl | exact f_min rfl rfl) : PT E ops base ((s, hs) :: pl) (⟨some i, .call cl, ty, pos, aft, none⟩ :: r) n a H K := PT.v hv h
theorem PT.clI (hm : maskL base hs H = H) (h : PT E ops base pl r n ((i, d) :: a) H K) (hv : Val E.P H (base + s) n a (.call cl) d := by first | exact f_lenM rfl rfl | exact f_lenF rfl rfl | exact f_lenO rfl rfl | exact f_lenN rfl rfl | exact f_max rfl rfl | exact f_min rfl rfl) : PT E ops base ((s, hs) :: pl) (⟨some i, .call cl, ty, pos, aft, none⟩ :: r) n a H K := PT.vI hm hv h
theorem PT.msA (h : PT E ops base pl r n ((i, d) :: a) H K) (hv : Val E.P (maskL base hs H) (base + s) n a (op) d := by first | exact f_slHi rfl rfl (by first | with_reducible exact castR _ | with_reducible exact castS _ | rfl | omega) (by omega) rfl | exact f_slLo rfl rfl (by first | with_reducible exact castR _ | with_reducible exact castS _ | rfl | omega) (by omega) rfl (fun _ => rfl) | exact f_build rfl | exact f_mkf (by first | (simp only [nrm]; rfl) | (simp only [nrm, Nat.reduceAdd, Nat.zero_add]; rfl) | rfl) (by first | (simp only [nrm]; rfl) | (simp only [nrm, Nat.reduceAdd, Nat.zero_add]; rfl) | rfl) | exact f_fd rfl rfl rfl) : PT E ops base ((s, hs) :: pl) (⟨some i, op, ty, pos, aft, none⟩ :: r) n a H K := PT.v hv h
theorem PT.msI (hm : maskL base hs H = H) (h : PT E ops base pl r n ((i, d) :: a) H K) (hv : Val E.P H (base + s) n a (op) d := by first | exact f_slHi rfl rfl (by first | with_reducible exact castR _ | with_reducible exact castS _ | rfl | omega) (by omega) rfl | exact f_slLo rfl rfl (by first | with_reducible exact castR _ | with_reducible exact castS _ | rfl | omega) (by omega) rfl (fun _ => rfl) | exact f_build rfl | exact f_mkf (by first | (simp only [nrm]; rfl) | (simp only [nrm, Nat.reduceAdd, Nat.zero_add]; rfl) | rfl) (by first | (simp only [nrm]; rfl) | (simp only [nrm, Nat.reduceAdd, Nat.zero_add]; rfl) | rfl) | exact f_fd rfl rfl rfl) : PT E ops base ((s, hs) :: pl) (⟨some i, op, ty, pos, aft, none⟩ :: r) n a H K := PT.vI hm hv h
theorem PT.nwA {s' : Nat} {k : Blk} (h : PT E ops base pl r n ((i, d) :: a) H' K) (hs' : base + s = s' := by rfl) (hv : Mk E.P (maskL base hs H) s' n a op d k := by first | exact f_boxV rfl rfl rfl | exact f_boxA rfl rfl (by first | (simp only [nrm]; rfl) | (simp only [nrm, Nat.reduceAdd, Nat.zero_add]; rfl) | rfl) | exact f_boxS rfl | exact f_boxU rfl | exact f_boxO rfl | exact f_boxF rfl | exact f_boxR rfl | exact f_boxP rfl | exact f_boxN rfl | exact f_allocL (z := [wI 0]) (m := 1) rfl rfl | exact f_allocL (z := [wI 0, wI 0]) (m := 2) rfl rfl | exact f_allocL (z := [wI 0, wI 0, wI 0]) (m := 3) rfl rfl | exact f_allocL (z := [wI 0, wI 0, wI 0, wI 0]) (m := 4) rfl rfl | exact f_allocL (z := [.nil, wI 0]) (m := 2) rfl rfl | exact f_allocL (z := [wI 0, .nil]) (m := 2) rfl rfl | exact f_allocL (z := [.nil]) (m := 1) rfl rfl | exact f_allocL (z := [.nil, .nil]) (m := 2) rfl rfl | exact f_alloc rfl | exact f_makeW rfl rfl rfl rfl rfl rfl (by (first | omega | (simp only [List.length_set, List.length_replicate, List.length_append, List.length_map, List.length_cons, List.length_nil]; omega))) | exact f_bslW1 rfl rfl rfl) (hH : H.set s' k = H' := by first | (simp only [nrm]; rfl) | (simp only [nrm, Nat.reduceAdd, Nat.zero_add]; rfl) | rfl) : PT E ops base ((s, hs) :: pl) (⟨some i, op, ty, pos, aft, none⟩ :: r) n a H K := PT.new hs' hv hH h
theorem PT.nwI {s' : Nat} {k : Blk} (hm : maskL base hs H = H) (h : PT E ops base pl r n ((i, d) :: a) H' K) (hs' : base + s = s' := by first | (simp only [nrm]; rfl) | (simp only [nrm, Nat.reduceAdd, Nat.zero_add]; rfl) | rfl) (hv : Mk E.P H s' n a op d k := by first | exact f_boxV rfl rfl rfl | exact f_boxA rfl rfl (by first | (simp only [nrm]; rfl) | (simp only [nrm, Nat.reduceAdd, Nat.zero_add]; rfl) | rfl) | exact f_boxS rfl | exact f_boxU rfl | exact f_boxO rfl | exact f_boxF rfl | exact f_boxR rfl | exact f_boxP rfl | exact f_boxN rfl | exact f_allocL (z := [wI 0]) (m := 1) rfl rfl | exact f_allocL (z := [wI 0, wI 0]) (m := 2) rfl rfl | exact f_allocL (z := [wI 0, wI 0, wI 0]) (m := 3) rfl rfl | exact f_allocL (z := [wI 0, wI 0, wI 0, wI 0]) (m := 4) rfl rfl | exact f_allocL (z := [.nil, wI 0]) (m := 2) rfl rfl | exact f_allocL (z := [wI 0, .nil]) (m := 2) rfl rfl | exact f_allocL (z := [.nil]) (m := 1) rfl rfl | exact f_allocL (z := [.nil, .nil]) (m := 2) rfl rfl | exact f_alloc rfl | exact f_makeW rfl rfl rfl rfl rfl rfl (by (first | omega | (simp only [List.length_set, List.length_replicate, List.length_append, List.length_map, List.length_cons, List.length_nil]; omega))) | exact f_bslW1 rfl rfl rfl) (hH : H.set s' k = H' := by first | (simp only [nrm]; rfl) | (simp only [nrm, Nat.reduceAdd, Nat.zero_add]; rfl) | rfl) : PT E ops base ((s, hs) :: pl) (⟨some i, op, ty, pos, aft, none⟩ :: r) n a H K := PT.newI hm hs' hv hH h
theorem PT.stA {b : Nat} {k : Blk} (h : PT E ops base pl r n a H' K) (hv : Wr E.P (maskL base hs H) (base + s) n a (.store tx x y) b k := by first | exact f_stW rfl rfl (by (first | omega | (simp only [List.length_set, List.length_replicate, List.length_append, List.length_map, List.length_cons, List.length_nil]; omega))) rfl rfl | exact f_stV rfl rfl rfl rfl rfl rfl rfl | exact f_stA rfl rfl rfl rfl rfl rfl rfl (by decide) (by first | (simp only [nrm]; rfl) | (simp only [nrm, Nat.reduceAdd, Nat.zero_add]; rfl) | rfl) | exact f_st rfl rfl rfl rfl rfl rfl rfl rfl (by decide) (by first | (simp only [nrm]; rfl) | (simp only [nrm, Nat.reduceAdd, Nat.zero_add]; rfl) | rfl)) (hH : H.set b k = H' := by first | (simp only [nrm]; rfl) | (simp only [nrm, Nat.reduceAdd, Nat.zero_add]; rfl) | rfl) : PT E ops base ((s, hs) :: pl) (⟨none, .store tx x y, ty, pos, aft, none⟩ :: r) n a H K := PT.wr hv hH h
theorem PT.stI {b : Nat} {k : Blk} (hm : maskL base hs H = H) (h : PT E ops base pl r n a H' K) (hv : Wr E.P H (base + s) n a (.store tx x y) b k := by first | exact f_stW rfl rfl (by (first | omega | (simp only [List.length_set, List.length_replicate, List.length_append, List.length_map, List.length_cons, List.length_nil]; omega))) rfl rfl | exact f_stV rfl rfl rfl rfl rfl rfl rfl | exact f_stA rfl rfl rfl rfl rfl rfl rfl (by decide) (by first | (simp only [nrm]; rfl) | (simp only [nrm, Nat.reduceAdd, Nat.zero_add]; rfl) | rfl) | exact f_st rfl rfl rfl rfl rfl rfl rfl rfl (by decide) (by first | (simp only [nrm]; rfl) | (simp only [nrm, Nat.reduceAdd, Nat.zero_add]; rfl) | rfl)) (hH : H.set b k = H' := by first | (simp only [nrm]; rfl) | (simp only [nrm, Nat.reduceAdd, Nat.zero_add]; rfl) | rfl) : PT E ops base ((s, hs) :: pl) (⟨none, .store tx x y, ty, pos, aft, none⟩ :: r) n a H K := PT.wrI hm hv hH h
end
theorem fgA {N n : Nat} {a a' : AL} {H H' : List Blk} (hd : Hd n a a' := by repeat first | exact True.intro | refine And.intro ?_ ?_ | exact Or.inr (Or.inl rfl) | exact Or.inl rfl | (refine DLe.i rfl ?_; omega) | (refine DLe.i rfl ?_; simp; done)) (pre : H.take H'.length = H' := by rfl) (le : N ≤ H'.length := by first | decide | exact Nat.zero_le _ | exact Nat.le_refl _ | (first | omega | (simp only [List.length_set, List.length_replicate, List.length_append, List.length_map, List.length_cons, List.length_nil]; omega))) (ab : (a'.all fun p => lowB 4 H'.length p.2) = true := by first | rfl | simp_all [lowB]) (hb : ∀ b ∈ H', BlkBelow H'.length b := by repeat first | exact bb_nil | refine bb_cons ?_ ?_ | exact eI_low _ _ | exact bb_dead | exact bb_free | exact bb_lit rfl | (simp [BlkBelow, lowB]; done)) : Wk N n a H a' H' := Wk.fg ⟨hd, pre, le, ab, hb⟩
end
end Go.DL

/- Only temporaries are forgotten; all own blocks stay. -/
namespace Go.DL
open Go.RowKit Go.Proofs

theorem Wk.keep {N n : Nat} {a a' : AL} {H : List Blk} (hd : Hd n a a') : Wk N n a H a' H := ⟨fun {G} hG hN {ds g ac w} ⟨A, φ, hr⟩ => ⟨A, φ, hr.rh, ⟨by simpa [T_length] using hr.tr.size, fun i d u h1 h2 => by
    rw [T_get?] at h1
    split at h1
    · rename_i hi
      cases h1
      have h3 := hr.tr.val i (lk a i) u (by rw [T_get?, if_pos hi]) h2
      have h4 := hd.lk i
      have hb : Nat.blt i n = true := by simpa [Nat.blt_eq] using hi
      simp only [lkN, hb, cond_true] at h4
      exact h4.v h3
    · cases h1⟩, hr.gh, hr.df, hr.dk, hr.nd⟩⟩
/-- What lies behind some elements of an own slice. -/
theorem f_slLoO {P : Program} {H : List Blk} {s n : Nat} {al : AL} {x y : Operand} {tx te : TypeId} {a : Int} {bk off len cap sz k : Nat} {es : List (List D)} (hx : evA n al x = .ms bk off len cap) (hy : evA n al y = wI a) (hn : a = k) (hk : k ≤ len) (hc : len ≤ cap)
    (he : elemT P tx = some (te, sz)) (hb : H[bk]? = some (.live sz es)) : Val P H s n al (.slice tx x (some y) none none) (.ms bk (off + k) (len - k) (cap - k)) := by
  subst hn
  refine ⟨?_⟩
  simp only [stepD, ev_T, sliceD, he, hx, unfl, Option.map_none, Option.map_some, hy, bndD, intD, Option.isSome_none, Bool.false_eq_true, false_and, if_false]
  rw [if_pos ⟨by simp [Blk.hasSz, hb], by omega, by omega, by omega⟩]
  simp [keepD]
theorem f_slLo0 {P : Program} {H : List Blk} {s n : Nat} {al : AL} {x y : Operand} {tx te : TypeId} {a : Int} {bk len cap sz k : Nat} {es : List (List D)} (hx : evA n al x = .ms bk 0 len cap) (hy : evA n al y = wI a) (hn : a = k) (hk : k ≤ len) (hc : len ≤ cap)
    (he : elemT P tx = some (te, sz)) (hb : H[bk]? = some (.live sz es)) : Val P H s n al (.slice tx x (some y) none none) (.ms bk k (len - k) (cap - k)) := by
  have h := f_slLoO (s := s) hx hy hn hk hc he hb
  rwa [Nat.zero_add] at h
end Go.DL

/- Appends to a slice of one's own that has room. -/
namespace Go.DL
open Go.RowKit Go.Proofs

section
variable {P : Program} {H : List Blk} {s n : Nat} {al : AL} {tx : TypeId} {x y : Operand}
theorem f_appT {α : Type} {f : α → List D} {te : TypeId} {m mm c m' c' b1 b2 sz by' : Nat} {es : List (List D)} {o v : List α} (hx : evA n al x = .ms b1 0 m c) (hy : evA n al y = .ms b2 0 m' c') (hb1 : H[b1]? = some (.live sz es)) (hes : es.take m = o.map f) (hle : m ≤ es.length) (hb2 : H[b2]? = some (.live sz (v.map f))) (hm : m = o.length) (hm' : m' = v.length)
    (hmm : o.length + v.length = mm) (he : elemT P tx = some (te, sz)) (h0 : 0 < sz) (hz : (zeroD P te).map List.length = some sz) (hby : P.bytesOf te = by') (hf : ∀ a, (f a).length = sz ∧ (f a).all isCell = true) (hl : (o.length + v.length) * by' ≤ 140737488355328) (hl2 : o.length + v.length ≤ 9223372036854775807) :
    Ap P H s n al (.call { callee := .builtin .append, args := #[x, y], argTypes := #[tx, tx] }) mm (some b1) (.live sz ((o ++ v).map f)) := by
  subst hm; subst hm'; subst hmm
  have hu : P.underlying tx = some (.slice te) := by
    unfold elemT at he
    split at he
    · rename_i e hu; simp only [Option.map_eq_some_iff] at he; obtain ⟨_, _, h⟩ := he; cases h; exact hu
    · cases he
  refine f_app hx hy ?_ (by simp)
  have e1 : elemsD H (.ms b1 0 o.length c) = some (o.map f) := by
    simp only [elemsD, hb1, Nat.zero_add, hle, if_true, List.drop_zero, hes]
  have e2 : elemsD H (.ms b2 0 v.length c') = some (v.map f) := by
    simp only [elemsD, hb2, Nat.zero_add, List.length_map, Nat.le_refl, if_true, List.drop_zero]
    rw [List.take_of_length_le (by simp)]
  have e3 : ∀ l : List α, (l.map f).all (fun e => e.length == sz) = true := fun l => List.all_eq_true.2 fun e he => by
    obtain ⟨a, _, rfl⟩ := List.mem_map.1 he
    simpa using (hf a).1
  have e4 : (v.map f).all (fun e => e.all isCell) = true := List.all_eq_true.2 fun e he => by
    obtain ⟨a, _, rfl⟩ := List.mem_map.1 he
    exact (hf a).2
  simp only [appendD, addedD, he, hu, e1, e2]
  rw [if_pos]
  · simp only [hb1, Blk.hasSz]; simp
  · refine ⟨h0, hz, e3 o, e3 v, e4, ?_, ?_⟩
    · rw [hby, List.length_map, List.length_map]; exact hl
    · rw [List.length_map, List.length_map]; exact hl2
/-- The blocks behind two steps: a slice of new elements is built, then appended. -/
theorem ap2 {H : List Blk} {q : Nat} (h : q < H.length) (x y : Blk) : killO (H ++ [x]) (some q) ++ [y] = H.set q .dead ++ [x, y] := by
  rw [killO, List.set_append_left _ _ h, List.append_assoc]; rfl
end
theorem mask_app' {H1 T : List Blk} {hs : List Nat} {base : Nat} (hb : H1.length = base) (h : hs.all (freeAt T) = true) : maskL base hs (H1 ++ T) = H1 ++ T := by
  subst hb; exact mask_app h
section
variable {E : Ev} {ops r : List Oper} {base s : Nat} {hs : List Nat} {pl : List (Nat × List Nat)} {n : Nat} {a : AL} {H H' : List Blk} {K : KP} {i : Tmp} {op : Op} {ty : TypeId} {pos : String} {aft : Array Edge} {d : D}
theorem PT.apI {s' m : Nat} {o : Option Nat} {k : Blk} (hm : maskL base hs H = H) (hs' : base + s = s') (hv : Ap E.P H s' n a op m o k) (hH : (killO H o).set s' k = H') (h : PT E ops base pl r n ((i, .ms s' 0 m m) :: a) H' K) : PT E ops base ((s, hs) :: pl) (⟨some i, op, ty, pos, aft, none⟩ :: r) n a H K :=
  PT.ap hs' (by rw [hm]; exact hv) hH h
end
theorem setLen {H : List Blk} {T T' : List Blk} {i : Nat} {k : Blk} {b : Nat} (hb : H.length = b) (h : T.set i k = T') : (H ++ T).set (b + i) k = H ++ T' := by
  subst hb; subst h
  rw [List.set_append_right _ _ (by omega)]; congr 2; omega
theorem killLen {H : List Blk} {T T' : List Blk} {i q b : Nat} {k : Blk} (hq : q < H.length) (hb : H.length = b) (h : T.set i k = T') : (killO (H ++ T) (some q)).set (b + i) k = H.set q .dead ++ T' := by
  rw [killO, List.set_append_left _ _ hq]
  exact setLen (by rw [List.length_set, hb]) h
theorem dropLn (H T : List Blk) (x : Blk) : (H ++ (T ++ [x])).dropLast = H ++ T := by
  rw [← List.append_assoc, List.dropLast_concat]
end Go.DL
