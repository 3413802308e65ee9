/- Operations that read, write and make memory, over abstract values. -/
import Derived.Test.YtmbbepdbjeciaaaGreatDl4
import Derived.Laws.MakeOwn
set_option linter.all false
namespace Go.DL
open Go.RowKit

noncomputable section

def isCell : D → Bool
  | .v x => x.oneCell'
  | .agg _ | .tup _ | .any => false
  | _ => true

def cellsD : D → List D
  | .agg cs => cs
  | d => [d]

section
variable {A : Rd} {w : World} {φ : Nat → Loc} {P : Program}

theorem V.isCell {d : D} {u : Value} (h : V A w φ d u) (hd : isCell d = true) : u.oneCell' = true := by
  cases h <;> first | exact hd | rfl | cases hd

theorem V.cells {d : D} {u : Value} (h : V A w φ d u) (hd : (cellsD d).all DL.isCell = true) :
    u.cells.size = (cellsD d).length ∧ ∀ (j : Nat) (e : D), (cellsD d)[j]? = some e → ∃ y, u.cells[j]? = some y ∧ V A w φ e y ∧ y.oneCell' = true := by
  have one : ∀ {d : D} {u : Value}, V A w φ d u → cellsD d = [d] → DL.isCell d = true → u.cells = #[u] → u.cells.size = (cellsD d).length ∧
      ∀ (j : Nat) (e : D), (cellsD d)[j]? = some e → ∃ y, u.cells[j]? = some y ∧ V A w φ e y ∧ y.oneCell' = true := fun {d u} h h1 h2 h3 => by
    rw [h1, h3]
    refine ⟨rfl, fun j e he => ?_⟩
    cases j with
    | zero => simp at he; subst he; exact ⟨u, rfl, h, h.isCell h2⟩
    | succ j => simp at he
  cases h with
  | agg _ cs vs hl h =>
    refine ⟨hl, fun j e he => ?_⟩
    have hlt : j < vs.size := by rw [hl]; exact (List.getElem?_eq_some_iff.1 he).1
    have hv := h j e vs[j] he (by simp [hlt])
    refine ⟨vs[j], by simp [Value.cells, hlt], hv, hv.isCell ?_⟩
    rw [List.all_eq_true] at hd
    exact hd e (List.mem_of_getElem? he)
  | v _ =>
    have hc : u.oneCell' = true := by simpa [cellsD, DL.isCell] using hd
    exact one (.v _ _) rfl hc (by cases u <;> first | rfl | cases hc)
  | any => simp [cellsD, DL.isCell] at hd
  | tup => simp [cellsD, DL.isCell] at hd
  | nil => exact one (.nil _ _) rfl rfl rfl
  | sl0 => exact one (.sl0 _ _ _) rfl rfl rfl
  | fl0 => exact one (.fl0 _ _ _) rfl rfl rfl
  | fl _ es n off sz cap u ha hcap hsz hc h => exact one (.fl _ es n off sz cap u ha hcap hsz hc h) rfl rfl rfl
  | sl _ es n off sz cap u ha hcap hsz hc h => exact one (.sl _ es n off sz cap u ha hcap hsz hc h) rfl rfl rfl
  | rp _ cs n off u ha hc h => exact one (.rp _ cs n off u ha hc h) rfl rfl rfl
  | ms _ b off len cap cap' a hlen hcap h => exact one (.ms _ b off len cap cap' a hlen hcap h) rfl rfl rfl
  | mp _ b i f x h => exact one (.mp _ b i f x h) rfl rfl rfl
  | fn _ f first caps vs us hl hl' h h' => exact one (.fn _ f first caps vs us hl hl' h h') rfl rfl rfl
end

/-- Part of the own blocks. -/
def Sub (Hm H : List Blk) : Prop := ∀ (b sz : Nat) (es : List (List D)), Hm[b]? = some (.live sz es) → H[b]? = some (.live sz es)
theorem Sub.refl (H : List Blk) : Sub H H := fun _ _ _ h => h

/-- What a pointer points to. -/
def peek (H : List Blk) : D → Option (List D)
  | .rp cs => some (cs.map lowD)
  | .mp b i f => match H[b]? with
    | some (.live _ es) => match es[i]? with
      | some e => some (e.drop f)
      | none => none
    | _ => none
  | _ => none

theorem add_none (n o j : Nat) : (⟨n, o, none⟩ : Addr).add j = ⟨n, o + j, none⟩ := by cases j <;> simp [Addr.add]

section
variable {A : Rd} {w : World} {φ : Nat → Loc} {P : Program} {H Hm : List Blk}

theorem peek_ok (hr : RH A φ w H) (hs : Sub Hm H) {p : D} {u : Value} {cs : List D} (h : V A w φ p u) (hp : peek Hm p = some cs) :
    ∃ n o, u = .pointer (some ⟨n, o, none⟩) ∧ ∀ (j : Nat) (d : D), cs[j]? = some d → ∃ y, w.cell? ⟨n, o + j, none⟩ = some y ∧ V A w φ d y := by
  unfold peek at hp
  split at hp
  · cases hp
    cases h with
    | rp _ cs n off v ha hc hh =>
      refine ⟨n, off, rfl, fun j d hd => ?_⟩
      simp only [List.getElem?_map, Option.map_eq_some_iff] at hd
      obtain ⟨d0, hd, rfl⟩ := hd
      exact ⟨_, hc j d0 hd, (hh j d0 hd).low⟩
  · rename_i b i f
    split at hp
    · rename_i sz es hb
      split at hp
      · rename_i e he
        cases hp
        cases h with
        | mp _ _ _ _ x h =>
          rcases hr.live b sz es (hs _ _ _ hb) with ⟨rfl, _⟩ | ⟨n, base, room, c, ty, hl, hlive⟩
          · simp at he
          · rw [hl] at h
            have hx : x = ⟨n, base + i * sz + f, none⟩ := h
            subst hx
            refine ⟨n, _, rfl, fun j d hd => ?_⟩
            rw [List.getElem?_drop] at hd
            obtain ⟨y, hy, hv⟩ := hlive.val i e _ d he hd
            refine ⟨y, ?_, hv⟩
            rw [cell_of_blk hlive.blk, Nat.add_assoc]
            exact hy
      · cases hp
    · cases hp
  · cases hp

def loadD (P : Program) (H : List Blk) (t : TypeId) (p : D) : Option D :=
  match peek H p with
  | some cs => takeD P t cs
  | none => none

theorem run_loadD (hr : RH A φ w H) (hs : Sub Hm H) {t : TypeId} {p d : D} {u : Value} (h : V A w φ p u) (hp : loadD P Hm t p = some d) :
    ∃ r, (Instr.loadAt t u).run P w = .ok r w ∧ V A w φ d r := by
  unfold loadD at hp
  split at hp
  · rename_i cs hcs
    obtain ⟨n, o, rfl, hc⟩ := peek_ok hr hs h hcs
    obtain ⟨r, h1, h2⟩ := run_loadVar_take hp hc
    exact ⟨r, by simp [Instr.loadAt, Instr.sureAddr, h1], h2⟩
  · cases hp

/-! ### stores -/
theorem rewr_setCell {n k : Nat} {c : Array Value} {ty : TypeId} {u : Value} (h : w.heap[n]? = some (.cells c ty (0, 0))) : Rewr w (w.setCell ⟨n, k, none⟩ u) n (c.setIfInBounds k u) ty := by
  refine ⟨rfl, rfl, rfl, by simp, ?_, fun m hm => ?_⟩
  · simp [World.setCell, Array.getElem?_modify, h]
  · simp only [World.setCell, Array.getElem?_modify]
    rw [if_neg (fun e => hm e.symm)]

theorem Rewr.trans {w w' w'' : World} {n : Nat} {c c' : Array Value} {ty ty' : TypeId} (h : Rewr w w' n c ty) (k : Rewr w' w'' n c' ty') : Rewr w w'' n c' ty' :=
  ⟨k.os.trans h.os, k.tape.trans h.tape, k.output.trans h.output, k.size.trans h.size, k.blk, fun m hm => (k.same m hm).trans (h.same m hm)⟩

/-- An array with some places written. -/
structure Wrote (c : Array Value) (o : Nat) (vs : List Value) (c' : Array Value) : Prop where
  size : c'.size = c.size
  new : ∀ j, j < vs.length → c'[o + j]? = vs[j]?
  old : ∀ k, k < o ∨ o + vs.length ≤ k → c'[k]? = c[k]?

theorem run_storeCells {n : Nat} {ty : TypeId} : ∀ (vs : List Value) (w : World) (c : Array Value) (o i : Nat), w.heap[n]? = some (.cells c ty (0, 0)) → o + i + vs.length ≤ c.size →
    (∀ u ∈ vs, u.oneCell' = true) → ∃ w' c', (storeCells ⟨n, o, none⟩ vs i).run P w = .ok () w' ∧ Rewr w w' n c' ty ∧ Wrote c (o + i) vs c'
  | [], w, c, o, i, h, _, _ => ⟨w, c, rfl, ⟨rfl, rfl, rfl, rfl, h, fun _ _ => rfl⟩, rfl, fun j hj => absurd hj (Nat.not_lt_zero _), fun _ _ => rfl⟩
  | u :: vs, w, c, o, i, h, hl, h1 => by
    simp only [List.length_cons] at hl
    have hr := rewr_setCell (k := o + i) (u := u) h
    obtain ⟨w', c', h2, h3, h4⟩ := run_storeCells vs (w.setCell ⟨n, o + i, none⟩ u) (c.setIfInBounds (o + i) u) o (i + 1) hr.blk (by simp; omega) fun x hx => h1 x (List.mem_cons_of_mem _ hx)
    have hcell : w.cell? ⟨n, o + i, none⟩ = some (c[o + i]'(by omega)) := by rw [cell_of_blk h]; simp
    have hfz : w.frozen? ⟨n, o + i, none⟩ = false := by simp [World.frozen?, h]
    refine ⟨w', c', ?_, hr.trans h3, ?_⟩
    · simp only [storeCells, Sem.run_bind, add_none]
      rw [run_store P w _ u _ (h1 u (List.mem_cons_self ..))]
      simp only [hcell, hfz, Bool.false_eq_true, if_false, Result.andThen, h2]
    · refine ⟨by rw [h4.size]; simp, fun j hj => ?_, fun k hk => ?_⟩
      · cases j with
        | zero => rw [h4.old (o + i + 0) (by omega), Nat.add_zero, Array.getElem?_setIfInBounds, if_pos rfl, if_pos (by omega)]; rfl
        | succ j =>
          have := h4.new j (by simpa using hj)
          rw [show o + i + (j + 1) = o + (i + 1) + j by omega, this]; simp
      · have hk' : k < o + i ∨ o + i + (vs.length + 1) ≤ k := by simpa using hk
        have h5 : k < o + (i + 1) ∨ o + (i + 1) + vs.length ≤ k := by omega
        have h6 : ¬ o + i = k := by omega
        rw [h4.old k h5, Array.getElem?_setIfInBounds, if_neg h6]

/-- A cell group written into an element. -/
def splice (e : List D) (f : Nat) (ds : List D) : List D := e.take f ++ ds ++ e.drop (f + ds.length)

theorem splice_length {e : List D} {f : Nat} {ds : List D} (h : f + ds.length ≤ e.length) : (splice e f ds).length = e.length := by simp [splice]; omega
theorem splice_get {e : List D} {f : Nat} {ds : List D} (h : f + ds.length ≤ e.length) {k : Nat} {d : D} (hd : (splice e f ds)[k]? = some d) :
    (f ≤ k ∧ k < f + ds.length ∧ ds[k - f]? = some d) ∨ ((k < f ∨ f + ds.length ≤ k) ∧ e[k]? = some d) := by
  unfold splice at hd
  have hf : f ≤ e.length := by omega
  rcases Nat.lt_or_ge k f with h1 | h1
  · rw [List.append_assoc, List.getElem?_append_left (by simp; omega), List.getElem?_take, if_pos h1] at hd
    exact .inr ⟨.inl h1, hd⟩
  · rcases Nat.lt_or_ge k (f + ds.length) with h2 | h2
    · rw [List.getElem?_append_left (by simp; omega), List.getElem?_append_right (by simp; omega)] at hd
      simp only [List.length_take, Nat.min_eq_left hf] at hd
      exact .inl ⟨h1, h2, hd⟩
    · rw [List.getElem?_append_right (by simp; omega)] at hd
      simp only [List.length_append, List.length_take, Nat.min_eq_left hf, List.getElem?_drop] at hd
      exact .inr ⟨.inr h2, by rw [← hd]; congr 1; omega⟩

def storeD (P : Program) (H : List Blk) (t : TypeId) (p d : D) : Option (Nat × Blk) :=
  match p with
  | .mp b i f => match H[b]? with
    | some (.live sz es) => match es[i]? with
      | some e => if (cellsD d).all isCell = true ∧ tsz P t = some (cellsD d).length ∧ f + (cellsD d).length ≤ e.length then some (b, .live sz (es.set i (splice e f (cellsD d)))) else none
      | none => none
    | _ => none
  | _ => none

theorem run_storeD {G : Gh} (hG : Stab G) {st : St} {a : Act} (hr : FRc G st a w A φ) (hs : Sub Hm st.H) {t : TypeId} {p d : D} {u x : Value} (hp : V A w φ p u) (hx : V A w φ d x)
    {b : Nat} {k : Blk} (h : storeD P Hm t p d = some (b, k)) : ∃ w', (Instr.storeAt t u x).run P w = .ok () w' ∧ FRc G { st with H := st.H.set b k } a w' A φ := by
  unfold storeD at h
  split at h
  · rename_i b' i f
    split at h
    · rename_i sz es hb
      split at h
      · rename_i e he
        split at h
        · rename_i hc
          cases h
          obtain ⟨hc1, hc2, hc3⟩ := hc
          obtain ⟨hv1, hv2⟩ := hx.cells hc1
          rcases hr.rh.live b sz es (hs _ _ _ hb) with ⟨rfl, _⟩ | ⟨n, base, room, c, ty, hl, hlive⟩
          · simp at he
          cases hp with
          | mp _ _ _ _ y hy =>
            rw [hl] at hy
            have hy : y = ⟨n, base + i * sz + f, none⟩ := hy
            subst hy
            have hi : i < es.length := (List.getElem?_eq_some_iff.1 he).1
            have hel : e.length = sz := hlive.len i e he
            have hsize := hlive.size
            have hfit := hlive.fits
            have hmul : i * sz + sz ≤ room * sz := by rw [← Nat.succ_mul]; exact Nat.mul_le_mul_right _ (by omega)
            obtain ⟨w', c', h1, h2, h3⟩ := run_storeCells (P := P) (n := n) (ty := ty) x.cells.toList w c (base + i * sz + f) 0 hlive.blk (by simp [hv1]; omega)
              (fun y hy => by
                obtain ⟨j, hj, rfl⟩ := List.mem_iff_getElem.1 hy
                simp only [Array.length_toList] at hj
                obtain ⟨y, hy1, _, hy2⟩ := hv2 j _ (List.getElem?_eq_getElem (by omega))
                simp only [Array.getElem?_eq_getElem hj, Option.some.injEq] at hy1
                simpa [hy1] using hy2)
            refine ⟨w', ?_, ?_⟩
            · have hne : ¬ x.cells.size ≠ (cellsD d).length := by simp [hv1]
              simp only [Instr.storeAt, Instr.sureAddr, storeVar, Sem.run_bind, Sem.run_pure, Result.andThen, run_sizeOf hc2, if_neg hne, h1]
            · have hcell : ∀ (k : Nat) (g : List D) (j : Nat) (d' : D), es[k]? = some g → g[j]? = some d' → ¬ (k = i ∧ f ≤ j ∧ j < f + (cellsD d).length) →
                  c'[base + k * sz + j]? = c[base + k * sz + j]? := fun k g j d' hk hj hne => by
                refine h3.old _ ?_
                simp only [Array.length_toList, hv1, Nat.add_zero]
                have hgl : g.length = sz := hlive.len k g hk
                have hjl : j < sz := by rw [← hgl]; exact (List.getElem?_eq_some_iff.1 hj).1
                rcases Nat.lt_trichotomy k i with h4 | h4 | h4
                · left
                  have : k * sz + sz ≤ i * sz := by rw [← Nat.succ_mul]; exact Nat.mul_le_mul_right _ h4
                  omega
                · subst h4
                  have : ¬ (f ≤ j ∧ j < f + (cellsD d).length) := fun h5 => hne ⟨rfl, h5⟩
                  omega
                · right
                  have : i * sz + sz ≤ k * sz := by rw [← Nat.succ_mul]; exact Nat.mul_le_mul_right _ h4
                  omega
              refine hr.rewr hG hl h2 (List.getElem?_eq_some_iff.1 (hs _ _ _ hb)).1 _ (by simpa using hfit) (by rw [h3.size]; exact hsize) (fun k g hk => ?_) (fun k g j d' hk hj => ?_)
              · by_cases hik : i = k
                · subst hik
                  rw [List.getElem?_set_self hi] at hk; cases hk; rw [splice_length hc3]; exact hel
                · rw [List.getElem?_set_ne hik] at hk; exact hlive.len k g hk
              · by_cases hik : i = k
                · subst hik
                  rw [List.getElem?_set_self hi] at hk; cases hk
                  rcases splice_get hc3 hj with ⟨h5, h6, h7⟩ | ⟨h5, h6⟩
                  · obtain ⟨y, hy1, hy2, _⟩ := hv2 _ _ h7
                    refine ⟨y, ?_, hy2⟩
                    have := h3.new (j - f) (by simp [hv1]; omega)
                    rw [show base + i * sz + f + 0 + (j - f) = base + i * sz + j by omega] at this
                    rw [this]; simpa using hy1
                  · obtain ⟨y, hy1, hy2⟩ := hlive.val i e j d' he h6
                    exact ⟨y, by rw [hcell i e j d' he h6 (by omega)]; exact hy1, hy2⟩
                · rw [List.getElem?_set_ne hik] at hk
                  obtain ⟨y, hy1, hy2⟩ := hlive.val k g j d' hk hj
                  exact ⟨y, by rw [hcell k g j d' hk hj (by omega)]; exact hy1, hy2⟩
        · cases h
      · cases h
    · cases h
  · cases h

/-! ### new blocks -/
def zeroD (P : Program) (t : TypeId) : Option (List D) := ((P.info? t).bind (·.zero)).map fun z => z.cells.toList.map ofV

theorem run_zeroD {t : TypeId} {z : List D} (h : zeroD P t = some z) : ∃ x, (∀ w : World, (zeroValue t).run P w = .ok x w) ∧ x.cells.size = z.length ∧
    ∀ (j : Nat) (d : D), z[j]? = some d → ∃ y, x.cells[j]? = some y ∧ V A w φ d y := by
  simp only [zeroD, Option.map_eq_some_iff, Option.bind_eq_some_iff] at h
  obtain ⟨x, ⟨i, hi, hx⟩, rfl⟩ := h
  refine ⟨x, fun w => by simp [zeroValue, run_typeInfo hi, hx], by simp, fun j d hd => ?_⟩
  simp only [List.getElem?_map, Option.map_eq_some_iff] at hd
  obtain ⟨y, hy, rfl⟩ := hd
  exact ⟨y, by simpa using hy, .ofV y⟩

section
variable {G : Gh} (hG : Stab G) {st : St} {a : Act} {s : Nat}

theorem run_box (hG : Stab G) (hr : FRc G st a w A φ) (hs : st.H[s]? = some .free) {t : TypeId} {d : D} {x : Value} (hx : V A w φ d x) (hc : (cellsD d).all isCell = true) :
    ∃ r w' φ', (Instr.box t x).run P w = .ok r w' ∧ V A w' φ' (.mp s 0 0) r ∧ FRc G { st with H := st.H.set s (.live (cellsD d).length [cellsD d]) } a w' A φ' := by
  obtain ⟨h1, h2⟩ := hx.cells hc
  refine ⟨.pointer (some ⟨w.heap.size, 0, none⟩), w.alloc (.cells x.cells t), _, by simp [Instr.box, newVar, newRow], .mp _ _ _ _ _ ?_, hr.new hG hs x.cells t _ [cellsD d] (by simp [h1]) (fun i e he => ?_) (fun i e j d' he hd => ?_)⟩
  · rw [upd_same]; show (_ : Addr) = _; simp
  · cases i <;> simp at he; subst he; rfl
  · cases i <;> simp at he; subst he
    obtain ⟨y, h3, h4, _⟩ := h2 j d' hd
    exact ⟨y, by simpa using h3, h4⟩

theorem run_allocD (hG : Stab G) (hr : FRc G st a w A φ) (hs : st.H[s]? = some .free) {t : TypeId} {z : List D} (hz : zeroD P t = some z) :
    ∃ r w' φ', (Instr.alloc t true (.tuple #[])).run P w = .ok r w' ∧ V A w' φ' (.mp s 0 0) r ∧ FRc G { st with H := st.H.set s (.live z.length [z]) } a w' A φ' := by
  obtain ⟨x, h0, h1, h2⟩ := run_zeroD (A := A) (w := w) (φ := φ) hz
  refine ⟨.pointer (some ⟨w.heap.size, 0, none⟩), w.alloc (.cells x.cells t), _, by simp [Instr.alloc, h0, newVar, newRow], .mp _ _ _ _ _ ?_, hr.new hG hs x.cells t _ [z] (by simp [h1]) (fun i e he => ?_) (fun i e j d' he hd => ?_)⟩
  · rw [upd_same]; show (_ : Addr) = _; simp
  · cases i <;> simp at he; subst he; rfl
  · cases i <;> simp at he; subst he
    obtain ⟨y, h3, h4⟩ := h2 j d' hd
    exact ⟨y, by simpa using h3, h4⟩
end
end
end
end Go.DL
