/- Literals of structs and slices, make, slicing, append and copy, over abstract values. -/
import Derived.Test.YtmbbepdbjeciaaaGreatDl5
set_option linter.all false
namespace Go.DL
open Go.RowKit

noncomputable section

/-- Abstract cells stand for values. -/
structure CR (A : Rd) (w : World) (φ : Nat → Loc) (cs : List D) (vs : Array Value) : Prop where
  size : vs.size = cs.length
  val : ∀ (j : Nat) (d : D), cs[j]? = some d → ∃ y, vs[j]? = some y ∧ V A w φ d y

def fillD (place : Nat → Option (Nat × Nat)) (cells : List D) : List (Nat × D) → Option (List D)
  | [] => some cells
  | (i, d) :: rest => match place i with
    | none => none
    | some (off, size) => if (cellsD d).length = size ∧ (cellsD d).all isCell = true ∧ off + size ≤ cells.length then fillD place (splice cells off (cellsD d)) rest else none

def placesD (P : Program) : List Field → Option (List (Nat × Nat))
  | [] => some []
  | f :: r => match tsz P f.type, placesD P r with
    | some n, some l => some ((f.offset, n) :: l)
    | _, _ => none

def buildD (P : Program) (t : TypeId) (parts : List (Nat × D)) : Option D :=
  match zeroD P t, P.underlying t with
  | some z, some (.struct fs) => match placesD P fs.toList with
    | some pl => (fillD (fun i => pl[i]?) z parts).map .agg
    | none => none
  | some z, some (.array _ e) => match tsz P e with
    | some s => (fillD (fun i => some (i * s, s)) z parts).map .agg
    | none => none
  | _, _ => none

/-- The elements of a slice literal. -/
def rowsD (s : Nat) (es : List (List D)) : List (Nat × D) → Option (List (List D))
  | [] => some es
  | (i, d) :: rest => if (cellsD d).length = s ∧ (cellsD d).all isCell = true ∧ i < es.length then rowsD s (es.set i (cellsD d)) rest else none

section
variable {A : Rd} {w : World} {φ : Nat → Loc} {P : Program} {H Hm : List Blk}

theorem foldl_set (off : Nat) : ∀ (l : List (Value × Nat)) (s : Nat) (vs : List Value) (cs : Array Value), l = vs.zipIdx s → off + s + vs.length ≤ cs.size →
    Wrote cs (off + s) vs (l.foldl (fun cs (c, j) => cs.setIfInBounds (off + j) c) cs)
  | _, s, [], cs, rfl, _ => ⟨rfl, fun j hj => absurd hj (Nat.not_lt_zero _), fun _ _ => rfl⟩
  | _, s, v :: vs, cs, rfl, h => by
    simp only [List.length_cons] at h
    simp only [List.zipIdx_cons, List.foldl_cons]
    have ih := foldl_set off _ (s + 1) vs (cs.setIfInBounds (off + s) v) rfl (by simp; omega)
    refine ⟨by rw [ih.size]; simp, fun j hj => ?_, fun k hk => ?_⟩
    · cases j with
      | zero => rw [ih.old (off + s + 0) (by omega), Nat.add_zero, Array.getElem?_setIfInBounds, if_pos rfl, if_pos (by omega)]; rfl
      | succ j =>
        have := ih.new j (by simpa using hj)
        rw [show off + s + (j + 1) = off + (s + 1) + j by omega, this]; simp
    · have hk' : k < off + s ∨ off + s + (vs.length + 1) ≤ k := by simpa using hk
      have h5 : k < off + (s + 1) ∨ off + (s + 1) + vs.length ≤ k := by omega
      have h6 : ¬ off + s = k := by omega
      rw [ih.old k h5, Array.getElem?_setIfInBounds, if_neg h6]

theorem wrote_fill {cs : Array Value} {off : Nat} {u : Value} (h : off + u.cells.size ≤ cs.size) :
    Wrote cs off u.cells.toList (u.cells.zipIdx.foldl (fun cs (c, j) => cs.setIfInBounds (off + j) c) cs) := by
  rw [← Array.foldl_toList, Array.toList_zipIdx]
  have := foldl_set off _ 0 u.cells.toList cs rfl (by simpa using h)
  simpa using this

theorem CR.splice {cs : List D} {vs vs' : Array Value} {off : Nat} {d : D} {u : Value} (h : CR A w φ cs vs) (hv : V A w φ d u) (hc : (cellsD d).all isCell = true)
    (hfit : off + (cellsD d).length ≤ cs.length) (hw : Wrote vs off u.cells.toList vs') : CR A w φ (DL.splice cs off (cellsD d)) vs' := by
  obtain ⟨h1, h2⟩ := hv.cells hc
  refine ⟨by rw [hw.size, splice_length hfit, h.size], fun j e he => ?_⟩
  rcases splice_get hfit he with ⟨h3, h4, h5⟩ | ⟨h3, h4⟩
  · obtain ⟨y, hy, hyv, _⟩ := h2 _ _ h5
    refine ⟨y, ?_, hyv⟩
    have := hw.new (j - off) (by simp [h1]; omega)
    rw [show off + (j - off) = j by omega] at this
    rw [this]; simpa using hy
  · obtain ⟨y, hy, hyv⟩ := h.val j e h4
    exact ⟨y, by rw [hw.old j (by simpa [h1] using h3)]; exact hy, hyv⟩

theorem fill_ok {place : Nat → Option (Nat × Nat)} {t : List D} {a : Act} (ht : TR A w φ t a.tmps) : ∀ (ps : List (Nat × Operand)) (cs cs' : List D) (vs : Array Value), CR A w φ cs vs →
    fillD place cs (ps.map fun p => (p.1, ev t p.2)) = some cs' → ∃ vs', Instr.fill place vs (ps.map fun p => (p.1, a.eval p.2)) = some vs' ∧ CR A w φ cs' vs'
  | [], cs, cs', vs, h, he => by simp [fillD] at he; subst he; exact ⟨vs, rfl, h⟩
  | (i, x) :: ps, cs, cs', vs, h, he => by
    simp only [List.map_cons, fillD] at he
    cases hp : place i with
    | none => rw [hp] at he; cases he
    | some p =>
      obtain ⟨off, size⟩ := p
      simp only [hp] at he
      split at he
      · rename_i hc
        obtain ⟨hc1, hc2, hc3⟩ := hc
        obtain ⟨h1, _⟩ := (ht.ev x).cells hc2
        have hfit : off + (a.eval x).cells.size ≤ vs.size := by rw [h1, h.size, hc1]; exact hc3
        obtain ⟨vs', hv1, hv2⟩ := fill_ok ht ps _ cs' _ (h.splice (ht.ev x) hc2 (by rw [hc1]; exact hc3) (wrote_fill hfit)) he
        refine ⟨vs', ?_, hv2⟩
        have hne : ¬ (((decide ((a.eval x).cells.size ≠ size)) || (decide (off + (a.eval x).cells.size > vs.size))) = true) := by simp; omega
        simp only [List.map_cons, Instr.fill, hp]
        rw [if_neg hne]
        exact hv1
      · cases he

theorem run_placesD : ∀ (fs : List Field) (pl : List (Nat × Nat)), placesD P fs = some pl → ∀ w : World,
    (fs.mapM fun f => do pure (f.offset, ← sizeOf f.type) : Sem (List (Nat × Nat))).run P w = .ok pl w
  | [], pl, h, w => by simp [placesD] at h; subst h; rfl
  | f :: r, pl, h, w => by
    simp only [placesD] at h
    split at h
    · rename_i n l hn hl
      cases h
      have hr := run_placesD r l hl w
      simp only [List.mapM_cons, Sem.run_bind, run_sizeOf hn, Result.andThen, Sem.run_pure, hr]
    · cases h

theorem run_buildD {t : TypeId} {tm : List D} {a : Act} (ht : TR A w φ tm a.tmps) (ps : Array (Nat × Operand)) {d : D} (h : buildD P t (ps.toList.map fun p => (p.1, ev tm p.2)) = some d) :
    ∃ r, (Instr.build t (ps.map fun p => (p.1, a.eval p.2))).run P w = .ok r w ∧ V A w φ d r := by
  have fin : ∀ {cs : List D} {vs : Array Value}, CR A w φ cs vs → V A w φ (.agg cs) (.agg vs) := fun h =>
    .agg _ _ _ h.size fun i d u h1 h2 => let ⟨y, h3, h4⟩ := h.val i d h1; by rw [h3] at h2; cases h2; exact h4
  unfold buildD at h
  split at h
  · rename_i z fs hz hu
    obtain ⟨x, h0, h1, h2⟩ := run_zeroD (A := A) (w := w) (φ := φ) hz
    split at h
    · rename_i pl hp
      simp only [Option.map_eq_some_iff] at h
      obtain ⟨cs, hc, rfl⟩ := h
      obtain ⟨vs', hv1, hv2⟩ := fill_ok ht ps.toList z cs x.cells ⟨h1, h2⟩ hc
      refine ⟨.agg vs', ?_, fin hv2⟩
      have hm : (fs.mapM fun f => do pure (f.offset, ← sizeOf f.type) : Sem (Array (Nat × Nat))).run P w = .ok pl.toArray w := by
        rw [Array.mapM_eq_mapM_toList, Sem.run_map, run_placesD _ _ hp]; rfl
      have hpl : (fun i : Nat => pl.toArray[i]?) = fun i : Nat => pl[i]? := by funext i; simp
      simp only [Instr.build, Sem.run_bind, h0, Result.andThen, run_underlying hu, hm, hpl, Array.toList_map, hv1, Sem.run_pure]
    · cases h
  · rename_i z len e hz hu
    obtain ⟨x, h0, h1, h2⟩ := run_zeroD (A := A) (w := w) (φ := φ) hz
    split at h
    · rename_i s hs
      simp only [Option.map_eq_some_iff] at h
      obtain ⟨cs, hc, rfl⟩ := h
      obtain ⟨vs', hv1, hv2⟩ := fill_ok ht ps.toList z cs x.cells ⟨h1, h2⟩ hc
      refine ⟨.agg vs', ?_, fin hv2⟩
      simp only [Instr.build, Sem.run_bind, h0, Result.andThen, run_underlying hu, run_sizeOf hs, Array.toList_map, hv1, Sem.run_pure]
    · cases h
  · cases h

/-- Elements of s cells each stand for a row of cells. -/
structure RR (A : Rd) (w : World) (φ : Nat → Loc) (s : Nat) (es : List (List D)) (vs : Array Value) : Prop where
  size : vs.size = es.length * s
  len : ∀ (i : Nat) (e : List D), es[i]? = some e → e.length = s
  val : ∀ (i : Nat) (e : List D) (j : Nat) (d : D), es[i]? = some e → e[j]? = some d → ∃ y, vs[i * s + j]? = some y ∧ V A w φ d y

theorem RR.set {s : Nat} {es : List (List D)} {vs vs' : Array Value} {i : Nat} {d : D} {u : Value} (h : RR A w φ s es vs) (hv : V A w φ d u) (hc : (cellsD d).all isCell = true)
    (hs : (cellsD d).length = s) (hi : i < es.length) (hw : Wrote vs (i * s) u.cells.toList vs') : RR A w φ s (es.set i (cellsD d)) vs' := by
  obtain ⟨h1, h2⟩ := hv.cells hc
  refine ⟨by rw [hw.size, h.size]; simp, fun k g hk => ?_, fun k g j e hk hj => ?_⟩
  · by_cases hik : i = k
    · subst hik; rw [List.getElem?_set_self hi] at hk; cases hk; exact hs
    · rw [List.getElem?_set_ne hik] at hk; exact h.len k g hk
  · by_cases hik : i = k
    · subst hik
      rw [List.getElem?_set_self hi] at hk; cases hk
      obtain ⟨y, hy, hyv, _⟩ := h2 j e hj
      exact ⟨y, by rw [hw.new j (by simp [h1]; exact (List.getElem?_eq_some_iff.1 hj).1)]; simpa using hy, hyv⟩
    · rw [List.getElem?_set_ne hik] at hk
      obtain ⟨y, hy, hyv⟩ := h.val k g j e hk hj
      refine ⟨y, ?_, hyv⟩
      have hjl : j < s := by rw [← h.len k g hk]; exact (List.getElem?_eq_some_iff.1 hj).1
      rw [hw.old (k * s + j) ?_]; exact hy
      simp only [Array.length_toList, h1, hs]
      rcases Nat.lt_or_ge k i with h4 | h4
      · left
        have : k * s + s ≤ i * s := by rw [← Nat.succ_mul]; exact Nat.mul_le_mul_right _ h4
        omega
      · right
        have : i * s + s ≤ k * s := by rw [← Nat.succ_mul]; exact Nat.mul_le_mul_right _ (by omega)
        omega

theorem rows_ok {s : Nat} {t : List D} {a : Act} (ht : TR A w φ t a.tmps) : ∀ (ps : List (Nat × Operand)) (es es' : List (List D)) (vs : Array Value), RR A w φ s es vs →
    rowsD s es (ps.map fun p => (p.1, ev t p.2)) = some es' → ∃ vs', Instr.fill (fun i => some (i * s, s)) vs (ps.map fun p => (p.1, a.eval p.2)) = some vs' ∧ RR A w φ s es' vs' ∧ es'.length = es.length
  | [], es, es', vs, h, he => by simp [rowsD] at he; subst he; exact ⟨vs, rfl, h, rfl⟩
  | (i, x) :: ps, es, es', vs, h, he => by
    simp only [List.map_cons, rowsD] at he
    split at he
    · rename_i hc
      obtain ⟨hc1, hc2, hc3⟩ := hc
      obtain ⟨h1, _⟩ := (ht.ev x).cells hc2
      have hmul : i * s + s ≤ es.length * s := by rw [← Nat.succ_mul]; exact Nat.mul_le_mul_right _ hc3
      have hfit : i * s + (a.eval x).cells.size ≤ vs.size := by rw [h1, h.size, hc1]; exact hmul
      obtain ⟨vs', hv1, hv2, hv3⟩ := rows_ok ht ps _ es' _ (h.set (ht.ev x) hc2 hc1 hc3 (wrote_fill hfit)) he
      refine ⟨vs', ?_, hv2, by rw [hv3]; simp⟩
      have hne : ¬ (((decide ((a.eval x).cells.size ≠ s)) || (decide (i * s + (a.eval x).cells.size > vs.size))) = true) := by simp; omega
      simp only [List.map_cons, Instr.fill]
      rw [if_neg hne]
      exact hv1
    · cases he

theorem zero_rows {z : List D} {x : Value} (h1 : x.cells.size = z.length) (h2 : ∀ (j : Nat) (d : D), z[j]? = some d → ∃ y, x.cells[j]? = some y ∧ V A w φ d y) (n : Nat) :
    RR A w φ z.length (List.replicate n z) ((Array.range (n * z.length)).map (x.cells[· % x.cells.size]!)) := by
  refine ⟨by simp, fun i e he => ?_, fun i e j d he hd => ?_⟩
  · rw [List.getElem?_replicate] at he; split at he <;> cases he; rfl
  · rw [List.getElem?_replicate] at he
    split at he
    · rename_i hi
      cases he
      obtain ⟨y, hy, hv⟩ := h2 j d hd
      refine ⟨y, ?_, hv⟩
      have hj : j < z.length := (List.getElem?_eq_some_iff.1 hd).1
      have hlt : i * z.length + j < n * z.length := by
        have : i * z.length + z.length ≤ n * z.length := by rw [← Nat.succ_mul]; exact Nat.mul_le_mul_right _ hi
        omega
      have hmod : (i * z.length + j) % z.length = j := by rw [Nat.mul_comm, Nat.mul_add_mod]; exact Nat.mod_eq_of_lt hj
      simp only [Array.getElem?_map, Array.getElem?_range, hlt, if_true, Option.map_some, h1, hmod]
      have hj' : j < x.cells.size := by omega
      rw [Array.getElem?_eq_getElem hj', Option.some.injEq] at hy
      simp [hj', hy]
    · cases he

def buildSliceD (P : Program) (t : TypeId) (len : Nat) (parts : List (Nat × D)) : Option (Nat × List (List D)) :=
  match elemT P t with
  | some (e, s) => match zeroD P e with
    | some z => if 0 < s ∧ z.length = s ∧ len * s ≤ 16777216 then (rowsD s (List.replicate len z) parts).map fun es => (s, es) else none
    | none => none
  | none => none

theorem elemT_ok {t e : TypeId} {s : Nat} (h : elemT P t = some (e, s)) : P.underlying t = some (.slice e) ∧ tsz P e = some s := by
  unfold elemT at h
  split at h
  · rename_i e' hu
    simp only [Option.map_eq_some_iff, Prod.mk.injEq] at h
    obtain ⟨n, hn, rfl, rfl⟩ := h
    exact ⟨hu, hn⟩
  · cases h

section
variable {G : Gh} (hG : Stab G) {st : St} {a : Act} {s : Nat}

theorem run_buildSliceD (hG : Stab G) (hr : FRc G st a w A φ) (hs : st.H[s]? = some .free) {t : TypeId} {len : Nat} (ps : Array (Nat × Operand)) {sz : Nat} {es : List (List D)}
    (h : buildSliceD P t len (ps.toList.map fun p => (p.1, ev st.t p.2)) = some (sz, es)) :
    ∃ r w' φ', (Instr.buildSlice t len (ps.map fun p => (p.1, a.eval p.2))).run P w = .ok r w' ∧ V A w' φ' (.ms s 0 len len) r ∧ FRc G { st with H := st.H.set s (.live sz es) } a w' A φ' := by
  unfold buildSliceD at h
  split at h
  · rename_i e s' he
    obtain ⟨hu, hts⟩ := elemT_ok he
    split at h
    · rename_i z hz
      split at h
      · rename_i hc
        obtain ⟨hc1, hc2, hc3⟩ := hc
        simp only [Option.map_eq_some_iff, Prod.mk.injEq] at h
        obtain ⟨es', hes, rfl, rfl⟩ := h
        obtain ⟨x, h0, h1, h2⟩ := run_zeroD (A := A) (w := w) (φ := φ) hz
        subst hc2
        have hzr := zero_rows h1 h2 len
        obtain ⟨vs', hv1, hv2, hv3⟩ := rows_ok hr.tr ps.toList _ es' _ hzr hes
        have hlen : es'.length = len := by rw [hv3]; simp
        refine ⟨.slice (some ⟨w.heap.size, 0, none⟩) len len, w.alloc (.cells vs' e), _, ?_, .ms _ _ _ _ _ _ _ (Nat.le_refl _) (Nat.le_refl _) ?_,
          hr.new hG hs vs' e z.length es' (by rw [hv2.size]; exact Nat.le_refl _) hv2.len fun i e j d h3 h4 => hv2.val i e j d h3 h4⟩
        · have hn : ¬ (len * z.length > 2 ^ 24) := by simpa using hc3
          rcases Nat.eq_zero_or_pos len with hl | hl
          · subst hl
            have hnil : ps.toList = [] := by
              cases hp : ps.toList with
              | nil => rfl
              | cons p r => rw [hp] at hes; simp [rowsD] at hes
            rw [hnil] at hv1
            simp only [List.map_nil, Instr.fill, Option.some.injEq] at hv1
            subst hv1
            simp only [Instr.buildSlice, Sem.run_bind, run_underlying hu, Result.andThen, run_sizeOf hts, Nat.zero_mul, Array.toList_map, hnil]
            simp [Instr.fill, newRow, Array.range_zero']
          · have hne : ¬ (len * z.length = 0) := Nat.ne_of_gt (Nat.mul_pos hl hc1)
            simp only [Instr.buildSlice, Sem.run_bind, run_underlying hu, Result.andThen, run_sizeOf hts, if_neg hn, if_neg hne, h0, Array.toList_map]
            simp [hv1, newRow]
        · rw [upd_same]
          exact ⟨by omega, .inr (by simp)⟩
      · cases h
    · cases h
  · cases h

def makeSliceD (P : Program) (t : TypeId) (l c : D) : Option (Nat × Nat × Nat × List (List D)) :=
  match intD l, intD c, elemT P t with
  | some l, some c, some (e, s) => match zeroD P e with
    | some z => if 0 ≤ l ∧ l ≤ c ∧ (P.bytesOf e : Int) * c ≤ 281474976710656 ∧ c ≤ 9223372036854775807 ∧ 0 < s ∧ z.length = s then some (l.toNat, c.toNat, s, List.replicate c.toNat z) else none
    | none => none
  | _, _, _ => none

theorem run_makeSliceD (hG : Stab G) (hr : FRc G st a w A φ) (hs : st.H[s]? = some .free) {t : TypeId} {l c : D} {u v : Value} (hl : V A w φ l u) (hc : V A w φ c v) {ln cn sz : Nat} {es : List (List D)}
    (h : makeSliceD P t l c = some (ln, cn, sz, es)) :
    ∃ r w' φ', (Instr.makeSlice t u v).run P w = .ok r w' ∧ V A w' φ' (.ms s 0 ln cn) r ∧ FRc G { st with H := st.H.set s (.live sz es) } a w' A φ' := by
  unfold makeSliceD at h
  split at h
  · rename_i l' c' e s' hl' hc' he
    obtain ⟨hu, hts⟩ := elemT_ok he
    obtain ⟨k1, rfl⟩ := hl.int hl'
    obtain ⟨k2, rfl⟩ := hc.int hc'
    split at h
    · rename_i z hz
      split at h
      · rename_i hb
        obtain ⟨b1, b2, b3, b4, b5, b6⟩ := hb
        cases h
        have hz0 := hz
        simp only [zeroD, Option.map_eq_some_iff, Option.bind_eq_some_iff] at hz0
        obtain ⟨x, ⟨i, hi, hx⟩, rfl⟩ := hz0
        have hisz : i.size = sz := by simp only [tsz, hi, Option.map_some, Option.some.injEq] at hts; exact hts
        have hby : P.bytesOf e = i.bytes := by simp [Program.bytesOf, hi]
        rw [hby] at b3
        have hrun := run_make (P := P) w t e i x hu hi hx k1 k2 l' c' b1 b2 b3 b4
        have hxs : x.cells.size = sz := by simpa using b6
        have hzr := zero_rows (A := A) (w := w) (φ := φ) (z := x.cells.toList.map ofV) (x := x) (by simp) (fun j d hd => by
          simp only [List.getElem?_map, Option.map_eq_some_iff] at hd
          obtain ⟨y, hy, rfl⟩ := hd
          exact ⟨y, by simpa using hy, .ofV y⟩) c'.toNat
        have hcells : madeCells x.cells (c'.toNat * i.size) = (Array.range (c'.toNat * (x.cells.toList.map ofV).length)).map (x.cells[· % x.cells.size]!) := by
          rw [hisz, ← b6]; rfl
        refine ⟨_, _, upd φ s (.loc w.heap.size 0 sz c'.toNat), hrun, .ms _ _ _ _ _ _ _ (by omega) (Nat.le_refl _) ?_, ?_⟩
        · rw [upd_same]; exact ⟨by omega, .inr (by simp)⟩
        · have := hr.new hG hs (madeCells x.cells (c'.toNat * i.size)) e sz (List.replicate c'.toNat (x.cells.toList.map ofV)) (by rw [hcells, hzr.size]; simp [hxs])
            (fun j g hg => by rw [hzr.len j g hg, b6]) (fun j g k d hg hd => by rw [hcells, ← b6]; exact hzr.val j g k d hg hd)
          simpa using this
      · cases h
    · cases h
  · cases h
end
end
end
end Go.DL
