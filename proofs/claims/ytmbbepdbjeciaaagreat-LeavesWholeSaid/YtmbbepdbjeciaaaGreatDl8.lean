/- Append over abstract values: the old block is given up, a new one holds the old elements and the new ones. -/
import Derived.Test.YtmbbepdbjeciaaaGreatDl7
import Derived.Laws.AppendOwn
set_option linter.all false
namespace Go.DL
open Go.RowKit

noncomputable section

section
variable {A : Rd} {w : World} {φ : Nat → Loc} {P : Program} {H Hm : List Blk}

theorem cell_heap {w W : World} (h : W.heap = w.heap) (a : Addr) : W.cell? a = w.cell? a := by simp [World.cell?, h]

theorem cells_ok {n off s : Nat} {es : List (List D)} (hlen : ∀ (i : Nat) (e : List D), es[i]? = some e → e.length = s)
    (hc : ∀ (i : Nat) (e : List D) (j : Nat) (d : D), es[i]? = some e → e[j]? = some d → ∃ y, w.cell? ⟨n, off + i * s + j, none⟩ = some y ∧ V A w φ d y) :
    ∃ vs, RR A w φ s es vs ∧ ∀ W : World, W.heap = w.heap → (loadCells ⟨n, off, none⟩ (es.length * s)).run P W = .ok vs W := by
  refine ⟨((List.range (es.length * s)).map fun k => (w.cell? ⟨n, off + k, none⟩).getD default).toArray, ⟨by simp, hlen, fun i e j d he hd => ?_⟩, fun W hW => ?_⟩
  · obtain ⟨y, hy, hv⟩ := hc i e j d he hd
    refine ⟨y, ?_, hv⟩
    have hi : i < es.length := (List.getElem?_eq_some_iff.1 he).1
    have hj : j < s := by rw [← hlen i e he]; exact (List.getElem?_eq_some_iff.1 hd).1
    have hlt : i * s + j < es.length * s := by
      have : i * s + s ≤ es.length * s := by rw [← Nat.succ_mul]; exact Nat.mul_le_mul_right _ hi
      omega
    simp only [List.getElem?_toArray, List.getElem?_map, List.getElem?_range hlt, Option.map_some]
    rw [← Nat.add_assoc, hy]; rfl
  · refine run_loadCells W ⟨n, off, none⟩ (es.length * s) _ fun k hk => ?_
    rw [add_none, cell_heap hW]
    have hs : 0 < s := by
      rcases Nat.eq_zero_or_pos s with h | h
      · subst h; simp at hk
      · exact h
    have hi : k / s < es.length := by rw [Nat.div_lt_iff_lt_mul hs]; exact hk
    have hj : k % s < s := Nat.mod_lt _ hs
    have he := List.getElem?_eq_getElem hi
    have hj' : k % s < (es[k / s]).length := by rw [hlen _ _ he]; exact hj
    obtain ⟨y, hy, _⟩ := hc (k / s) _ (k % s) _ he (List.getElem?_eq_getElem hj')
    rw [Nat.add_assoc, Nat.mul_comm, Nat.div_add_mod] at hy
    rw [hy]; rfl

theorem elems_ok (hr : RH A φ w H) (hsub : Sub Hm H) {d : D} {u : Value} {es : List (List D)} {s : Nat} (h : V A w φ d u) (he : elemsD Hm d = some es)
    (hlen : ∀ (i : Nat) (e : List D), es[i]? = some e → e.length = s) :
    ∃ a cap vs, u = .slice a es.length cap ∧ RR A w φ s es vs ∧ ∀ W : World, W.heap = w.heap → (Builtin.firstCells s es.length u).run P W = .ok vs W := by
  have empty : ∀ {a : Option Addr} {cap : Nat}, es = [] → u = .slice a 0 cap → ∃ a cap vs, u = .slice a es.length cap ∧ RR A w φ s es vs ∧
      ∀ W : World, W.heap = w.heap → (Builtin.firstCells s es.length u).run P W = .ok vs W := fun {a cap} h1 h2 => by
    subst h1; subst h2
    refine ⟨a, cap, #[], rfl, ⟨by simp, by simp, by simp⟩, fun W _ => ?_⟩
    cases a with
    | none => simp [Builtin.firstCells]
    | some a => simp [Builtin.firstCells, loadCells, loadCellsFrom]
  have hfl : ∀ {fs : List (List D)}, d = .fl fs → V A w φ (.sl fs) u := fun {fs} e => by subst e; exact h.of_fl
  have hsl : ∀ {fs : List (List D)}, fs.map (List.map lowD) = es → V A w φ (.sl fs) u → ∃ a cap vs, u = .slice a es.length cap ∧ RR A w φ s es vs ∧
      ∀ W : World, W.heap = w.heap → (Builtin.firstCells s es.length u).run P W = .ok vs W := fun {fs} e h => by
    cases h with
    | sl0 _ a cap => exact empty (by simpa using e.symm) rfl
    | sl _ fs n off sz cap v ha hcap hsz hc hh =>
      have hlf : es.length = fs.length := by rw [← e]; simp
      rcases Nat.eq_zero_or_pos fs.length with hz | hz
      · have hn : fs = [] := List.eq_nil_of_length_eq_zero hz
        exact empty (by subst hn; simpa using e.symm) (by rw [hn]; rfl)
      · have hsz' : sz = s := by
          have h0 := List.getElem?_eq_getElem hz
          have h1 : es[0]? = some (fs[0].map lowD) := by rw [← e]; simp [hz]
          have := hlen 0 _ h1
          rw [← hsz 0 _ h0, ← this]; simp
        subst hsz'
        obtain ⟨vs, h1, h2⟩ := cells_ok (P := P) (A := A) (w := w) (φ := φ) (n := n) (off := off) hlen fun i e' j d he hd => by
          rw [← e] at he
          simp only [List.getElem?_map, Option.map_eq_some_iff] at he
          obtain ⟨e0, he, rfl⟩ := he
          simp only [List.getElem?_map, Option.map_eq_some_iff] at hd
          obtain ⟨d0, hd, rfl⟩ := hd
          exact ⟨_, hc i e0 j d0 he hd, (hh i e0 j d0 he hd).low⟩
        rw [hlf] at h2 ⊢
        exact ⟨_, _, vs, rfl, h1, h2⟩
  unfold elemsD at he
  split at he
  · cases he; exact hsl rfl h
  · cases he; exact hsl rfl (hfl rfl)
  · cases he
    cases h with
    | nil _ a => exact empty rfl rfl
  · rename_i b off len cap0
    split at he
    · rename_i sz fs hb
      split at he
      · rename_i hol
        cases he
        have hl : ((fs.take (off + len)).drop off).length = len := by simp; omega
        cases h with
        | ms _ _ _ _ _ cap' a h1 h2 h3 =>
          rcases hr.live b sz fs (hsub _ _ _ hb) with ⟨rfl, hp⟩ | ⟨n, base, room, c, ty, hp, hlive⟩
          · simp at hol; obtain ⟨rfl, rfl⟩ := hol
            exact empty (by simp) rfl
          · rw [hp] at h3
            obtain ⟨h4, h5⟩ := h3
            rcases Nat.eq_zero_or_pos len with hz | hz
            · subst hz
              exact empty (List.eq_nil_of_length_eq_zero hl) rfl
            · have ha : a = some ⟨n, base + off * sz, none⟩ := h5.resolve_left (by omega)
              subst ha
              have hget : ∀ (i : Nat) (e : List D), ((fs.take (off + len)).drop off)[i]? = some e → fs[off + i]? = some e := fun i e he => by
                rw [List.getElem?_drop, List.getElem?_take] at he
                split at he
                · exact he
                · cases he
              have hsz' : sz = s := by
                have h0 : 0 < ((fs.take (off + len)).drop off).length := by omega
                have h6 := List.getElem?_eq_getElem h0
                rw [← hlive.len _ _ (hget 0 _ h6), hlen 0 _ h6]
              subst hsz'
              obtain ⟨vs, k1, k2⟩ := cells_ok (P := P) (A := A) (φ := φ) (w := w) (n := n) (off := base + off * sz) hlen fun i e j d he hd => by
                obtain ⟨y, hy, hv⟩ := hlive.val _ _ _ _ (hget i e he) hd
                refine ⟨y, ?_, hv⟩
                rw [cell_of_blk hlive.blk, show base + off * sz + i * sz + j = base + (off + i) * sz + j by rw [Nat.add_mul]; omega]
                exact hy
              rw [hl] at k2 ⊢
              exact ⟨_, _, vs, rfl, k1, k2⟩
      · cases he
    · cases he
  · cases he

/-! ### the model's append -/
theorem zeroCells_zero (z : Array Value) : Builtin.zeroCells z 0 = #[] := by simp [Builtin.zeroCells]
theorem wrap0 : IntKind.i64.wrap 0 = 0 := by decide

/-- What an append is given: a slice, or a number of zeros. -/
inductive Added (P : Program) (t' : TypeId) (i : TypeInfo) (zv : Value) (m : Nat) (v : Value) (vs : Array Value) (w : World) : Prop
  | sl {e' : TypeId} {vb : Option Addr} {vcap : Nat} (hu : P.underlying t' = some (.slice e')) (hv : v = .slice vb m vcap) (h : ∀ W : World, W.heap = w.heap → (Builtin.firstCells i.size m v).run P W = .ok vs W)
  | mk {k : IntKind} (hu : P.underlying t' = some (.int k)) (hv : v = .int .i64 m) (h : vs = Builtin.zeroCells zv.cells m)

section
variable {t t' ty e : TypeId} {i : TypeInfo} {zv v : Value} {ub : Option Addr} {n m ucap : Nat} {us vs : Array Value}
  (ht : P.underlying t = some (.slice e)) (hi : P.info? e = some i) (hzv : i.zero = some zv) (ha : Added P t' i zv m v vs w)

theorem app_fit (ht : P.underlying t = some (.slice e)) (hi : P.info? e = some i) (hzv : i.zero = some zv) (ha : Added P t' i zv m v vs w) (hroom : n + m ≤ ucap) (hs : 0 < i.size) (h63 : n + m ≤ 9223372036854775807) (hby : (n + m) * i.bytes ≤ 140737488355328) :
    (Builtin.append_ #[t, t'] ty #[.slice ub n ucap, v]).run P w =
      match ub with
      | some a => ((storeCells (a.add (n * i.size)) vs.toList).run P w).andThen fun _ w' => .ok (.slice ub (n + m) ucap) w'
      | none => .ok (.slice ub (n + m) ucap) w := by
  cases ha with
  | sl hu hv h =>
    subst hv
    have hvl := h w rfl
    cases ub <;> simp [Builtin.append_, run_underlying ht, run_underlying hu, sizeOf, typeInfo, hi, Builtin.lenOf, hroom, hvl]
  | mk hu hv h =>
    subst hv; subst h
    have h1 : IntKind.i64.wrap (m : Int) = m := by rw [IntKind.wrap_i64]; omega
    have h2 : ¬ ((m : Int) < 0) := by omega
    have h3 : ¬ ((281474976710656 : Int) < (m : Int) * (i.bytes : Int)) := by
      have : m * i.bytes ≤ (n + m) * i.bytes := Nat.mul_le_mul_right _ (by omega)
      have h4 : (m : Int) * (i.bytes : Int) = ((m * i.bytes : Nat) : Int) := by simp
      rw [h4]; omega
    rcases Nat.eq_zero_or_pos m with rfl | hm
    · have hroom' : n ≤ ucap := hroom
      cases ub <;> simp [Builtin.append_, run_underlying ht, run_underlying hu, sizeOf, typeInfo, hi, asInt, asIntOf, wrap0, h1, hroom', zeroValue, hzv, zeroCells_zero]
    · have h5 : ¬ (m * i.size = 0) := Nat.ne_of_gt (Nat.mul_pos hm hs)
      cases ub <;> simp [Builtin.append_, run_underlying ht, run_underlying hu, sizeOf, typeInfo, hi, asInt, asIntOf, wrap0, h1, h2, h3, h5, hroom, zeroValue, hzv]

theorem app_grow (ht : P.underlying t = some (.slice e)) (hi : P.info? e = some i) (hzv : i.zero = some zv) (ha : Added P t' i zv m v vs w) (hg : ucap < n + m) (hs : 0 < i.size) (h63 : n + m ≤ 9223372036854775807) (hby : (n + m) * i.bytes ≤ 140737488355328)
    (hul : (Builtin.firstCells i.size n (.slice ub n ucap)).run P w.drew = .ok us w.drew) :
    (Builtin.append_ #[t, t'] ty #[.slice ub n ucap, v]).run P w =
      .ok (.slice (some ⟨w.heap.size, 0, none⟩) (n + m) (grownCap w (n + m) ucap e))
        (w.drew.alloc (.cells (us ++ vs ++ Builtin.zeroCells zv.cells (grownCap w (n + m) ucap e - (n + m))) e)) := by
  have hn : ¬ (n + m ≤ ucap) := by omega
  have h63' : ¬ (9223372036854775807 < ((n : Int) + (m : Int))) := by omega
  have hfit := growslice_fits hg hby
  have h48' : ¬ (281474976710656 < Builtin.nextslicecap (n + m) ucap * i.bytes) := by omega
  cases ha with
  | sl hu hv h =>
    subst hv
    have hvl := h w.drew rfl
    simp [Builtin.append_, run_underlying ht, run_underlying hu, sizeOf, typeInfo, zeroValue, hi, hzv, Builtin.lenOf, hn, h63', h48', Question.forced, hvl, hul, newRow, grownCap]
  | mk hu hv h =>
    subst hv; subst h
    have h1 : IntKind.i64.wrap (m : Int) = m := by rw [IntKind.wrap_i64]; omega
    have h2 : ¬ ((m : Int) < 0) := by omega
    have h3 : ¬ ((281474976710656 : Int) < (m : Int) * (i.bytes : Int)) := by
      have : m * i.bytes ≤ (n + m) * i.bytes := Nat.mul_le_mul_right _ (by omega)
      have h4 : (m : Int) * (i.bytes : Int) = ((m * i.bytes : Nat) : Int) := by simp
      rw [h4]; omega
    rcases Nat.eq_zero_or_pos m with rfl | hm
    · simp only [Nat.add_zero] at *
      have h6 : ¬ (9223372036854775807 < (n : Int)) := by omega
      simp [Builtin.append_, run_underlying ht, run_underlying hu, sizeOf, typeInfo, zeroValue, hi, hzv, asInt, asIntOf, wrap0, h1, h6, hn, h63', h48', Question.forced, hul, newRow, grownCap, zeroCells_zero]
    · have h5 : ¬ (m * i.size = 0) := Nat.ne_of_gt (Nat.mul_pos hm hs)
      simp [Builtin.append_, run_underlying ht, run_underlying hu, sizeOf, typeInfo, zeroValue, hi, hzv, asInt, asIntOf, wrap0, h1, h2, h3, h5, hn, h63', h48', Question.forced, hul, newRow, grownCap]
end

theorem RR.append {sz : Nat} {es xs : List (List D)} {us vs : Array Value} (h : RR A w φ sz es us) (k : RR A w φ sz xs vs) : RR A w φ sz (es ++ xs) (us ++ vs) := by
  refine ⟨by simp [h.size, k.size, Nat.add_mul], fun i e he => ?_, fun i e j d he hd => ?_⟩
  · rw [List.getElem?_append] at he
    split at he
    · exact h.len i e he
    · exact k.len _ e he
  · rw [List.getElem?_append] at he
    split at he
    · rename_i hi
      obtain ⟨y, hy, hv⟩ := h.val i e j d he hd
      have hj : j < sz := by rw [← h.len i e he]; exact (List.getElem?_eq_some_iff.1 hd).1
      have : i * sz + j < us.size := (Array.getElem?_eq_some_iff.1 hy).1
      exact ⟨y, by rw [Array.getElem?_append_left this]; exact hy, hv⟩
    · rename_i hi
      obtain ⟨y, hy, hv⟩ := k.val _ e j d he hd
      refine ⟨y, ?_, hv⟩
      have hmul : (i - es.length) * sz + es.length * sz = i * sz := by rw [← Nat.add_mul]; congr 1; omega
      rw [Array.getElem?_append_right (by rw [h.size]; omega), h.size, ← hy]
      congr 1; omega

theorem RR.one {sz : Nat} {xs : List (List D)} {vs : Array Value} (h : RR A w φ sz xs vs) (hsz : 0 < sz) (hc : xs.all (fun e => e.all isCell) = true) : ∀ y ∈ vs.toList, y.oneCell' = true := fun y hy => by
  obtain ⟨k, hk, rfl⟩ := List.mem_iff_getElem.1 hy
  simp only [Array.length_toList, h.size] at hk
  have hi : k / sz < xs.length := by rw [Nat.div_lt_iff_lt_mul hsz]; exact hk
  have hg := List.getElem?_eq_getElem hi
  have hj : k % sz < (xs[k / sz]).length := by rw [h.len _ _ hg]; exact Nat.mod_lt _ hsz
  have hd := List.getElem?_eq_getElem hj
  obtain ⟨y, hy1, hy2⟩ := h.val _ _ _ _ hg hd
  rw [Nat.mul_comm, Nat.div_add_mod] at hy1
  rw [List.all_eq_true] at hc
  have hcell := hc _ (List.getElem_mem hi)
  rw [List.all_eq_true] at hcell
  have := hy2.isCell (hcell _ (List.getElem_mem hj))
  have hk' : k < vs.size := by rw [h.size]; exact hk
  rw [Array.getElem?_eq_getElem hk', Option.some.injEq] at hy1
  simpa [hy1] using this

theorem RR.nil {sz : Nat} {vs : Array Value} (h : RR A w φ sz [] vs) : vs = #[] := by
  apply Array.eq_empty_of_size_eq_zero; rw [h.size]; simp

/-- What is appended: the elements of a slice, or a number of zeros. -/
def addedD (P : Program) (H : List Blk) (e t' : TypeId) (x : D) : Option (List (List D)) :=
  match P.underlying t' with
  | some (.slice _) => elemsD H x
  | some (.int _) => match x with
    | .v (.int .i64 m) => if 0 ≤ m then (zeroD P e).map fun z => List.replicate m.toNat z else none
    | _ => none
  | _ => none

/-- The old block to be given up, the size, and what the result holds. -/
def appendD (P : Program) (H : List Blk) (t t' : TypeId) (s x : D) : Option (Option Nat × Nat × List (List D)) :=
  match elemT P t, elemsD H s with
  | some (e, sz), some es =>
    match addedD P H e t' x with
    | some xs =>
      if 0 < sz ∧ (zeroD P e).map List.length = some sz ∧ es.all (fun e => e.length == sz) = true ∧ xs.all (fun e => e.length == sz) = true ∧ xs.all (fun e => e.all isCell) = true ∧
        (es.length + xs.length) * P.bytesOf e ≤ 140737488355328 ∧ es.length + xs.length ≤ 9223372036854775807 then
        match s with
        | .nil => some (none, sz, xs)
        | .ms b _ _ _ => if Blk.hasSz sz H[b]? = true then some (some b, sz, es ++ xs) else none
        | _ => none
      else none
    | none => none
  | _, _ => none

def killO (H : List Blk) : Option Nat → List Blk
  | some b => H.set b .dead
  | none => H

theorem killO_free (H : List Blk) {s : Nat} {o : Option Nat} (hs : H[s]? = some .free) (ho : ∀ b, o = some b → b ≠ s) : (DL.killO H o)[s]? = some .free := by
  cases o with
  | none => exact hs
  | some b => rw [DL.killO, List.getElem?_set, if_neg (ho b rfl)]; exact hs


section
variable {G : Gh} (hG : Stab G) {st : St} {a : Act} {s : Nat}
/-- An own block without memory. -/
theorem FRc.phantom (hG : Stab G) (h : FRc G st a w A φ) (hs : st.H[s]? = some .free) (sz : Nat) : FRc G { st with H := st.H.set s (.live sz []) } a w A (upd φ s .ph) := by
  have hlt : s < st.H.length := (List.getElem?_eq_some_iff.1 hs).1
  have hf : φ s = .free := h.rh.free s hs
  exact h.step hG (h.rh.lay hlt (l := .ph) (.inl hf) (fun _ _ => rfl) (fun _ x => x) (fun _ x => .inl x) (fun _ _ _ _ _ _ _ => rfl) (Nat.le_refl _)
      ⟨by simp, by simp, fun sz' es' e => by cases e; exact .inl ⟨rfl, rfl⟩⟩ (fun _ _ _ _ e => by cases e))
    ⟨rfl, rfl, rfl, Nat.le_refl _, fun _ _ _ => rfl, fun n hn => by
      rcases own_upd hn with ⟨_, _, _, e⟩ | ⟨b, _, _, _, _, e⟩
      · cases e
      · exact .inl ⟨b, _, _, _, e⟩⟩ (fun _ x => x) (fun _ x => .inl x) (upd_le (.inl hf))

theorem FRc.killO (hG : Stab G) (h : FRc G st a w A φ) {o : Option Nat} (ho : ∀ b, o = some b → b < st.H.length) :
    ∃ φ', FRc G { st with H := DL.killO st.H o } a w A φ' ∧ ∀ b, (φ b).le (φ' b) := by
  cases o with
  | none => exact ⟨φ, h, fun _ => Loc.le_refl _⟩
  | some b => exact ⟨_, h.kill hG (ho b rfl), upd_le (.inr (.inl rfl))⟩

/-- It grows. -/
theorem grow_ok (hG : Stab G) (hr : FRc G st a w A φ) (hs : st.H[s]? = some .free) {t t' ty e : TypeId} {i : TypeInfo} {zv v : Value} {ub : Option Addr} {ucap sz : Nat} {us vs : Array Value} {es xs : List (List D)}
    (ht : P.underlying t = some (.slice e)) (hi : P.info? e = some i) (hzv : i.zero = some zv) (hisz : i.size = sz) (hzs : zv.cells.size = sz) (hsz : 0 < sz)
    (hus : RR A w φ sz es us) (hvs : RR A w φ sz xs vs)
    (hul : ∀ W : World, W.heap = w.heap → (Builtin.firstCells sz es.length (.slice ub es.length ucap)).run P W = .ok us W)
    (ha : Added P t' i zv xs.length v vs w)
    (hby : (es.length + xs.length) * i.bytes ≤ 140737488355328) (h63 : es.length + xs.length ≤ 9223372036854775807)
    {o : Option Nat} (ho : ∀ b, o = some b → b < st.H.length ∧ b ≠ s) (hg : ucap < es.length + xs.length) :
    ∃ r w' φ', (Builtin.append_ #[t, t'] ty #[.slice ub es.length ucap, v]).run P w = .ok r w' ∧ V A w' φ' (.ms s 0 (es ++ xs).length (es ++ xs).length) r ∧
      FRc G { st with H := (DL.killO st.H o).set s (.live sz (es ++ xs)) } a w' A φ' := by
  have hge := grownCap_ge w (es.length + xs.length) ucap e
  obtain ⟨φ1, hk, hle⟩ := hr.killO hG (o := o) fun b hb => (ho b hb).1
  have hk' := hk.drew hG
  have hfree : (DL.killO st.H o)[s]? = some .free := killO_free st.H hs fun b hb => (ho b hb).2
  have hrr := hus.append hvs
  have hfo := hul w.drew rfl
  rw [← hisz] at hfo
  have hrun := app_grow (P := P) (w := w) (ty := ty) ht hi hzv ha hg (by omega) h63 hby hfo
  have hnew := hk'.newR hG (s := s) hfree (us ++ vs ++ Builtin.zeroCells zv.cells (grownCap w (es.length + xs.length) ucap e - (es.length + xs.length))) e sz (es ++ xs)
    (grownCap w (es.length + xs.length) ucap e) (by simpa using hge)
    (by
      rw [Array.size_append, hrr.size, size_zeroCells, hzs, ← Nat.add_mul]
      refine Nat.mul_le_mul_right _ ?_
      rw [List.length_append]; omega) hrr.len (fun i e j d he hd => by
      obtain ⟨y, hy, hv⟩ := hrr.val i e j d he hd
      refine ⟨y, ?_, V.mono (w := w) (fun _ x => x) (fun _ _ => rfl) hle hv⟩
      rw [Array.getElem?_append_left (Array.getElem?_eq_some_iff.1 hy).1]; exact hy)
  refine ⟨_, _, _, hrun, ?_, hnew⟩
  rw [List.length_append]
  refine .ms _ _ _ _ _ _ _ (Nat.le_refl _) hge ?_
  rw [upd_same]
  exact ⟨by omega, .inr (by simp)⟩

/-- Nothing is there, nothing is added. -/
theorem none_ok (hG : Stab G) (hr : FRc G st a w A φ) (hs : st.H[s]? = some .free) {t t' ty e : TypeId} {i : TypeInfo} {zv v : Value} {ub : Option Addr} {sz : Nat} {vs : Array Value}
    (ht : P.underlying t = some (.slice e)) (hi : P.info? e = some i) (hzv : i.zero = some zv) (hisz : i.size = sz) (hsz : 0 < sz) (hvs : RR A w φ sz [] vs)
    (ha : Added P t' i zv 0 v vs w)
    {o : Option Nat} (ho : ∀ b, o = some b → b < st.H.length ∧ b ≠ s) :
    ∃ r w' φ', (Builtin.append_ #[t, t'] ty #[.slice ub 0 0, v]).run P w = .ok r w' ∧ V A w' φ' (.ms s 0 0 0) r ∧
      FRc G { st with H := (DL.killO st.H o).set s (.live sz []) } a w' A φ' := by
  obtain ⟨φ1, hk, hle⟩ := hr.killO hG (o := o) fun b hb => (ho b hb).1
  have hfree : (DL.killO st.H o)[s]? = some .free := killO_free st.H hs fun b hb => (ho b hb).2
  have hv0 := hvs.nil
  subst hv0
  refine ⟨.slice ub 0 0, w, _, ?_, ?_, hk.phantom hG (s := s) hfree sz⟩
  · rw [app_fit (P := P) (w := w) (ty := ty) (ucap := 0) (n := 0) (m := 0) ht hi hzv ha (Nat.le_refl _) (by omega) (by omega) (by simp)]
    cases ub <;> simp [storeCells]
  · refine .ms _ _ _ _ _ _ _ (Nat.le_refl _) (Nat.le_refl _) ?_
    rw [upd_same]; rfl

/-- It fits. -/
theorem fit_ok (hG : Stab G) (hr : FRc G st a w A φ) (hs : st.H[s]? = some .free) {t t' ty e : TypeId} {i : TypeInfo} {zv v : Value} {ucap sz : Nat} {vs : Array Value} {es fs xs : List (List D)}
    (ht : P.underlying t = some (.slice e)) (hi : P.info? e = some i) (hzv : i.zero = some zv) (hisz : i.size = sz) (hsz : 0 < sz)
    (hvs : RR A w φ sz xs vs) (hone : ∀ y ∈ vs.toList, y.oneCell' = true)
    (ha : Added P t' i zv xs.length v vs w) (h63 : es.length + xs.length ≤ 9223372036854775807) (hby : (es.length + xs.length) * i.bytes ≤ 140737488355328)
    {b off n base room : Nat} {c : Array Value} {tyc : TypeId} (hp : φ b = .loc n base sz room) (hlive : LiveAt A w φ n base room sz c tyc fs)
    (hget : ∀ (i : Nat) (e : List D), es[i]? = some e → fs[off + i]? = some e) (h4 : off + ucap ≤ room) (hroom : es.length + xs.length ≤ ucap) :
    ∃ r w' φ', (Builtin.append_ #[t, t'] ty #[.slice (some ⟨n, base + off * sz, none⟩) es.length ucap, v]).run P w = .ok r w' ∧ V A w' φ' (.ms s 0 (es ++ xs).length (es ++ xs).length) r ∧
      FRc G { st with H := (DL.killO st.H (some b)).set s (.live sz (es ++ xs)) } a w' A φ' := by
  have hm1 : off * sz + es.length * sz + xs.length * sz ≤ room * sz := by
    rw [← Nat.add_mul, ← Nat.add_mul]; exact Nat.mul_le_mul_right _ (by omega)
  have hcs := hlive.size
  have hvz := hvs.size
  obtain ⟨w', c', k1, k2, k3⟩ := run_storeCells (P := P) (n := n) (ty := tyc) vs.toList w c (base + off * sz + es.length * sz) 0 hlive.blk
    (by simp only [Array.length_toList]; omega) hone
  have l1 : ∀ (i : Nat) (e : List D), es[i]? = some e → e.length = sz := fun i e he => hlive.len _ _ (hget i e he)
  refine ⟨.slice (some ⟨n, base + off * sz, none⟩) (es.length + xs.length) ucap, w', _, ?_, ?_, hr.renew hG hp hs k2 (base + off * sz) ucap (es ++ xs) (by simpa using hroom) ?_ ?_ ?_⟩
  · rw [app_fit (P := P) (w := w) (ty := ty) ht hi hzv ha hroom (by omega) h63 hby]
    simp only [add_none, hisz, k1, Result.andThen]
  · rw [List.length_append]
    refine .ms _ _ _ _ _ _ _ (Nat.le_refl _) hroom ?_
    rw [upd_same]
    exact ⟨by omega, .inr (by simp)⟩
  · rw [k3.size]
    have : off * sz + ucap * sz ≤ room * sz := by rw [← Nat.add_mul]; exact Nat.mul_le_mul_right _ h4
    omega
  · intro i e he
    rw [List.getElem?_append] at he
    split at he
    · exact l1 i e he
    · exact hvs.len _ e he
  · intro i e j d he hd
    rw [List.getElem?_append] at he
    split at he
    · rename_i hi'
      obtain ⟨y, hy, hv⟩ := hlive.val _ _ _ _ (hget i e he) hd
      refine ⟨y, ?_, hv⟩
      have hj : j < sz := by rw [← l1 i e he]; exact (List.getElem?_eq_some_iff.1 hd).1
      have hm2 : i * sz + sz ≤ es.length * sz := by rw [← Nat.succ_mul]; exact Nat.mul_le_mul_right _ hi'
      rw [k3.old _ (by omega), ← hy, Nat.add_mul]
      congr 1; omega
    · rename_i hi'
      obtain ⟨y, hy, hv⟩ := hvs.val _ e j d he hd
      refine ⟨y, ?_, hv⟩
      have hm3 : (i - es.length) * sz + es.length * sz = i * sz := by rw [← Nat.add_mul]; congr 1; omega
      have hlt : (i - es.length) * sz + j < vs.toList.length := by simpa using (Array.getElem?_eq_some_iff.1 hy).1
      have := k3.new _ hlt
      rw [show base + off * sz + es.length * sz + 0 + ((i - es.length) * sz + j) = base + off * sz + i * sz + j by omega] at this
      rw [this]; simpa using hy

theorem run_appendD (hG : Stab G) (hr : FRc G st a w A φ) (hs : st.H[s]? = some .free) (hsub : Sub Hm st.H) {t t' ty : TypeId} {x y : D} {u v : Value} (hx : V A w φ x u) (hy : V A w φ y v)
    {o : Option Nat} {sz : Nat} {es : List (List D)} (h : appendD P Hm t t' x y = some (o, sz, es)) :
    ∃ r w' φ', (Builtin.append_ #[t, t'] ty #[u, v]).run P w = .ok r w' ∧ V A w' φ' (.ms s 0 es.length es.length) r ∧
      FRc G { st with H := (DL.killO st.H o).set s (.live sz es) } a w' A φ' := by
  unfold appendD at h
  split at h
  · rename_i e sz' es0 he hes
    obtain ⟨ht, hts⟩ := elemT_ok he
    split at h
    · rename_i xs hxs
      split at h
      rotate_left
      · cases h
      rename_i hc
      obtain ⟨c1, c2, c3, c4, c5, c6, c7⟩ := hc
      obtain ⟨z, hz, hzl⟩ : ∃ z, zeroD P e = some z ∧ z.length = sz' := by
        cases hz : zeroD P e with
        | none => rw [hz] at c2; cases c2
        | some z => rw [hz] at c2; simp at c2; exact ⟨z, rfl, c2⟩
      simp only [zeroD, Option.map_eq_some_iff, Option.bind_eq_some_iff] at hz
      obtain ⟨zv, ⟨i, hi, hzv⟩, rfl⟩ := hz
      have hisz : i.size = sz' := by simp only [tsz, hi, Option.map_some, Option.some.injEq] at hts; exact hts
      have hby : P.bytesOf e = i.bytes := by simp [Program.bytesOf, hi]
      have hzs : zv.cells.size = sz' := by simpa using hzl
      rw [hby] at c6
      have l1 : ∀ (i : Nat) (e : List D), es0[i]? = some e → e.length = sz' := fun i e he => by
        rw [List.all_eq_true] at c3; simpa using c3 e (List.mem_of_getElem? he)
      have l2 : ∀ (i : Nat) (e : List D), xs[i]? = some e → e.length = sz' := fun i e he => by
        rw [List.all_eq_true] at c4; simpa using c4 e (List.mem_of_getElem? he)
      obtain ⟨ub, ucap, us, hu, hus, hul⟩ := elems_ok (P := P) hr.rh hsub hx hes l1
      obtain ⟨vs, hvs, ha⟩ : ∃ vs, RR A w φ sz' xs vs ∧ Added P t' i zv xs.length v vs w := by
        unfold addedD at hxs
        split at hxs
        · rename_i hu'
          obtain ⟨vb, vcap, vs, hv, hvs, hvl⟩ := elems_ok (P := P) hr.rh hsub hy hxs l2
          exact ⟨vs, hvs, .sl hu' hv (by rw [hisz]; exact hvl)⟩
        · rename_i hu'
          split at hxs
          · rename_i m
            split at hxs
            · rename_i hm
              simp only [zeroD, hi, hzv, Option.bind_some, Option.map_some, Option.some.injEq] at hxs
              subst hxs
              have hzr := zero_rows (A := A) (w := w) (φ := φ) (z := zv.cells.toList.map ofV) (x := zv) (by simp) (fun j d hd => by
                simp only [List.getElem?_map, Option.map_eq_some_iff] at hd
                obtain ⟨y, hy, rfl⟩ := hd
                exact ⟨y, by simpa using hy, .ofV y⟩) m.toNat
              refine ⟨_, by simpa [hzs] using hzr, .mk hu' (by rw [hy.v_inv]; simp; omega) ?_⟩
              simp [Builtin.zeroCells, hzs]
            · cases hxs
          · cases hxs
        · cases hxs
      have hone := hvs.one c1 c5
      clear c3 c4 c5
      split at h
      · simp only [Option.some.injEq, Prod.mk.injEq] at h
        obtain ⟨rfl, rfl, rfl⟩ := h
        have he0 : es0 = [] := by simpa [elemsD] using hes.symm
        subst he0
        have hu0 : ucap = 0 := by
          cases hx with
          | nil _ a => simp only [Value.slice.injEq] at hu; exact hu.2.2.symm
        subst hu0
        subst hu
        rcases Nat.eq_zero_or_pos xs.length with hz | hz
        · have hx0 : xs = [] := List.eq_nil_of_length_eq_zero hz
          subst hx0
          exact none_ok hG hr hs ht hi hzv hisz c1 hvs ha (o := none) fun b hb => by cases hb
        · exact grow_ok hG hr hs ht hi hzv hisz hzs c1 hus hvs hul ha c6 c7 (o := none) (fun b hb => by cases hb) (by simpa using hz)
      · rename_i b off len cap
        split at h
        · rename_i hsz
          simp only [Option.some.injEq, Prod.mk.injEq] at h
          obtain ⟨rfl, rfl, rfl⟩ := h
          obtain ⟨fs, hbm⟩ : ∃ fs, Hm[b]? = some (.live sz' fs) := by
            unfold Blk.hasSz at hsz
            split at hsz
            · rename_i sz0 fs hb; simp only [beq_iff_eq] at hsz; subst hsz; exact ⟨fs, hb⟩
            · cases hsz
          have hbH := hsub _ _ _ hbm
          have hbl : b < st.H.length := (List.getElem?_eq_some_iff.1 hbH).1
          have hbs : b ≠ s := fun e => by subst e; rw [hbH] at hs; cases hs
          have ho : ∀ b', some b = some b' → b' < st.H.length ∧ b' ≠ s := fun b' hb' => by cases hb'; exact ⟨hbl, hbs⟩
          simp only [elemsD, hbm] at hes
          split at hes
          · have hes' : (fs.take (off + len)).drop off = es0 := by simpa using hes
            have hget : ∀ (i : Nat) (e : List D), es0[i]? = some e → fs[off + i]? = some e := fun i e he => by
              rw [← hes', List.getElem?_drop, List.getElem?_take] at he
              split at he
              · exact he
              · cases he
            have h3 : (φ b).msOk off ucap ub := by
              cases hx with
              | ms _ _ _ _ _ cap' a' h1 h2 h3 =>
                simp only [Value.slice.injEq] at hu
                obtain ⟨rfl, _, rfl⟩ := hu
                exact h3
            subst hu
            rcases Nat.lt_or_ge ucap (es0.length + xs.length) with hg | hroom
            · exact grow_ok hG hr hs ht hi hzv hisz hzs c1 hus hvs hul ha c6 c7 ho hg
            · rcases Nat.eq_zero_or_pos ucap with hz | hz
              · have hx0 : xs = [] := List.eq_nil_of_length_eq_zero (by omega)
                have he0 : es0 = [] := List.eq_nil_of_length_eq_zero (by omega)
                subst hx0; subst he0; subst hz
                exact none_ok hG hr hs ht hi hzv hisz c1 hvs ha ho
              · rcases hr.rh.live b sz' fs hbH with ⟨rfl, hp⟩ | ⟨n, base, room, c, tyc, hp, hlive⟩
                · rw [hp] at h3; exact absurd (show ucap = 0 from h3) (by omega)
                · rw [hp] at h3
                  obtain ⟨h4, h5⟩ := h3
                  have hub : ub = some ⟨n, base + off * sz', none⟩ := h5.resolve_left (by omega)
                  subst hub
                  exact fit_ok hG hr hs ht hi hzv hisz c1 hvs hone ha c7 c6 hp hlive hget h4 hroom
          · cases hes
        · cases h
      · cases h
    · cases h
  · cases h
end
end
end
end Go.DL
