/- Append over abstract values: the old block is given up, a new one holds the old elements and the new ones. -/
import Derived.Test.YtmbbepdbjeciaaaGreatE2
import Derived.Laws.AppendOwn
set_option linter.all false
namespace Go.DL
open Go.RowKit

noncomputable section

section
variable {A : Rd} {w : World} {φ : Nat → Loc} {P : Program} {H Hm : List Blk}

theorem cell_heap {w W : World} (h : W.heap = w.heap) (a : Addr) : W.cell? a = w.cell? a := by simp [World.cell?, h]

theorem cells_ok {n off s : Nat} {es : List (List D)} (hlen : ∀ (i : Nat) (e : List D), es[i]? = some e → e.length = s)
    (hc : ∀ (i : Nat) (e : List D) (j : Nat) (d : D), es[i]? = some e → e[j]? = some d → ∃ y, w.cell? ⟨n, off + i * s + j, none⟩ = some y ∧ V A w φ d y) :
    ∃ vs, RR A w φ s es vs ∧ ∀ W : World, W.heap = w.heap → (loadCells ⟨n, off, none⟩ (es.length * s)).run P W = .ok vs W := by
  refine ⟨((List.range (es.length * s)).map fun k => (w.cell? ⟨n, off + k, none⟩).getD default).toArray, ⟨by simp, hlen, fun i e j d he hd => ?_⟩, fun W hW => ?_⟩
  · obtain ⟨y, hy, hv⟩ := hc i e j d he hd
    refine ⟨y, ?_, hv⟩
    have hi : i < es.length := (List.getElem?_eq_some_iff.1 he).1
    have hj : j < s := by rw [← hlen i e he]; exact (List.getElem?_eq_some_iff.1 hd).1
    have hlt : i * s + j < es.length * s := by
      have : i * s + s ≤ es.length * s := by rw [← Nat.succ_mul]; exact Nat.mul_le_mul_right _ hi
      omega
    simp only [List.getElem?_toArray, List.getElem?_map, List.getElem?_range hlt, Option.map_some]
    rw [← Nat.add_assoc, hy]; rfl
  · refine run_loadCells W ⟨n, off, none⟩ (es.length * s) _ fun k hk => ?_
    rw [add_none, cell_heap hW]
    have hs : 0 < s := by
      rcases Nat.eq_zero_or_pos s with h | h
      · subst h; simp at hk
      · exact h
    have hi : k / s < es.length := by rw [Nat.div_lt_iff_lt_mul hs]; exact hk
    have hj : k % s < s := Nat.mod_lt _ hs
    have he := List.getElem?_eq_getElem hi
    have hj' : k % s < (es[k / s]).length := by rw [hlen _ _ he]; exact hj
    obtain ⟨y, hy, _⟩ := hc (k / s) _ (k % s) _ he (List.getElem?_eq_getElem hj')
    rw [Nat.add_assoc, Nat.mul_comm, Nat.div_add_mod] at hy
    rw [hy]; rfl

theorem elems_ok (hr : RH A φ w H) (hsub : Sub Hm H) {d : D} {u : Value} {es : List (List D)} {s : Nat} (h : V A w φ d u) (he : elemsD Hm d = some es)
    (hlen : ∀ (i : Nat) (e : List D), es[i]? = some e → e.length = s) :
    ∃ a cap vs, u = .slice a es.length cap ∧ RR A w φ s es vs ∧ ∀ W : World, W.heap = w.heap → (Builtin.firstCells s es.length u).run P W = .ok vs W := by
  have empty : ∀ {a : Option Addr} {cap : Nat}, es = [] → u = .slice a 0 cap → ∃ a cap vs, u = .slice a es.length cap ∧ RR A w φ s es vs ∧
      ∀ W : World, W.heap = w.heap → (Builtin.firstCells s es.length u).run P W = .ok vs W := fun {a cap} h1 h2 => by
    subst h1; subst h2
    refine ⟨a, cap, #[], rfl, ⟨by simp, by simp, by simp⟩, fun W _ => ?_⟩
    cases a with
    | none => simp [Builtin.firstCells]
    | some a => simp [Builtin.firstCells, loadCells, loadCellsFrom]
  have hfl : ∀ {fs : List (List D)}, d = .fl fs → V A w φ (.sl fs) u := fun {fs} e => by subst e; exact h.of_fl
  have hsl : ∀ {fs : List (List D)}, fs.map (List.map lowD) = es → V A w φ (.sl fs) u → ∃ a cap vs, u = .slice a es.length cap ∧ RR A w φ s es vs ∧
      ∀ W : World, W.heap = w.heap → (Builtin.firstCells s es.length u).run P W = .ok vs W := fun {fs} e h => by
    cases h with
    | sl0 _ a cap => exact empty (by simpa using e.symm) rfl
    | sl _ fs n off sz cap v ha hcap hsz hc hh =>
      have hlf : es.length = fs.length := by rw [← e]; simp
      rcases Nat.eq_zero_or_pos fs.length with hz | hz
      · have hn : fs = [] := List.eq_nil_of_length_eq_zero hz
        exact empty (by subst hn; simpa using e.symm) (by rw [hn]; rfl)
      · have hsz' : sz = s := by
          have h0 := List.getElem?_eq_getElem hz
          have h1 : es[0]? = some (fs[0].map lowD) := by rw [← e]; simp [hz]
          have := hlen 0 _ h1
          rw [← hsz 0 _ h0, ← this]; simp
        subst hsz'
        obtain ⟨vs, h1, h2⟩ := cells_ok (P := P) (A := A) (w := w) (φ := φ) (n := n) (off := off) hlen fun i e' j d he hd => by
          rw [← e] at he
          simp only [List.getElem?_map, Option.map_eq_some_iff] at he
          obtain ⟨e0, he, rfl⟩ := he
          simp only [List.getElem?_map, Option.map_eq_some_iff] at hd
          obtain ⟨d0, hd, rfl⟩ := hd
          exact ⟨_, hc i e0 j d0 he hd, (hh i e0 j d0 he hd).low⟩
        rw [hlf] at h2 ⊢
        exact ⟨_, _, vs, rfl, h1, h2⟩
  unfold elemsD at he
  split at he
  · cases he; exact hsl rfl h
  · cases he; exact hsl rfl (hfl rfl)
  · cases he
    cases h with
    | nil _ a => exact empty rfl rfl
  · rename_i b off len cap0
    split at he
    · rename_i sz fs hb
      split at he
      · rename_i hol
        cases he
        have hl : ((fs.take (off + len)).drop off).length = len := by simp; omega
        cases h with
        | ms _ _ _ _ _ cap' a h1 h2 h3 =>
          rcases hr.live b sz fs (hsub _ _ _ hb) with ⟨rfl, hp⟩ | ⟨n, base, room, c, ty, hp, hlive⟩
          · simp at hol; obtain ⟨rfl, rfl⟩ := hol
            exact empty (by simp) rfl
          · rw [hp] at h3
            obtain ⟨h4, h5⟩ := h3
            rcases Nat.eq_zero_or_pos len with hz | hz
            · subst hz
              exact empty (List.eq_nil_of_length_eq_zero hl) rfl
            · have ha : a = some ⟨n, base + off * sz, none⟩ := h5.resolve_left (by omega)
              subst ha
              have hget : ∀ (i : Nat) (e : List D), ((fs.take (off + len)).drop off)[i]? = some e → fs[off + i]? = some e := fun i e he => by
                rw [List.getElem?_drop, List.getElem?_take] at he
                split at he
                · exact he
                · cases he
              have hsz' : sz = s := by
                have h0 : 0 < ((fs.take (off + len)).drop off).length := by omega
                have h6 := List.getElem?_eq_getElem h0
                rw [← hlive.len _ _ (hget 0 _ h6), hlen 0 _ h6]
              subst hsz'
              obtain ⟨vs, k1, k2⟩ := cells_ok (P := P) (A := A) (φ := φ) (w := w) (n := n) (off := base + off * sz) hlen fun i e j d he hd => by
                obtain ⟨y, hy, hv⟩ := hlive.val _ _ _ _ (hget i e he) hd
                refine ⟨y, ?_, hv⟩
                rw [cell_of_blk hlive.blk, show base + off * sz + i * sz + j = base + (off + i) * sz + j by rw [Nat.add_mul]; omega]
                exact hy
              rw [hl] at k2 ⊢
              exact ⟨_, _, vs, rfl, k1, k2⟩
      · cases he
    · cases he
  · cases he

/-! ### the model's append -/
theorem zeroCells_zero (z : Array Value) : Builtin.zeroCells z 0 = #[] := by simp [Builtin.zeroCells]
theorem wrap0 : IntKind.i64.wrap 0 = 0 := by decide

/-- What an append is given: a slice, or a number of zeros. -/
inductive Added (P : Program) (t' : TypeId) (i : TypeInfo) (zv : Value) (m : Nat) (v : Value) (vs : Array Value) (w : World) : Prop
  | sl {e' : TypeId} {vb : Option Addr} {vcap : Nat} (hu : P.underlying t' = some (.slice e')) (hv : v = .slice vb m vcap) (h : ∀ W : World, W.heap = w.heap → (Builtin.firstCells i.size m v).run P W = .ok vs W)
  | mk {k : IntKind} (hu : P.underlying t' = some (.int k)) (hv : v = .int .i64 m) (h : vs = Builtin.zeroCells zv.cells m)

section
variable {t t' ty e : TypeId} {i : TypeInfo} {zv v : Value} {ub : Option Addr} {n m ucap : Nat} {us vs : Array Value}
  (ht : P.underlying t = some (.slice e)) (hi : P.info? e = some i) (hzv : i.zero = some zv) (ha : Added P t' i zv m v vs w)

theorem app_fit (ht : P.underlying t = some (.slice e)) (hi : P.info? e = some i) (hzv : i.zero = some zv) (ha : Added P t' i zv m v vs w) (hroom : n + m ≤ ucap) (hs : 0 < i.size) (h63 : n + m ≤ 9223372036854775807) (hby : (n + m) * i.bytes ≤ 140737488355328) :
    (Builtin.append_ #[t, t'] ty #[.slice ub n ucap, v]).run P w =
      match ub with
      | some a => ((storeCells (a.add (n * i.size)) vs.toList).run P w).andThen fun _ w' => .ok (.slice ub (n + m) ucap) w'
      | none => .ok (.slice ub (n + m) ucap) w := by
  cases ha with
  | sl hu hv h =>
    subst hv
    have hvl := h w rfl
    cases ub <;> simp [Builtin.append_, run_underlying ht, run_underlying hu, sizeOf, typeInfo, hi, Builtin.lenOf, hroom, hvl]
  | mk hu hv h =>
    subst hv; subst h
    have h1 : IntKind.i64.wrap (m : Int) = m := by rw [IntKind.wrap_i64]; omega
    have h2 : ¬ ((m : Int) < 0) := by omega
    have h3 : ¬ ((281474976710656 : Int) < (m : Int) * (i.bytes : Int)) := by
      have : m * i.bytes ≤ (n + m) * i.bytes := Nat.mul_le_mul_right _ (by omega)
      have h4 : (m : Int) * (i.bytes : Int) = ((m * i.bytes : Nat) : Int) := by simp
      rw [h4]; omega
    rcases Nat.eq_zero_or_pos m with rfl | hm
    · have hroom' : n ≤ ucap := hroom
      cases ub <;> simp [Builtin.append_, run_underlying ht, run_underlying hu, sizeOf, typeInfo, hi, asInt, asIntOf, wrap0, h1, hroom', zeroValue, hzv, zeroCells_zero]
    · have h5 : ¬ (m * i.size = 0) := Nat.ne_of_gt (Nat.mul_pos hm hs)
      cases ub <;> simp [Builtin.append_, run_underlying ht, run_underlying hu, sizeOf, typeInfo, hi, asInt, asIntOf, wrap0, h1, h2, h3, h5, hroom, zeroValue, hzv]

theorem app_grow (ht : P.underlying t = some (.slice e)) (hi : P.info? e = some i) (hzv : i.zero = some zv) (ha : Added P t' i zv m v vs w) (hg : ucap < n + m) (hs : 0 < i.size) (h63 : n + m ≤ 9223372036854775807) (hby : (n + m) * i.bytes ≤ 140737488355328)
    (hul : (Builtin.firstCells i.size n (.slice ub n ucap)).run P w.drew = .ok us w.drew) :
    (Builtin.append_ #[t, t'] ty #[.slice ub n ucap, v]).run P w =
      .ok (.slice (some ⟨w.heap.size, 0, none⟩) (n + m) (grownCap w (n + m) ucap e))
        (w.drew.alloc (.cells (us ++ vs ++ Builtin.zeroCells zv.cells (grownCap w (n + m) ucap e - (n + m))) e)) := by
  have hn : ¬ (n + m ≤ ucap) := by omega
  have h63' : ¬ (9223372036854775807 < ((n : Int) + (m : Int))) := by omega
  have hfit := growslice_fits hg hby
  have h48' : ¬ (281474976710656 < Builtin.nextslicecap (n + m) ucap * i.bytes) := by omega
  cases ha with
  | sl hu hv h =>
    subst hv
    have hvl := h w.drew rfl
    simp [Builtin.append_, run_underlying ht, run_underlying hu, sizeOf, typeInfo, zeroValue, hi, hzv, Builtin.lenOf, hn, h63', h48', Question.forced, hvl, hul, newRow, grownCap]
  | mk hu hv h =>
    subst hv; subst h
    have h1 : IntKind.i64.wrap (m : Int) = m := by rw [IntKind.wrap_i64]; omega
    have h2 : ¬ ((m : Int) < 0) := by omega
    have h3 : ¬ ((281474976710656 : Int) < (m : Int) * (i.bytes : Int)) := by
      have : m * i.bytes ≤ (n + m) * i.bytes := Nat.mul_le_mul_right _ (by omega)
      have h4 : (m : Int) * (i.bytes : Int) = ((m * i.bytes : Nat) : Int) := by simp
      rw [h4]; omega
    rcases Nat.eq_zero_or_pos m with rfl | hm
    · simp only [Nat.add_zero] at *
      have h6 : ¬ (9223372036854775807 < (n : Int)) := by omega
      simp [Builtin.append_, run_underlying ht, run_underlying hu, sizeOf, typeInfo, zeroValue, hi, hzv, asInt, asIntOf, wrap0, h1, h6, hn, h63', h48', Question.forced, hul, newRow, grownCap, zeroCells_zero]
    · have h5 : ¬ (m * i.size = 0) := Nat.ne_of_gt (Nat.mul_pos hm hs)
      simp [Builtin.append_, run_underlying ht, run_underlying hu, sizeOf, typeInfo, zeroValue, hi, hzv, asInt, asIntOf, wrap0, h1, h2, h3, h5, hn, h63', h48', Question.forced, hul, newRow, grownCap]
end

theorem RR.append {sz : Nat} {es xs : List (List D)} {us vs : Array Value} (h : RR A w φ sz es us) (k : RR A w φ sz xs vs) : RR A w φ sz (es ++ xs) (us ++ vs) := by
  refine ⟨by simp [h.size, k.size, Nat.add_mul], fun i e he => ?_, fun i e j d he hd => ?_⟩
  · rw [List.getElem?_append] at he
    split at he
    · exact h.len i e he
    · exact k.len _ e he
  · rw [List.getElem?_append] at he
    split at he
    · rename_i hi
      obtain ⟨y, hy, hv⟩ := h.val i e j d he hd
      have hj : j < sz := by rw [← h.len i e he]; exact (List.getElem?_eq_some_iff.1 hd).1
      have : i * sz + j < us.size := (Array.getElem?_eq_some_iff.1 hy).1
      exact ⟨y, by rw [Array.getElem?_append_left this]; exact hy, hv⟩
    · rename_i hi
      obtain ⟨y, hy, hv⟩ := k.val _ e j d he hd
      refine ⟨y, ?_, hv⟩
      have hmul : (i - es.length) * sz + es.length * sz = i * sz := by rw [← Nat.add_mul]; congr 1; omega
      rw [Array.getElem?_append_right (by rw [h.size]; omega), h.size, ← hy]
      congr 1; omega

theorem RR.one {sz : Nat} {xs : List (List D)} {vs : Array Value} (h : RR A w φ sz xs vs) (hsz : 0 < sz) (hc : xs.all (fun e => e.all isCell) = true) : ∀ y ∈ vs.toList, y.oneCell' = true := fun y hy => by
  obtain ⟨k, hk, rfl⟩ := List.mem_iff_getElem.1 hy
  simp only [Array.length_toList, h.size] at hk
  have hi : k / sz < xs.length := by rw [Nat.div_lt_iff_lt_mul hsz]; exact hk
  have hg := List.getElem?_eq_getElem hi
  have hj : k % sz < (xs[k / sz]).length := by rw [h.len _ _ hg]; exact Nat.mod_lt _ hsz
  have hd := List.getElem?_eq_getElem hj
  obtain ⟨y, hy1, hy2⟩ := h.val _ _ _ _ hg hd
  rw [Nat.mul_comm, Nat.div_add_mod] at hy1
  rw [List.all_eq_true] at hc
  have hcell := hc _ (List.getElem_mem hi)
  rw [List.all_eq_true] at hcell
  have := hy2.isCell (hcell _ (List.getElem_mem hj))
  have hk' : k < vs.size := by rw [h.size]; exact hk
  rw [Array.getElem?_eq_getElem hk', Option.some.injEq] at hy1
  simpa [hy1] using this

theorem RR.nil {sz : Nat} {vs : Array Value} (h : RR A w φ sz [] vs) : vs = #[] := by
  apply Array.eq_empty_of_size_eq_zero; rw [h.size]; simp

/-- What is appended: the elements of a slice, or a number of zeros. -/
def addedD (P : Program) (H : List Blk) (e t' : TypeId) (x : D) : Option (List (List D)) :=
  match P.underlying t' with
  | some (.slice _) => elemsD H x
  | some (.int _) => match x with
    | .v (.int .i64 m) => if 0 ≤ m then (zeroD P e).map fun z => List.replicate m.toNat z else none
    | _ => none
  | _ => none

/-- The old block to be given up, the size, and what the result holds. -/
def appendD (P : Program) (H : List Blk) (t t' : TypeId) (s x : D) : Option (Option Nat × Nat × List (List D)) :=
  match elemT P t, elemsD H s with
  | some (e, sz), some es =>
    match addedD P H e t' x with
    | some xs =>
      if 0 < sz ∧ (zeroD P e).map List.length = some sz ∧ es.all (fun e => e.length == sz) = true ∧ xs.all (fun e => e.length == sz) = true ∧ xs.all (fun e => e.all isCell) = true ∧
        (es.length + xs.length) * P.bytesOf e ≤ 140737488355328 ∧ es.length + xs.length ≤ 9223372036854775807 then
        match s with
        | .nil => some (none, sz, xs)
        | .ms b _ _ _ => if Blk.hasSz sz H[b]? = true then some (some b, sz, es ++ xs) else none
        | _ => none
      else none
    | none => none
  | _, _ => none

def killO (H : List Blk) : Option Nat → List Blk
  | some b => H.set b .dead
  | none => H

theorem killO_free (H : List Blk) {s : Nat} {o : Option Nat} (hs : H[s]? = some .free) (ho : ∀ b, o = some b → b ≠ s) : (DL.killO H o)[s]? = some .free := by
  cases o with
  | none => exact hs
  | some b => rw [DL.killO, List.getElem?_set, if_neg (ho b rfl)]; exact hs


section
variable {G : Gh} (hG : Stab G) {st : St} {a : Act} {s : Nat}
/-- An own block without memory. -/
theorem FRc.phantom (hG : Stab G) (h : FRc G st a w A φ) (hs : st.H[s]? = some .free) (sz : Nat) : FRc G { st with H := st.H.set s (.live sz []) } a w A (upd φ s .ph) := by
  have hlt : s < st.H.length := (List.getElem?_eq_some_iff.1 hs).1
  have hf : φ s = .free := h.rh.free s hs
  exact h.step hG (h.rh.lay hlt (l := .ph) (.inl hf) (fun _ _ => rfl) (fun _ x => x) (fun _ x => .inl x) (fun _ _ _ _ _ _ _ => rfl) (Nat.le_refl _)
      ⟨by simp, by simp, fun sz' es' e => by cases e; exact .inl ⟨rfl, rfl⟩⟩ (fun _ _ e => by cases e) (fun _ _ _ _ e => by cases e))
    ⟨rfl, rfl, rfl, Nat.le_refl _, fun _ _ _ => rfl, fun n hn => by
      rcases own_upd hn with ⟨_, _, _, e⟩ | ⟨b, _, _, _, _, e⟩
      · cases e
      · exact .inl ⟨b, _, _, _, e⟩⟩ (fun _ x => x) (fun _ x => .inl x) (upd_le (.inl hf))

theorem FRc.killO (hG : Stab G) (h : FRc G st a w A φ) {o : Option Nat} (ho : ∀ b, o = some b → b < st.H.length) :
    ∃ φ', FRc G { st with H := DL.killO st.H o } a w A φ' ∧ ∀ b, (φ b).le (φ' b) := by
  cases o with
  | none => exact ⟨φ, h, fun _ => Loc.le_refl _⟩
  | some b => exact ⟨_, h.kill hG (ho b rfl), upd_le (.inr (.inl rfl))⟩

/-- It grows. -/
theorem grow_ok (hG : Stab G) (hr : FRc G st a w A φ) (hs : st.H[s]? = some .free) {t t' ty e : TypeId} {i : TypeInfo} {zv v : Value} {ub : Option Addr} {ucap sz : Nat} {us vs : Array Value} {es xs : List (List D)}
    (ht : P.underlying t = some (.slice e)) (hi : P.info? e = some i) (hzv : i.zero = some zv) (hisz : i.size = sz) (hzs : zv.cells.size = sz) (hsz : 0 < sz)
    (hus : RR A w φ sz es us) (hvs : RR A w φ sz xs vs)
    (hul : ∀ W : World, W.heap = w.heap → (Builtin.firstCells sz es.length (.slice ub es.length ucap)).run P W = .ok us W)
    (ha : Added P t' i zv xs.length v vs w)
    (hby : (es.length + xs.length) * i.bytes ≤ 140737488355328) (h63 : es.length + xs.length ≤ 9223372036854775807)
    {o : Option Nat} (ho : ∀ b, o = some b → b < st.H.length ∧ b ≠ s) (hg : ucap < es.length + xs.length) :
    ∃ r w' φ', (Builtin.append_ #[t, t'] ty #[.slice ub es.length ucap, v]).run P w = .ok r w' ∧ V A w' φ' (.ms s 0 (es ++ xs).length (es ++ xs).length) r ∧
      FRc G { st with H := (DL.killO st.H o).set s (.live sz (es ++ xs)) } a w' A φ' := by
  have hge := grownCap_ge w (es.length + xs.length) ucap e
  obtain ⟨φ1, hk, hle⟩ := hr.killO hG (o := o) fun b hb => (ho b hb).1
  have hk' := hk.drew hG
  have hfree : (DL.killO st.H o)[s]? = some .free := killO_free st.H hs fun b hb => (ho b hb).2
  have hrr := hus.append hvs
  have hfo := hul w.drew rfl
  rw [← hisz] at hfo
  have hrun := app_grow (P := P) (w := w) (ty := ty) ht hi hzv ha hg (by omega) h63 hby hfo
  have hnew := hk'.newR hG (s := s) hfree (us ++ vs ++ Builtin.zeroCells zv.cells (grownCap w (es.length + xs.length) ucap e - (es.length + xs.length))) e sz (es ++ xs)
    (grownCap w (es.length + xs.length) ucap e) (by simpa using hge)
    (by
      rw [Array.size_append, hrr.size, size_zeroCells, hzs, ← Nat.add_mul]
      refine Nat.mul_le_mul_right _ ?_
      rw [List.length_append]; omega) hrr.len (fun i e j d he hd => by
      obtain ⟨y, hy, hv⟩ := hrr.val i e j d he hd
      refine ⟨y, ?_, V.mono (w := w) (fun _ x => x) (fun _ _ => rfl) hle hv⟩
      rw [Array.getElem?_append_left (Array.getElem?_eq_some_iff.1 hy).1]; exact hy)
  refine ⟨_, _, _, hrun, ?_, hnew⟩
  rw [List.length_append]
  refine .ms _ _ _ _ _ _ _ (Nat.le_refl _) hge ?_
  rw [upd_same]
  exact ⟨by omega, .inr (by simp)⟩

/-- Nothing is there, nothing is added. -/
theorem none_ok (hG : Stab G) (hr : FRc G st a w A φ) (hs : st.H[s]? = some .free) {t t' ty e : TypeId} {i : TypeInfo} {zv v : Value} {ub : Option Addr} {sz : Nat} {vs : Array Value}
    (ht : P.underlying t = some (.slice e)) (hi : P.info? e = some i) (hzv : i.zero = some zv) (hisz : i.size = sz) (hsz : 0 < sz) (hvs : RR A w φ sz [] vs)
    (ha : Added P t' i zv 0 v vs w)
    {o : Option Nat} (ho : ∀ b, o = some b → b < st.H.length ∧ b ≠ s) :
    ∃ r w' φ', (Builtin.append_ #[t, t'] ty #[.slice ub 0 0, v]).run P w = .ok r w' ∧ V A w' φ' (.ms s 0 0 0) r ∧
      FRc G { st with H := (DL.killO st.H o).set s (.live sz []) } a w' A φ' := by
  obtain ⟨φ1, hk, hle⟩ := hr.killO hG (o := o) fun b hb => (ho b hb).1
  have hfree : (DL.killO st.H o)[s]? = some .free := killO_free st.H hs fun b hb => (ho b hb).2
  have hv0 := hvs.nil
  subst hv0
  refine ⟨.slice ub 0 0, w, _, ?_, ?_, hk.phantom hG (s := s) hfree sz⟩
  · rw [app_fit (P := P) (w := w) (ty := ty) (ucap := 0) (n := 0) (m := 0) ht hi hzv ha (Nat.le_refl _) (by omega) (by omega) (by simp)]
    cases ub <;> simp [storeCells]
  · refine .ms _ _ _ _ _ _ _ (Nat.le_refl _) (Nat.le_refl _) ?_
    rw [upd_same]; rfl

/-- It fits. -/
theorem fit_ok (hG : Stab G) (hr : FRc G st a w A φ) (hs : st.H[s]? = some .free) {t t' ty e : TypeId} {i : TypeInfo} {zv v : Value} {ucap sz : Nat} {vs : Array Value} {es fs xs : List (List D)}
    (ht : P.underlying t = some (.slice e)) (hi : P.info? e = some i) (hzv : i.zero = some zv) (hisz : i.size = sz) (hsz : 0 < sz)
    (hvs : RR A w φ sz xs vs) (hone : ∀ y ∈ vs.toList, y.oneCell' = true)
    (ha : Added P t' i zv xs.length v vs w) (h63 : es.length + xs.length ≤ 9223372036854775807) (hby : (es.length + xs.length) * i.bytes ≤ 140737488355328)
    {b off n base room : Nat} {c : Array Value} {tyc : TypeId} (hp : φ b = .loc n base sz room) (hlive : LiveAt A w φ n base room sz c tyc fs)
    (hget : ∀ (i : Nat) (e : List D), es[i]? = some e → fs[off + i]? = some e) (h4 : off + ucap ≤ room) (hroom : es.length + xs.length ≤ ucap) :
    ∃ r w' φ', (Builtin.append_ #[t, t'] ty #[.slice (some ⟨n, base + off * sz, none⟩) es.length ucap, v]).run P w = .ok r w' ∧ V A w' φ' (.ms s 0 (es ++ xs).length (es ++ xs).length) r ∧
      FRc G { st with H := (DL.killO st.H (some b)).set s (.live sz (es ++ xs)) } a w' A φ' := by
  have hm1 : off * sz + es.length * sz + xs.length * sz ≤ room * sz := by
    rw [← Nat.add_mul, ← Nat.add_mul]; exact Nat.mul_le_mul_right _ (by omega)
  have hcs := hlive.size
  have hvz := hvs.size
  obtain ⟨w', c', k1, k2, k3⟩ := run_storeCells (P := P) (n := n) (ty := tyc) vs.toList w c (base + off * sz + es.length * sz) 0 hlive.blk
    (by simp only [Array.length_toList]; omega) hone
  have l1 : ∀ (i : Nat) (e : List D), es[i]? = some e → e.length = sz := fun i e he => hlive.len _ _ (hget i e he)
  refine ⟨.slice (some ⟨n, base + off * sz, none⟩) (es.length + xs.length) ucap, w', _, ?_, ?_, hr.renew hG hp hs k2 (base + off * sz) ucap (es ++ xs) (by simpa using hroom) ?_ ?_ ?_⟩
  · rw [app_fit (P := P) (w := w) (ty := ty) ht hi hzv ha hroom (by omega) h63 hby]
    simp only [add_none, hisz, k1, Result.andThen]
  · rw [List.length_append]
    refine .ms _ _ _ _ _ _ _ (Nat.le_refl _) hroom ?_
    rw [upd_same]
    exact ⟨by omega, .inr (by simp)⟩
  · rw [k3.size]
    have : off * sz + ucap * sz ≤ room * sz := by rw [← Nat.add_mul]; exact Nat.mul_le_mul_right _ h4
    omega
  · intro i e he
    rw [List.getElem?_append] at he
    split at he
    · exact l1 i e he
    · exact hvs.len _ e he
  · intro i e j d he hd
    rw [List.getElem?_append] at he
    split at he
    · rename_i hi'
      obtain ⟨y, hy, hv⟩ := hlive.val _ _ _ _ (hget i e he) hd
      refine ⟨y, ?_, hv⟩
      have hj : j < sz := by rw [← l1 i e he]; exact (List.getElem?_eq_some_iff.1 hd).1
      have hm2 : i * sz + sz ≤ es.length * sz := by rw [← Nat.succ_mul]; exact Nat.mul_le_mul_right _ hi'
      rw [k3.old _ (by omega), ← hy, Nat.add_mul]
      congr 1; omega
    · rename_i hi'
      obtain ⟨y, hy, hv⟩ := hvs.val _ e j d he hd
      refine ⟨y, ?_, hv⟩
      have hm3 : (i - es.length) * sz + es.length * sz = i * sz := by rw [← Nat.add_mul]; congr 1; omega
      have hlt : (i - es.length) * sz + j < vs.toList.length := by simpa using (Array.getElem?_eq_some_iff.1 hy).1
      have := k3.new _ hlt
      rw [show base + off * sz + es.length * sz + 0 + ((i - es.length) * sz + j) = base + off * sz + i * sz + j by omega] at this
      rw [this]; simpa using hy

theorem run_appendD (hG : Stab G) (hr : FRc G st a w A φ) (hs : st.H[s]? = some .free) (hsub : Sub Hm st.H) {t t' ty : TypeId} {x y : D} {u v : Value} (hx : V A w φ x u) (hy : V A w φ y v)
    {o : Option Nat} {sz : Nat} {es : List (List D)} (h : appendD P Hm t t' x y = some (o, sz, es)) :
    ∃ r w' φ', (Builtin.append_ #[t, t'] ty #[u, v]).run P w = .ok r w' ∧ V A w' φ' (.ms s 0 es.length es.length) r ∧
      FRc G { st with H := (DL.killO st.H o).set s (.live sz es) } a w' A φ' := by
  unfold appendD at h
  split at h
  · rename_i e sz' es0 he hes
    obtain ⟨ht, hts⟩ := elemT_ok he
    split at h
    · rename_i xs hxs
      split at h
      rotate_left
      · cases h
      rename_i hc
      obtain ⟨c1, c2, c3, c4, c5, c6, c7⟩ := hc
      obtain ⟨z, hz, hzl⟩ : ∃ z, zeroD P e = some z ∧ z.length = sz' := by
        cases hz : zeroD P e with
        | none => rw [hz] at c2; cases c2
        | some z => rw [hz] at c2; simp at c2; exact ⟨z, rfl, c2⟩
      simp only [zeroD, Option.map_eq_some_iff, Option.bind_eq_some_iff] at hz
      obtain ⟨zv, ⟨i, hi, hzv⟩, rfl⟩ := hz
      have hisz : i.size = sz' := by simp only [tsz, hi, Option.map_some, Option.some.injEq] at hts; exact hts
      have hby : P.bytesOf e = i.bytes := by simp [Program.bytesOf, hi]
      have hzs : zv.cells.size = sz' := by simpa using hzl
      rw [hby] at c6
      have l1 : ∀ (i : Nat) (e : List D), es0[i]? = some e → e.length = sz' := fun i e he => by
        rw [List.all_eq_true] at c3; simpa using c3 e (List.mem_of_getElem? he)
      have l2 : ∀ (i : Nat) (e : List D), xs[i]? = some e → e.length = sz' := fun i e he => by
        rw [List.all_eq_true] at c4; simpa using c4 e (List.mem_of_getElem? he)
      obtain ⟨ub, ucap, us, hu, hus, hul⟩ := elems_ok (P := P) hr.rh hsub hx hes l1
      obtain ⟨vs, hvs, ha⟩ : ∃ vs, RR A w φ sz' xs vs ∧ Added P t' i zv xs.length v vs w := by
        unfold addedD at hxs
        split at hxs
        · rename_i hu'
          obtain ⟨vb, vcap, vs, hv, hvs, hvl⟩ := elems_ok (P := P) hr.rh hsub hy hxs l2
          exact ⟨vs, hvs, .sl hu' hv (by rw [hisz]; exact hvl)⟩
        · rename_i hu'
          split at hxs
          · rename_i m
            split at hxs
            · rename_i hm
              simp only [zeroD, hi, hzv, Option.bind_some, Option.map_some, Option.some.injEq] at hxs
              subst hxs
              have hzr := zero_rows (A := A) (w := w) (φ := φ) (z := zv.cells.toList.map ofV) (x := zv) (by simp) (fun j d hd => by
                simp only [List.getElem?_map, Option.map_eq_some_iff] at hd
                obtain ⟨y, hy, rfl⟩ := hd
                exact ⟨y, by simpa using hy, .ofV y⟩) m.toNat
              refine ⟨_, by simpa [hzs] using hzr, .mk hu' (by rw [hy.v_inv]; simp; omega) ?_⟩
              simp [Builtin.zeroCells, hzs]
            · cases hxs
          · cases hxs
        · cases hxs
      have hone := hvs.one c1 c5
      clear c3 c4 c5
      split at h
      · simp only [Option.some.injEq, Prod.mk.injEq] at h
        obtain ⟨rfl, rfl, rfl⟩ := h
        have he0 : es0 = [] := by simpa [elemsD] using hes.symm
        subst he0
        have hu0 : ucap = 0 := by
          cases hx with
          | nil _ a => simp only [Value.slice.injEq] at hu; exact hu.2.2.symm
        subst hu0
        subst hu
        rcases Nat.eq_zero_or_pos xs.length with hz | hz
        · have hx0 : xs = [] := List.eq_nil_of_length_eq_zero hz
          subst hx0
          exact none_ok hG hr hs ht hi hzv hisz c1 hvs ha (o := none) fun b hb => by cases hb
        · exact grow_ok hG hr hs ht hi hzv hisz hzs c1 hus hvs hul ha c6 c7 (o := none) (fun b hb => by cases hb) (by simpa using hz)
      · rename_i b off len cap
        split at h
        · rename_i hsz
          simp only [Option.some.injEq, Prod.mk.injEq] at h
          obtain ⟨rfl, rfl, rfl⟩ := h
          obtain ⟨fs, hbm⟩ : ∃ fs, Hm[b]? = some (.live sz' fs) := by
            unfold Blk.hasSz at hsz
            split at hsz
            · rename_i sz0 fs hb; simp only [beq_iff_eq] at hsz; subst hsz; exact ⟨fs, hb⟩
            · cases hsz
          have hbH := hsub _ _ _ hbm
          have hbl : b < st.H.length := (List.getElem?_eq_some_iff.1 hbH).1
          have hbs : b ≠ s := fun e => by subst e; rw [hbH] at hs; cases hs
          have ho : ∀ b', some b = some b' → b' < st.H.length ∧ b' ≠ s := fun b' hb' => by cases hb'; exact ⟨hbl, hbs⟩
          simp only [elemsD, hbm] at hes
          split at hes
          · have hes' : (fs.take (off + len)).drop off = es0 := by simpa using hes
            have hget : ∀ (i : Nat) (e : List D), es0[i]? = some e → fs[off + i]? = some e := fun i e he => by
              rw [← hes', List.getElem?_drop, List.getElem?_take] at he
              split at he
              · exact he
              · cases he
            have h3 : (φ b).msOk off ucap ub := by
              cases hx with
              | ms _ _ _ _ _ cap' a' h1 h2 h3 =>
                simp only [Value.slice.injEq] at hu
                obtain ⟨rfl, _, rfl⟩ := hu
                exact h3
            subst hu
            rcases Nat.lt_or_ge ucap (es0.length + xs.length) with hg | hroom
            · exact grow_ok hG hr hs ht hi hzv hisz hzs c1 hus hvs hul ha c6 c7 ho hg
            · rcases Nat.eq_zero_or_pos ucap with hz | hz
              · have hx0 : xs = [] := List.eq_nil_of_length_eq_zero (by omega)
                have he0 : es0 = [] := List.eq_nil_of_length_eq_zero (by omega)
                subst hx0; subst he0; subst hz
                exact none_ok hG hr hs ht hi hzv hisz c1 hvs ha ho
              · rcases hr.rh.live b sz' fs hbH with ⟨rfl, hp⟩ | ⟨n, base, room, c, tyc, hp, hlive⟩
                · rw [hp] at h3; exact absurd (show ucap = 0 from h3) (by omega)
                · rw [hp] at h3
                  obtain ⟨h4, h5⟩ := h3
                  have hub : ub = some ⟨n, base + off * sz', none⟩ := h5.resolve_left (by omega)
                  subst hub
                  exact fit_ok hG hr hs ht hi hzv hisz c1 hvs hone ha c7 c6 hp hlive hget h4 hroom
          · cases hes
        · cases h
      · cases h
    · cases h
  · cases h
end
end
end
end Go.DL

/- Maps of one's own: a look, a write, an entry, at the level of what own blocks hold. -/
namespace Go.DL
open Go.RowKit

noncomputable section

/-- The kinds of keys that are compared at once. -/
def keyKind : TypeDesc → Bool
  | .int _ => true
  | .string => true
  | .bool => true
  | _ => false

/-- A type of maps: how keys are compared, and the type of what they lead to. -/
def mapT (P : Program) (t : TypeId) : Option (TypeDesc × TypeId) := match P.underlying t with
  | some (.map k e) => match P.underlying k with
    | some q => if keyKind q = true then some (q, e) else none
    | none => none
  | _ => none

def tabFind (q : TypeDesc) (k : Value) : List (Value × D × Nat) → Nat → Option (Option (Nat × D))
  | [], _ => some none
  | e :: es, i => match Instr.sameNow q k e.1 with
    | some true => some (some (i, e.2.1))
    | some false => tabFind q k es (i + 1)
    | none => none

/-- A value as an abstract one: no slice reads as an empty one, a struct cell by cell. -/
def ofVA : Value → D
  | .agg vs => .agg (vs.toList.map ofV)
  | x => ofV x
def zvD (P : Program) (e : TypeId) : Option D := ((P.info? e).bind (·.zero)).map ofVA

def lookupD (P : Program) (H : List Blk) (t : TypeId) (x i : D) (ok : Bool) : Option D := match mapT P t, x, i with
  | some (q, e), .mm b, .v k => match H[b]? with
    | some (.tab _ es) => match tabFind q k es 0 with
      | some (some (_, d)) => some (bif ok then .tup [d, .v (.bool true)] else d)
      | some none => (zvD P e).map fun z => bif ok then .tup [z, .v (.bool false)] else z
      | none => none
    | _ => none
  | _, _, _ => none

def mapUpdD (P : Program) (H : List Blk) (t : TypeId) (m k v : D) : Option (Nat × Blk) := match mapT P t, m, k with
  | some (q, _), .mm b, .v k => match H[b]? with
    | some (.tab c es) => match tabFind q k es 0 with
      | some (some (i, _)) => some (b, .tab c (es.modify i fun e => (k, v, e.2.2)))
      | some none => some (b, .tab (c + 1) (es ++ [(k, v, c)]))
      | none => none
    | _ => none
  | _, _, _ => none

def mapEntD (P : Program) (H : List Blk) (t : TypeId) (m k : D) : Option (D × Nat × Blk) := match mapT P t, m, k with
  | some (q, e), .mm b, .v k => match H[b]? with
    | some (.tab c es) => match tabFind q k es 0 with
      | some (some (i, d)) => some (.tup [d, .v (.int .i64 (((es[i]?).map (·.2.2)).getD 0))], b, .tab c (es.modify i fun e => (k, e.2)))
      | some none => (zvD P e).map fun z => (.tup [z, .v (.int .i64 c)], b, .tab (c + 1) (es ++ [(k, z, c)]))
      | none => none
    | _ => none
  | _, _, _ => none

def entStD (H : List Blk) (m s v : D) : Option (Nat × Blk) := match m, s with
  | .mm b, .v (.int _ n) => match H[b]? with
    | some (.tab c es) => match es.findIdx? (fun e => ((e.2.2 : Nat) : Int) == n) with
      | some i => some (b, .tab c (es.modify i fun e => (e.1, v, e.2.2)))
      | none => none
    | _ => none
  | _, _ => none

section
variable {P : Program} {A : Rd} {w : World} {φ : Nat → Loc} {H Hm : List Blk}

/-- The maps among part of the own blocks. -/
def SubT (Hm H : List Blk) : Prop := ∀ (b c : Nat) (es : List (Value × D × Nat)), Hm[b]? = some (.tab c es) → H[b]? = some (.tab c es)
theorem SubT.refl (H : List Blk) : SubT H H := fun _ _ _ h => h

theorem V.ofVA (x : Value) : V A w φ (ofVA x) x := by
  cases x with
  | agg vs =>
    refine .agg _ _ _ (by simp) fun i d u h1 h2 => ?_
    simp only [List.getElem?_map, Option.map_eq_some_iff] at h1
    obtain ⟨y, h1, rfl⟩ := h1
    have : y = u := by
      have h3 : vs[i]? = some y := by simpa using h1
      rw [h3] at h2; exact Option.some.inj h2
    subst this; exact .ofV y
  | _ => unfold DL.ofVA; exact .ofV _

theorem run_zvD {e : TypeId} {z : D} (h : zvD P e = some z) : ∃ x, (∀ w : World, (zeroValue e).run P w = .ok x w) ∧ V A w φ z x := by
  simp only [zvD, Option.map_eq_some_iff, Option.bind_eq_some_iff] at h
  obtain ⟨x, ⟨i, hi, hx⟩, rfl⟩ := h
  exact ⟨x, fun w => by simp [zeroValue, run_typeInfo hi, hx], .ofVA x⟩

theorem mapT_ok {t : TypeId} {q : TypeDesc} {e : TypeId} (h : mapT P t = some (q, e)) : ∃ k, P.underlying t = some (.map k e) ∧ P.underlying k = some q ∧ keyKind q = true := by
  unfold mapT at h
  split at h
  · rename_i k e' hu
    split at h
    · rename_i q' hq
      split at h
      · rename_i hk; cases h; exact ⟨k, hu, hq, hk⟩
      · cases h
    · cases h
  · cases h

theorem run_checkKey {b : Bool} {n : Nat} {k : TypeId} {q : TypeDesc} (h : P.underlying k = some q) (hq : keyKind q = true) (v : Value) : (Instr.checkKey b (n + 1) k v).run P w = .ok () w := by
  unfold Instr.checkKey
  cases q <;> simp only [keyKind, Bool.false_eq_true] at hq <;> simp [run_underlying h]

theorem find_ok {n clk : Nat} {es : List (Value × D × Nat)} {ms : Array MapEntry} (hT : TabAt A w φ n clk es ms) {q : TypeDesc} {k : Value} :
    ∀ (m i : Nat) (r : Option (Nat × D)), i + m = es.length → tabFind q k (es.drop i) i = some r →
      (r = none ∧ Instr.findNow q k (ms.toList.drop i) i = some none) ∨
      (∃ j d e k' b, r = some (j, d) ∧ es[j]? = some (k', d, b) ∧ ms[j]? = some e ∧ Instr.sameNow q k e.key = some true ∧ Instr.findNow q k (ms.toList.drop i) i = some (some (j, e.val))) := by
  intro m
  induction m with
  | zero =>
    intro i r hi h
    rw [List.drop_eq_nil_of_le (by omega)] at h
    cases h
    rw [List.drop_eq_nil_of_le (by simp [hT.len]; omega)]
    exact .inl ⟨rfl, rfl⟩
  | succ m ih =>
    intro i r hi h
    have hlt : i < es.length := by omega
    have hlt' : i < ms.size := by rw [hT.len]; exact hlt
    rw [List.drop_eq_getElem_cons hlt] at h
    have e2 : ms.toList.drop i = ms[i] :: ms.toList.drop (i + 1) := by
      rw [List.drop_eq_getElem_cons (by simpa using hlt')]; simp
    obtain ⟨h1, h2, h3⟩ := hT.ent i es[i].1 es[i].2.1 es[i].2.2 ms[i] (List.getElem?_eq_getElem hlt) (Array.getElem?_eq_getElem hlt')
    rw [e2]
    unfold tabFind at h
    unfold Instr.findNow
    rw [h1]
    cases hs : Instr.sameNow q k es[i].1 with
    | none => rw [hs] at h; cases h
    | some x =>
      rw [hs] at h
      cases x with
      | true =>
        cases h
        exact .inr ⟨i, es[i].2.1, ms[i], es[i].1, es[i].2.2, rfl, List.getElem?_eq_getElem hlt, Array.getElem?_eq_getElem hlt', by rw [h1]; exact hs, rfl⟩
      | false => exact ih (i + 1) r (by omega) h

theorem run_findKey {n clk : Nat} {es : List (Value × D × Nat)} {ms : Array MapEntry} (hT : TabAt A w φ n clk es ms) {kt : TypeId} {q : TypeDesc} (hu : P.underlying kt = some q) {k : Value} {r : Option (Nat × D)}
    (h : tabFind q k es 0 = some r) :
    (r = none ∧ (Instr.findKey kt k ms.toList).run P w = .ok none w) ∨
    (∃ j d e k' b, r = some (j, d) ∧ es[j]? = some (k', d, b) ∧ ms[j]? = some e ∧ Instr.sameNow q k e.key = some true ∧ (Instr.findKey kt k ms.toList).run P w = .ok (some (j, e.val)) w) := by
  rcases find_ok hT es.length 0 r (by omega) (by simpa using h) with ⟨h1, h2⟩ | ⟨j, d, e, k', b, h1, h2, h3, h4, h5⟩
  · refine .inl ⟨h1, ?_⟩
    simp only [List.drop_zero] at h2
    simp [Instr.findKey, run_underlying hu, h2]
  · refine .inr ⟨j, d, e, k', b, h1, h2, h3, h4, ?_⟩
    simp only [List.drop_zero] at h5
    simp [Instr.findKey, run_underlying hu, h5]

theorem mm_at (hr : RH A φ w H) {b r c : Nat} {es : List (Value × D × Nat)} (h : (φ b).mmOk r) (hb : H[b]? = some (.tab c es)) : ∃ ms, φ b = .loc r 0 0 0 ∧ TabAt A w φ r c es ms := by
  obtain ⟨n, ms, h1, h2⟩ := hr.tab b c es hb
  rw [h1] at h
  cases h
  exact ⟨ms, h1, h2⟩

theorem getObj_tab {r c : Nat} {ms : Array MapEntry} (h : w.heap[r]? = some (.map ms c)) : (getObj r).run P w = .ok (.map ms c) w := by simp [getObj, Sem.run, h]

theorem run_lookupD (hr : RH A φ w H) (hs : SubT Hm H) {t : TypeId} {x i d : D} {u v : Value} {ok : Bool} (hx : V A w φ x u) (hi : V A w φ i v) (h : lookupD P Hm t x i ok = some d) :
    ∃ r, (Instr.lookup t u v ok).run P w = .ok r w ∧ V A w φ d r := by
  unfold lookupD at h
  split at h
  · rename_i q e b k hq
    obtain ⟨kt, hu, hk, hkk⟩ := mapT_ok hq
    have hv := hi.v_inv
    subst hv
    cases hx with
    | mm _ _ r hφ =>
      split at h
      · rename_i c es hb
        obtain ⟨ms, h1, hT⟩ := mm_at hr hφ (hs _ _ _ hb)
        have g := getObj_tab (P := P) hT.blk
        split at h
        · rename_i j d' hf
          cases h
          rcases run_findKey (P := P) hT hk hf with ⟨h2, _⟩ | ⟨j', d2, e2, k', b', h2, h3, h4, _, h5⟩
          · cases h2
          · cases h2
            have hv := (hT.ent _ _ _ _ _ h3 h4).2.2
            refine ⟨bif ok then .tuple #[e2.val, .bool true] else e2.val, ?_, ?_⟩
            · simp only [Instr.lookup, Sem.run_bind, run_underlying hu, Result.andThen, g, Sem.run_pure, run_checkKey hk hkk, h5]
              cases ok <;> simp
            · cases ok
              · exact hv
              · refine .tup _ _ _ rfl fun i d u g1 g2 => ?_
                match i, g1, g2 with
                | 0, g1, g2 => cases g1; cases g2; exact hv
                | 1, g1, g2 => cases g1; cases g2; exact .v _ _
        · rename_i hf
          simp only [Option.map_eq_some_iff] at h
          obtain ⟨z, hz, rfl⟩ := h
          obtain ⟨x, hx1, hx2⟩ := run_zvD (A := A) (w := w) (φ := φ) hz
          rcases run_findKey (P := P) hT hk hf with ⟨_, h5⟩ | ⟨j', d2, e2, k', b', h2, _⟩
          · refine ⟨bif ok then .tuple #[x, .bool false] else x, ?_, ?_⟩
            · simp only [Instr.lookup, Sem.run_bind, run_underlying hu, Result.andThen, g, Sem.run_pure, run_checkKey hk hkk, h5, hx1]
              cases ok <;> simp
            · cases ok
              · exact hx2
              · refine .tup _ _ _ rfl fun i d u g1 g2 => ?_
                match i, g1, g2 with
                | 0, g1, g2 => cases g1; cases g2; exact hx2
                | 1, g1, g2 => cases g1; cases g2; exact .v _ _
          · cases h2
        · cases h
      · cases h
  · cases h

/-- A world in which one map reads otherwise. -/
theorem ba_eq {a b : ByteArray} (h : (a == b) = true) : a = b := by
  have h1 : a.data == b.data := h
  cases a; cases b
  simp at h1
  rw [h1]

theorem same_bits {q : TypeDesc} {k k' : Value} (h : Instr.sameNow q k k' = some true) (n : Nat) : Instr.sameBits n k' k = true := by
  unfold Instr.sameNow at h
  split at h
  · split at h
    · rename_i hk
      simp only [Option.some.injEq, beq_iff_eq] at h
      subst hk; subst h
      cases n <;> simp [Instr.sameBits]
    · cases h
  · rename_i a b
    have e : a = b := ba_eq (Option.some.inj h)
    subst e
    cases n <;> exact Option.some.inj h
  all_goals first | (cases h; done) | (simp only [Option.some.injEq, beq_iff_eq] at h; subst h; cases n <;> simp [Instr.sameBits])

end

section
variable {P : Program} {G : Gh} (hG : Stab G) {st : St} {a : Act} {w w' : World} {A : Rd} {φ : Nat → Loc} {Hm : List Blk}

def putO (w : World) (r : Nat) (o : Obj) : World := { w with heap := w.heap.setIfInBounds r o }

/-- A new map. -/
theorem FRc.newT (hG : Stab G) (h : FRc G st a w A φ) {s : Nat} (hs : st.H[s]? = some .free) :
    FRc G { st with H := st.H.set s (.tab 0 []) } a (w.alloc (.map #[] 0)) A (upd φ s (.loc w.heap.size 0 0 0)) := by
  have hlt : s < st.H.length := (List.getElem?_eq_some_iff.1 hs).1
  have hf : φ s = .free := h.rh.free s hs
  have hle : (φ s).le (.loc w.heap.size 0 0 0) := .inl hf
  have hsame : ∀ m, A m → (w.alloc (.map #[] 0)).heap[m]? = w.heap[m]? := fun m hm => heap_alloc_lt w _ (h.rh.lt m hm)
  refine h.step hG (h.rh.lay hlt (l := .loc w.heap.size 0 0 0) hle hsame (fun _ x => x) (fun _ x => .inl x)
    (fun b n base sz' room' _ e => heap_alloc_lt w _ (h.rh.olt n ⟨b, _, _, _, e⟩)) (by simp) ⟨by simp, by simp, fun _ _ e => by cases e⟩ ?_ ?_) ?_ (fun _ x => x) (fun _ x => .inl x) (upd_le hle)
  · intro clk es e
    cases e
    exact ⟨_, #[], rfl, heap_alloc_new w _, rfl, fun i k d b e h1 _ => by simp at h1⟩
  · intro n base sz' room' e
    cases e
    exact ⟨by simp, fun x => Nat.lt_irrefl _ (h.rh.lt _ x), fun b base sz' room' _ e => Nat.lt_irrefl _ (h.rh.olt _ ⟨b, _, _, _, e⟩), h.rh.bsz⟩
  · refine ext_alloc w _ _ fun n hn => ?_
    rcases own_upd hn with ⟨_, _, _, e⟩ | ⟨b, base, sz', room', _, e⟩
    · cases e; exact .inr rfl
    · exact .inl ⟨b, _, _, _, e⟩

/-- An own map is written. -/
theorem FRc.retab (hG : Stab G) (h : FRc G st a w A φ) {b n : Nat} (hb : φ b = .loc n 0 0 0) (hlt : b < st.H.length) {ms' : Array MapEntry} {c' : Nat} (es' : List (Value × D × Nat)) (hl : ms'.size = es'.length)
    (hv : ∀ (i : Nat) (k : Value) (d : D) (b : Nat) (e : MapEntry), es'[i]? = some (k, d, b) → ms'[i]? = some e → e.key = k ∧ e.born = b ∧ V A w φ d e.val) :
    FRc G { st with H := st.H.set b (.tab c' es') } a (putO w n (.map ms' c')) A φ := by
  have hown : own φ n := ⟨b, _, _, _, hb⟩
  have hn : n < w.heap.size := h.rh.olt n hown
  have hne : ∀ m, m ≠ n → (putO w n (.map ms' c')).heap[m]? = w.heap[m]? := fun m hm => by
    simp only [putO, Array.getElem?_setIfInBounds]
    rw [if_neg (Ne.symm hm)]
  have hsz : (putO w n (.map ms' c')).heap.size = w.heap.size := by simp [putO]
  have hat : (putO w n (.map ms' c')).heap[n]? = some (.map ms' c') := by
    simp [putO, hn]
  have hsame : ∀ m, A m → (putO w n (.map ms' c')).heap[m]? = w.heap[m]? := fun m hm => hne m fun e => h.rh.dis n hown (e ▸ hm)
  have hup : upd φ b (.loc n 0 0 0) = φ := by funext x; by_cases e : x = b <;> simp [upd, e, hb]
  have hlay := h.rh.lay (A' := A) (w' := putO w n (.map ms' c')) hlt (l := .loc n 0 0 0) (x := .tab c' es') (by rw [hb]; exact Loc.le_refl _) hsame (fun _ x => x) (fun _ x => .inl x)
    (fun b' m base' sz' room' hne' e => hne m fun e' => hne' (h.rh.inj b' b n base' sz' room' 0 0 0 (e' ▸ e) hb)) (by rw [hsz]; exact Nat.le_refl _)
    ⟨by simp, by simp, fun _ _ e => by cases e⟩
    (fun clk es e => by
      cases e
      exact ⟨n, ms', rfl, hat, hl, fun i k d q e h1 h2 => let ⟨k1, k2, k3⟩ := hv i k d q e h1 h2; ⟨k1, k2, k3.mono (fun _ x => x) hsame (by rw [hup]; exact fun _ => Loc.le_refl _)⟩⟩)
    (fun m base' sz' room' e => by
      cases e
      exact ⟨by rw [hsz]; exact hn, h.rh.dis n hown, fun b' base' sz' room' hne' e => hne' (h.rh.inj b' b n base' sz' room' 0 0 0 e hb), h.rh.ofr n hown⟩)
  rw [hup] at hlay
  exact h.step hG hlay ⟨rfl, rfl, rfl, by rw [hsz]; exact Nat.le_refl _, fun m _ hm => hne m fun e => hm (e ▸ hown), fun m hm => .inl hm⟩ (fun _ x => x) (fun _ x => .inl x) fun _ => Loc.le_refl _

theorem setObj_tab {r c c' : Nat} {ms ms' : Array MapEntry} (h : w.heap[r]? = some (.map ms c)) : (setObj r (.map ms' c')).run P w = .ok () (putO w r (.map ms' c')) := by
  simp [setObj, Sem.run, h, putO]

theorem ent_modify {n clk : Nat} {es : List (Value × D × Nat)} {ms : Array MapEntry} (hT : TabAt A w φ n clk es ms) {j : Nat} {f : Value × D × Nat → Value × D × Nat} {g : MapEntry → MapEntry}
    (hfg : ∀ x e, es[j]? = some x → ms[j]? = some e → (g e).key = (f x).1 ∧ (g e).born = (f x).2.2 ∧ V A w φ (f x).2.1 (g e).val) :
    (ms.modify j g).size = (es.modify j f).length ∧ ∀ (i : Nat) (k : Value) (d : D) (b : Nat) (e : MapEntry), (es.modify j f)[i]? = some (k, d, b) → (ms.modify j g)[i]? = some e → e.key = k ∧ e.born = b ∧ V A w φ d e.val := by
  refine ⟨by simp [hT.len], fun i k d b e h1 h2 => ?_⟩
  rw [List.getElem?_modify] at h1
  rw [Array.getElem?_modify] at h2
  by_cases hj : j = i
  · subst hj
    simp only [if_true, Option.map_eq_map, Option.map_eq_some_iff] at h1 h2
    obtain ⟨x, h1, hx⟩ := h1
    obtain ⟨e0, h2, rfl⟩ := h2
    have := hfg x e0 h1 h2
    rw [hx] at this
    exact this
  · simp only [hj, if_false, Option.map_eq_map, Option.map_id_fun', id] at h1 h2
    have h1' : es[i]? = some (k, d, b) := by simpa using h1
    have h2' : ms[i]? = some e := by simpa using h2
    exact hT.ent i k d b e h1' h2'

theorem ent_push {n clk : Nat} {es : List (Value × D × Nat)} {ms : Array MapEntry} (hT : TabAt A w φ n clk es ms) {k : Value} {d : D} {v : Value} (hv : V A w φ d v) :
    (ms.push { key := k, val := v, born := clk }).size = (es ++ [(k, d, clk)]).length ∧ ∀ (i : Nat) (k' : Value) (d' : D) (b : Nat) (e : MapEntry), (es ++ [(k, d, clk)])[i]? = some (k', d', b) → (ms.push { key := k, val := v, born := clk })[i]? = some e → e.key = k' ∧ e.born = b ∧ V A w φ d' e.val := by
  refine ⟨by simp [hT.len], fun i k' d' b e h1 h2 => ?_⟩
  rcases Nat.lt_trichotomy i es.length with hi | hi | hi
  · rw [List.getElem?_append_left hi] at h1
    rw [Array.getElem?_push, if_neg (by rw [hT.len]; omega)] at h2
    exact hT.ent i k' d' b e h1 h2
  · subst hi
    rw [List.getElem?_append_right (Nat.le_refl _)] at h1
    rw [Array.getElem?_push, if_pos hT.len.symm] at h2
    simp at h1
    obtain ⟨rfl, rfl, rfl⟩ := h1
    cases h2
    exact ⟨rfl, rfl, hv⟩
  · rw [List.getElem?_eq_none (by simp; omega)] at h1; cases h1

theorem run_keyStays {old new : Value} (h : Instr.sameBits 10000 old new = true) : (Instr.keyThatStays old new).run P w = .ok new w := by
  simp [Instr.keyThatStays, h]

theorem run_mapUpdD (hG : Stab G) (hr : FRc G st a w A φ) (hs : SubT Hm st.H) {t : TypeId} {m k v : D} {um uk uv : Value} {b : Nat} {x : Blk} (hm : V A w φ m um) (hk : V A w φ k uk) (hv : V A w φ v uv) (h : mapUpdD P Hm t m k v = some (b, x)) :
    ∃ w', (Instr.mapUpdate t um uk uv).run P w = .ok () w' ∧ FRc G { st with H := st.H.set b x } a w' A φ := by
  unfold mapUpdD at h
  split at h
  · rename_i q e b' k' hq
    obtain ⟨kt, hu, hkt, hkk⟩ := mapT_ok hq
    have hv1 := hk.v_inv
    subst hv1
    cases hm with
    | mm _ _ r hφ =>
      split at h
      · rename_i c es hb
        have hb' := hs _ _ _ hb
        have hlt : b' < st.H.length := (List.getElem?_eq_some_iff.1 hb').1
        obtain ⟨ms, h1, hT⟩ := mm_at hr.rh hφ hb'
        have g := getObj_tab (P := P) hT.blk
        split at h
        · rename_i j d' hf
          cases h
          rcases run_findKey (P := P) hT hkt hf with ⟨h2, _⟩ | ⟨j', d2, e2, k2, b2, h2, h3, h4, h6, h5⟩
          · cases h2
          · cases h2
            obtain ⟨q1, q2⟩ := ent_modify hT (j := j) (f := fun e => (uk, v, e.2.2)) (g := fun e => { e with key := uk, val := uv }) fun x e hx he => by
              obtain ⟨x1, x2, x3⟩ := x
              exact ⟨rfl, (hT.ent _ _ _ _ _ hx he).2.1, hv⟩
            refine ⟨_, ?_, hr.retab hG h1 hlt _ q1 q2⟩
            simp only [Instr.mapUpdate, Sem.run_bind, run_underlying hu, Result.andThen, g, run_checkKey hkt hkk, h5, h4, Option.map_some, Option.getD_some, run_keyStays (same_bits h6 10000), setObj_tab hT.blk]
        · rename_i hf
          cases h
          rcases run_findKey (P := P) hT hkt hf with ⟨_, h5⟩ | ⟨j', d2, e2, k2, b2, h2, _⟩
          · obtain ⟨q1, q2⟩ := ent_push hT (k := uk) hv
            refine ⟨_, ?_, hr.retab hG h1 hlt _ q1 q2⟩
            simp only [Instr.mapUpdate, Sem.run_bind, run_underlying hu, Result.andThen, g, run_checkKey hkt hkk, h5, setObj_tab hT.blk]
          · cases h2
        · cases h
      · cases h
  · cases h

theorem run_mapEntD (hG : Stab G) (hr : FRc G st a w A φ) (hs : SubT Hm st.H) {t : TypeId} {m k d : D} {um uk : Value} {b : Nat} {x : Blk} (hm : V A w φ m um) (hk : V A w φ k uk) (h : mapEntD P Hm t m k = some (d, b, x)) :
    ∃ r w', (Instr.mapEntry t um uk).run P w = .ok r w' ∧ V A w' φ d r ∧ FRc G { st with H := st.H.set b x } a w' A φ := by
  unfold mapEntD at h
  split at h
  · rename_i q e b' k' hq
    obtain ⟨kt, hu, hkt, hkk⟩ := mapT_ok hq
    have hv1 := hk.v_inv
    subst hv1
    cases hm with
    | mm _ _ r hφ =>
      split at h
      · rename_i c es hb
        have hb' := hs _ _ _ hb
        have hlt : b' < st.H.length := (List.getElem?_eq_some_iff.1 hb').1
        obtain ⟨ms, h1, hT⟩ := mm_at hr.rh hφ hb'
        have g := getObj_tab (P := P) hT.blk
        have hn : ∀ {ms' c'} m, A m → (putO w r (.map ms' c')).heap[m]? = w.heap[m]? := fun {ms' c'} m hm => by
          have hne : m ≠ r := fun e => hr.rh.dis r ⟨b', _, _, _, h1⟩ (e ▸ hm)
          simp only [putO, Array.getElem?_setIfInBounds]
          rw [if_neg (Ne.symm hne)]
        have pair : ∀ {w' : World} {y : D} {u : Value} {n : Int}, V A w' φ y u → V A w' φ (.tup [y, .v (.int .i64 n)]) (.tuple #[u, .int .i64 n]) := fun {w' y u n} hy => by
          refine .tup _ _ _ rfl fun i d u g1 g2 => ?_
          match i, g1, g2 with
          | 0, g1, g2 => cases g1; cases g2; exact hy
          | 1, g1, g2 => cases g1; cases g2; exact .v _ _
        split at h
        · rename_i j d' hf
          cases h
          rcases run_findKey (P := P) hT hkt hf with ⟨h2, _⟩ | ⟨j', d2, e2, k2, b2, h2, h3, h4, h6, h5⟩
          · cases h2
          · cases h2
            obtain ⟨q1, q2⟩ := ent_modify hT (j := j) (f := fun e => (uk, e.2)) (g := fun e => { e with key := uk }) fun x e hx he => by
              obtain ⟨x1, x2, x3⟩ := x
              have := hT.ent _ _ _ _ _ hx he
              exact ⟨rfl, this.2.1, this.2.2⟩
            refine ⟨.tuple #[e2.val, .int .i64 (e2.born : Nat)], _, ?_, ?_, hr.retab hG h1 hlt _ q1 q2⟩
            · simp only [Instr.mapEntry, Sem.run_bind, run_underlying hu, Result.andThen, g, run_checkKey hkt hkk, h5, h4, Option.map_some, Option.getD_some, run_keyStays (same_bits h6 10000), setObj_tab hT.blk, Sem.run_pure, goInt]
            · have h7 := hT.ent _ _ _ _ _ h3 h4
              rw [h3, h7.2.1]
              exact pair (h7.2.2.mono (fun _ x => x) hn fun _ => Loc.le_refl _)
        · rename_i hf
          simp only [Option.map_eq_some_iff, Prod.mk.injEq] at h
          obtain ⟨z, hz, rfl, rfl, rfl⟩ := h
          obtain ⟨zx, hx1, hx2⟩ := run_zvD (A := A) (w := w) (φ := φ) hz
          rcases run_findKey (P := P) hT hkt hf with ⟨_, h5⟩ | ⟨j', d2, e2, k2, b2, h2, _⟩
          · obtain ⟨q1, q2⟩ := ent_push hT (k := uk) hx2
            refine ⟨.tuple #[zx, .int .i64 (c : Nat)], _, ?_, ?_, hr.retab hG h1 hlt _ q1 q2⟩
            · simp only [Instr.mapEntry, Sem.run_bind, run_underlying hu, Result.andThen, g, run_checkKey hkt hkk, h5, hx1, setObj_tab hT.blk, Sem.run_pure, goInt]
            · exact pair (hx2.mono (fun _ x => x) hn fun _ => Loc.le_refl _)
          · cases h2
        · cases h
      · cases h
  · cases h

theorem run_entStD (hG : Stab G) (hr : FRc G st a w A φ) (hs : SubT Hm st.H) {t : TypeId} {m s v : D} {um us uv : Value} {b : Nat} {x : Blk} (hm : V A w φ m um) (hsv : V A w φ s us) (hv : V A w φ v uv) (h : entStD Hm m s v = some (b, x)) :
    ∃ w', (Instr.entryStore t um us uv).run P w = .ok () w' ∧ FRc G { st with H := st.H.set b x } a w' A φ := by
  unfold entStD at h
  split at h
  · rename_i b' kd n
    have hv1 := hsv.v_inv
    subst hv1
    cases hm with
    | mm _ _ r hφ =>
      split at h
      · rename_i c es hb
        have hb' := hs _ _ _ hb
        have hlt : b' < st.H.length := (List.getElem?_eq_some_iff.1 hb').1
        obtain ⟨ms, h1, hT⟩ := mm_at hr.rh hφ hb'
        have g := getObj_tab (P := P) hT.blk
        split at h
        · rename_i i hf
          cases h
          have hf' : ms.findIdx? (fun e => ((e.born : Nat) : Int) == n) = some i := by
            obtain ⟨hi, h2, h3⟩ := List.findIdx?_eq_some_iff_getElem.1 hf
            have hborn : ∀ j (hj : j < es.length), (ms[j]'(by rw [hT.len]; exact hj)).born = es[j].2.2 := fun j hj =>
              (hT.ent j es[j].1 es[j].2.1 es[j].2.2 _ (List.getElem?_eq_getElem hj) (Array.getElem?_eq_getElem (by rw [hT.len]; exact hj))).2.1
            refine Array.findIdx?_eq_some_iff_getElem.2 ⟨by rw [hT.len]; exact hi, ?_, fun j hj => ?_⟩
            · rw [hborn i hi]; exact h2
            · have := h3 j hj
              rw [hborn j (Nat.lt_trans hj hi)]; exact this
          obtain ⟨q1, q2⟩ := ent_modify hT (j := i) (f := fun e => (e.1, v, e.2.2)) (g := fun e => { e with val := uv }) fun x e hx he => by
            obtain ⟨x1, x2, x3⟩ := x
            have := hT.ent _ _ _ _ _ hx he
            exact ⟨this.1, this.2.1, hv⟩
          refine ⟨_, ?_, hr.retab hG h1 hlt _ q1 q2⟩
          simp only [Instr.entryStore, Sem.run_bind, g, Result.andThen, asInt, asIntOf, Sem.run_pure, hf', setObj_tab hT.blk]
        · cases h
      · cases h
  · cases h

end
end
end Go.DL
