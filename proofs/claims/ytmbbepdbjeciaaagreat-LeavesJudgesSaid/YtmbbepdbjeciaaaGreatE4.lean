/- One operation that is no call of a function, over abstract values. -/
import Derived.Test.YtmbbepdbjeciaaaGreatE3
import Derived.Shelf.Abstract
import Derived.TacticsIn
set_option linter.all false
namespace Go.DL
open Go.RowKit

noncomputable section

/-- What an operation does to the own blocks; s: a place for a new one. -/
inductive Eff where
  | keep
  | put (x : Blk)
  | upd (b : Nat) (x : Blk)
  | ren (o : Option Nat) (x : Blk)

def Eff.app (H : List Blk) (s : Nat) : Eff → List Blk
  | .keep => H
  | .put x => H.set s x
  | .upd b x => H.set b x
  | .ren o x => (killO H o).set s x

/-- The same with the new block behind all others. -/
def Eff.seq (H : List Blk) : Eff → List Blk
  | .keep => H
  | .put x => H ++ [x]
  | .upd b x => H.set b x
  | .ren o x => killO H o ++ [x]

def maxD (op : BinOp) (x y : D) : Option D :=
  match x, y with
  | .v (.int k a), .v (.int k' b) => if k = k' then match op with
      | .gtr => some (.v (.int k (if b > a then b else a)))
      | .lss => some (.v (.int k (if b < a then b else a)))
      | _ => none
    else none
  | _, _ => none

def builtinD (P : Program) (H : List Blk) (s : Nat) (b : Builtin) (args : List D) (tys : List TypeId) : Option (D × Eff) :=
  match b, args, tys with
  | .len, [x], [t] => match P.underlying t with
    | some (.slice _) => (lenD x).map fun n => (.v (.int .i64 n), .keep)
    | _ => none
  | .append, [x, y], [t, t'] => (appendD P H t t' x y).map fun (o, sz, es) => (.ms s 0 es.length es.length, .ren o (.live sz es))
  | .max, [x, y], _ => (maxD .gtr x y).map fun d => (d, .keep)
  | .min, [x, y], _ => (maxD .lss x y).map fun d => (d, .keep)
  | _, _, _ => none

def keepD (d : Option D) : Option (D × Eff) := d.map fun d => (d, .keep)

def stepD (P : Program) (H : List Blk) (s : Nat) (t : List D) : Op → Option (D × Eff)
  | .move x => some (ev t x, .keep)
  | .assign x => some (ev t x, .keep)
  | .pick c a b => keepD (pickD (ev t c) (ev t a) (ev t b))
  | .binOp op ty x y _ => keepD (binD P op ty (ev t x) (ev t y))
  | .unOp op _ x => keepD (unD op (ev t x))
  | .convert src dst x => keepD (convD P src dst (ev t x))
  | .extract x i => keepD (extractD (ev t x) i)
  | .field ty x f => keepD (fieldD P ty f (ev t x))
  | .index ty x i => keepD (indexD P ty (ev t x) (ev t i))
  | .fieldAddr ty x f => keepD (fieldAddrD P ty f (ev t x))
  | .indexAddr ty x i => keepD (indexAddrD P H ty (ev t x) (ev t i))
  | .slice ty x lo hi mx => if mx.isSome = true ∧ hi.isSome = false then none else keepD (sliceD P H ty (ev t x) (lo.map (ev t)) (hi.map (ev t)) (mx.map (ev t)))
  | .load ty p => keepD (loadD P H ty (ev t p))
  | .nilCheck x => keepD (nilCheckD (ev t x))
  | .makeFunc f a b => some (.fn f (a.toList.map (ev t)) (b.toList.map (ev t)), .keep)
  | .build ty ps => keepD (buildD P ty (ps.toList.map fun p => (p.1, ev t p.2)))
  | .buildSlice ty len ps => (buildSliceD P ty len (ps.toList.map fun p => (p.1, ev t p.2))).map fun (sz, es) => (.ms s 0 len len, .put (.live sz es))
  | .makeSlice ty l c => (makeSliceD P ty (ev t l) (ev t c)).map fun (ln, cn, sz, es) => (.ms s 0 ln cn, .put (.live sz es))
  | .alloc ty => (zeroD P ty).map fun z => (.mp s 0 0, .put (.live z.length [z]))
  | .box _ x => if (cellsD (ev t x)).all isCell = true then some (.mp s 0 0, .put (.live (cellsD (ev t x)).length [cellsD (ev t x)])) else none
  | .store ty p x => (storeD P H ty (ev t p) (ev t x)).map fun (b, k) => (.any, .upd b k)
  | .makeMap _ none => some (.mm s, .put (.tab 0 []))
  | .lookup ty x i ok => keepD (lookupD P H ty (ev t x) (ev t i) ok)
  | .mapUpdate ty m k x => (mapUpdD P H ty (ev t m) (ev t k) (ev t x)).map fun (b, k) => (.any, .upd b k)
  | .mapEntry ty m k => (mapEntD P H ty (ev t m) (ev t k)).map fun (d, b, k) => (d, .upd b k)
  | .entryStore _ m k x => (entStD H (ev t m) (ev t k) (ev t x)).map fun (b, k) => (.any, .upd b k)
  | .call { callee := .builtin b, args, argTypes } => builtinD P H s b (args.toList.map (ev t)) argTypes.toList
  | _ => none

/-- The run of an operation that goes through. -/
def Ran (P : Program) (a : Act) (o : Oper) (w : World) (x : Value) (w' : World) : Prop :=
  (execOp a.eval o).run P w = .ok (.value x) w' ∨ ((execOp a.eval o).run P w = .ok .skip w' ∧ x = undef)

section
variable {P : Program} {G : Gh} (hG : Stab G) {st : St} {a : Act} {w : World} {A : Rd} {φ : Nat → Loc}

theorem run_maxD {x y d : D} {u v : Value} (hx : V A w φ x u) (hy : V A w φ y v) :
    (maxD .gtr x y = some d → ∃ r, (Builtin.max_ #[] 0 #[u, v]).run P w = .ok r w ∧ V A w φ d r) ∧
    (maxD .lss x y = some d → ∃ r, (Builtin.min_ #[] 0 #[u, v]).run P w = .ok r w ∧ V A w φ d r) := by
  constructor
  all_goals
    intro h
    unfold maxD at h
    split at h
    · have := hx.v_inv; subst this
      have := hy.v_inv; subst this
      split at h
      · rename_i hk; subst hk
        simp only [Option.some.injEq] at h
        subst h
        exact ⟨_, rfl, .v _ _⟩
      · cases h
    · cases h

theorem stepD_ok (hG : Stab G) (hr : FRc G st a w A φ) {s : Nat} (hs : st.H[s]? = some .free) {Hm : List Blk} (hsub : Sub Hm st.H) (hsubT : SubT Hm st.H) {o : Oper} {d : D} {e : Eff} (h : stepD P Hm s st.t o.op = some (d, e)) :
    ∃ x w' A' φ', Ran P a o w x w' ∧ FRc G { t := setT st.t o.dst d, H := e.app st.H s, ds := st.ds, g := st.g } (a.put o.dst x) w' A' φ' := by
  have ve := hr.tr.ev
  have fin : ∀ {m : Sem Value} {r : Value} {d : D}, execOp a.eval o = (do pure (.value (← m))) → m.run P w = .ok r w → V A w φ d r →
      ∃ x w' A' φ', Ran P a o w x w' ∧ FRc G { t := setT st.t o.dst d, H := st.H, ds := st.ds, g := st.g } (a.put o.dst x) w' A' φ' := fun {m r d} h1 h2 h3 =>
    ⟨r, w, A, φ, .inl (by rw [h1]; simp [h2]), hr.value o.dst h3⟩
  have finP : ∀ {m : Sem Value} {r : Value} {w' : World} {φ' : Nat → Loc} {d : D} {H' : List Blk}, execOp a.eval o = (do pure (.value (← m))) → m.run P w = .ok r w' → V A w' φ' d r →
      FRc G { st with H := H' } a w' A φ' → ∃ x w' A' φ', Ran P a o w x w' ∧ FRc G { t := setT st.t o.dst d, H := H', ds := st.ds, g := st.g } (a.put o.dst x) w' A' φ' := fun {m r w' φ' d H'} h1 h2 h3 h4 =>
    ⟨r, w', A, φ', .inl (by rw [h1]; simp [h2]), h4.value o.dst h3⟩
  have kd : ∀ {q : Option D} {d : D} {e : Eff}, keepD q = some (d, e) → q = some d ∧ e = .keep := fun {q d e} h => by
    simp only [keepD, Option.map_eq_some_iff, Prod.mk.injEq] at h
    obtain ⟨_, h1, rfl, rfl⟩ := h; exact ⟨h1, rfl⟩
  cases ho : o.op with
  | move x =>
    rw [ho] at h; simp only [stepD, Option.some.injEq, Prod.mk.injEq] at h; obtain ⟨rfl, rfl⟩ := h
    exact ⟨_, w, A, φ, .inl (by simp only [execOp, ho]; rfl), hr.value o.dst (ve x)⟩
  | assign x =>
    rw [ho] at h; simp only [stepD, Option.some.injEq, Prod.mk.injEq] at h; obtain ⟨rfl, rfl⟩ := h
    exact ⟨_, w, A, φ, .inl (by simp only [execOp, ho]; rfl), hr.value o.dst (ve x)⟩
  | pick c x y =>
    rw [ho] at h; obtain ⟨h1, rfl⟩ := kd h
    have hc := ve c
    unfold pickD at h1
    split at h1
    · rename_i b hb
      rw [hb] at hc
      have hcv := hc.v_inv
      cases h1
      refine ⟨if b then a.eval x else a.eval y, w, A, φ, .inl (by simp [execOp, ho, hcv, asBool]), hr.value o.dst ?_⟩
      cases b <;> simp only [Bool.false_eq_true, if_false, if_true]
      · exact ve y
      · exact ve x
    · cases h1
  | binOp op ty x y ty' =>
    rw [ho] at h; obtain ⟨h1, rfl⟩ := kd h
    obtain ⟨r, h2, h3⟩ := run_binD (P := P) x y (ve x) (ve y) h1
    exact fin (by simp only [execOp, ho]) h2 h3
  | unOp op ty x =>
    rw [ho] at h; obtain ⟨h1, rfl⟩ := kd h
    obtain ⟨r, h2, h3⟩ := run_unD (P := P) (ve x) h1
    exact fin (by simp only [execOp, ho]) h2 h3
  | convert src dst x =>
    rw [ho] at h; obtain ⟨h1, rfl⟩ := kd h
    obtain ⟨r, h2, h3⟩ := run_convD (P := P) (ve x) h1
    exact fin (by simp only [execOp, ho]) h2 h3
  | extract x i =>
    rw [ho] at h; obtain ⟨h1, rfl⟩ := kd h
    obtain ⟨r, h2, h3⟩ := run_extractD (P := P) (ve x) h1
    exact fin (by simp only [execOp, ho]) h2 h3
  | field ty x f =>
    rw [ho] at h; obtain ⟨h1, rfl⟩ := kd h
    obtain ⟨r, h2, h3⟩ := run_fieldD (P := P) (ve x) h1
    exact fin (by simp only [execOp, ho]) h2 h3
  | index ty x i =>
    rw [ho] at h; obtain ⟨h1, rfl⟩ := kd h
    obtain ⟨r, h2, h3⟩ := run_indexD (P := P) (ve x) (ve i) h1
    exact fin (by simp only [execOp, ho]) h2 h3
  | fieldAddr ty x f =>
    rw [ho] at h; obtain ⟨h1, rfl⟩ := kd h
    obtain ⟨r, h2, h3⟩ := run_fieldAddrD (P := P) (ve x) h1
    exact fin (by simp only [execOp, ho]) h2 h3
  | indexAddr ty x i =>
    rw [ho] at h; obtain ⟨h1, rfl⟩ := kd h
    obtain ⟨r, h2, h3⟩ := run_indexAddrD (P := P) (H := Hm) (fun b sz es hb => (hr.rh.live b sz es (hsub _ _ _ hb)).imp (·.2) fun ⟨n, base, room, _, _, h, _⟩ => ⟨n, base, room, h⟩) (ve x) (ve i) h1
    exact fin (by simp only [execOp, ho]) h2 h3
  | slice ty x lo hi mx =>
    rw [ho] at h
    simp only [stepD] at h
    split at h
    · cases h
    · rename_i hc
      obtain ⟨h1, rfl⟩ := kd h
      obtain ⟨r, h2, h3⟩ := run_sliceD (P := P) hr.rh hsub hr.tr x lo hi mx h1 (fun hm => by
        cases hi with
        | some _ => rfl
        | none => exact absurd ⟨hm, rfl⟩ hc)
      exact fin (by simp only [execOp, ho]) h2 h3
  | load ty p =>
    rw [ho] at h; obtain ⟨h1, rfl⟩ := kd h
    obtain ⟨r, h2, h3⟩ := run_loadD (P := P) hr.rh hsub (ve p) h1
    exact fin (by simp only [execOp, ho]) h2 h3
  | nilCheck x =>
    rw [ho] at h; obtain ⟨h1, rfl⟩ := kd h
    have hx := ve x
    unfold nilCheckD at h1
    split at h1
    · rename_i cs hcs
      cases h1
      rw [hcs] at hx
      generalize hu : a.eval x = u at hx
      refine ⟨u, w, A, φ, .inl ?_, hr.value o.dst hx⟩
      cases hx with
      | rp _ _ n off v ha hc hh => simp only [execOp, ho, hu]; rfl
    · rename_i b i f hcs
      cases h1
      rw [hcs] at hx
      generalize hu : a.eval x = u at hx
      refine ⟨u, w, A, φ, .inl ?_, hr.value o.dst hx⟩
      cases hx with
      | mp _ _ _ _ y hh => simp only [execOp, ho, hu]; rfl
    · rename_i f p q hcs
      cases h1
      rw [hcs] at hx
      generalize hu : a.eval x = u at hx
      refine ⟨u, w, A, φ, .inl ?_, hr.value o.dst hx⟩
      cases hx with
      | fn _ _ _ _ vs us hl hl' hh hh' => simp only [execOp, ho, hu]; rfl
    · cases h1
  | makeFunc f p q =>
    rw [ho] at h; simp only [stepD, Option.some.injEq, Prod.mk.injEq] at h; obtain ⟨rfl, rfl⟩ := h
    have key : ∀ (p : Array Operand), (∀ (i : Nat) (d : D) (u : Value), (p.toList.map (ev st.t))[i]? = some d → (p.map a.eval)[i]? = some u → V A w φ d u) := fun p i d u h1 h2 => by
      simp only [List.getElem?_map, Option.map_eq_some_iff, Array.getElem?_map, Array.getElem?_toList] at h1 h2
      obtain ⟨x, h1, rfl⟩ := h1
      obtain ⟨y, h2, rfl⟩ := h2
      rw [h1] at h2; cases h2; exact ve x
    exact ⟨.func f (p.map a.eval) (q.map a.eval), w, A, φ, .inl (by simp [execOp, ho, Instr.makeFunc]), hr.value o.dst (.fn _ _ _ _ _ _ (by simp) (by simp) (key p) (key q))⟩
  | build ty ps =>
    rw [ho] at h; obtain ⟨h1, rfl⟩ := kd h
    obtain ⟨r, h2, h3⟩ := run_buildD (P := P) hr.tr ps h1
    exact fin (by simp only [execOp, ho]) h2 h3
  | buildSlice ty len ps =>
    rw [ho] at h
    simp only [stepD, Option.map_eq_some_iff, Prod.mk.injEq, Prod.exists] at h
    obtain ⟨sz, es, h1, rfl, rfl⟩ := h
    obtain ⟨r, w', φ', h2, h3, h4⟩ := run_buildSliceD (P := P) hG hr hs ps h1
    exact finP (by simp only [execOp, ho]) h2 h3 h4
  | makeSlice ty l c =>
    rw [ho] at h
    simp only [stepD, Option.map_eq_some_iff, Prod.mk.injEq, Prod.exists] at h
    obtain ⟨ln, cn, sz, es, h1, rfl, rfl⟩ := h
    obtain ⟨r, w', φ', h2, h3, h4⟩ := run_makeSliceD (P := P) hG hr hs (ve l) (ve c) h1
    exact finP (by simp only [execOp, ho]) h2 h3 h4
  | alloc ty =>
    rw [ho] at h
    simp only [stepD, Option.map_eq_some_iff, Prod.mk.injEq] at h
    obtain ⟨z, h1, rfl, rfl⟩ := h
    obtain ⟨r, w', φ', h2, h3, h4⟩ := run_allocD (P := P) hG hr hs h1
    exact finP (by simp only [execOp, ho]) h2 h3 h4
  | box ty x =>
    rw [ho] at h
    simp only [stepD] at h
    split at h
    · rename_i hc
      simp only [Option.some.injEq, Prod.mk.injEq] at h; obtain ⟨rfl, rfl⟩ := h
      obtain ⟨r, w', φ', h2, h3, h4⟩ := run_box (P := P) hG hr hs (t := ty) (ve x) hc
      exact finP (by simp only [execOp, ho]) h2 h3 h4
    · cases h
  | store ty p x =>
    rw [ho] at h
    simp only [stepD, Option.map_eq_some_iff, Prod.mk.injEq, Prod.exists] at h
    obtain ⟨b, k, h1, rfl, rfl⟩ := h
    obtain ⟨w', h2, h3⟩ := run_storeD (P := P) hG hr hsub (ve p) (ve x) h1
    exact ⟨undef, w', A, φ, .inr ⟨by simp [execOp, ho, h2], rfl⟩, h3.value o.dst (.any _ _)⟩
  | makeMap ty r =>
    rw [ho] at h
    cases r with
    | some _ => cases h
    | none =>
      simp only [stepD, Option.some.injEq, Prod.mk.injEq] at h; obtain ⟨rfl, rfl⟩ := h
      refine finP (m := Instr.makeMap ty none) (r := .map (some w.heap.size)) (by simp only [execOp, ho]; rfl) ?_ (.mm _ _ _ (by rw [upd_same]; rfl)) (hr.newT hG hs)
      simp [Instr.makeMap, newObj, Sem.run]
  | lookup ty x i ok =>
    rw [ho] at h; obtain ⟨h1, rfl⟩ := kd h
    obtain ⟨r, h2, h3⟩ := run_lookupD (P := P) hr.rh hsubT (ve x) (ve i) h1
    exact fin (by simp only [execOp, ho]) h2 h3
  | mapUpdate ty m k x =>
    rw [ho] at h
    simp only [stepD, Option.map_eq_some_iff, Prod.mk.injEq, Prod.exists] at h
    obtain ⟨b, y, h1, rfl, rfl⟩ := h
    obtain ⟨w', h2, h3⟩ := run_mapUpdD (P := P) hG hr hsubT (ve m) (ve k) (ve x) h1
    exact ⟨undef, w', A, φ, .inr ⟨by simp [execOp, ho, h2], rfl⟩, h3.value o.dst (.any _ _)⟩
  | mapEntry ty m k =>
    rw [ho] at h
    simp only [stepD, Option.map_eq_some_iff, Prod.mk.injEq, Prod.exists] at h
    obtain ⟨d', b, y, h1, rfl, rfl⟩ := h
    obtain ⟨r, w', h2, h3, h4⟩ := run_mapEntD (P := P) hG hr hsubT (ve m) (ve k) h1
    exact finP (by simp only [execOp, ho]) h2 h3 h4
  | entryStore ty m k x =>
    rw [ho] at h
    simp only [stepD, Option.map_eq_some_iff, Prod.mk.injEq, Prod.exists] at h
    obtain ⟨b, y, h1, rfl, rfl⟩ := h
    obtain ⟨w', h2, h3⟩ := run_entStD (P := P) (t := ty) hG hr hsubT (ve m) (ve k) (ve x) h1
    exact ⟨undef, w', A, φ, .inr ⟨by simp [execOp, ho, h2], rfl⟩, h3.value o.dst (.any _ _)⟩
  | call c =>
    obtain ⟨cal, args, tys⟩ := c
    cases cal with
    | builtin b =>
      rw [ho] at h
      simp only [stepD] at h
      have hex : ∀ (m : Array Value → Sem Value), (∀ q, builtin b tys o.type q (args.map a.eval) = (do pure (.value (← m (args.map a.eval))))) →
          execOp a.eval o = (do pure (.value (← m (args.map a.eval)))) := fun m hm => by
        simp only [execOp, ho, resolve, invoke]
        exact hm _
      obtain ⟨args, rfl⟩ : ∃ l : List Operand, l.toArray = args := ⟨args.toList, by simp⟩
      obtain ⟨tys, rfl⟩ : ∃ l : List TypeId, l.toArray = tys := ⟨tys.toList, by simp⟩
      simp only at h
      unfold builtinD at h
      split at h
      · rename_i x t ha
        obtain ⟨x', rfl, rfl⟩ : ∃ x', args = [x'] ∧ ev st.t x' = x := by
          cases args with
          | nil => simp at ha
          | cons y r => cases r with
            | nil => simp at ha; exact ⟨y, rfl, ha⟩
            | cons _ _ => simp at ha
        split at h
        · rename_i et hu
          simp only [Option.map_eq_some_iff, Prod.mk.injEq] at h
          obtain ⟨n, h1, rfl, rfl⟩ := h
          obtain ⟨u, m, c, h2, h3⟩ := (ve x').lenD h1
          refine fin (m := Builtin.len_ #[t] o.type #[a.eval x']) (by simpa using hex (fun v => Builtin.len_ #[t] o.type v) fun q => by simp [builtin]) (r := .int .i64 n) ?_ (.v _ _)
          rw [h2]
          simp [Builtin.len_, run_underlying hu, goInt, h3]
        · cases h
      · rename_i x y t t' ha
        obtain ⟨x', y', rfl, rfl, rfl⟩ : ∃ x' y', args = [x', y'] ∧ ev st.t x' = x ∧ ev st.t y' = y := by
          match args, ha with
          | [p, q], ha => simp at ha; exact ⟨p, q, rfl, ha⟩
        simp only [Option.map_eq_some_iff, Prod.mk.injEq, Prod.exists] at h
        obtain ⟨ob, sz, es, h1, rfl, rfl⟩ := h
        obtain ⟨r, w', φ', h2, h3, h4⟩ := run_appendD (P := P) hG hr hs hsub (ty := o.type) (ve x') (ve y') h1
        exact finP (m := Builtin.append_ #[t, t'] o.type #[a.eval x', a.eval y']) (by simpa using hex (fun v => Builtin.append_ #[t, t'] o.type v) fun q => by simp [builtin]) h2 h3 h4
      · rename_i x y ha
        obtain ⟨x', y', rfl, rfl, rfl⟩ : ∃ x' y', args = [x', y'] ∧ ev st.t x' = x ∧ ev st.t y' = y := by
          match args, ha with
          | [p, q], ha => simp at ha; exact ⟨p, q, rfl, ha⟩
        simp only [Option.map_eq_some_iff, Prod.mk.injEq] at h
        obtain ⟨d', h1, rfl, rfl⟩ := h
        obtain ⟨r, h2, h3⟩ := (run_maxD (P := P) (ve x') (ve y')).1 h1
        exact fin (m := Builtin.max_ #[] 0 #[a.eval x', a.eval y']) (by simpa using hex (fun v => Builtin.max_ #[] 0 v) fun q => by simp [builtin]; rfl) h2 h3
      · rename_i x y ha
        obtain ⟨x', y', rfl, rfl, rfl⟩ : ∃ x' y', args = [x', y'] ∧ ev st.t x' = x ∧ ev st.t y' = y := by
          match args, ha with
          | [p, q], ha => simp at ha; exact ⟨p, q, rfl, ha⟩
        simp only [Option.map_eq_some_iff, Prod.mk.injEq] at h
        obtain ⟨d', h1, rfl, rfl⟩ := h
        obtain ⟨r, h2, h3⟩ := (run_maxD (P := P) (ve x') (ve y')).2 h1
        exact fin (m := Builtin.min_ #[] 0 #[a.eval x', a.eval y']) (by simpa using hex (fun v => Builtin.min_ #[] 0 v) fun q => by simp [builtin]; rfl) h2 h3
      · cases h
    | value f => rw [ho] at h; cases h
    | invoke r m => rw [ho] at h; cases h
  | _ => rw [ho] at h; cases h
end
end
end Go.DL

/- Calls, regions, and code, over abstract values. -/
namespace Go.DL
open Go.RowKit Go.Proofs

noncomputable section

def FW (ro : Option Nat) : Fence := { Fence.wide with round := ro }

/-- Abstract arguments stand for arguments. -/
structure VS (A : Rd) (w : World) (φ : Nat → Loc) (ds : List D) (vs : Array Value) : Prop where
  size : vs.size = ds.length
  val : ∀ (i : Nat) (d : D) (u : Value), ds[i]? = some d → vs[i]? = some u → V A w φ d u

/-- A PLAIN CONTRACT: at these arguments the function returns this; nothing that was there has changed. -/
def Maps (P : Program) (f : FuncId) (args : List D) (d : D) : Prop :=
  Enters P f ∧ ∀ (w : World) (A : Nat → Prop) (vs : Array Value), (∀ n, A n → n < w.heap.size) → VS ⟨A, w.heap.size⟩ w nowhere args vs →
    CallsIn Fence.wide 0 P f vs w fun e w' => ∃ (v : Value) (A' : Nat → Prop), e = .returned v ∧ V ⟨A', w.heap.size⟩ w' nowhere d v ∧ (∀ m, A m → A' m) ∧ (∀ m, A' m → A m ∨ w.heap.size ≤ m) ∧
      (∀ m, A' m → m < w'.heap.size) ∧ Ext w (fun _ => False) w' (fun _ => False)

structure Evo (w : World) (A : Rd) (φ : Nat → Loc) (w' : World) (A' : Rd) (φ' : Nat → Loc) : Prop where
  ext : Ext w (own φ) w' (own φ')
  up : ∀ m, A m → A' m
  new : ∀ m, A' m → A m ∨ own φ m ∨ w.heap.size ≤ m
  le : ∀ b, (φ b).le (φ' b)
  b0 : A'.b0 = A.b0

/-- A CONTRACT OVER OWN BLOCKS. -/
def CallSp (P : Program) (f : FuncId) (args : List D) (H : List Blk) (Q : D → List Blk → Prop) : Prop :=
  Enters P f ∧ ∀ (w : World) (A : Rd) (φ : Nat → Loc) (vs : Array Value), RH A φ w H → VS A w φ args vs →
    CallsIn Fence.wide 0 P f vs w fun e w' => ∃ (v : Value) (d : D) (H' : List Blk) (A' : Rd) (φ' : Nat → Loc), e = .returned v ∧ Q d H' ∧ RH A' φ' w' H' ∧ V A' w' φ' d v ∧ Evo w A φ w' A' φ'

theorem CallSp.mono {P : Program} {f : FuncId} {args : List D} {H : List Blk} {Q Q' : D → List Blk → Prop} (h : CallSp P f args H Q) (k : ∀ d H', Q d H' → Q' d H') : CallSp P f args H Q' :=
  ⟨h.1, fun w A φ vs h1 h2 => (h.2 w A φ vs h1 h2).mono fun _ _ ⟨v, d, H', A', φ', e, q, r⟩ => ⟨v, d, H', A', φ', e, k _ _ q, r⟩⟩

theorem VS.snap {A B : Rd} {w : World} {φ : Nat → Loc} {H : List Blk} (hr : RH A φ w H) {lk : Nat → Option Blk} (hlk : ∀ b sz es, lk b = some (.live sz es) → H[b]? = some (.live sz es))
    (hA : ∀ n, A n → B n) (hB : ∀ b sz es n base sz' room, lk b = some (.live sz es) → φ b = .loc n base sz' room → B n) (k : Nat) {ds : List D} {vs : Array Value} (h : VS A w φ ds vs) :
    VS B w nowhere (ds.map (DL.snap lk k)) vs :=
  ⟨by simpa using h.size, fun i d u h1 h2 => by
    simp only [List.getElem?_map, Option.map_eq_some_iff] at h1
    obtain ⟨d0, h1, rfl⟩ := h1
    exact (h.val i d0 u h1 h2).snap hr hlk hA hB k⟩

/-- A value that speaks of fresh memory alone. -/
def freshD : Nat → D → Bool
  | _, .v _ => true
  | _, .any => true
  | _, .fl _ => true
  | k + 1, .agg ds => ds.all (freshD k)
  | k + 1, .tup ds => ds.all (freshD k)
  | _, _ => false

theorem V.freshUp {A A' : Rd} {w : World} {φ φ' : Nat → Loc} (hA : ∀ m, A m → A.b0 ≤ m → A' m) (hb : A'.b0 ≤ A.b0) : ∀ (k : Nat) {d : D} {u : Value}, V A w φ d u → freshD k d = true → V A' w φ' d u := by
  have leaf : ∀ {es : List (List D)} {u : Value}, V A w φ (.fl es) u → V A' w φ' (.fl es) u := fun {es u} h => by
    cases h with
    | fl0 => exact .fl0 _ _ _
    | fl _ _ n off sz cap u ha hcap hsz hc h =>
      exact .fl _ _ n off sz cap u ⟨hA n ha.1 ha.2, Nat.le_trans hb ha.2⟩ hcap hsz hc fun i e j d h1 h2 =>
        V.mono (A := A.fresh) (A' := A'.fresh) (fun m hm => ⟨hA m hm.1 hm.2, Nat.le_trans hb hm.2⟩) (fun _ _ => rfl) (fun _ => Loc.le_refl _) (h i e j d h1 h2)
  intro k
  induction k with
  | zero =>
    intro d u h hd
    cases d <;> simp [freshD] at hd
    · cases h; exact .v _ _
    · exact leaf h
    · exact .any _ _
  | succ k ih =>
    intro d u h hd
    cases d <;> simp only [freshD, List.all_eq_true, Bool.false_eq_true] at hd
    · cases h; exact .v _ _
    · cases h with
      | agg _ cs vs hl h => exact .agg _ _ _ hl fun i d u h1 h2 => ih (h i d u h1 h2) (hd d (List.mem_of_getElem? h1))
    · cases h with
      | tup _ cs vs hl h => exact .tup _ _ _ hl fun i d u h1 h2 => ih (h i d u h1 h2) (hd d (List.mem_of_getElem? h1))
    · exact leaf h
    · exact .any _ _

/-- A plain contract whose result is fresh: own blocks may be among what the arguments read. -/
theorem call_freshL {P : Program} {f : FuncId} {args : List D} {d : D} {H : List Blk} {Q : D → List Blk → Prop} {lk : Nat → Option Blk} (hlk : ∀ b sz es, lk b = some (.live sz es) → H[b]? = some (.live sz es))
    (h : Maps P f (args.map (snap lk 5)) d) (hd : freshD 5 d = true) (hQ : Q d H) : CallSp P f args H Q := by
  refine ⟨h.1, fun w A φ vs hr hv => ?_⟩
  refine (h.2 w (both A φ).on vs (fun n hn => hn.elim (hr.lt n) (hr.olt n)) (hv.snap (B := ⟨(both A φ).on, w.heap.size⟩) hr hlk (fun n x => Or.inl x) (fun b sz es n base sz' room _ hp => Or.inr ⟨b, _, _, _, hp⟩) 5)).mono ?_
  rintro e w' ⟨v, A', rfl, h1, h2, h3, h4, h5⟩
  have hs : ∀ m, m < w.heap.size → w'.heap[m]? = w.heap[m]? := fun m hm => h5.same m hm fun x => x
  have hr1 := hr.move (w' := w') (fun m hm => hs m (hr.lt m hm)) (fun m hm => hs m (hr.olt m hm)) h5.size
  refine ⟨v, d, H, ⟨fun m => A m ∨ (A' m ∧ w.heap.size ≤ m), A.b0⟩, φ, rfl, hQ, ⟨hr1.out, hr1.free, hr1.dead, fun b sz es hb => (hr1.live b sz es hb).imp id fun ⟨n, base, room, c, ty, q1, q2⟩ =>
      ⟨n, base, room, c, ty, q1, q2.mono (fun _ x => Or.inl x) (fun _ _ => rfl) (fun _ => Loc.le_refl _) rfl⟩, fun b clk es hb => let ⟨n, ms, q1, q2⟩ := hr1.tab b clk es hb; ⟨n, ms, q1, q2.mono (fun _ x => Or.inl x) (fun _ _ => rfl) (fun _ => Loc.le_refl _) rfl⟩, hr1.inj, fun m hm ha => ?_, fun m hm => hm.elim (hr1.lt m) fun x => h4 m x.1, hr1.olt, hr1.ofr, hr1.bsz⟩,
    h1.freshUp (fun m hm hb => Or.inr ⟨hm, hb⟩) hr.bsz 5 hd, ⟨⟨h5.os, h5.tape, h5.output, h5.size, fun n hn _ => hs n hn, fun n hn => .inl hn⟩, fun _ x => Or.inl x, fun m hm => hm.imp id fun x => .inr x.2, fun _ => Loc.le_refl _, rfl⟩⟩
  rcases ha with ha | ha
  · exact hr1.dis m hm ha
  · have := hr.olt m hm; omega

theorem call_fresh {P : Program} {f : FuncId} {args : List D} {d : D} {H : List Blk} {Q : D → List Blk → Prop} (h : Maps P f (args.map (snap (fun b => H[b]?) 5)) d) (hd : freshD 5 d = true) (hQ : Q d H) : CallSp P f args H Q :=
  call_freshL (fun _ _ _ x => x) h hd hQ

/-- Those of the own blocks that are named. -/
def sel (ks : List Nat) (H : List Blk) (b : Nat) : Option Blk := if ks.contains b then H[b]? else none
def killL (H : List Blk) : List Nat → List Blk
  | [] => H
  | b :: ks => killL (H.set b .dead) ks

theorem freezeL {w : World} : ∀ (ks : List Nat) {A : Rd} {φ : Nat → Loc} {H : List Blk}, RH A φ w H → (∀ b ∈ ks, b < H.length) →
    ∃ (A' : Rd) (φ' : Nat → Loc), A'.b0 = A.b0 ∧ RH A' φ' w (killL H ks) ∧ (∀ m, A m → A' m) ∧ (∀ m, A' m → A m ∨ own φ m) ∧ (∀ b, (φ b).le (φ' b)) ∧ (∀ m, own φ' m → own φ m) ∧
      (∀ b ∈ ks, ∀ n base sz room, φ b = .loc n base sz room → A' n)
  | [], A, φ, H, hr, _ => ⟨A, φ, rfl, hr, fun _ x => x, fun _ => .inl, fun _ => Loc.le_refl _, fun _ x => x, fun b hb => by cases hb⟩
  | b :: ks, A, φ, H, hr, hk => by
    have hb := hk b (List.mem_cons_self ..)
    obtain ⟨A', φ', h0, h1, h2, h3, h4, h5, h6⟩ := freezeL ks (hr.freeze hb) fun b' hb' => by simpa using hk b' (List.mem_cons_of_mem _ hb')
    have hown : ∀ m, own (upd φ b .dead) m → own φ m := fun m hm => by
      rcases own_upd hm with ⟨_, _, _, e⟩ | ⟨b', _, _, _, _, e⟩
      · cases e
      · exact ⟨b', _, _, _, e⟩
    refine ⟨A', φ', h0, h1, fun m hm => h2 m (.inl hm), fun m hm => ?_, fun b' => Loc.le_trans (upd_le (.inr (.inl rfl)) b') (h4 b'), fun m hm => hown m (h5 m hm), fun b' hb' n base sz room hp => ?_⟩
    · rcases h3 m hm with (x | ⟨_, _, _, x⟩) | x
      · exact .inl x
      · exact .inr ⟨b, _, _, _, x⟩
      · exact .inr (hown m x)
    · by_cases e : b' = b
      · subst e; exact h2 n (.inr ⟨_, _, _, hp⟩)
      · exact h6 b' ((List.mem_cons.1 hb').resolve_left e) n base sz room (by rw [upd_other e]; exact hp)

/-- The function that a call leads to, and its arguments. -/
def callD (t : List D) (f : Operand) (args : List Operand) : Option (FuncId × List D) :=
  match ev t f with
  | .fn (.func g) first caps => some (g, first ++ (args.map (ev t) ++ caps))
  | _ => none

/-- The value of the guard. -/
def guardD (ops : List Oper) (t : List D) (j : Nat) : Option Bool :=
  match ops[j]? with
  | some o => match o.dst with
    | some i => match t[i]? with
      | some (.v (.bool b)) => some b
      | _ => none
    | none => none
  | none => none

/-- Is the callee the function to yield to a loop? -/
def yieldD (t : List D) (f : Operand) : Option Nat :=
  match ev t f with
  | .fn (.yield l) [] [] => some l
  | _ => none

theorem callD_yieldD {t : List D} {f : Operand} {args : List Operand} {x : FuncId × List D} (h : callD t f args = some x) : yieldD t f = none := by
  unfold callD at h
  unfold yieldD
  split at h
  · rename_i g first caps he; rw [he]
  · cases h

/-- What a call of a yield function comes to: a round of the loop, which leaves the yielder's own blocks, and what it reads, as they are. -/
def YOk (P : Program) (G : Gh) : Prop := ∀ l g ds vs K w (F : Fr), G.I g w F → VS F.A w F.φ ds vs → (∀ n, F.A n → n < w.heap.size) → (∀ n, F.O n → n < w.heap.size) → (∀ n, F.O n → ¬ F.A n) → F.A.b0 ≤ w.heap.size → G.Y l g ds K →
  ∃ l' f tmps assign body, (Instr.yield l vs).run P w = .ok (.round l' f tmps assign body) w ∧ RoundIn Fence.wide 0 P l' f tmps assign body w fun e w' =>
    ∃ b g', e = .returned (.bool b) ∧ K b g' ∧ G.I g' w' F ∧ (∀ n, F.O n ∨ F.A n → w'.heap[n]? = w.heap[n]?) ∧ w.heap.size ≤ w'.heap.size

def execO (P : Program) (G : Gh) (o : Oper) (st : St) (K : St → Prop) : Prop :=
  match o.op with
  | .call { callee := .value f, args, .. } => match yieldD st.t f with
    | some l => G.Y l st.g (args.toList.map (ev st.t)) fun b g' => K { t := setT st.t o.dst (.v (.bool b)), H := st.H, ds := st.ds, g := g' }
    | none => match callD st.t f args.toList with
      | some (g, xs) => CallSp P g xs st.H fun d H' => K { t := setT st.t o.dst d, H := H', ds := st.ds, g := st.g }
      | none => False
  | op => match stepD P st.H st.H.length st.t op with
    | some (d, e) => K { t := setT st.t o.dst d, H := e.seq st.H, ds := st.ds, g := st.g }
    | none => False

def runOps (P : Program) (G : Gh) (ops : List Oper) : List Oper → St → (St → Prop) → Prop
  | [], st, K => K st
  | o :: rest, st, K => match o.guard with
    | none => execO P G o st fun st' => runOps P G ops rest st' K
    | some (j, want) => match guardD ops st.t j with
      | some b => if b = want then execO P G o st fun st' => runOps P G ops rest st' K else runOps P G ops rest { st with t := setT st.t o.dst .any } K
      | none => False

def lift (G : Gh) (Q : Exit → St → Prop) (e : Exit) (a : Act) (w : World) : Prop := ∃ st, Q e st ∧ FR G st a w

def Sp (P : Program) (ro : Option Nat) (G : Gh) (c : Code) (st : St) (Q : Exit → St → Prop) : Prop :=
  ∀ a w, FR G st a w → c.wpIn (FW ro) 0 P (lift G Q) a w

section
variable {P : Program} {ro : Option Nat} {G : Gh} (hG : Stab G) (hY : YOk P G)

theorem Eff.app_seq {H : List Blk} {e : Eff} (h : ∀ b x, e = .upd b x → b < H.length) (h' : ∀ b x, e = .ren (some b) x → b < H.length) :
    (e = .keep ∨ ∃ b x, e = .upd b x) ∨ e.app (H ++ [.free]) H.length = e.seq H := by
  cases e with
  | keep => exact .inl (.inl rfl)
  | upd b x => exact .inl (.inr ⟨b, x, rfl⟩)
  | put x => right; simp [Eff.app, Eff.seq]
  | ren o x =>
    right
    cases o with
    | none => simp [Eff.app, Eff.seq, killO]
    | some b =>
      have := h' b x rfl
      simp only [Eff.app, Eff.seq, killO]
      rw [List.set_append_left _ _ this]
      simp

theorem upd_tab {P : Program} {H : List Blk} {t : TypeId} {m k v : D} {b : Nat} {x : Blk} (h : mapUpdD P H t m k v = some (b, x)) : ∃ y, H[b]? = some y ∧ y ≠ .free := by
  unfold mapUpdD at h
  split at h
  · split at h
    · rename_i hb
      split at h
      · cases h; exact ⟨_, hb, fun e => by cases e⟩
      · cases h; exact ⟨_, hb, fun e => by cases e⟩
      · cases h
    · cases h
  · cases h
theorem ent_tab {P : Program} {H : List Blk} {t : TypeId} {m k d : D} {b : Nat} {x : Blk} (h : mapEntD P H t m k = some (d, b, x)) : ∃ y, H[b]? = some y ∧ y ≠ .free := by
  unfold mapEntD at h
  split at h
  · split at h
    · rename_i hb
      split at h
      · cases h; exact ⟨_, hb, fun e => by cases e⟩
      · simp only [Option.map_eq_some_iff, Prod.mk.injEq] at h
        obtain ⟨_, _, _, rfl, _⟩ := h; exact ⟨_, hb, fun e => by cases e⟩
      · cases h
    · cases h
  · cases h
theorem sto_tab {H : List Blk} {m k v : D} {b : Nat} {x : Blk} (h : entStD H m k v = some (b, x)) : ∃ y, H[b]? = some y ∧ y ≠ .free := by
  unfold entStD at h
  split at h
  · split at h
    · rename_i hb
      split at h
      · cases h; exact ⟨_, hb, fun e => by cases e⟩
      · cases h
    · cases h
  · cases h
theorem stepD_upd {H : List Blk} {s : Nat} {t : List D} {op : Op} {d : D} {b : Nat} {x : Blk} (h : stepD P H s t op = some (d, .upd b x)) : ∃ y, H[b]? = some y ∧ y ≠ .free := by
  cases op <;> simp only [stepD, keepD, Option.map_eq_some_iff, Prod.mk.injEq, reduceCtorEq, and_false, exists_false, Option.some.injEq, Prod.exists] at h
  case makeMap _ r => cases r <;> simp [stepD] at h
  case mapUpdate => obtain ⟨_, _, h1, _, h2⟩ := h; cases h2; exact upd_tab h1
  case mapEntry => obtain ⟨_, _, _, h1, _, h2⟩ := h; cases h2; exact ent_tab h1
  case entryStore => obtain ⟨_, _, h1, _, h2⟩ := h; cases h2; exact sto_tab h1
  case slice => split at h <;> simp at h
  case box => split at h <;> simp at h
  case store =>
    obtain ⟨b', k, h1, _, h2⟩ := h
    cases h2
    unfold storeD at h1
    split at h1
    · split at h1
      · rename_i hb
        split at h1
        · split at h1
          · cases h1; exact ⟨_, hb, fun e => by cases e⟩
          · cases h1
        · cases h1
      · cases h1
    · cases h1
  case call c =>
    obtain ⟨cal, args, tys⟩ := c
    cases cal with
    | builtin bi =>
      simp only at h
      unfold builtinD at h
      split at h
      · split at h <;> simp at h
      · simp at h
      · simp at h
      · simp at h
      · cases h
    | value f => cases h
    | invoke r m => cases h

theorem stepD_ren {H : List Blk} {s : Nat} {t : List D} {op : Op} {d : D} {b : Nat} {x : Blk} (h : stepD P H s t op = some (d, .ren (some b) x)) : ∃ y, H[b]? = some y ∧ y ≠ .free := by
  cases op <;> simp only [stepD, keepD, Option.map_eq_some_iff, Prod.mk.injEq, reduceCtorEq, and_false, exists_false, Option.some.injEq] at h
  case makeMap _ r => cases r <;> simp [stepD] at h
  case slice => split at h <;> simp at h
  case box => split at h <;> simp at h
  case call c =>
    obtain ⟨cal, args, tys⟩ := c
    cases cal with
    | builtin bi =>
      simp only at h
      unfold builtinD at h
      split at h
      · split at h <;> simp at h
      · simp only [Option.map_eq_some_iff, Prod.mk.injEq, Prod.exists] at h
        obtain ⟨ob, sz, es, h1, _, h2⟩ := h
        simp only [Eff.ren.injEq] at h2
        obtain ⟨rfl, _⟩ := h2
        unfold appendD at h1
        split at h1
        · split at h1
          rotate_left
          · cases h1
          split at h1
          · split at h1
            · simp at h1
            · split at h1
              · rename_i hsz
                simp only [Option.some.injEq, Prod.mk.injEq] at h1
                obtain ⟨rfl, _⟩ := h1
                unfold Blk.hasSz at hsz
                split at hsz
                · rename_i hb; exact ⟨_, hb, fun e => by cases e⟩
                · cases hsz
              · cases h1
            · cases h1
          · cases h1
        · cases h1
      · simp at h
      · simp at h
      · cases h
    | value f => cases h
    | invoke r m => cases h

theorem stepD_seq (hG : Stab G) {st : St} {a : Act} {w : World} {A : Rd} {φ : Nat → Loc} (hr : FRc G st a w A φ) {o : Oper} {d : D} {e : Eff} (h : stepD P st.H st.H.length st.t o.op = some (d, e)) :
    ∃ x w' A' φ', Ran P a o w x w' ∧ FRc G { t := setT st.t o.dst d, H := e.seq st.H, ds := st.ds, g := st.g } (a.put o.dst x) w' A' φ' := by
  have hsub : Sub st.H (st.H ++ [.free]) := fun b sz es hb => by
    rw [List.getElem?_append_left (List.getElem?_eq_some_iff.1 hb).1]; exact hb
  have hsubT : SubT st.H (st.H ++ [.free]) := fun b c es hb => by
    rw [List.getElem?_append_left (List.getElem?_eq_some_iff.1 hb).1]; exact hb
  have hk : ∃ x w' A' φ', Ran P a o w x w' ∧ FRc G { t := setT st.t o.dst d, H := e.app (st.H ++ [.free]) st.H.length, ds := st.ds, g := st.g } (a.put o.dst x) w' A' φ' :=
    stepD_ok hG hr.room (s := st.H.length) (by simp) (Hm := st.H) hsub hsubT h
  obtain ⟨x, w', A', φ', h1, h2⟩ := hk
  refine ⟨x, w', A', φ', h1, ?_⟩
  have drop : ∀ {H : List Blk}, FRc G { t := setT st.t o.dst d, H := H ++ [.free], ds := st.ds, g := st.g } (a.put o.dst x) w' A' φ' → FRc G { t := setT st.t o.dst d, H := H, ds := st.ds, g := st.g } (a.put o.dst x) w' A' φ' := fun {H} h => by
    refine ⟨⟨fun b hb => ?_, fun b hb => ?_, fun b hb => ?_, fun b sz es hb => ?_, fun b clk es hb => ?_, h.rh.inj, h.rh.dis, h.rh.lt, h.rh.olt, h.rh.ofr, h.rh.bsz⟩, h.tr, h.gh, h.df, h.dk, h.nd⟩
    · rcases Nat.lt_trichotomy b H.length with hl | hl | hl
      · rw [List.getElem?_eq_none_iff] at hb; exact absurd hb (Nat.not_le_of_lt hl)
      · exact h.rh.free b (by subst hl; simp)
      · exact h.rh.out b (by simp; omega)
    · exact h.rh.free b (by rw [List.getElem?_append_left (List.getElem?_eq_some_iff.1 hb).1]; exact hb)
    · exact h.rh.dead b (by rw [List.getElem?_append_left (List.getElem?_eq_some_iff.1 hb).1]; exact hb)
    · exact h.rh.live b sz es (by rw [List.getElem?_append_left (List.getElem?_eq_some_iff.1 hb).1]; exact hb)
    · exact h.rh.tab b clk es (by rw [List.getElem?_append_left (List.getElem?_eq_some_iff.1 hb).1]; exact hb)
  rcases Eff.app_seq (H := st.H) (e := e) (fun b x he => let ⟨_, h, _⟩ := stepD_upd (he ▸ h); (List.getElem?_eq_some_iff.1 h).1) (fun b x he => let ⟨_, h, _⟩ := stepD_ren (he ▸ h); (List.getElem?_eq_some_iff.1 h).1) with (rfl | ⟨b, y, rfl⟩) | he
  · exact drop h2
  · refine drop ?_
    obtain ⟨_, hb, _⟩ := stepD_upd h
    replace hb := (List.getElem?_eq_some_iff.1 hb).1
    simp only [Eff.app, Eff.seq] at h2 ⊢
    rwa [List.set_append_left _ _ hb] at h2
  · rwa [he] at h2

theorem guard_ok {ops : List Oper} {A : Rd} {w : World} {φ : Nat → Loc} {t : List D} {tmps : Array Value} (ht : TR A w φ t tmps) {j : Nat} {b : Bool} (h : guardD ops t j = some b) :
    yielded ops.toArray tmps j = some b := by
  unfold guardD at h
  split at h
  · rename_i o ho
    split at h
    · rename_i i hi
      split at h
      · rename_i b' hb
        cases h
        have hlt : i < tmps.size := by rw [ht.size]; exact (List.getElem?_eq_some_iff.1 hb).1
        have hv := (ht.val i _ tmps[i] hb (by simp [hlt])).v_inv
        simp [yielded, ho, hi, hlt, hv]
      · cases h
    · cases h
  · cases h

theorem CallSp.any {f : FuncId} {args : List D} {H : List Blk} {Q : D → List Blk → Prop} (h : CallSp P f args H Q) (ro : Option Nat) (w : World) (A : Rd) (φ : Nat → Loc) (vs : Array Value)
    (hr : RH A φ w H) (hv : VS A w φ args vs) : CallsIn (FW ro) 0 P f vs w fun e w' => ∃ (v : Value) (d : D) (H' : List Blk) (A' : Rd) (φ' : Nat → Loc), e = .returned v ∧ Q d H' ∧ RH A' φ' w' H' ∧ V A' w' φ' d v ∧ Evo w A φ w' A' φ' :=
  h.2 w A φ vs hr hv

theorem FRc.evo (hG : Stab G) {st : St} {a : Act} {w w' : World} {A A' : Rd} {φ φ' : Nat → Loc} (h : FRc G st a w A φ) {H' : List Blk} (hr : RH A' φ' w' H') (he : Evo w A φ w' A' φ') :
    FRc G { st with H := H' } a w' A' φ' := h.step hG hr he.ext he.up he.new he.le he.b0

theorem execO_ok (hG : Stab G) (hY : YOk P G) {st : St} {a : Act} {w : World} {o : Oper} {K : St → Prop} {next : Act → World → Prop} {Q : Exit → Act → World → Prop} (hr : FR G st a w) (h : execO P G o st K)
    (hK : ∀ st' a' w', K st' → FR G st' a' w' → next a' w') : o.wpIn (FW ro) 0 P a w next Q := by
  obtain ⟨A, φ, hr⟩ := hr
  refine ⟨fun _ _ => trivial, ?_⟩
  have plain : ∀ {d : D} {e : Eff}, stepD P st.H st.H.length st.t o.op = some (d, e) → K { t := setT st.t o.dst d, H := e.seq st.H, ds := st.ds, g := st.g } → (∀ c, o.op ≠ .defer c) →
      o.uponIn (FW ro) 0 P a next Q ((o.semAt (FW ro).round a.eval).run P w) := fun {d e} h1 h2 h3 => by
    obtain ⟨x, w', A', φ', h4, h5⟩ := stepD_seq hG hr h1
    rw [Oper.semAt_eq _ _ _ h3]
    rcases h4 with h4 | ⟨h4, rfl⟩
    · rw [h4]; exact hK _ _ _ h2 ⟨A', φ', h5⟩
    · rw [h4]; exact hK _ _ _ h2 ⟨A', φ', h5⟩
  have rest : (match stepD P st.H st.H.length st.t o.op with | some (d, e) => K { t := setT st.t o.dst d, H := e.seq st.H, ds := st.ds, g := st.g } | none => False) → (∀ c, o.op ≠ .defer c) →
      o.uponIn (FW ro) 0 P a next Q ((o.semAt (FW ro).round a.eval).run P w) := fun h1 h3 => by
    split at h1
    · rename_i d e h2; exact plain h2 h1 h3
    · exact h1.elim
  cases ho : o.op with
  | call c =>
    obtain ⟨cal, args, tys⟩ := c
    cases cal with
    | value f =>
      unfold execO at h
      rw [ho] at h
      simp only at h
      split at h
      · rename_i l hl
        unfold yieldD at hl
        split at hl
        · rename_i l' hf
          cases hl
          have hvf := hr.tr.ev f
          rw [hf] at hvf
          generalize hu : a.eval f = u at hvf
          cases hvf with
          | fn _ _ _ _ vs us hl hl' hh hh' =>
            obtain rfl : vs = #[] := Array.eq_empty_of_size_eq_zero hl
            obtain rfl : us = #[] := Array.eq_empty_of_size_eq_zero hl'
            have hvs : VS A w φ (args.toList.map (ev st.t)) (args.map a.eval) := by
              refine ⟨by simp, fun i d u h1 h2 => ?_⟩
              simp only [List.getElem?_map, Option.map_eq_some_iff, Array.getElem?_map, Array.getElem?_toList] at h1 h2
              obtain ⟨x, h1, rfl⟩ := h1
              obtain ⟨y, h2, rfl⟩ := h2
              rw [h1] at h2; cases h2; exact hr.tr.ev x
            have hsz : ∀ n, ownAll φ st.ds n → n < w.heap.size := fun n hn => hn.elim (hr.rh.olt n) fun hm => (Array.getElem?_eq_some_iff.1 (hr.dk n hm).1).1
            have hdj : ∀ n, ownAll φ st.ds n → ¬ A n := fun n hn => hn.elim (hr.rh.dis n) fun hm => (hr.dk n hm).2.1
            obtain ⟨l', f', tmps, asg, body, h1, h2⟩ := hY l st.g _ _ _ w _ hr.gh hvs hr.rh.lt hsz hdj hr.rh.bsz h
            have hsem : (o.semAt (FW ro).round a.eval).run P w = .ok (.round l' f' tmps asg body) w := by
              rw [Oper.semAt_eq _ _ _ (by rw [ho]; simp)]
              simp only [execOp, ho, resolve, hu, Deferred.ofValue, Sem.run_bind, Sem.run_pure, Result.andThen, invoke]
              simpa using h1
            rw [hsem]
            refine ⟨fun hd => by simp [FW, Fence.wide] at hd, RoundIn.mono (F := FW ro) h2 ?_⟩
            rintro e w' ⟨b, g', rfl, k1, k2, k3, k4⟩
            have hr' : FRc G { t := st.t, H := st.H, ds := st.ds, g := g' } a w' A φ :=
              ⟨hr.rh.move (fun m hm => k3 m (.inr hm)) (fun m hm => k3 m (.inl (.inl hm))) k4, hr.tr.mono (fun _ x => x) (fun m hm => k3 m (.inr hm)) (fun _ => Loc.le_refl _), k2, hr.df,
                fun r hm => ⟨(k3 r (.inl (.inr hm))).trans (hr.dk r hm).1, (hr.dk r hm).2⟩, hr.nd⟩
            exact hK _ _ _ k1 ⟨A, φ, hr'.value o.dst (.v _ _)⟩
        · cases hl
      · rename_i hyl
        split at h
        · rename_i g xs hc
          unfold callD at hc
          split at hc
          · rename_i g' first caps hf
            simp only [Option.some.injEq, Prod.mk.injEq] at hc
            obtain ⟨rfl, rfl⟩ := hc
            have hvf := hr.tr.ev f
            rw [hf] at hvf
            generalize hu : a.eval f = u at hvf
            cases hvf with
            | fn _ _ _ _ vs us hl hl' hh hh' =>
              have hsem : (o.semAt (FW ro).round a.eval).run P w = .ok (.enter g' (vs ++ args.map a.eval ++ us)) w := by
                rw [Oper.semAt_eq _ _ _ (by rw [ho]; simp)]
                simp only [execOp, ho, resolve, hu, Deferred.ofValue, Sem.run_bind, Sem.run_pure, Result.andThen, invoke]
                exact h.1 _ _
              rw [hsem]
              refine ⟨fun hd => by simp [FW, Fence.wide] at hd, ?_⟩
              have hvs : VS A w φ (first ++ (args.toList.map (ev st.t) ++ caps)) (vs ++ args.map a.eval ++ us) := by
                refine ⟨by simp [hl, hl'], fun i d u h1 h2 => ?_⟩
                rw [Array.append_assoc, Array.getElem?_append] at h2
                rw [List.getElem?_append] at h1
                split at h1
                · rename_i hi
                  rw [if_pos (by omega)] at h2
                  exact hh i d u h1 h2
                · rename_i hi
                  rw [if_neg (by omega), Array.getElem?_append] at h2
                  rw [List.getElem?_append] at h1
                  rw [hl] at h2
                  simp only [Array.size_map] at h2
                  split at h1
                  · rename_i hi2
                    rw [if_pos (by simpa using hi2)] at h2
                    simp only [List.getElem?_map, Option.map_eq_some_iff, Array.getElem?_map, Array.getElem?_toList] at h1 h2
                    obtain ⟨x, h1, rfl⟩ := h1
                    obtain ⟨y, h2, rfl⟩ := h2
                    rw [h1] at h2; cases h2; exact hr.tr.ev x
                  · rename_i hi2
                    rw [if_neg (by simpa using hi2)] at h2
                    simp only [List.length_map, Array.length_toList] at h1
                    exact hh' _ d u h1 h2
              refine (h.any ro w A φ _ hr.rh hvs).mono ?_
              rintro e w' ⟨v, d, H', A', φ', rfl, q, h1, h2, h3⟩
              exact hK _ _ _ q ⟨A', φ', (hr.evo hG h1 h3).value o.dst h2⟩
          · cases hc
        · exact h.elim
    | builtin b => exact rest (by unfold execO at h; rw [ho] at h; rw [ho]; exact h) (by rw [ho]; simp)
    | invoke r m => exact rest (by unfold execO at h; rw [ho] at h; rw [ho]; exact h) (by rw [ho]; simp)
  | defer c => unfold execO at h; rw [ho] at h; exact h.elim
  | _ => exact rest (by unfold execO at h; rw [ho] at h; rw [ho]; exact h) (by rw [ho]; simp)

theorem runOps_ok (hG : Stab G) (hY : YOk P G) {ops : List Oper} {Q : Exit → Act → World → Prop} {K : St → Prop} (hK : ∀ st' a' w', K st' → FR G st' a' w' → Q .normal a' w') : ∀ (l : List Oper) (st : St) (a : Act) (w : World), FR G st a w → runOps P G ops l st K →
    wpListIn (FW ro) 0 P ops.toArray Q l a w
  | [], st, a, w, hr, h => hK st a w h hr
  | o :: l, st, a, w, hr, h => by
    have ih := runOps_ok (ops := ops) hG hY hK l
    unfold runOps at h
    unfold wpListIn
    split at h
    · rename_i hg
      rw [if_pos (by simp [Region.wanted, hg])]
      exact execO_ok hG hY hr h fun st' a' w' h1 h2 => ih st' a' w' h2 h1
    · rename_i j want hg
      split at h
      · rename_i b hb
        obtain ⟨A, φ, hr'⟩ := hr
        have hy := guard_ok (ops := ops) hr'.tr hb
        have hw : Region.wanted o (yielded ops.toArray a.tmps) = (b == want) := by simp [Region.wanted, hg, hy]
        rw [hw]
        split at h
        · rename_i hbw
          rw [if_pos (by simpa using hbw)]
          exact execO_ok hG hY ⟨A, φ, hr'⟩ h fun st' a' w' h1 h2 => ih st' a' w' h2 h1
        · rename_i hbw
          rw [if_neg (by simpa using hbw)]
          exact ⟨fun _ _ => trivial, ih _ _ _ ⟨A, φ, hr'.value o.dst (.any _ _)⟩ h⟩
      · exact h.elim

theorem Sp.mono {c : Code} {st : St} {Q Q' : Exit → St → Prop} (h : Sp P ro G c st Q) (k : ∀ e s, Q e s → Q' e s) : Sp P ro G c st Q' :=
  fun a w hr => wpIn_mono (h a w hr) fun e _ _ ⟨s, q, r⟩ => ⟨s, k e s q, r⟩

theorem Sp_region (hG : Stab G) (hY : YOk P G) {id : Nat} {ops : List Oper} {st : St} {Q : Exit → St → Prop} (h : runOps P G ops ops st (Q .normal)) : Sp P ro G (.region id ops.toArray false) st Q :=
  fun a w hr => wpIn_region_lit (runOps_ok hG hY (fun st' _ _ q r => ⟨st', q, r⟩) ops st a w hr h)

theorem Sp_seq {x y : Code} {st : St} {Q : Exit → St → Prop} (h : Sp P ro G x st fun e s => match e with | .normal => Sp P ro G y s Q | e => Q e s) : Sp P ro G (.seq x y) st Q :=
  fun a w hr => wpIn_seq (wpIn_mono (h a w hr) fun e a w ⟨s, q, r⟩ => by
    cases e with
    | normal => exact q a w r
    | _ => exact ⟨s, q, r⟩)

theorem Sp_cond {c : Operand} {x y : Code} {st : St} {Q : Exit → St → Prop} {b : Bool} (hc : ev st.t c = .v (.bool b)) (hx : b = true → Sp P ro G x st Q) (hy : b = false → Sp P ro G y st Q) : Sp P ro G (.cond c x y) st Q :=
  fun a w hr => by
    obtain ⟨A, φ, hr'⟩ := hr
    have hv := hr'.tr.ev c
    rw [hc] at hv
    refine wpIn_cond hv.v_inv ?_
    cases b with
    | true => exact hx rfl a w ⟨A, φ, hr'⟩
    | false => exact hy rfl a w ⟨A, φ, hr'⟩

def QBlock (id : Nat) (Q : Exit → St → Prop) : Exit → St → Prop
  | .exit id', s => if id' = id then Q .normal s else Q (.exit id') s
  | e, s => Q e s

theorem Sp_block {id : Nat} {c : Code} {st : St} {Q : Exit → St → Prop} (h : Sp P ro G c st (QBlock id Q)) : Sp P ro G (.block id c) st Q :=
  fun a w hr => wpIn_block (wpIn_mono (h a w hr) fun e a w ⟨s, q, r⟩ => by
    cases e with
    | exit id' =>
      simp only [Exit.inBlock, QBlock] at q ⊢
      split
      · rename_i hi; rw [if_pos hi] at q; exact ⟨s, q, r⟩
      · rename_i hi; rw [if_neg hi] at q; exact ⟨s, q, r⟩
    | _ => exact ⟨s, q, r⟩)

theorem exists_least {p : Nat → Prop} (h : ∃ n, p n) : ∃ n, p n ∧ ∀ m, p m → n ≤ m := by
  obtain ⟨n, hn⟩ := h
  induction n using Nat.strongRecOn with
  | _ n ih =>
    by_cases hm : ∃ m, m < n ∧ p m
    · obtain ⟨m, h1, h2⟩ := hm; exact ih m h1 h2
    · refine ⟨n, hn, fun m h2 => Nat.le_of_not_lt fun h1 => hm ⟨m, h1, h2⟩⟩

open Classical in
noncomputable def leastOf (p : Nat → Prop) : Nat := if h : ∃ n, p n then Classical.choose (exists_least h) else 0
theorem leastOf_spec {p : Nat → Prop} (h : ∃ n, p n) : p (leastOf p) ∧ ∀ m, p m → leastOf p ≤ m := by
  unfold leastOf
  rw [dif_pos h]
  exact Classical.choose_spec (exists_least h)

/-- A loop: I j holds where at most j rounds are left. -/
theorem Sp_loop {c : Code} {st : St} {Q : Exit → St → Prop} (I : Nat → St → Prop) (h0 : ∃ j, I j st)
    (h : ∀ j s, I j s → Sp P ro G c s fun e s' => match e with | .normal => ∃ j', j' < j ∧ I j' s' | e => Q e s') : Sp P ro G (.loop c) st Q := fun a w hr => by
  refine wpIn_loop (fun a w => ∃ j s, I j s ∧ FR G s a w) (fun a w => leastOf fun j => ∃ s, I j s ∧ FR G s a w) ?_ ?_
  · obtain ⟨j, hj⟩ := h0; exact ⟨j, st, hj, hr⟩
  · intro a w hI
    obtain ⟨⟨s, h1, h2⟩, _⟩ := leastOf_spec hI
    refine wpIn_mono (h _ s h1 a w h2) fun e a' w' ⟨s', q, r⟩ => ?_
    cases e with
    | normal =>
      obtain ⟨j', hj, hI'⟩ := q
      have := (leastOf_spec (p := fun j => ∃ s, I j s ∧ FR G s a' w') ⟨j', s', hI', r⟩).2 j' ⟨s', hI', r⟩
      exact ⟨⟨j', s', hI', r⟩, by show leastOf _ < leastOf _; omega⟩
    | _ => exact ⟨s', q, r⟩

/-- What has to be shown of code; a loop, or a range over a function, stays as it is. -/
def vc (P : Program) (ro : Option Nat) (G : Gh) : Code → St → (Exit → St → Prop) → Prop
  | .skip, st, Q => Q .normal st
  | .region _ ops false, st, Q => runOps P G ops.toList ops.toList st (Q .normal)
  | .seq x y, st, Q => vc P ro G x st fun e s => match e with | .normal => vc P ro G y s Q | e => Q e s
  | .cond c x y, st, Q => match ev st.t c with
    | .v (.bool b) => (b = true → vc P ro G x st Q) ∧ (b = false → vc P ro G y st Q)
    | _ => False
  | .block id c, st, Q => vc P ro G c st (QBlock id Q)
  | .exit id, st, Q => Q (.exit id) st
  | .ret, st, Q => Q .ret st
  | c, st, Q => Sp P ro G c st Q

theorem vc_ok (hG : Stab G) (hY : YOk P G) : ∀ (c : Code) {st : St} {Q : Exit → St → Prop}, vc P ro G c st Q → Sp P ro G c st Q
  | .skip, st, Q, h => fun _ _ hr => wpIn_skip ⟨st, h, hr⟩
  | .region id ops draw, st, Q, h => by
    cases draw with
    | true => exact h
    | false =>
      obtain ⟨ops, rfl⟩ : ∃ l : List Oper, l.toArray = ops := ⟨ops.toList, by simp⟩
      exact Sp_region hG hY (by simpa [vc] using h)
  | .seq x y, st, Q, h => Sp_seq ((vc_ok hG hY x h).mono fun e s q => by
      cases e with
      | normal => exact vc_ok hG hY y q
      | _ => exact q)
  | .cond c x y, st, Q, h => by
    unfold vc at h
    split at h
    · rename_i b hb; exact Sp_cond hb (fun e => vc_ok hG hY x (h.1 e)) fun e => vc_ok hG hY y (h.2 e)
    · exact h.elim
  | .block id c, st, Q, h => Sp_block (vc_ok hG hY c h)
  | .exit id, st, Q, h => fun _ _ hr => wpIn_exit ⟨st, h, hr⟩
  | .ret, st, Q, h => fun _ _ hr => wpIn_ret ⟨st, h, hr⟩
  | .loop c, st, Q, h => h
  | .rangeFunc _ _ _ _, st, Q, h => h
  | .scope _, st, Q, h => h
  | .label _, st, Q, h => h
  | .goto _, st, Q, h => h
  | .refuse _, st, Q, h => h
end
end
end Go.DL
