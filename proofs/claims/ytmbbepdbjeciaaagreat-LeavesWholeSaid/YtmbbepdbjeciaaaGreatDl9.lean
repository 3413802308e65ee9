/- One operation that is no call of a function, over abstract values. -/
import Derived.Test.YtmbbepdbjeciaaaGreatDl8
set_option linter.all false
namespace Go.DL
open Go.RowKit

noncomputable section

/-- What an operation does to the own blocks; s: a place for a new one. -/
inductive Eff where
  | keep
  | put (x : Blk)
  | upd (b : Nat) (x : Blk)
  | ren (o : Option Nat) (x : Blk)

def Eff.app (H : List Blk) (s : Nat) : Eff → List Blk
  | .keep => H
  | .put x => H.set s x
  | .upd b x => H.set b x
  | .ren o x => (killO H o).set s x

/-- The same with the new block behind all others. -/
def Eff.seq (H : List Blk) : Eff → List Blk
  | .keep => H
  | .put x => H ++ [x]
  | .upd b x => H.set b x
  | .ren o x => killO H o ++ [x]

def maxD (op : BinOp) (x y : D) : Option D :=
  match x, y with
  | .v (.int k a), .v (.int k' b) => if k = k' then match op with
      | .gtr => some (.v (.int k (if b > a then b else a)))
      | .lss => some (.v (.int k (if b < a then b else a)))
      | _ => none
    else none
  | _, _ => none

def builtinD (P : Program) (H : List Blk) (s : Nat) (b : Builtin) (args : List D) (tys : List TypeId) : Option (D × Eff) :=
  match b, args, tys with
  | .len, [x], [t] => match P.underlying t with
    | some (.slice _) => (lenD x).map fun n => (.v (.int .i64 n), .keep)
    | _ => none
  | .append, [x, y], [t, t'] => (appendD P H t t' x y).map fun (o, sz, es) => (.ms s 0 es.length es.length, .ren o (.live sz es))
  | .max, [x, y], _ => (maxD .gtr x y).map fun d => (d, .keep)
  | .min, [x, y], _ => (maxD .lss x y).map fun d => (d, .keep)
  | _, _, _ => none

def keepD (d : Option D) : Option (D × Eff) := d.map fun d => (d, .keep)

def stepD (P : Program) (H : List Blk) (s : Nat) (t : List D) : Op → Option (D × Eff)
  | .move x => some (ev t x, .keep)
  | .assign x => some (ev t x, .keep)
  | .pick c a b => keepD (pickD (ev t c) (ev t a) (ev t b))
  | .binOp op ty x y _ => keepD (binD P op ty (ev t x) (ev t y))
  | .unOp op _ x => keepD (unD op (ev t x))
  | .convert src dst x => keepD (convD P src dst (ev t x))
  | .extract x i => keepD (extractD (ev t x) i)
  | .field ty x f => keepD (fieldD P ty f (ev t x))
  | .index ty x i => keepD (indexD P ty (ev t x) (ev t i))
  | .fieldAddr ty x f => keepD (fieldAddrD P ty f (ev t x))
  | .indexAddr ty x i => keepD (indexAddrD P H ty (ev t x) (ev t i))
  | .slice ty x lo hi mx => if mx.isSome = true ∧ hi.isSome = false then none else keepD (sliceD P H ty (ev t x) (lo.map (ev t)) (hi.map (ev t)) (mx.map (ev t)))
  | .load ty p => keepD (loadD P H ty (ev t p))
  | .nilCheck x => keepD (nilCheckD (ev t x))
  | .makeFunc f a b => some (.fn f (a.toList.map (ev t)) (b.toList.map (ev t)), .keep)
  | .build ty ps => keepD (buildD P ty (ps.toList.map fun p => (p.1, ev t p.2)))
  | .buildSlice ty len ps => (buildSliceD P ty len (ps.toList.map fun p => (p.1, ev t p.2))).map fun (sz, es) => (.ms s 0 len len, .put (.live sz es))
  | .makeSlice ty l c => (makeSliceD P ty (ev t l) (ev t c)).map fun (ln, cn, sz, es) => (.ms s 0 ln cn, .put (.live sz es))
  | .alloc ty => (zeroD P ty).map fun z => (.mp s 0 0, .put (.live z.length [z]))
  | .box _ x => if (cellsD (ev t x)).all isCell = true then some (.mp s 0 0, .put (.live (cellsD (ev t x)).length [cellsD (ev t x)])) else none
  | .store ty p x => (storeD P H ty (ev t p) (ev t x)).map fun (b, k) => (.any, .upd b k)
  | .call { callee := .builtin b, args, argTypes } => builtinD P H s b (args.toList.map (ev t)) argTypes.toList
  | _ => none

/-- The run of an operation that goes through. -/
def Ran (P : Program) (a : Act) (o : Oper) (w : World) (x : Value) (w' : World) : Prop :=
  (execOp a.eval o).run P w = .ok (.value x) w' ∨ ((execOp a.eval o).run P w = .ok .skip w' ∧ x = undef)

section
variable {P : Program} {G : Gh} (hG : Stab G) {st : St} {a : Act} {w : World} {A : Rd} {φ : Nat → Loc}

theorem run_maxD {x y d : D} {u v : Value} (hx : V A w φ x u) (hy : V A w φ y v) :
    (maxD .gtr x y = some d → ∃ r, (Builtin.max_ #[] 0 #[u, v]).run P w = .ok r w ∧ V A w φ d r) ∧
    (maxD .lss x y = some d → ∃ r, (Builtin.min_ #[] 0 #[u, v]).run P w = .ok r w ∧ V A w φ d r) := by
  constructor
  all_goals
    intro h
    unfold maxD at h
    split at h
    · have := hx.v_inv; subst this
      have := hy.v_inv; subst this
      split at h
      · rename_i hk; subst hk
        simp only [Option.some.injEq] at h
        subst h
        exact ⟨_, rfl, .v _ _⟩
      · cases h
    · cases h

theorem stepD_ok (hG : Stab G) (hr : FRc G st a w A φ) {s : Nat} (hs : st.H[s]? = some .free) {Hm : List Blk} (hsub : Sub Hm st.H) {o : Oper} {d : D} {e : Eff} (h : stepD P Hm s st.t o.op = some (d, e)) :
    ∃ x w' A' φ', Ran P a o w x w' ∧ FRc G { t := setT st.t o.dst d, H := e.app st.H s, ds := st.ds, g := st.g } (a.put o.dst x) w' A' φ' := by
  have ve := hr.tr.ev
  have fin : ∀ {m : Sem Value} {r : Value} {d : D}, execOp a.eval o = (do pure (.value (← m))) → m.run P w = .ok r w → V A w φ d r →
      ∃ x w' A' φ', Ran P a o w x w' ∧ FRc G { t := setT st.t o.dst d, H := st.H, ds := st.ds, g := st.g } (a.put o.dst x) w' A' φ' := fun {m r d} h1 h2 h3 =>
    ⟨r, w, A, φ, .inl (by rw [h1]; simp [h2]), hr.value o.dst h3⟩
  have finP : ∀ {m : Sem Value} {r : Value} {w' : World} {φ' : Nat → Loc} {d : D} {H' : List Blk}, execOp a.eval o = (do pure (.value (← m))) → m.run P w = .ok r w' → V A w' φ' d r →
      FRc G { st with H := H' } a w' A φ' → ∃ x w' A' φ', Ran P a o w x w' ∧ FRc G { t := setT st.t o.dst d, H := H', ds := st.ds, g := st.g } (a.put o.dst x) w' A' φ' := fun {m r w' φ' d H'} h1 h2 h3 h4 =>
    ⟨r, w', A, φ', .inl (by rw [h1]; simp [h2]), h4.value o.dst h3⟩
  have kd : ∀ {q : Option D} {d : D} {e : Eff}, keepD q = some (d, e) → q = some d ∧ e = .keep := fun {q d e} h => by
    simp only [keepD, Option.map_eq_some_iff, Prod.mk.injEq] at h
    obtain ⟨_, h1, rfl, rfl⟩ := h; exact ⟨h1, rfl⟩
  cases ho : o.op with
  | move x =>
    rw [ho] at h; simp only [stepD, Option.some.injEq, Prod.mk.injEq] at h; obtain ⟨rfl, rfl⟩ := h
    exact ⟨_, w, A, φ, .inl (by simp only [execOp, ho]; rfl), hr.value o.dst (ve x)⟩
  | assign x =>
    rw [ho] at h; simp only [stepD, Option.some.injEq, Prod.mk.injEq] at h; obtain ⟨rfl, rfl⟩ := h
    exact ⟨_, w, A, φ, .inl (by simp only [execOp, ho]; rfl), hr.value o.dst (ve x)⟩
  | pick c x y =>
    rw [ho] at h; obtain ⟨h1, rfl⟩ := kd h
    have hc := ve c
    unfold pickD at h1
    split at h1
    · rename_i b hb
      rw [hb] at hc
      have hcv := hc.v_inv
      cases h1
      refine ⟨if b then a.eval x else a.eval y, w, A, φ, .inl (by simp [execOp, ho, hcv, asBool]), hr.value o.dst ?_⟩
      cases b <;> simp only [Bool.false_eq_true, if_false, if_true]
      · exact ve y
      · exact ve x
    · cases h1
  | binOp op ty x y ty' =>
    rw [ho] at h; obtain ⟨h1, rfl⟩ := kd h
    obtain ⟨r, h2, h3⟩ := run_binD (P := P) x y (ve x) (ve y) h1
    exact fin (by simp only [execOp, ho]) h2 h3
  | unOp op ty x =>
    rw [ho] at h; obtain ⟨h1, rfl⟩ := kd h
    obtain ⟨r, h2, h3⟩ := run_unD (P := P) (ve x) h1
    exact fin (by simp only [execOp, ho]) h2 h3
  | convert src dst x =>
    rw [ho] at h; obtain ⟨h1, rfl⟩ := kd h
    obtain ⟨r, h2, h3⟩ := run_convD (P := P) (ve x) h1
    exact fin (by simp only [execOp, ho]) h2 h3
  | extract x i =>
    rw [ho] at h; obtain ⟨h1, rfl⟩ := kd h
    obtain ⟨r, h2, h3⟩ := run_extractD (P := P) (ve x) h1
    exact fin (by simp only [execOp, ho]) h2 h3
  | field ty x f =>
    rw [ho] at h; obtain ⟨h1, rfl⟩ := kd h
    obtain ⟨r, h2, h3⟩ := run_fieldD (P := P) (ve x) h1
    exact fin (by simp only [execOp, ho]) h2 h3
  | index ty x i =>
    rw [ho] at h; obtain ⟨h1, rfl⟩ := kd h
    obtain ⟨r, h2, h3⟩ := run_indexD (P := P) (ve x) (ve i) h1
    exact fin (by simp only [execOp, ho]) h2 h3
  | fieldAddr ty x f =>
    rw [ho] at h; obtain ⟨h1, rfl⟩ := kd h
    obtain ⟨r, h2, h3⟩ := run_fieldAddrD (P := P) (ve x) h1
    exact fin (by simp only [execOp, ho]) h2 h3
  | indexAddr ty x i =>
    rw [ho] at h; obtain ⟨h1, rfl⟩ := kd h
    obtain ⟨r, h2, h3⟩ := run_indexAddrD (P := P) (H := Hm) (fun b sz es hb => (hr.rh.live b sz es (hsub _ _ _ hb)).imp (·.2) fun ⟨n, base, room, _, _, h, _⟩ => ⟨n, base, room, h⟩) (ve x) (ve i) h1
    exact fin (by simp only [execOp, ho]) h2 h3
  | slice ty x lo hi mx =>
    rw [ho] at h
    simp only [stepD] at h
    split at h
    · cases h
    · rename_i hc
      obtain ⟨h1, rfl⟩ := kd h
      obtain ⟨r, h2, h3⟩ := run_sliceD (P := P) hr.rh hsub hr.tr x lo hi mx h1 (fun hm => by
        cases hi with
        | some _ => rfl
        | none => exact absurd ⟨hm, rfl⟩ hc)
      exact fin (by simp only [execOp, ho]) h2 h3
  | load ty p =>
    rw [ho] at h; obtain ⟨h1, rfl⟩ := kd h
    obtain ⟨r, h2, h3⟩ := run_loadD (P := P) hr.rh hsub (ve p) h1
    exact fin (by simp only [execOp, ho]) h2 h3
  | nilCheck x =>
    rw [ho] at h; obtain ⟨h1, rfl⟩ := kd h
    have hx := ve x
    unfold nilCheckD at h1
    split at h1
    · rename_i cs hcs
      cases h1
      rw [hcs] at hx
      generalize hu : a.eval x = u at hx
      refine ⟨u, w, A, φ, .inl ?_, hr.value o.dst hx⟩
      cases hx with
      | rp _ _ n off v ha hc hh => simp only [execOp, ho, hu]; rfl
    · rename_i b i f hcs
      cases h1
      rw [hcs] at hx
      generalize hu : a.eval x = u at hx
      refine ⟨u, w, A, φ, .inl ?_, hr.value o.dst hx⟩
      cases hx with
      | mp _ _ _ _ y hh => simp only [execOp, ho, hu]; rfl
    · rename_i f p q hcs
      cases h1
      rw [hcs] at hx
      generalize hu : a.eval x = u at hx
      refine ⟨u, w, A, φ, .inl ?_, hr.value o.dst hx⟩
      cases hx with
      | fn _ _ _ _ vs us hl hl' hh hh' => simp only [execOp, ho, hu]; rfl
    · cases h1
  | makeFunc f p q =>
    rw [ho] at h; simp only [stepD, Option.some.injEq, Prod.mk.injEq] at h; obtain ⟨rfl, rfl⟩ := h
    have key : ∀ (p : Array Operand), (∀ (i : Nat) (d : D) (u : Value), (p.toList.map (ev st.t))[i]? = some d → (p.map a.eval)[i]? = some u → V A w φ d u) := fun p i d u h1 h2 => by
      simp only [List.getElem?_map, Option.map_eq_some_iff, Array.getElem?_map, Array.getElem?_toList] at h1 h2
      obtain ⟨x, h1, rfl⟩ := h1
      obtain ⟨y, h2, rfl⟩ := h2
      rw [h1] at h2; cases h2; exact ve x
    exact ⟨.func f (p.map a.eval) (q.map a.eval), w, A, φ, .inl (by simp [execOp, ho, Instr.makeFunc]), hr.value o.dst (.fn _ _ _ _ _ _ (by simp) (by simp) (key p) (key q))⟩
  | build ty ps =>
    rw [ho] at h; obtain ⟨h1, rfl⟩ := kd h
    obtain ⟨r, h2, h3⟩ := run_buildD (P := P) hr.tr ps h1
    exact fin (by simp only [execOp, ho]) h2 h3
  | buildSlice ty len ps =>
    rw [ho] at h
    simp only [stepD, Option.map_eq_some_iff, Prod.mk.injEq, Prod.exists] at h
    obtain ⟨sz, es, h1, rfl, rfl⟩ := h
    obtain ⟨r, w', φ', h2, h3, h4⟩ := run_buildSliceD (P := P) hG hr hs ps h1
    exact finP (by simp only [execOp, ho]) h2 h3 h4
  | makeSlice ty l c =>
    rw [ho] at h
    simp only [stepD, Option.map_eq_some_iff, Prod.mk.injEq, Prod.exists] at h
    obtain ⟨ln, cn, sz, es, h1, rfl, rfl⟩ := h
    obtain ⟨r, w', φ', h2, h3, h4⟩ := run_makeSliceD (P := P) hG hr hs (ve l) (ve c) h1
    exact finP (by simp only [execOp, ho]) h2 h3 h4
  | alloc ty =>
    rw [ho] at h
    simp only [stepD, Option.map_eq_some_iff, Prod.mk.injEq] at h
    obtain ⟨z, h1, rfl, rfl⟩ := h
    obtain ⟨r, w', φ', h2, h3, h4⟩ := run_allocD (P := P) hG hr hs h1
    exact finP (by simp only [execOp, ho]) h2 h3 h4
  | box ty x =>
    rw [ho] at h
    simp only [stepD] at h
    split at h
    · rename_i hc
      simp only [Option.some.injEq, Prod.mk.injEq] at h; obtain ⟨rfl, rfl⟩ := h
      obtain ⟨r, w', φ', h2, h3, h4⟩ := run_box (P := P) hG hr hs (t := ty) (ve x) hc
      exact finP (by simp only [execOp, ho]) h2 h3 h4
    · cases h
  | store ty p x =>
    rw [ho] at h
    simp only [stepD, Option.map_eq_some_iff, Prod.mk.injEq, Prod.exists] at h
    obtain ⟨b, k, h1, rfl, rfl⟩ := h
    obtain ⟨w', h2, h3⟩ := run_storeD (P := P) hG hr hsub (ve p) (ve x) h1
    exact ⟨undef, w', A, φ, .inr ⟨by simp [execOp, ho, h2], rfl⟩, h3.value o.dst (.any _ _)⟩
  | call c =>
    obtain ⟨cal, args, tys⟩ := c
    cases cal with
    | builtin b =>
      rw [ho] at h
      simp only [stepD] at h
      have hex : ∀ (m : Array Value → Sem Value), (∀ q, builtin b tys o.type q (args.map a.eval) = (do pure (.value (← m (args.map a.eval))))) →
          execOp a.eval o = (do pure (.value (← m (args.map a.eval)))) := fun m hm => by
        simp only [execOp, ho, resolve, invoke]
        exact hm _
      obtain ⟨args, rfl⟩ : ∃ l : List Operand, l.toArray = args := ⟨args.toList, by simp⟩
      obtain ⟨tys, rfl⟩ : ∃ l : List TypeId, l.toArray = tys := ⟨tys.toList, by simp⟩
      simp only at h
      unfold builtinD at h
      split at h
      · rename_i x t ha
        obtain ⟨x', rfl, rfl⟩ : ∃ x', args = [x'] ∧ ev st.t x' = x := by
          cases args with
          | nil => simp at ha
          | cons y r => cases r with
            | nil => simp at ha; exact ⟨y, rfl, ha⟩
            | cons _ _ => simp at ha
        split at h
        · rename_i et hu
          simp only [Option.map_eq_some_iff, Prod.mk.injEq] at h
          obtain ⟨n, h1, rfl, rfl⟩ := h
          obtain ⟨u, m, c, h2, h3⟩ := (ve x').lenD h1
          refine fin (m := Builtin.len_ #[t] o.type #[a.eval x']) (by simpa using hex (fun v => Builtin.len_ #[t] o.type v) fun q => by simp [builtin]) (r := .int .i64 n) ?_ (.v _ _)
          rw [h2]
          simp [Builtin.len_, run_underlying hu, goInt, h3]
        · cases h
      · rename_i x y t t' ha
        obtain ⟨x', y', rfl, rfl, rfl⟩ : ∃ x' y', args = [x', y'] ∧ ev st.t x' = x ∧ ev st.t y' = y := by
          match args, ha with
          | [p, q], ha => simp at ha; exact ⟨p, q, rfl, ha⟩
        simp only [Option.map_eq_some_iff, Prod.mk.injEq, Prod.exists] at h
        obtain ⟨ob, sz, es, h1, rfl, rfl⟩ := h
        obtain ⟨r, w', φ', h2, h3, h4⟩ := run_appendD (P := P) hG hr hs hsub (ty := o.type) (ve x') (ve y') h1
        exact finP (m := Builtin.append_ #[t, t'] o.type #[a.eval x', a.eval y']) (by simpa using hex (fun v => Builtin.append_ #[t, t'] o.type v) fun q => by simp [builtin]) h2 h3 h4
      · rename_i x y ha
        obtain ⟨x', y', rfl, rfl, rfl⟩ : ∃ x' y', args = [x', y'] ∧ ev st.t x' = x ∧ ev st.t y' = y := by
          match args, ha with
          | [p, q], ha => simp at ha; exact ⟨p, q, rfl, ha⟩
        simp only [Option.map_eq_some_iff, Prod.mk.injEq] at h
        obtain ⟨d', h1, rfl, rfl⟩ := h
        obtain ⟨r, h2, h3⟩ := (run_maxD (P := P) (ve x') (ve y')).1 h1
        exact fin (m := Builtin.max_ #[] 0 #[a.eval x', a.eval y']) (by simpa using hex (fun v => Builtin.max_ #[] 0 v) fun q => by simp [builtin]; rfl) h2 h3
      · rename_i x y ha
        obtain ⟨x', y', rfl, rfl, rfl⟩ : ∃ x' y', args = [x', y'] ∧ ev st.t x' = x ∧ ev st.t y' = y := by
          match args, ha with
          | [p, q], ha => simp at ha; exact ⟨p, q, rfl, ha⟩
        simp only [Option.map_eq_some_iff, Prod.mk.injEq] at h
        obtain ⟨d', h1, rfl, rfl⟩ := h
        obtain ⟨r, h2, h3⟩ := (run_maxD (P := P) (ve x') (ve y')).2 h1
        exact fin (m := Builtin.min_ #[] 0 #[a.eval x', a.eval y']) (by simpa using hex (fun v => Builtin.min_ #[] 0 v) fun q => by simp [builtin]; rfl) h2 h3
      · cases h
    | value f => rw [ho] at h; cases h
    | invoke r m => rw [ho] at h; cases h
  | _ => rw [ho] at h; cases h
end
end
end Go.DL
