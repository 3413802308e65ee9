/- Calls, regions, and code, over abstract values. -/
import Derived.Test.YtmbbepdbjeciaaaGreatDl9
import Derived.Shelf.Abstract
import Derived.TacticsIn
set_option linter.all false
namespace Go.DL
open Go.RowKit Go.Proofs

noncomputable section

def FW (ro : Option Nat) : Fence := { Fence.wide with round := ro }

/-- Abstract arguments stand for arguments. -/
structure VS (A : Rd) (w : World) (φ : Nat → Loc) (ds : List D) (vs : Array Value) : Prop where
  size : vs.size = ds.length
  val : ∀ (i : Nat) (d : D) (u : Value), ds[i]? = some d → vs[i]? = some u → V A w φ d u

/-- A PLAIN CONTRACT: at these arguments the function returns this; nothing that was there has changed. -/
def Maps (P : Program) (f : FuncId) (args : List D) (d : D) : Prop :=
  Enters P f ∧ ∀ (w : World) (A : Nat → Prop) (vs : Array Value), (∀ n, A n → n < w.heap.size) → VS ⟨A, w.heap.size⟩ w nowhere args vs →
    CallsIn Fence.wide 0 P f vs w fun e w' => ∃ (v : Value) (A' : Nat → Prop), e = .returned v ∧ V ⟨A', w.heap.size⟩ w' nowhere d v ∧ (∀ m, A m → A' m) ∧ (∀ m, A' m → A m ∨ w.heap.size ≤ m) ∧
      (∀ m, A' m → m < w'.heap.size) ∧ Ext w (fun _ => False) w' (fun _ => False)

structure Evo (w : World) (A : Rd) (φ : Nat → Loc) (w' : World) (A' : Rd) (φ' : Nat → Loc) : Prop where
  ext : Ext w (own φ) w' (own φ')
  up : ∀ m, A m → A' m
  new : ∀ m, A' m → A m ∨ own φ m ∨ w.heap.size ≤ m
  le : ∀ b, (φ b).le (φ' b)
  b0 : A'.b0 = A.b0

/-- A CONTRACT OVER OWN BLOCKS. -/
def CallSp (P : Program) (f : FuncId) (args : List D) (H : List Blk) (Q : D → List Blk → Prop) : Prop :=
  Enters P f ∧ ∀ (w : World) (A : Rd) (φ : Nat → Loc) (vs : Array Value), RH A φ w H → VS A w φ args vs →
    CallsIn Fence.wide 0 P f vs w fun e w' => ∃ (v : Value) (d : D) (H' : List Blk) (A' : Rd) (φ' : Nat → Loc), e = .returned v ∧ Q d H' ∧ RH A' φ' w' H' ∧ V A' w' φ' d v ∧ Evo w A φ w' A' φ'

theorem CallSp.mono {P : Program} {f : FuncId} {args : List D} {H : List Blk} {Q Q' : D → List Blk → Prop} (h : CallSp P f args H Q) (k : ∀ d H', Q d H' → Q' d H') : CallSp P f args H Q' :=
  ⟨h.1, fun w A φ vs h1 h2 => (h.2 w A φ vs h1 h2).mono fun _ _ ⟨v, d, H', A', φ', e, q, r⟩ => ⟨v, d, H', A', φ', e, k _ _ q, r⟩⟩

theorem VS.snap {A B : Rd} {w : World} {φ : Nat → Loc} {H : List Blk} (hr : RH A φ w H) {lk : Nat → Option Blk} (hlk : ∀ b sz es, lk b = some (.live sz es) → H[b]? = some (.live sz es))
    (hA : ∀ n, A n → B n) (hB : ∀ b sz es n base sz' room, lk b = some (.live sz es) → φ b = .loc n base sz' room → B n) (k : Nat) {ds : List D} {vs : Array Value} (h : VS A w φ ds vs) :
    VS B w nowhere (ds.map (DL.snap lk k)) vs :=
  ⟨by simpa using h.size, fun i d u h1 h2 => by
    simp only [List.getElem?_map, Option.map_eq_some_iff] at h1
    obtain ⟨d0, h1, rfl⟩ := h1
    exact (h.val i d0 u h1 h2).snap hr hlk hA hB k⟩

/-- A value that speaks of fresh memory alone. -/
def freshD : Nat → D → Bool
  | _, .v _ => true
  | _, .any => true
  | _, .fl _ => true
  | k + 1, .agg ds => ds.all (freshD k)
  | k + 1, .tup ds => ds.all (freshD k)
  | _, _ => false

theorem V.freshUp {A A' : Rd} {w : World} {φ φ' : Nat → Loc} (hA : ∀ m, A m → A.b0 ≤ m → A' m) (hb : A'.b0 ≤ A.b0) : ∀ (k : Nat) {d : D} {u : Value}, V A w φ d u → freshD k d = true → V A' w φ' d u := by
  have leaf : ∀ {es : List (List D)} {u : Value}, V A w φ (.fl es) u → V A' w φ' (.fl es) u := fun {es u} h => by
    cases h with
    | fl0 => exact .fl0 _ _ _
    | fl _ _ n off sz cap u ha hcap hsz hc h =>
      exact .fl _ _ n off sz cap u ⟨hA n ha.1 ha.2, Nat.le_trans hb ha.2⟩ hcap hsz hc fun i e j d h1 h2 =>
        V.mono (A := A.fresh) (A' := A'.fresh) (fun m hm => ⟨hA m hm.1 hm.2, Nat.le_trans hb hm.2⟩) (fun _ _ => rfl) (fun _ => Loc.le_refl _) (h i e j d h1 h2)
  intro k
  induction k with
  | zero =>
    intro d u h hd
    cases d <;> simp [freshD] at hd
    · cases h; exact .v _ _
    · exact leaf h
    · exact .any _ _
  | succ k ih =>
    intro d u h hd
    cases d <;> simp only [freshD, List.all_eq_true, Bool.false_eq_true] at hd
    · cases h; exact .v _ _
    · cases h with
      | agg _ cs vs hl h => exact .agg _ _ _ hl fun i d u h1 h2 => ih (h i d u h1 h2) (hd d (List.mem_of_getElem? h1))
    · cases h with
      | tup _ cs vs hl h => exact .tup _ _ _ hl fun i d u h1 h2 => ih (h i d u h1 h2) (hd d (List.mem_of_getElem? h1))
    · exact leaf h
    · exact .any _ _

/-- A plain contract whose result is fresh: own blocks may be among what the arguments read. -/
theorem call_freshL {P : Program} {f : FuncId} {args : List D} {d : D} {H : List Blk} {Q : D → List Blk → Prop} {lk : Nat → Option Blk} (hlk : ∀ b sz es, lk b = some (.live sz es) → H[b]? = some (.live sz es))
    (h : Maps P f (args.map (snap lk 5)) d) (hd : freshD 5 d = true) (hQ : Q d H) : CallSp P f args H Q := by
  refine ⟨h.1, fun w A φ vs hr hv => ?_⟩
  refine (h.2 w (both A φ).on vs (fun n hn => hn.elim (hr.lt n) (hr.olt n)) (hv.snap (B := ⟨(both A φ).on, w.heap.size⟩) hr hlk (fun n x => Or.inl x) (fun b sz es n base sz' room _ hp => Or.inr ⟨b, _, _, _, hp⟩) 5)).mono ?_
  rintro e w' ⟨v, A', rfl, h1, h2, h3, h4, h5⟩
  have hs : ∀ m, m < w.heap.size → w'.heap[m]? = w.heap[m]? := fun m hm => h5.same m hm fun x => x
  have hr1 := hr.move (w' := w') (fun m hm => hs m (hr.lt m hm)) (fun m hm => hs m (hr.olt m hm)) h5.size
  refine ⟨v, d, H, ⟨fun m => A m ∨ (A' m ∧ w.heap.size ≤ m), A.b0⟩, φ, rfl, hQ, ⟨hr1.out, hr1.free, hr1.dead, fun b sz es hb => (hr1.live b sz es hb).imp id fun ⟨n, base, room, c, ty, q1, q2⟩ =>
      ⟨n, base, room, c, ty, q1, q2.mono (fun _ x => Or.inl x) (fun _ _ => rfl) (fun _ => Loc.le_refl _) rfl⟩, hr1.inj, fun m hm ha => ?_, fun m hm => hm.elim (hr1.lt m) fun x => h4 m x.1, hr1.olt, hr1.ofr, hr1.bsz⟩,
    h1.freshUp (fun m hm hb => Or.inr ⟨hm, hb⟩) hr.bsz 5 hd, ⟨⟨h5.os, h5.tape, h5.output, h5.size, fun n hn _ => hs n hn, fun n hn => .inl hn⟩, fun _ x => Or.inl x, fun m hm => hm.imp id fun x => .inr x.2, fun _ => Loc.le_refl _, rfl⟩⟩
  rcases ha with ha | ha
  · exact hr1.dis m hm ha
  · have := hr.olt m hm; omega

theorem call_fresh {P : Program} {f : FuncId} {args : List D} {d : D} {H : List Blk} {Q : D → List Blk → Prop} (h : Maps P f (args.map (snap (fun b => H[b]?) 5)) d) (hd : freshD 5 d = true) (hQ : Q d H) : CallSp P f args H Q :=
  call_freshL (fun _ _ _ x => x) h hd hQ

/-- Those of the own blocks that are named. -/
def sel (ks : List Nat) (H : List Blk) (b : Nat) : Option Blk := if ks.contains b then H[b]? else none
def killL (H : List Blk) : List Nat → List Blk
  | [] => H
  | b :: ks => killL (H.set b .dead) ks

theorem freezeL {w : World} : ∀ (ks : List Nat) {A : Rd} {φ : Nat → Loc} {H : List Blk}, RH A φ w H → (∀ b ∈ ks, b < H.length) →
    ∃ (A' : Rd) (φ' : Nat → Loc), A'.b0 = A.b0 ∧ RH A' φ' w (killL H ks) ∧ (∀ m, A m → A' m) ∧ (∀ m, A' m → A m ∨ own φ m) ∧ (∀ b, (φ b).le (φ' b)) ∧ (∀ m, own φ' m → own φ m) ∧
      (∀ b ∈ ks, ∀ n base sz room, φ b = .loc n base sz room → A' n)
  | [], A, φ, H, hr, _ => ⟨A, φ, rfl, hr, fun _ x => x, fun _ => .inl, fun _ => Loc.le_refl _, fun _ x => x, fun b hb => by cases hb⟩
  | b :: ks, A, φ, H, hr, hk => by
    have hb := hk b (List.mem_cons_self ..)
    obtain ⟨A', φ', h0, h1, h2, h3, h4, h5, h6⟩ := freezeL ks (hr.freeze hb) fun b' hb' => by simpa using hk b' (List.mem_cons_of_mem _ hb')
    have hown : ∀ m, own (upd φ b .dead) m → own φ m := fun m hm => by
      rcases own_upd hm with ⟨_, _, _, e⟩ | ⟨b', _, _, _, _, e⟩
      · cases e
      · exact ⟨b', _, _, _, e⟩
    refine ⟨A', φ', h0, h1, fun m hm => h2 m (.inl hm), fun m hm => ?_, fun b' => Loc.le_trans (upd_le (.inr (.inl rfl)) b') (h4 b'), fun m hm => hown m (h5 m hm), fun b' hb' n base sz room hp => ?_⟩
    · rcases h3 m hm with (x | ⟨_, _, _, x⟩) | x
      · exact .inl x
      · exact .inr ⟨b, _, _, _, x⟩
      · exact .inr (hown m x)
    · by_cases e : b' = b
      · subst e; exact h2 n (.inr ⟨_, _, _, hp⟩)
      · exact h6 b' ((List.mem_cons.1 hb').resolve_left e) n base sz room (by rw [upd_other e]; exact hp)

/-- A plain contract; the own blocks of ks, which the arguments may read, are given up. -/
theorem call_take {P : Program} {f : FuncId} {args : List D} {d : D} {H : List Blk} {Q : D → List Blk → Prop} (ks : List Nat) (h : Maps P f (args.map (snap (sel ks H) 5)) d) (hk : ∀ b ∈ ks, b < H.length)
    (hQ : Q d (killL H ks)) : CallSp P f args H Q := by
  refine ⟨h.1, fun w A φ vs hr hv => ?_⟩
  obtain ⟨A1, φ1, k0, k1, k2, k3, k4, k5, k6⟩ := freezeL ks hr hk
  have hlk : ∀ b x, sel ks H b = some x → H[b]? = some x ∧ b ∈ ks := fun b x hb => by
    unfold sel at hb
    split at hb
    · rename_i hc; exact ⟨hb, by simpa using hc⟩
    · cases hb
  refine (h.2 w A1.on vs k1.lt (hv.snap (B := ⟨A1.on, w.heap.size⟩) hr (fun b sz es hb => (hlk b _ hb).1) k2 (fun b sz es n base sz' room hb hp => k6 b (hlk b _ hb).2 n base sz' room hp) 5)).mono ?_
  rintro e w' ⟨v, A', rfl, h1, h2, h3, h4, h5⟩
  have hs : ∀ m, m < w.heap.size → w'.heap[m]? = w.heap[m]? := fun m hm => h5.same m hm fun x => x
  have hA' : ∀ m, own φ1 m → ¬ A' m := fun m hm ha => by
    rcases h3 m ha with x | x
    · exact k1.dis m hm x
    · have := k1.olt m hm; omega
  have hr1 := k1.move (w' := w') (fun m hm => hs m (k1.lt m hm)) (fun m hm => hs m (k1.olt m hm)) h5.size
  refine ⟨v, d, killL H ks, ⟨A', A.b0⟩, φ1, rfl, hQ, ⟨hr1.out, hr1.free, hr1.dead, fun b sz es hb => (hr1.live b sz es hb).imp id fun ⟨n, base, room, c, ty, q1, q2⟩ =>
      ⟨n, base, room, c, ty, q1, q2.mono h2 (fun _ _ => rfl) (fun _ => Loc.le_refl _) rfl (Nat.le_of_eq k0.symm)⟩, hr1.inj, hA', h4, hr1.olt, fun n hn => k0 ▸ hr1.ofr n hn, k0 ▸ hr1.bsz⟩,
    V.mono (A := ⟨A', w.heap.size⟩) (A' := ⟨A', A.b0⟩) (fun _ x => x) (fun _ _ => rfl) (fun _ => .inl rfl) h1 hr.bsz, ⟨⟨h5.os, h5.tape, h5.output, h5.size, fun n hn _ => hs n hn, fun n hn => .inl (k5 n hn)⟩, fun m hm => h2 m (k2 m hm), fun m hm => ?_, k4, rfl⟩⟩
  rcases h3 m hm with x | x
  · exact (k3 m x).imp id .inl
  · exact .inr (.inr x)

/-- The function that a call leads to, and its arguments. -/
def callD (t : List D) (f : Operand) (args : List Operand) : Option (FuncId × List D) :=
  match ev t f with
  | .fn (.func g) first caps => some (g, first ++ (args.map (ev t) ++ caps))
  | _ => none

/-- The value of the guard. -/
def guardD (ops : List Oper) (t : List D) (j : Nat) : Option Bool :=
  match ops[j]? with
  | some o => match o.dst with
    | some i => match t[i]? with
      | some (.v (.bool b)) => some b
      | _ => none
    | none => none
  | none => none

/-- Is the callee the function to yield to a loop? -/
def yieldD (t : List D) (f : Operand) : Option Nat :=
  match ev t f with
  | .fn (.yield l) [] [] => some l
  | _ => none

theorem callD_yieldD {t : List D} {f : Operand} {args : List Operand} {x : FuncId × List D} (h : callD t f args = some x) : yieldD t f = none := by
  unfold callD at h
  unfold yieldD
  split at h
  · rename_i g first caps he; rw [he]
  · cases h

/-- What a call of a yield function comes to: a round of the loop, which leaves the yielder's own blocks, and what it reads, as they are. -/
def YOk (P : Program) (G : Gh) : Prop := ∀ l g ds vs K w (F : Fr), G.I g w F → VS F.A w F.φ ds vs → (∀ n, F.A n → n < w.heap.size) → (∀ n, F.O n → n < w.heap.size) → (∀ n, F.O n → ¬ F.A n) → F.A.b0 ≤ w.heap.size → G.Y l g ds K →
  ∃ l' f tmps assign body, (Instr.yield l vs).run P w = .ok (.round l' f tmps assign body) w ∧ RoundIn Fence.wide 0 P l' f tmps assign body w fun e w' =>
    ∃ b g', e = .returned (.bool b) ∧ K b g' ∧ G.I g' w' F ∧ (∀ n, F.O n ∨ F.A n → w'.heap[n]? = w.heap[n]?) ∧ w.heap.size ≤ w'.heap.size

def execO (P : Program) (G : Gh) (o : Oper) (st : St) (K : St → Prop) : Prop :=
  match o.op with
  | .call { callee := .value f, args, .. } => match yieldD st.t f with
    | some l => G.Y l st.g (args.toList.map (ev st.t)) fun b g' => K { t := setT st.t o.dst (.v (.bool b)), H := st.H, ds := st.ds, g := g' }
    | none => match callD st.t f args.toList with
      | some (g, xs) => CallSp P g xs st.H fun d H' => K { t := setT st.t o.dst d, H := H', ds := st.ds, g := st.g }
      | none => False
  | op => match stepD P st.H st.H.length st.t op with
    | some (d, e) => K { t := setT st.t o.dst d, H := e.seq st.H, ds := st.ds, g := st.g }
    | none => False

def runOps (P : Program) (G : Gh) (ops : List Oper) : List Oper → St → (St → Prop) → Prop
  | [], st, K => K st
  | o :: rest, st, K => match o.guard with
    | none => execO P G o st fun st' => runOps P G ops rest st' K
    | some (j, want) => match guardD ops st.t j with
      | some b => if b = want then execO P G o st fun st' => runOps P G ops rest st' K else runOps P G ops rest { st with t := setT st.t o.dst .any } K
      | none => False

def lift (G : Gh) (Q : Exit → St → Prop) (e : Exit) (a : Act) (w : World) : Prop := ∃ st, Q e st ∧ FR G st a w

def Sp (P : Program) (ro : Option Nat) (G : Gh) (c : Code) (st : St) (Q : Exit → St → Prop) : Prop :=
  ∀ a w, FR G st a w → c.wpIn (FW ro) 0 P (lift G Q) a w

section
variable {P : Program} {ro : Option Nat} {G : Gh} (hG : Stab G) (hY : YOk P G)

theorem Eff.app_seq {H : List Blk} {e : Eff} (h : ∀ b x, e = .upd b x → b < H.length) (h' : ∀ b x, e = .ren (some b) x → b < H.length) :
    (e = .keep ∨ ∃ b x, e = .upd b x) ∨ e.app (H ++ [.free]) H.length = e.seq H := by
  cases e with
  | keep => exact .inl (.inl rfl)
  | upd b x => exact .inl (.inr ⟨b, x, rfl⟩)
  | put x => right; simp [Eff.app, Eff.seq]
  | ren o x =>
    right
    cases o with
    | none => simp [Eff.app, Eff.seq, killO]
    | some b =>
      have := h' b x rfl
      simp only [Eff.app, Eff.seq, killO]
      rw [List.set_append_left _ _ this]
      simp

theorem stepD_upd {H : List Blk} {s : Nat} {t : List D} {op : Op} {d : D} {b : Nat} {x : Blk} (h : stepD P H s t op = some (d, .upd b x)) : ∃ sz es, H[b]? = some (.live sz es) := by
  cases op <;> simp only [stepD, keepD, Option.map_eq_some_iff, Prod.mk.injEq, reduceCtorEq, and_false, exists_false, Option.some.injEq, Prod.exists] at h
  case slice => split at h <;> simp at h
  case box => split at h <;> simp at h
  case store =>
    obtain ⟨b', k, h1, _, h2⟩ := h
    cases h2
    unfold storeD at h1
    split at h1
    · split at h1
      · rename_i hb
        split at h1
        · split at h1
          · cases h1; exact ⟨_, _, hb⟩
          · cases h1
        · cases h1
      · cases h1
    · cases h1
  case call c =>
    obtain ⟨cal, args, tys⟩ := c
    cases cal with
    | builtin bi =>
      simp only at h
      unfold builtinD at h
      split at h
      · split at h <;> simp at h
      · simp at h
      · simp at h
      · simp at h
      · cases h
    | value f => cases h
    | invoke r m => cases h

theorem stepD_ren {H : List Blk} {s : Nat} {t : List D} {op : Op} {d : D} {b : Nat} {x : Blk} (h : stepD P H s t op = some (d, .ren (some b) x)) : ∃ sz es, H[b]? = some (.live sz es) := by
  cases op <;> simp only [stepD, keepD, Option.map_eq_some_iff, Prod.mk.injEq, reduceCtorEq, and_false, exists_false, Option.some.injEq] at h
  case slice => split at h <;> simp at h
  case box => split at h <;> simp at h
  case call c =>
    obtain ⟨cal, args, tys⟩ := c
    cases cal with
    | builtin bi =>
      simp only at h
      unfold builtinD at h
      split at h
      · split at h <;> simp at h
      · simp only [Option.map_eq_some_iff, Prod.mk.injEq, Prod.exists] at h
        obtain ⟨ob, sz, es, h1, _, h2⟩ := h
        simp only [Eff.ren.injEq] at h2
        obtain ⟨rfl, _⟩ := h2
        unfold appendD at h1
        split at h1
        · split at h1
          rotate_left
          · cases h1
          split at h1
          · split at h1
            · simp at h1
            · split at h1
              · rename_i hsz
                simp only [Option.some.injEq, Prod.mk.injEq] at h1
                obtain ⟨rfl, _⟩ := h1
                unfold Blk.hasSz at hsz
                split at hsz
                · rename_i hb; exact ⟨_, _, hb⟩
                · cases hsz
              · cases h1
            · cases h1
          · cases h1
        · cases h1
      · simp at h
      · simp at h
      · cases h
    | value f => cases h
    | invoke r m => cases h

theorem stepD_seq (hG : Stab G) {st : St} {a : Act} {w : World} {A : Rd} {φ : Nat → Loc} (hr : FRc G st a w A φ) {o : Oper} {d : D} {e : Eff} (h : stepD P st.H st.H.length st.t o.op = some (d, e)) :
    ∃ x w' A' φ', Ran P a o w x w' ∧ FRc G { t := setT st.t o.dst d, H := e.seq st.H, ds := st.ds, g := st.g } (a.put o.dst x) w' A' φ' := by
  have hsub : Sub st.H (st.H ++ [.free]) := fun b sz es hb => by
    rw [List.getElem?_append_left (List.getElem?_eq_some_iff.1 hb).1]; exact hb
  have hk : ∃ x w' A' φ', Ran P a o w x w' ∧ FRc G { t := setT st.t o.dst d, H := e.app (st.H ++ [.free]) st.H.length, ds := st.ds, g := st.g } (a.put o.dst x) w' A' φ' :=
    stepD_ok hG hr.room (s := st.H.length) (by simp) (Hm := st.H) hsub h
  obtain ⟨x, w', A', φ', h1, h2⟩ := hk
  refine ⟨x, w', A', φ', h1, ?_⟩
  have drop : ∀ {H : List Blk}, FRc G { t := setT st.t o.dst d, H := H ++ [.free], ds := st.ds, g := st.g } (a.put o.dst x) w' A' φ' → FRc G { t := setT st.t o.dst d, H := H, ds := st.ds, g := st.g } (a.put o.dst x) w' A' φ' := fun {H} h => by
    refine ⟨⟨fun b hb => ?_, fun b hb => ?_, fun b hb => ?_, fun b sz es hb => ?_, h.rh.inj, h.rh.dis, h.rh.lt, h.rh.olt, h.rh.ofr, h.rh.bsz⟩, h.tr, h.gh, h.df, h.dk, h.nd⟩
    · rcases Nat.lt_trichotomy b H.length with hl | hl | hl
      · rw [List.getElem?_eq_none_iff] at hb; exact absurd hb (Nat.not_le_of_lt hl)
      · exact h.rh.free b (by subst hl; simp)
      · exact h.rh.out b (by simp; omega)
    · exact h.rh.free b (by rw [List.getElem?_append_left (List.getElem?_eq_some_iff.1 hb).1]; exact hb)
    · exact h.rh.dead b (by rw [List.getElem?_append_left (List.getElem?_eq_some_iff.1 hb).1]; exact hb)
    · exact h.rh.live b sz es (by rw [List.getElem?_append_left (List.getElem?_eq_some_iff.1 hb).1]; exact hb)
  rcases Eff.app_seq (H := st.H) (e := e) (fun b x he => let ⟨_, _, h⟩ := stepD_upd (he ▸ h); (List.getElem?_eq_some_iff.1 h).1) (fun b x he => let ⟨_, _, h⟩ := stepD_ren (he ▸ h); (List.getElem?_eq_some_iff.1 h).1) with (rfl | ⟨b, y, rfl⟩) | he
  · exact drop h2
  · refine drop ?_
    obtain ⟨_, _, hb⟩ := stepD_upd h
    replace hb := (List.getElem?_eq_some_iff.1 hb).1
    simp only [Eff.app, Eff.seq] at h2 ⊢
    rwa [List.set_append_left _ _ hb] at h2
  · rwa [he] at h2

theorem guard_ok {ops : List Oper} {A : Rd} {w : World} {φ : Nat → Loc} {t : List D} {tmps : Array Value} (ht : TR A w φ t tmps) {j : Nat} {b : Bool} (h : guardD ops t j = some b) :
    yielded ops.toArray tmps j = some b := by
  unfold guardD at h
  split at h
  · rename_i o ho
    split at h
    · rename_i i hi
      split at h
      · rename_i b' hb
        cases h
        have hlt : i < tmps.size := by rw [ht.size]; exact (List.getElem?_eq_some_iff.1 hb).1
        have hv := (ht.val i _ tmps[i] hb (by simp [hlt])).v_inv
        simp [yielded, ho, hi, hlt, hv]
      · cases h
    · cases h
  · cases h

theorem CallSp.any {f : FuncId} {args : List D} {H : List Blk} {Q : D → List Blk → Prop} (h : CallSp P f args H Q) (ro : Option Nat) (w : World) (A : Rd) (φ : Nat → Loc) (vs : Array Value)
    (hr : RH A φ w H) (hv : VS A w φ args vs) : CallsIn (FW ro) 0 P f vs w fun e w' => ∃ (v : Value) (d : D) (H' : List Blk) (A' : Rd) (φ' : Nat → Loc), e = .returned v ∧ Q d H' ∧ RH A' φ' w' H' ∧ V A' w' φ' d v ∧ Evo w A φ w' A' φ' :=
  h.2 w A φ vs hr hv

theorem FRc.evo (hG : Stab G) {st : St} {a : Act} {w w' : World} {A A' : Rd} {φ φ' : Nat → Loc} (h : FRc G st a w A φ) {H' : List Blk} (hr : RH A' φ' w' H') (he : Evo w A φ w' A' φ') :
    FRc G { st with H := H' } a w' A' φ' := h.step hG hr he.ext he.up he.new he.le he.b0

theorem execO_ok (hG : Stab G) (hY : YOk P G) {st : St} {a : Act} {w : World} {o : Oper} {K : St → Prop} {next : Act → World → Prop} {Q : Exit → Act → World → Prop} (hr : FR G st a w) (h : execO P G o st K)
    (hK : ∀ st' a' w', K st' → FR G st' a' w' → next a' w') : o.wpIn (FW ro) 0 P a w next Q := by
  obtain ⟨A, φ, hr⟩ := hr
  refine ⟨fun _ _ => trivial, ?_⟩
  have plain : ∀ {d : D} {e : Eff}, stepD P st.H st.H.length st.t o.op = some (d, e) → K { t := setT st.t o.dst d, H := e.seq st.H, ds := st.ds, g := st.g } → (∀ c, o.op ≠ .defer c) →
      o.uponIn (FW ro) 0 P a next Q ((o.semAt (FW ro).round a.eval).run P w) := fun {d e} h1 h2 h3 => by
    obtain ⟨x, w', A', φ', h4, h5⟩ := stepD_seq hG hr h1
    rw [Oper.semAt_eq _ _ _ h3]
    rcases h4 with h4 | ⟨h4, rfl⟩
    · rw [h4]; exact hK _ _ _ h2 ⟨A', φ', h5⟩
    · rw [h4]; exact hK _ _ _ h2 ⟨A', φ', h5⟩
  have rest : (match stepD P st.H st.H.length st.t o.op with | some (d, e) => K { t := setT st.t o.dst d, H := e.seq st.H, ds := st.ds, g := st.g } | none => False) → (∀ c, o.op ≠ .defer c) →
      o.uponIn (FW ro) 0 P a next Q ((o.semAt (FW ro).round a.eval).run P w) := fun h1 h3 => by
    split at h1
    · rename_i d e h2; exact plain h2 h1 h3
    · exact h1.elim
  cases ho : o.op with
  | call c =>
    obtain ⟨cal, args, tys⟩ := c
    cases cal with
    | value f =>
      unfold execO at h
      rw [ho] at h
      simp only at h
      split at h
      · rename_i l hl
        unfold yieldD at hl
        split at hl
        · rename_i l' hf
          cases hl
          have hvf := hr.tr.ev f
          rw [hf] at hvf
          generalize hu : a.eval f = u at hvf
          cases hvf with
          | fn _ _ _ _ vs us hl hl' hh hh' =>
            obtain rfl : vs = #[] := Array.eq_empty_of_size_eq_zero hl
            obtain rfl : us = #[] := Array.eq_empty_of_size_eq_zero hl'
            have hvs : VS A w φ (args.toList.map (ev st.t)) (args.map a.eval) := by
              refine ⟨by simp, fun i d u h1 h2 => ?_⟩
              simp only [List.getElem?_map, Option.map_eq_some_iff, Array.getElem?_map, Array.getElem?_toList] at h1 h2
              obtain ⟨x, h1, rfl⟩ := h1
              obtain ⟨y, h2, rfl⟩ := h2
              rw [h1] at h2; cases h2; exact hr.tr.ev x
            have hsz : ∀ n, ownAll φ st.ds n → n < w.heap.size := fun n hn => hn.elim (hr.rh.olt n) fun hm => (Array.getElem?_eq_some_iff.1 (hr.dk n hm).1).1
            have hdj : ∀ n, ownAll φ st.ds n → ¬ A n := fun n hn => hn.elim (hr.rh.dis n) fun hm => (hr.dk n hm).2.1
            obtain ⟨l', f', tmps, asg, body, h1, h2⟩ := hY l st.g _ _ _ w _ hr.gh hvs hr.rh.lt hsz hdj hr.rh.bsz h
            have hsem : (o.semAt (FW ro).round a.eval).run P w = .ok (.round l' f' tmps asg body) w := by
              rw [Oper.semAt_eq _ _ _ (by rw [ho]; simp)]
              simp only [execOp, ho, resolve, hu, Deferred.ofValue, Sem.run_bind, Sem.run_pure, Result.andThen, invoke]
              simpa using h1
            rw [hsem]
            refine ⟨fun hd => by simp [FW, Fence.wide] at hd, RoundIn.mono (F := FW ro) h2 ?_⟩
            rintro e w' ⟨b, g', rfl, k1, k2, k3, k4⟩
            have hr' : FRc G { t := st.t, H := st.H, ds := st.ds, g := g' } a w' A φ :=
              ⟨hr.rh.move (fun m hm => k3 m (.inr hm)) (fun m hm => k3 m (.inl (.inl hm))) k4, hr.tr.mono (fun _ x => x) (fun m hm => k3 m (.inr hm)) (fun _ => Loc.le_refl _), k2, hr.df,
                fun r hm => ⟨(k3 r (.inl (.inr hm))).trans (hr.dk r hm).1, (hr.dk r hm).2⟩, hr.nd⟩
            exact hK _ _ _ k1 ⟨A, φ, hr'.value o.dst (.v _ _)⟩
        · cases hl
      · rename_i hyl
        split at h
        · rename_i g xs hc
          unfold callD at hc
          split at hc
          · rename_i g' first caps hf
            simp only [Option.some.injEq, Prod.mk.injEq] at hc
            obtain ⟨rfl, rfl⟩ := hc
            have hvf := hr.tr.ev f
            rw [hf] at hvf
            generalize hu : a.eval f = u at hvf
            cases hvf with
            | fn _ _ _ _ vs us hl hl' hh hh' =>
              have hsem : (o.semAt (FW ro).round a.eval).run P w = .ok (.enter g' (vs ++ args.map a.eval ++ us)) w := by
                rw [Oper.semAt_eq _ _ _ (by rw [ho]; simp)]
                simp only [execOp, ho, resolve, hu, Deferred.ofValue, Sem.run_bind, Sem.run_pure, Result.andThen, invoke]
                exact h.1 _ _
              rw [hsem]
              refine ⟨fun hd => by simp [FW, Fence.wide] at hd, ?_⟩
              have hvs : VS A w φ (first ++ (args.toList.map (ev st.t) ++ caps)) (vs ++ args.map a.eval ++ us) := by
                refine ⟨by simp [hl, hl'], fun i d u h1 h2 => ?_⟩
                rw [Array.append_assoc, Array.getElem?_append] at h2
                rw [List.getElem?_append] at h1
                split at h1
                · rename_i hi
                  rw [if_pos (by omega)] at h2
                  exact hh i d u h1 h2
                · rename_i hi
                  rw [if_neg (by omega), Array.getElem?_append] at h2
                  rw [List.getElem?_append] at h1
                  rw [hl] at h2
                  simp only [Array.size_map] at h2
                  split at h1
                  · rename_i hi2
                    rw [if_pos (by simpa using hi2)] at h2
                    simp only [List.getElem?_map, Option.map_eq_some_iff, Array.getElem?_map, Array.getElem?_toList] at h1 h2
                    obtain ⟨x, h1, rfl⟩ := h1
                    obtain ⟨y, h2, rfl⟩ := h2
                    rw [h1] at h2; cases h2; exact hr.tr.ev x
                  · rename_i hi2
                    rw [if_neg (by simpa using hi2)] at h2
                    simp only [List.length_map, Array.length_toList] at h1
                    exact hh' _ d u h1 h2
              refine (h.any ro w A φ _ hr.rh hvs).mono ?_
              rintro e w' ⟨v, d, H', A', φ', rfl, q, h1, h2, h3⟩
              exact hK _ _ _ q ⟨A', φ', (hr.evo hG h1 h3).value o.dst h2⟩
          · cases hc
        · exact h.elim
    | builtin b => exact rest (by unfold execO at h; rw [ho] at h; rw [ho]; exact h) (by rw [ho]; simp)
    | invoke r m => exact rest (by unfold execO at h; rw [ho] at h; rw [ho]; exact h) (by rw [ho]; simp)
  | defer c => unfold execO at h; rw [ho] at h; exact h.elim
  | _ => exact rest (by unfold execO at h; rw [ho] at h; rw [ho]; exact h) (by rw [ho]; simp)

theorem runOps_ok (hG : Stab G) (hY : YOk P G) {ops : List Oper} {Q : Exit → Act → World → Prop} {K : St → Prop} (hK : ∀ st' a' w', K st' → FR G st' a' w' → Q .normal a' w') : ∀ (l : List Oper) (st : St) (a : Act) (w : World), FR G st a w → runOps P G ops l st K →
    wpListIn (FW ro) 0 P ops.toArray Q l a w
  | [], st, a, w, hr, h => hK st a w h hr
  | o :: l, st, a, w, hr, h => by
    have ih := runOps_ok (ops := ops) hG hY hK l
    unfold runOps at h
    unfold wpListIn
    split at h
    · rename_i hg
      rw [if_pos (by simp [Region.wanted, hg])]
      exact execO_ok hG hY hr h fun st' a' w' h1 h2 => ih st' a' w' h2 h1
    · rename_i j want hg
      split at h
      · rename_i b hb
        obtain ⟨A, φ, hr'⟩ := hr
        have hy := guard_ok (ops := ops) hr'.tr hb
        have hw : Region.wanted o (yielded ops.toArray a.tmps) = (b == want) := by simp [Region.wanted, hg, hy]
        rw [hw]
        split at h
        · rename_i hbw
          rw [if_pos (by simpa using hbw)]
          exact execO_ok hG hY ⟨A, φ, hr'⟩ h fun st' a' w' h1 h2 => ih st' a' w' h2 h1
        · rename_i hbw
          rw [if_neg (by simpa using hbw)]
          exact ⟨fun _ _ => trivial, ih _ _ _ ⟨A, φ, hr'.value o.dst (.any _ _)⟩ h⟩
      · exact h.elim

theorem Sp.mono {c : Code} {st : St} {Q Q' : Exit → St → Prop} (h : Sp P ro G c st Q) (k : ∀ e s, Q e s → Q' e s) : Sp P ro G c st Q' :=
  fun a w hr => wpIn_mono (h a w hr) fun e _ _ ⟨s, q, r⟩ => ⟨s, k e s q, r⟩

theorem Sp_region (hG : Stab G) (hY : YOk P G) {id : Nat} {ops : List Oper} {st : St} {Q : Exit → St → Prop} (h : runOps P G ops ops st (Q .normal)) : Sp P ro G (.region id ops.toArray false) st Q :=
  fun a w hr => wpIn_region_lit (runOps_ok hG hY (fun st' _ _ q r => ⟨st', q, r⟩) ops st a w hr h)

theorem Sp_seq {x y : Code} {st : St} {Q : Exit → St → Prop} (h : Sp P ro G x st fun e s => match e with | .normal => Sp P ro G y s Q | e => Q e s) : Sp P ro G (.seq x y) st Q :=
  fun a w hr => wpIn_seq (wpIn_mono (h a w hr) fun e a w ⟨s, q, r⟩ => by
    cases e with
    | normal => exact q a w r
    | _ => exact ⟨s, q, r⟩)

theorem Sp_cond {c : Operand} {x y : Code} {st : St} {Q : Exit → St → Prop} {b : Bool} (hc : ev st.t c = .v (.bool b)) (hx : b = true → Sp P ro G x st Q) (hy : b = false → Sp P ro G y st Q) : Sp P ro G (.cond c x y) st Q :=
  fun a w hr => by
    obtain ⟨A, φ, hr'⟩ := hr
    have hv := hr'.tr.ev c
    rw [hc] at hv
    refine wpIn_cond hv.v_inv ?_
    cases b with
    | true => exact hx rfl a w ⟨A, φ, hr'⟩
    | false => exact hy rfl a w ⟨A, φ, hr'⟩

def QBlock (id : Nat) (Q : Exit → St → Prop) : Exit → St → Prop
  | .exit id', s => if id' = id then Q .normal s else Q (.exit id') s
  | e, s => Q e s

theorem Sp_block {id : Nat} {c : Code} {st : St} {Q : Exit → St → Prop} (h : Sp P ro G c st (QBlock id Q)) : Sp P ro G (.block id c) st Q :=
  fun a w hr => wpIn_block (wpIn_mono (h a w hr) fun e a w ⟨s, q, r⟩ => by
    cases e with
    | exit id' =>
      simp only [Exit.inBlock, QBlock] at q ⊢
      split
      · rename_i hi; rw [if_pos hi] at q; exact ⟨s, q, r⟩
      · rename_i hi; rw [if_neg hi] at q; exact ⟨s, q, r⟩
    | _ => exact ⟨s, q, r⟩)

theorem exists_least {p : Nat → Prop} (h : ∃ n, p n) : ∃ n, p n ∧ ∀ m, p m → n ≤ m := by
  obtain ⟨n, hn⟩ := h
  induction n using Nat.strongRecOn with
  | _ n ih =>
    by_cases hm : ∃ m, m < n ∧ p m
    · obtain ⟨m, h1, h2⟩ := hm; exact ih m h1 h2
    · refine ⟨n, hn, fun m h2 => Nat.le_of_not_lt fun h1 => hm ⟨m, h1, h2⟩⟩

open Classical in
noncomputable def leastOf (p : Nat → Prop) : Nat := if h : ∃ n, p n then Classical.choose (exists_least h) else 0
theorem leastOf_spec {p : Nat → Prop} (h : ∃ n, p n) : p (leastOf p) ∧ ∀ m, p m → leastOf p ≤ m := by
  unfold leastOf
  rw [dif_pos h]
  exact Classical.choose_spec (exists_least h)

/-- A loop: I j holds where at most j rounds are left. -/
theorem Sp_loop {c : Code} {st : St} {Q : Exit → St → Prop} (I : Nat → St → Prop) (h0 : ∃ j, I j st)
    (h : ∀ j s, I j s → Sp P ro G c s fun e s' => match e with | .normal => ∃ j', j' < j ∧ I j' s' | e => Q e s') : Sp P ro G (.loop c) st Q := fun a w hr => by
  refine wpIn_loop (fun a w => ∃ j s, I j s ∧ FR G s a w) (fun a w => leastOf fun j => ∃ s, I j s ∧ FR G s a w) ?_ ?_
  · obtain ⟨j, hj⟩ := h0; exact ⟨j, st, hj, hr⟩
  · intro a w hI
    obtain ⟨⟨s, h1, h2⟩, _⟩ := leastOf_spec hI
    refine wpIn_mono (h _ s h1 a w h2) fun e a' w' ⟨s', q, r⟩ => ?_
    cases e with
    | normal =>
      obtain ⟨j', hj, hI'⟩ := q
      have := (leastOf_spec (p := fun j => ∃ s, I j s ∧ FR G s a' w') ⟨j', s', hI', r⟩).2 j' ⟨s', hI', r⟩
      exact ⟨⟨j', s', hI', r⟩, by show leastOf _ < leastOf _; omega⟩
    | _ => exact ⟨s', q, r⟩

/-- What has to be shown of code; a loop, or a range over a function, stays as it is. -/
def vc (P : Program) (ro : Option Nat) (G : Gh) : Code → St → (Exit → St → Prop) → Prop
  | .skip, st, Q => Q .normal st
  | .region _ ops false, st, Q => runOps P G ops.toList ops.toList st (Q .normal)
  | .seq x y, st, Q => vc P ro G x st fun e s => match e with | .normal => vc P ro G y s Q | e => Q e s
  | .cond c x y, st, Q => match ev st.t c with
    | .v (.bool b) => (b = true → vc P ro G x st Q) ∧ (b = false → vc P ro G y st Q)
    | _ => False
  | .block id c, st, Q => vc P ro G c st (QBlock id Q)
  | .exit id, st, Q => Q (.exit id) st
  | .ret, st, Q => Q .ret st
  | c, st, Q => Sp P ro G c st Q

theorem vc_ok (hG : Stab G) (hY : YOk P G) : ∀ (c : Code) {st : St} {Q : Exit → St → Prop}, vc P ro G c st Q → Sp P ro G c st Q
  | .skip, st, Q, h => fun _ _ hr => wpIn_skip ⟨st, h, hr⟩
  | .region id ops draw, st, Q, h => by
    cases draw with
    | true => exact h
    | false =>
      obtain ⟨ops, rfl⟩ : ∃ l : List Oper, l.toArray = ops := ⟨ops.toList, by simp⟩
      exact Sp_region hG hY (by simpa [vc] using h)
  | .seq x y, st, Q, h => Sp_seq ((vc_ok hG hY x h).mono fun e s q => by
      cases e with
      | normal => exact vc_ok hG hY y q
      | _ => exact q)
  | .cond c x y, st, Q, h => by
    unfold vc at h
    split at h
    · rename_i b hb; exact Sp_cond hb (fun e => vc_ok hG hY x (h.1 e)) fun e => vc_ok hG hY y (h.2 e)
    · exact h.elim
  | .block id c, st, Q, h => Sp_block (vc_ok hG hY c h)
  | .exit id, st, Q, h => fun _ _ hr => wpIn_exit ⟨st, h, hr⟩
  | .ret, st, Q, h => fun _ _ hr => wpIn_ret ⟨st, h, hr⟩
  | .loop c, st, Q, h => h
  | .rangeFunc _ _ _ _, st, Q, h => h
  | .scope _, st, Q, h => h
  | .label _, st, Q, h => h
  | .goto _, st, Q, h => h
  | .refuse _, st, Q, h => h
end
end
end Go.DL
