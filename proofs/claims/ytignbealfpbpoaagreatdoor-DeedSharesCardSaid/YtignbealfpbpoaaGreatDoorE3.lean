/- Calls, regions, and code, over abstract values. -/
import Derived.Test.YtignbealfpbpoaaGreatDoorE2
import Derived.Shelf.Abstract
import Derived.TacticsIn
import Derived.RangeFuncRecord
set_option linter.all false
namespace Go.DL
open Go.RowKit Go.Proofs

noncomputable section
set_option linter.unusedSectionVars false
variable [Tabs]

def FW (ro : Option Nat) : Fence := { Fence.wide with round := ro }

/-- Abstract arguments stand for arguments. -/
structure VS (A : Rd) (w : World) (φ : Nat → Loc) (ds : List D) (vs : Array Value) : Prop where
  size : vs.size = ds.length
  val : ∀ (i : Nat) (d : D) (u : Value), ds[i]? = some d → vs[i]? = some u → V A w φ d u

/-- A PLAIN CONTRACT: at these arguments the function returns this; nothing that was there has changed. -/
def Maps (P : Program) (f : FuncId) (args : List D) (d : D) : Prop :=
  Enters P f ∧ ∀ (w : World) (A : Nat → Prop) (vs : Array Value), (∀ n, A n → n < w.heap.size) → Laid A w → VS ⟨A, w.heap.size⟩ w nowhere args vs →
    CallsIn Fence.wide 0 P f vs w fun e w' => ∃ (v : Value) (A' : Nat → Prop), e = .returned v ∧ V ⟨A', w.heap.size⟩ w' nowhere d v ∧ (∀ m, A m → A' m) ∧ (∀ m, A' m → A m ∨ w.heap.size ≤ m) ∧
      (∀ m, A' m → m < w'.heap.size) ∧ Ext w (fun _ => False) w' (fun _ => False)

structure Evo (w : World) (A : Rd) (φ : Nat → Loc) (w' : World) (A' : Rd) (φ' : Nat → Loc) : Prop where
  ext : Ext w (own φ) w' (own φ')
  up : ∀ m, A m → A' m
  new : ∀ m, A' m → A m ∨ own φ m ∨ w.heap.size ≤ m
  le : ∀ b, (φ b).le (φ' b)
  b0 : A'.b0 = A.b0

/-- A CONTRACT OVER OWN BLOCKS. -/
def CallSp (P : Program) (f : FuncId) (args : List D) (H : List Blk) (Q : D → List Blk → Prop) : Prop :=
  Enters P f ∧ ∀ (w : World) (A : Rd) (φ : Nat → Loc) (vs : Array Value), RH A φ w H → VS A w φ args vs →
    CallsIn Fence.wide 0 P f vs w fun e w' => ∃ (v : Value) (d : D) (H' : List Blk) (A' : Rd) (φ' : Nat → Loc), e = .returned v ∧ Q d H' ∧ RH A' φ' w' H' ∧ V A' w' φ' d v ∧ Evo w A φ w' A' φ'

theorem CallSp.mono {P : Program} {f : FuncId} {args : List D} {H : List Blk} {Q Q' : D → List Blk → Prop} (h : CallSp P f args H Q) (k : ∀ d H', Q d H' → Q' d H') : CallSp P f args H Q' :=
  ⟨h.1, fun w A φ vs h1 h2 => (h.2 w A φ vs h1 h2).mono fun _ _ ⟨v, d, H', A', φ', e, q, r⟩ => ⟨v, d, H', A', φ', e, k _ _ q, r⟩⟩

theorem VS.snap {A B : Rd} {w : World} {φ : Nat → Loc} {H : List Blk} (hr : RH A φ w H) {lk : Nat → Option Blk} (hlk : ∀ b sz es, lk b = some (.live sz es) → H[b]? = some (.live sz es))
    (hA : ∀ n, A n → B n) (hB : ∀ b sz es n base sz' room, lk b = some (.live sz es) → φ b = .loc n base sz' room → B n) (k : Nat) {ds : List D} {vs : Array Value} (h : VS A w φ ds vs) :
    VS B w nowhere (ds.map (DL.snap lk k)) vs :=
  ⟨by simpa using h.size, fun i d u h1 h2 => by
    simp only [List.getElem?_map, Option.map_eq_some_iff] at h1
    obtain ⟨d0, h1, rfl⟩ := h1
    exact (h.val i d0 u h1 h2).snap hr hlk hA hB k⟩

/-- A value that speaks of fresh memory alone. -/
def freshD : Nat → D → Bool
  | _, .v _ => true
  | _, .any => true
  | _, .fl _ => true
  | k + 1, .agg ds => ds.all (freshD k)
  | k + 1, .tup ds => ds.all (freshD k)
  | _, _ => false

theorem V.freshUp {A A' : Rd} {w : World} {φ φ' : Nat → Loc} (hA : ∀ m, A m → A.b0 ≤ m → A' m) (hb : A'.b0 ≤ A.b0) : ∀ (k : Nat) {d : D} {u : Value}, V A w φ d u → freshD k d = true → V A' w φ' d u := by
  have leaf : ∀ {es : List (List D)} {u : Value}, V A w φ (.fl es) u → V A' w φ' (.fl es) u := fun {es u} h => by
    cases h with
    | fl0 => exact .fl0 _ _ _
    | fl _ _ n off sz cap u ha hcap hsz hc h =>
      exact .fl _ _ n off sz cap u ⟨hA n ha.1 ha.2, Nat.le_trans hb ha.2⟩ hcap hsz hc fun i e j d h1 h2 =>
        V.mono (A := A.fresh) (A' := A'.fresh) (fun m hm => ⟨hA m hm.1 hm.2, Nat.le_trans hb hm.2⟩) (fun _ _ => rfl) (fun _ => Loc.le_refl _) (h i e j d h1 h2)
  intro k
  induction k with
  | zero =>
    intro d u h hd
    cases d <;> simp [freshD] at hd
    · cases h; exact .v _ _
    · exact leaf h
    · exact .any _ _
  | succ k ih =>
    intro d u h hd
    cases d <;> simp only [freshD, List.all_eq_true, Bool.false_eq_true] at hd
    · cases h; exact .v _ _
    · cases h with
      | agg _ cs vs hl h => exact .agg _ _ _ hl fun i d u h1 h2 => ih (h i d u h1 h2) (hd d (List.mem_of_getElem? h1))
    · cases h with
      | tup _ cs vs hl h => exact .tup _ _ _ hl fun i d u h1 h2 => ih (h i d u h1 h2) (hd d (List.mem_of_getElem? h1))
    · exact leaf h
    · exact .any _ _

/-- A plain contract whose result is fresh: own blocks may be among what the arguments read. -/
theorem call_freshL {P : Program} {f : FuncId} {args : List D} {d : D} {H : List Blk} {Q : D → List Blk → Prop} {lk : Nat → Option Blk} (hlk : ∀ b sz es, lk b = some (.live sz es) → H[b]? = some (.live sz es))
    (h : Maps P f (args.map (snap lk 5)) d) (hd : freshD 5 d = true) (hQ : Q d H) : CallSp P f args H Q := by
  refine ⟨h.1, fun w A φ vs hr hv => ?_⟩
  refine (h.2 w (both A φ).on vs (fun n hn => hn.elim (hr.lt n) (hr.olt n)) (hr.la.mono (fun _ x => Or.inl x) (fun _ _ => rfl)) (hv.snap (B := ⟨(both A φ).on, w.heap.size⟩) hr hlk (fun n x => Or.inl x) (fun b sz es n base sz' room _ hp => Or.inr ⟨b, _, _, _, hp⟩) 5)).mono ?_
  rintro e w' ⟨v, A', rfl, h1, h2, h3, h4, h5⟩
  have hs : ∀ m, m < w.heap.size → w'.heap[m]? = w.heap[m]? := fun m hm => h5.same m hm fun x => x
  have hr1 := hr.move (w' := w') (fun m hm => hs m (hr.lt m hm)) (fun m hm => hs m (hr.olt m hm)) h5.size
  refine ⟨v, d, H, ⟨fun m => A m ∨ (A' m ∧ w.heap.size ≤ m), A.b0⟩, φ, rfl, hQ, ⟨hr1.out, hr1.free, hr1.dead, fun b sz es hb => (hr1.live b sz es hb).imp id fun ⟨n, base, room, c, ty, q1, q2⟩ =>
      ⟨n, base, room, c, ty, q1, q2.mono (fun _ x => Or.inl x) (fun _ _ => rfl) (fun _ => Loc.le_refl _) rfl⟩, fun b clk es hb => let ⟨n, ms, q1, q2⟩ := hr1.tab b clk es hb; ⟨n, ms, q1, q2.mono (fun _ x => Or.inl x) (fun _ _ => rfl) (fun _ => Loc.le_refl _) rfl⟩, hr1.inj, fun m hm ha => ?_, fun m hm => hm.elim (hr1.lt m) fun x => h4 m x.1, hr1.olt, hr1.ofr, hr1.bsz, hr1.la.mono (fun _ x => Or.inl x) (fun _ _ => rfl)⟩,
    h1.freshUp (fun m hm hb => Or.inr ⟨hm, hb⟩) hr.bsz 5 hd, ⟨⟨h5.os, h5.tape, h5.output, h5.size, fun n hn _ => hs n hn, fun n hn => .inl hn⟩, fun _ x => Or.inl x, fun m hm => hm.imp id fun x => .inr x.2, fun _ => Loc.le_refl _, rfl⟩⟩
  rcases ha with ha | ha
  · exact hr1.dis m hm ha
  · have := hr.olt m hm; omega

theorem call_fresh {P : Program} {f : FuncId} {args : List D} {d : D} {H : List Blk} {Q : D → List Blk → Prop} (h : Maps P f (args.map (snap (fun b => H[b]?) 5)) d) (hd : freshD 5 d = true) (hQ : Q d H) : CallSp P f args H Q :=
  call_freshL (fun _ _ _ x => x) h hd hQ

/-- Those of the own blocks that are named. -/
def sel (ks : List Nat) (H : List Blk) (b : Nat) : Option Blk := if ks.contains b then H[b]? else none
def killL (H : List Blk) : List Nat → List Blk
  | [] => H
  | b :: ks => killL (H.set b .dead) ks

theorem freezeL {w : World} : ∀ (ks : List Nat) {A : Rd} {φ : Nat → Loc} {H : List Blk}, RH A φ w H → (∀ b ∈ ks, b < H.length) →
    ∃ (A' : Rd) (φ' : Nat → Loc), A'.b0 = A.b0 ∧ RH A' φ' w (killL H ks) ∧ (∀ m, A m → A' m) ∧ (∀ m, A' m → A m ∨ own φ m) ∧ (∀ b, (φ b).le (φ' b)) ∧ (∀ m, own φ' m → own φ m) ∧
      (∀ b ∈ ks, ∀ n base sz room, φ b = .loc n base sz room → A' n)
  | [], A, φ, H, hr, _ => ⟨A, φ, rfl, hr, fun _ x => x, fun _ => .inl, fun _ => Loc.le_refl _, fun _ x => x, fun b hb => by cases hb⟩
  | b :: ks, A, φ, H, hr, hk => by
    have hb := hk b (List.mem_cons_self ..)
    obtain ⟨A', φ', h0, h1, h2, h3, h4, h5, h6⟩ := freezeL ks (hr.freeze hb) fun b' hb' => by simpa using hk b' (List.mem_cons_of_mem _ hb')
    have hown : ∀ m, own (upd φ b .dead) m → own φ m := fun m hm => by
      rcases own_upd hm with ⟨_, _, _, e⟩ | ⟨b', _, _, _, _, e⟩
      · cases e
      · exact ⟨b', _, _, _, e⟩
    refine ⟨A', φ', h0, h1, fun m hm => h2 m (.inl hm), fun m hm => ?_, fun b' => Loc.le_trans (upd_le (.inr (.inl rfl)) b') (h4 b'), fun m hm => hown m (h5 m hm), fun b' hb' n base sz room hp => ?_⟩
    · rcases h3 m hm with (x | ⟨_, _, _, x⟩) | x
      · exact .inl x
      · exact .inr ⟨b, _, _, _, x⟩
      · exact .inr (hown m x)
    · by_cases e : b' = b
      · subst e; exact h2 n (.inr ⟨_, _, _, hp⟩)
      · exact h6 b' ((List.mem_cons.1 hb').resolve_left e) n base sz room (by rw [upd_other e]; exact hp)

/-- The function that a call leads to, and its arguments. -/
def callD (t : List D) (f : Operand) (args : List Operand) : Option (FuncId × List D) :=
  match ev t f with
  | .fn (.func g) first caps => some (g, first ++ (args.map (ev t) ++ caps))
  | _ => none

/-- The value of the guard. -/
def guardD (ops : List Oper) (t : List D) (j : Nat) : Option Bool :=
  match ops[j]? with
  | some o => match o.dst with
    | some i => match t[i]? with
      | some (.v (.bool b)) => some b
      | _ => none
    | none => none
  | none => none

/-- Was the operation that guards passed over? -/
def undefD (ops : List Oper) (t : List D) (j : Nat) : Bool :=
  match ops[j]? with
  | some o => match o.dst with
    | some i => match t[i]? with
      | some (.v (.tuple _)) => true
      | _ => false
    | none => false
  | none => false

/-- Is the callee the function to yield to a loop? -/
def yieldD (t : List D) (f : Operand) : Option Nat :=
  match ev t f with
  | .fn (.yield l) [] [] => some l
  | _ => none

theorem callD_yieldD {t : List D} {f : Operand} {args : List Operand} {x : FuncId × List D} (h : callD t f args = some x) : yieldD t f = none := by
  unfold callD at h
  unfold yieldD
  split at h
  · rename_i g first caps he; rw [he]
  · cases h

/-- What a call of a yield function comes to: a round of the loop, which leaves the yielder's own blocks, and what it reads, as they are. -/
def YOk (P : Program) (G : Gh) : Prop := ∀ l g ds vs K w (F : Fr), G.I g w F → VS F.A w F.φ ds vs → (∀ n, F.A n → n < w.heap.size) → (∀ n, F.O n → n < w.heap.size) → (∀ n, F.O n → ¬ F.A n) → F.A.b0 ≤ w.heap.size → G.Y l g ds K →
  ∃ l' f tmps assign body, (Instr.yield l vs).run P w = .ok (.round l' f tmps assign body) w ∧ RoundIn Fence.wide 0 P l' f tmps assign body w fun e w' =>
    ∃ b g', e = .returned (.bool b) ∧ K b g' ∧ G.I g' w' F ∧ (∀ n, F.O n ∨ F.A n → w'.heap[n]? = w.heap[n]?) ∧ w.heap.size ≤ w'.heap.size

def execO (P : Program) (G : Gh) (o : Oper) (st : St) (K : St → Prop) : Prop :=
  match o.op with
  | .call { callee := .value f, args, .. } => match yieldD st.t f with
    | some l => G.Y l st.g (args.toList.map (ev st.t)) fun b g' => K { t := setT st.t o.dst (.v (.bool b)), H := st.H, ds := st.ds, g := g' }
    | none => match callD st.t f args.toList with
      | some (g, xs) => CallSp P g xs st.H fun d H' => K { t := setT st.t o.dst d, H := H', ds := st.ds, g := st.g }
      | none => False
  | op => match stepD P st.H st.H.length st.t op with
    | some (d, e) => K { t := setT st.t o.dst d, H := e.seq st.H, ds := st.ds, g := st.g }
    | none => False

def runOps (P : Program) (G : Gh) (ops : List Oper) : List Oper → St → (St → Prop) → Prop
  | [], st, K => K st
  | o :: rest, st, K => match o.guard with
    | none => execO P G o st fun st' => runOps P G ops rest st' K
    | some (j, want) => match guardD ops st.t j with
      | some b => if b = want then execO P G o st fun st' => runOps P G ops rest st' K else runOps P G ops rest { st with t := setT st.t o.dst (.v undef) } K
      | none => if undefD ops st.t j = true then runOps P G ops rest { st with t := setT st.t o.dst (.v undef) } K else False

/-- Is an operation run (true), or passed over (false)? -/
def wantO (ops : List Oper) (o : Oper) (t : List D) : Option Bool :=
  match o.guard with
  | none => some true
  | some (j, w) => match guardD ops t j with
    | some b => if b = w then some true else some false
    | none => if undefD ops t j = true then some false else none
theorem runOps_yes {P : Program} {G : Gh} {ops : List Oper} {o : Oper} {rest : List Oper} {st : St} {K : St → Prop} (h : wantO ops o st.t = some true) (k : execO P G o st fun st' => runOps P G ops rest st' K) : runOps P G ops (o :: rest) st K := by
  unfold runOps
  unfold wantO at h
  split at h
  · rename_i hg; (try simp only [hg]); exact k
  · rename_i j w hg
    try simp only [hg]
    split at h
    · rename_i b hb
      try simp only [hb]
      split at h
      · rename_i hbw; rw [if_pos hbw]; exact k
      · cases h
    · split at h <;> cases h
theorem runOps_no {P : Program} {G : Gh} {ops : List Oper} {o : Oper} {rest : List Oper} {st : St} {K : St → Prop} (h : wantO ops o st.t = some false) (k : runOps P G ops rest { st with t := setT st.t o.dst (.v undef) } K) : runOps P G ops (o :: rest) st K := by
  unfold runOps
  unfold wantO at h
  split at h
  · cases h
  · rename_i j w hg
    try simp only [hg]
    split at h
    · rename_i b hb
      try simp only [hb]
      split at h
      · cases h
      · rename_i hbw; rw [if_neg hbw]; exact k
    · rename_i hb
      try simp only [hb]
      split at h
      · rename_i hu; rw [if_pos hu]; exact k
      · cases h

def lift (G : Gh) (Q : Exit → St → Prop) (e : Exit) (a : Act) (w : World) : Prop := ∃ st, Q e st ∧ FR G st a w

def Sp (P : Program) (ro : Option Nat) (G : Gh) (c : Code) (st : St) (Q : Exit → St → Prop) : Prop :=
  ∀ a w, FR G st a w → c.wpIn (FW ro) 0 P (lift G Q) a w

section
variable {P : Program} {ro : Option Nat} {G : Gh} (hG : Stab G) (hY : YOk P G)

theorem Eff.app_seq {H : List Blk} {e : Eff} (h : ∀ b x, e = .upd b x → b < H.length) (h' : ∀ b x, e = .ren (some b) x → b < H.length) :
    (e = .keep ∨ ∃ b x, e = .upd b x) ∨ e.app (H ++ [.free]) H.length = e.seq H := by
  cases e with
  | keep => exact .inl (.inl rfl)
  | upd b x => exact .inl (.inr ⟨b, x, rfl⟩)
  | put x => right; simp [Eff.app, Eff.seq]
  | ren o x =>
    right
    cases o with
    | none => simp [Eff.app, Eff.seq, killO]
    | some b =>
      have := h' b x rfl
      simp only [Eff.app, Eff.seq, killO]
      rw [List.set_append_left _ _ this]
      simp

theorem upd_tab {P : Program} {H : List Blk} {t : TypeId} {m k v : D} {b : Nat} {x : Blk} (h : mapUpdD P H t m k v = some (b, x)) : ∃ y, H[b]? = some y ∧ y ≠ .free := by
  unfold mapUpdD at h
  split at h
  · split at h
    · rename_i hb
      split at h
      · cases h; exact ⟨_, hb, fun e => by cases e⟩
      · cases h; exact ⟨_, hb, fun e => by cases e⟩
      · cases h
    · cases h
  · cases h
theorem ent_tab {P : Program} {H : List Blk} {t : TypeId} {m k d : D} {b : Nat} {x : Blk} (h : mapEntD P H t m k = some (d, b, x)) : ∃ y, H[b]? = some y ∧ y ≠ .free := by
  unfold mapEntD at h
  split at h
  · split at h
    · rename_i hb
      split at h
      · cases h; exact ⟨_, hb, fun e => by cases e⟩
      · simp only [Option.map_eq_some_iff, Prod.mk.injEq] at h
        obtain ⟨_, _, _, rfl, _⟩ := h; exact ⟨_, hb, fun e => by cases e⟩
      · cases h
    · cases h
  · cases h
theorem sto_tab {H : List Blk} {m k v : D} {b : Nat} {x : Blk} (h : entStD H m k v = some (b, x)) : ∃ y, H[b]? = some y ∧ y ≠ .free := by
  unfold entStD at h
  split at h
  · split at h
    · rename_i hb
      split at h
      · cases h; exact ⟨_, hb, fun e => by cases e⟩
      · cases h
    · cases h
  · cases h
theorem del_tab {P : Program} {H : List Blk} {t : TypeId} {m k : D} {b : Nat} {x : Blk} (h : deleteD P H t m k = some (b, x)) : ∃ y, H[b]? = some y ∧ y ≠ .free := by
  unfold deleteD at h
  split at h
  · split at h
    · rename_i hb
      split at h
      · cases h; exact ⟨_, hb, fun e => by cases e⟩
      · cases h; exact ⟨_, hb, fun e => by cases e⟩
      · cases h
    · cases h
  · cases h
theorem stepD_upd {H : List Blk} {s : Nat} {t : List D} {op : Op} {d : D} {b : Nat} {x : Blk} (h : stepD P H s t op = some (d, .upd b x)) : ∃ y, H[b]? = some y ∧ y ≠ .free := by
  cases op <;> simp only [stepD, keepD, Option.map_eq_some_iff, Prod.mk.injEq, reduceCtorEq, and_false, exists_false, Option.some.injEq, Prod.exists] at h
  case makeMap _ r => cases r <;> simp [stepD] at h
  case convert => split at h <;> simp at h
  case mapUpdate => obtain ⟨_, _, h1, _, h2⟩ := h; cases h2; exact upd_tab h1
  case insert => obtain ⟨_, _, h1, _, h2⟩ := h; cases h2; exact upd_tab h1
  case mapEntry => obtain ⟨_, _, _, h1, _, h2⟩ := h; cases h2; exact ent_tab h1
  case entryStore => obtain ⟨_, _, h1, _, h2⟩ := h; cases h2; exact sto_tab h1
  case slice => split at h <;> simp at h
  case box => split at h <;> simp at h
  case store =>
    obtain ⟨b', k, h1, _, h2⟩ := h
    cases h2
    unfold storeD at h1
    split at h1
    · split at h1
      · rename_i hb
        split at h1
        · split at h1
          · cases h1; exact ⟨_, hb, fun e => by cases e⟩
          · cases h1
        · cases h1
      · cases h1
    · cases h1
  case call c =>
    obtain ⟨cal, args, tys⟩ := c
    cases cal with
    | builtin bi =>
      simp only at h
      unfold builtinD at h
      split at h
      · simp at h
      · simp only [Option.map_eq_some_iff, Prod.mk.injEq, Prod.exists] at h
        obtain ⟨_, _, h1, _, h2⟩ := h; cases h2; exact del_tab h1
      · simp only [Option.map_eq_some_iff, Prod.mk.injEq, Prod.exists] at h
        obtain ⟨_, _, h1, _, h2⟩ := h; cases h2; exact clear_live h1
      · split at h <;> simp at h
      · simp at h
      · simp at h
      · cases h
    | value f => cases h
    | invoke r m => cases h

theorem stepD_ren {H : List Blk} {s : Nat} {t : List D} {op : Op} {d : D} {b : Nat} {x : Blk} (h : stepD P H s t op = some (d, .ren (some b) x)) : ∃ y, H[b]? = some y ∧ y ≠ .free := by
  cases op <;> simp only [stepD, keepD, Option.map_eq_some_iff, Prod.mk.injEq, reduceCtorEq, and_false, exists_false, Option.some.injEq] at h
  case makeMap _ r => cases r <;> simp [stepD] at h
  case convert => split at h <;> simp at h
  case slice => split at h <;> simp at h
  case box => split at h <;> simp at h
  case call c =>
    obtain ⟨cal, args, tys⟩ := c
    cases cal with
    | builtin bi =>
      simp only at h
      unfold builtinD at h
      split at h
      · simp at h
      · simp at h
      · simp at h
      · split at h
        · simp only [Option.map_eq_some_iff, Prod.mk.injEq, Prod.exists] at h
          obtain ⟨ob, sz, m, cap, es, h1, _, h2⟩ := h
          simp only [Eff.ren.injEq] at h2
          obtain ⟨h2, _⟩ := h2
          simp only [Option.some.injEq] at h2
          subst h2
          unfold appendC at h1
          split at h1
          rotate_left
          · cases h1
          split at h1
          rotate_left
          · cases h1
          rename_i hb
          split at h1
          rotate_left
          · cases h1
          simp only [Option.some.injEq, Prod.mk.injEq] at h1
          obtain ⟨rfl, _⟩ := h1
          exact ⟨_, hb, fun e => by cases e⟩
        · simp only [Option.map_eq_some_iff, Prod.mk.injEq, Prod.exists] at h
          obtain ⟨ob, sz, es, h1, _, h2⟩ := h
          simp only [Eff.ren.injEq] at h2
          obtain ⟨rfl, _⟩ := h2
          unfold appendD at h1
          split at h1
          · split at h1
            rotate_left
            · cases h1
            split at h1
            · split at h1
              · simp at h1
              · split at h1
                · rename_i hsz
                  replace hsz := hsz.2
                  simp only [Option.some.injEq, Prod.mk.injEq] at h1
                  obtain ⟨rfl, _⟩ := h1
                  unfold Blk.hasSz at hsz
                  split at hsz
                  · rename_i hb; exact ⟨_, hb, fun e => by cases e⟩
                  · cases hsz
                · cases h1
              · cases h1
            · cases h1
          · cases h1
      · simp at h
      · simp at h
      · cases h
    | value f => cases h
    | invoke r m => cases h

theorem stepD_seq (hG : Stab G) {st : St} {a : Act} {w : World} {A : Rd} {φ : Nat → Loc} (hr : FRc G st a w A φ) {o : Oper} {d : D} {e : Eff} (h : stepD P st.H st.H.length st.t o.op = some (d, e)) :
    ∃ x w' A' φ', Ran P a o w x w' ∧ FRc G { t := setT st.t o.dst d, H := e.seq st.H, ds := st.ds, g := st.g } (a.put o.dst x) w' A' φ' := by
  have hsub : Sub st.H (st.H ++ [.free]) := fun b sz es hb => by
    rw [List.getElem?_append_left (List.getElem?_eq_some_iff.1 hb).1]; exact hb
  have hsubT : SubT st.H (st.H ++ [.free]) := fun b c es hb => by
    rw [List.getElem?_append_left (List.getElem?_eq_some_iff.1 hb).1]; exact hb
  have hk : ∃ x w' A' φ', Ran P a o w x w' ∧ FRc G { t := setT st.t o.dst d, H := e.app (st.H ++ [.free]) st.H.length, ds := st.ds, g := st.g } (a.put o.dst x) w' A' φ' :=
    stepD_ok hG hr.room (s := st.H.length) (by simp) (Hm := st.H) hsub hsubT h
  obtain ⟨x, w', A', φ', h1, h2⟩ := hk
  refine ⟨x, w', A', φ', h1, ?_⟩
  have drop : ∀ {H : List Blk}, FRc G { t := setT st.t o.dst d, H := H ++ [.free], ds := st.ds, g := st.g } (a.put o.dst x) w' A' φ' → FRc G { t := setT st.t o.dst d, H := H, ds := st.ds, g := st.g } (a.put o.dst x) w' A' φ' := fun {H} h => by
    refine ⟨⟨fun b hb => ?_, fun b hb => ?_, fun b hb => ?_, fun b sz es hb => ?_, fun b clk es hb => ?_, h.rh.inj, h.rh.dis, h.rh.lt, h.rh.olt, h.rh.ofr, h.rh.bsz, h.rh.la⟩, h.tr, h.gh, h.df, h.dk, h.nd⟩
    · rcases Nat.lt_trichotomy b H.length with hl | hl | hl
      · rw [List.getElem?_eq_none_iff] at hb; exact absurd hb (Nat.not_le_of_lt hl)
      · exact h.rh.free b (by subst hl; simp)
      · exact h.rh.out b (by simp; omega)
    · exact h.rh.free b (by rw [List.getElem?_append_left (List.getElem?_eq_some_iff.1 hb).1]; exact hb)
    · exact h.rh.dead b (by rw [List.getElem?_append_left (List.getElem?_eq_some_iff.1 hb).1]; exact hb)
    · exact h.rh.live b sz es (by rw [List.getElem?_append_left (List.getElem?_eq_some_iff.1 hb).1]; exact hb)
    · exact h.rh.tab b clk es (by rw [List.getElem?_append_left (List.getElem?_eq_some_iff.1 hb).1]; exact hb)
  rcases Eff.app_seq (H := st.H) (e := e) (fun b x he => let ⟨_, h, _⟩ := stepD_upd (he ▸ h); (List.getElem?_eq_some_iff.1 h).1) (fun b x he => let ⟨_, h, _⟩ := stepD_ren (he ▸ h); (List.getElem?_eq_some_iff.1 h).1) with (rfl | ⟨b, y, rfl⟩) | he
  · exact drop h2
  · refine drop ?_
    obtain ⟨_, hb, _⟩ := stepD_upd h
    replace hb := (List.getElem?_eq_some_iff.1 hb).1
    simp only [Eff.app, Eff.seq] at h2 ⊢
    rwa [List.set_append_left _ _ hb] at h2
  · rwa [he] at h2

theorem guard_ok {ops : List Oper} {A : Rd} {w : World} {φ : Nat → Loc} {t : List D} {tmps : Array Value} (ht : TR A w φ t tmps) {j : Nat} {b : Bool} (h : guardD ops t j = some b) :
    yielded ops.toArray tmps j = some b := by
  unfold guardD at h
  split at h
  · rename_i o ho
    split at h
    · rename_i i hi
      split at h
      · rename_i b' hb
        cases h
        have hlt : i < tmps.size := by rw [ht.size]; exact (List.getElem?_eq_some_iff.1 hb).1
        have hv := (ht.val i _ tmps[i] hb (by simp [hlt])).v_inv
        simp [yielded, ho, hi, hlt, hv]
      · cases h
    · cases h
  · cases h

theorem undef_ok {ops : List Oper} {A : Rd} {w : World} {φ : Nat → Loc} {t : List D} {tmps : Array Value} (ht : TR A w φ t tmps) {j : Nat} (h : undefD ops t j = true) :
    yielded ops.toArray tmps j = none := by
  unfold undefD at h
  split at h
  · rename_i o ho
    split at h
    · rename_i i hi
      split at h
      · rename_i b' hb
        have hlt : i < tmps.size := by rw [ht.size]; exact (List.getElem?_eq_some_iff.1 hb).1
        have hv := (ht.val i _ tmps[i] hb (by simp [hlt])).v_inv
        simp [yielded, ho, hi, hlt, hv]
      · cases h
    · cases h
  · cases h

theorem CallSp.any {f : FuncId} {args : List D} {H : List Blk} {Q : D → List Blk → Prop} (h : CallSp P f args H Q) (ro : Option Nat) (w : World) (A : Rd) (φ : Nat → Loc) (vs : Array Value)
    (hr : RH A φ w H) (hv : VS A w φ args vs) : CallsIn (FW ro) 0 P f vs w fun e w' => ∃ (v : Value) (d : D) (H' : List Blk) (A' : Rd) (φ' : Nat → Loc), e = .returned v ∧ Q d H' ∧ RH A' φ' w' H' ∧ V A' w' φ' d v ∧ Evo w A φ w' A' φ' :=
  h.2 w A φ vs hr hv

theorem FRc.evo (hG : Stab G) {st : St} {a : Act} {w w' : World} {A A' : Rd} {φ φ' : Nat → Loc} (h : FRc G st a w A φ) {H' : List Blk} (hr : RH A' φ' w' H') (he : Evo w A φ w' A' φ') :
    FRc G { st with H := H' } a w' A' φ' := h.step hG hr he.ext he.up he.new he.le he.b0

theorem execO_ok (hG : Stab G) (hY : YOk P G) {st : St} {a : Act} {w : World} {o : Oper} {K : St → Prop} {next : Act → World → Prop} {Q : Exit → Act → World → Prop} (hr : FR G st a w) (h : execO P G o st K)
    (hK : ∀ st' a' w', K st' → FR G st' a' w' → next a' w') : o.wpIn (FW ro) 0 P a w next Q := by
  obtain ⟨A, φ, hr⟩ := hr
  refine ⟨fun _ _ => trivial, ?_⟩
  have plain : ∀ {d : D} {e : Eff}, stepD P st.H st.H.length st.t o.op = some (d, e) → K { t := setT st.t o.dst d, H := e.seq st.H, ds := st.ds, g := st.g } → (∀ c, o.op ≠ .defer c) →
      o.uponIn (FW ro) 0 P a next Q ((o.semAt (FW ro).round a.eval).run P w) := fun {d e} h1 h2 h3 => by
    obtain ⟨x, w', A', φ', h4, h5⟩ := stepD_seq hG hr h1
    rw [Oper.semAt_eq _ _ _ h3]
    rcases h4 with h4 | ⟨h4, rfl⟩
    · rw [h4]; exact hK _ _ _ h2 ⟨A', φ', h5⟩
    · rw [h4]; exact hK _ _ _ h2 ⟨A', φ', h5⟩
  have rest : (match stepD P st.H st.H.length st.t o.op with | some (d, e) => K { t := setT st.t o.dst d, H := e.seq st.H, ds := st.ds, g := st.g } | none => False) → (∀ c, o.op ≠ .defer c) →
      o.uponIn (FW ro) 0 P a next Q ((o.semAt (FW ro).round a.eval).run P w) := fun h1 h3 => by
    split at h1
    · rename_i d e h2; exact plain h2 h1 h3
    · exact h1.elim
  cases ho : o.op with
  | call c =>
    obtain ⟨cal, args, tys⟩ := c
    cases cal with
    | value f =>
      unfold execO at h
      rw [ho] at h
      simp only at h
      split at h
      · rename_i l hl
        unfold yieldD at hl
        split at hl
        · rename_i l' hf
          cases hl
          have hvf := hr.tr.ev f
          rw [hf] at hvf
          generalize hu : a.eval f = u at hvf
          cases hvf with
          | fn _ _ _ _ vs us hl hl' hh hh' =>
            obtain rfl : vs = #[] := Array.eq_empty_of_size_eq_zero hl
            obtain rfl : us = #[] := Array.eq_empty_of_size_eq_zero hl'
            have hvs : VS A w φ (args.toList.map (ev st.t)) (args.map a.eval) := by
              refine ⟨by simp, fun i d u h1 h2 => ?_⟩
              simp only [List.getElem?_map, Option.map_eq_some_iff, Array.getElem?_map, Array.getElem?_toList] at h1 h2
              obtain ⟨x, h1, rfl⟩ := h1
              obtain ⟨y, h2, rfl⟩ := h2
              rw [h1] at h2; cases h2; exact hr.tr.ev x
            have hsz : ∀ n, ownAll φ st.ds n → n < w.heap.size := fun n hn => hn.elim (hr.rh.olt n) fun hm => (Array.getElem?_eq_some_iff.1 (hr.dk n hm).1).1
            have hdj : ∀ n, ownAll φ st.ds n → ¬ A n := fun n hn => hn.elim (hr.rh.dis n) fun hm => (hr.dk n hm).2.1
            obtain ⟨l', f', tmps, asg, body, h1, h2⟩ := hY l st.g _ _ _ w _ hr.gh hvs hr.rh.lt hsz hdj hr.rh.bsz h
            have hsem : (o.semAt (FW ro).round a.eval).run P w = .ok (.round l' f' tmps asg body) w := by
              rw [Oper.semAt_eq _ _ _ (by rw [ho]; simp)]
              simp only [execOp, ho, resolve, hu, Deferred.ofValue, Sem.run_bind, Sem.run_pure, Result.andThen, invoke]
              simpa using h1
            rw [hsem]
            refine ⟨fun hd => by simp [FW, Fence.wide] at hd, RoundIn.mono (F := FW ro) h2 ?_⟩
            rintro e w' ⟨b, g', rfl, k1, k2, k3, k4⟩
            have hr' : FRc G { t := st.t, H := st.H, ds := st.ds, g := g' } a w' A φ :=
              ⟨hr.rh.move (fun m hm => k3 m (.inr hm)) (fun m hm => k3 m (.inl (.inl hm))) k4, hr.tr.mono (fun _ x => x) (fun m hm => k3 m (.inr hm)) (fun _ => Loc.le_refl _), k2, hr.df,
                fun r hm => ⟨(k3 r (.inl (.inr hm))).trans (hr.dk r hm).1, (hr.dk r hm).2⟩, hr.nd⟩
            exact hK _ _ _ k1 ⟨A, φ, hr'.value o.dst (.v _ _)⟩
        · cases hl
      · rename_i hyl
        split at h
        · rename_i g xs hc
          unfold callD at hc
          split at hc
          · rename_i g' first caps hf
            simp only [Option.some.injEq, Prod.mk.injEq] at hc
            obtain ⟨rfl, rfl⟩ := hc
            have hvf := hr.tr.ev f
            rw [hf] at hvf
            generalize hu : a.eval f = u at hvf
            cases hvf with
            | fn _ _ _ _ vs us hl hl' hh hh' =>
              have hsem : (o.semAt (FW ro).round a.eval).run P w = .ok (.enter g' (vs ++ args.map a.eval ++ us)) w := by
                rw [Oper.semAt_eq _ _ _ (by rw [ho]; simp)]
                simp only [execOp, ho, resolve, hu, Deferred.ofValue, Sem.run_bind, Sem.run_pure, Result.andThen, invoke]
                exact h.1 _ _
              rw [hsem]
              refine ⟨fun hd => by simp [FW, Fence.wide] at hd, ?_⟩
              have hvs : VS A w φ (first ++ (args.toList.map (ev st.t) ++ caps)) (vs ++ args.map a.eval ++ us) := by
                refine ⟨by simp [hl, hl'], fun i d u h1 h2 => ?_⟩
                rw [Array.append_assoc, Array.getElem?_append] at h2
                rw [List.getElem?_append] at h1
                split at h1
                · rename_i hi
                  rw [if_pos (by omega)] at h2
                  exact hh i d u h1 h2
                · rename_i hi
                  rw [if_neg (by omega), Array.getElem?_append] at h2
                  rw [List.getElem?_append] at h1
                  rw [hl] at h2
                  simp only [Array.size_map] at h2
                  split at h1
                  · rename_i hi2
                    rw [if_pos (by simpa using hi2)] at h2
                    simp only [List.getElem?_map, Option.map_eq_some_iff, Array.getElem?_map, Array.getElem?_toList] at h1 h2
                    obtain ⟨x, h1, rfl⟩ := h1
                    obtain ⟨y, h2, rfl⟩ := h2
                    rw [h1] at h2; cases h2; exact hr.tr.ev x
                  · rename_i hi2
                    rw [if_neg (by simpa using hi2)] at h2
                    simp only [List.length_map, Array.length_toList] at h1
                    exact hh' _ d u h1 h2
              refine (h.any ro w A φ _ hr.rh hvs).mono ?_
              rintro e w' ⟨v, d, H', A', φ', rfl, q, h1, h2, h3⟩
              exact hK _ _ _ q ⟨A', φ', (hr.evo hG h1 h3).value o.dst h2⟩
          · cases hc
        · exact h.elim
    | builtin b => exact rest (by unfold execO at h; rw [ho] at h; rw [ho]; exact h) (by rw [ho]; simp)
    | invoke r m => exact rest (by unfold execO at h; rw [ho] at h; rw [ho]; exact h) (by rw [ho]; simp)
  | defer c => unfold execO at h; rw [ho] at h; exact h.elim
  | _ => exact rest (by unfold execO at h; rw [ho] at h; rw [ho]; exact h) (by rw [ho]; simp)

theorem runOps_ok (hG : Stab G) (hY : YOk P G) {ops : List Oper} {Q : Exit → Act → World → Prop} {K : St → Prop} (hK : ∀ st' a' w', K st' → FR G st' a' w' → Q .normal a' w') : ∀ (l : List Oper) (st : St) (a : Act) (w : World), FR G st a w → runOps P G ops l st K →
    wpListIn (FW ro) 0 P ops.toArray Q l a w
  | [], st, a, w, hr, h => hK st a w h hr
  | o :: l, st, a, w, hr, h => by
    have ih := runOps_ok (ops := ops) hG hY hK l
    unfold runOps at h
    unfold wpListIn
    split at h
    · rename_i hg
      rw [if_pos (by simp [Region.wanted, hg])]
      exact execO_ok hG hY hr h fun st' a' w' h1 h2 => ih st' a' w' h2 h1
    · rename_i j want hg
      split at h
      · rename_i b hb
        obtain ⟨A, φ, hr'⟩ := hr
        have hy := guard_ok (ops := ops) hr'.tr hb
        have hw : Region.wanted o (yielded ops.toArray a.tmps) = (b == want) := by simp [Region.wanted, hg, hy]
        rw [hw]
        split at h
        · rename_i hbw
          rw [if_pos (by simpa using hbw)]
          exact execO_ok hG hY ⟨A, φ, hr'⟩ h fun st' a' w' h1 h2 => ih st' a' w' h2 h1
        · rename_i hbw
          rw [if_neg (by simpa using hbw)]
          exact ⟨fun _ _ => trivial, ih _ _ _ ⟨A, φ, hr'.value o.dst (.v _ undef)⟩ h⟩
      · split at h
        · rename_i hu
          obtain ⟨A, φ, hr'⟩ := hr
          have hy := undef_ok (ops := ops) hr'.tr hu
          have hw : Region.wanted o (yielded ops.toArray a.tmps) = false := by simp [Region.wanted, hg, hy]
          rw [hw, if_neg (by simp)]
          exact ⟨fun _ _ => trivial, ih _ _ _ ⟨A, φ, hr'.value o.dst (.v _ undef)⟩ h⟩
        · exact h.elim

theorem Sp.mono {c : Code} {st : St} {Q Q' : Exit → St → Prop} (h : Sp P ro G c st Q) (k : ∀ e s, Q e s → Q' e s) : Sp P ro G c st Q' :=
  fun a w hr => wpIn_mono (h a w hr) fun e _ _ ⟨s, q, r⟩ => ⟨s, k e s q, r⟩

theorem Sp_region (hG : Stab G) (hY : YOk P G) {id : Nat} {ops : List Oper} {st : St} {Q : Exit → St → Prop} (h : runOps P G ops ops st (Q .normal)) : Sp P ro G (.region id ops.toArray false) st Q :=
  fun a w hr => wpIn_region_lit (runOps_ok hG hY (fun st' _ _ q r => ⟨st', q, r⟩) ops st a w hr h)

theorem Sp_seq {x y : Code} {st : St} {Q : Exit → St → Prop} (h : Sp P ro G x st fun e s => match e with | .normal => Sp P ro G y s Q | e => Q e s) : Sp P ro G (.seq x y) st Q :=
  fun a w hr => wpIn_seq (wpIn_mono (h a w hr) fun e a w ⟨s, q, r⟩ => by
    cases e with
    | normal => exact q a w r
    | _ => exact ⟨s, q, r⟩)

theorem Sp_cond {c : Operand} {x y : Code} {st : St} {Q : Exit → St → Prop} {b : Bool} (hc : ev st.t c = .v (.bool b)) (hx : b = true → Sp P ro G x st Q) (hy : b = false → Sp P ro G y st Q) : Sp P ro G (.cond c x y) st Q :=
  fun a w hr => by
    obtain ⟨A, φ, hr'⟩ := hr
    have hv := hr'.tr.ev c
    rw [hc] at hv
    refine wpIn_cond hv.v_inv ?_
    cases b with
    | true => exact hx rfl a w ⟨A, φ, hr'⟩
    | false => exact hy rfl a w ⟨A, φ, hr'⟩

def QBlock (id : Nat) (Q : Exit → St → Prop) : Exit → St → Prop
  | .exit id', s => if id' = id then Q .normal s else Q (.exit id') s
  | e, s => Q e s

theorem Sp_block {id : Nat} {c : Code} {st : St} {Q : Exit → St → Prop} (h : Sp P ro G c st (QBlock id Q)) : Sp P ro G (.block id c) st Q :=
  fun a w hr => wpIn_block (wpIn_mono (h a w hr) fun e a w ⟨s, q, r⟩ => by
    cases e with
    | exit id' =>
      simp only [Exit.inBlock, QBlock] at q ⊢
      split
      · rename_i hi; rw [if_pos hi] at q; exact ⟨s, q, r⟩
      · rename_i hi; rw [if_neg hi] at q; exact ⟨s, q, r⟩
    | _ => exact ⟨s, q, r⟩)

theorem exists_least {p : Nat → Prop} (h : ∃ n, p n) : ∃ n, p n ∧ ∀ m, p m → n ≤ m := by
  obtain ⟨n, hn⟩ := h
  induction n using Nat.strongRecOn with
  | _ n ih =>
    by_cases hm : ∃ m, m < n ∧ p m
    · obtain ⟨m, h1, h2⟩ := hm; exact ih m h1 h2
    · refine ⟨n, hn, fun m h2 => Nat.le_of_not_lt fun h1 => hm ⟨m, h1, h2⟩⟩

open Classical in
noncomputable def leastOf (p : Nat → Prop) : Nat := if h : ∃ n, p n then Classical.choose (exists_least h) else 0
theorem leastOf_spec {p : Nat → Prop} (h : ∃ n, p n) : p (leastOf p) ∧ ∀ m, p m → leastOf p ≤ m := by
  unfold leastOf
  rw [dif_pos h]
  exact Classical.choose_spec (exists_least h)

/-- A loop: I j holds where at most j rounds are left. -/
theorem Sp_loop {c : Code} {st : St} {Q : Exit → St → Prop} (I : Nat → St → Prop) (h0 : ∃ j, I j st)
    (h : ∀ j s, I j s → Sp P ro G c s fun e s' => match e with | .normal => ∃ j', j' < j ∧ I j' s' | e => Q e s') : Sp P ro G (.loop c) st Q := fun a w hr => by
  refine wpIn_loop (fun a w => ∃ j s, I j s ∧ FR G s a w) (fun a w => leastOf fun j => ∃ s, I j s ∧ FR G s a w) ?_ ?_
  · obtain ⟨j, hj⟩ := h0; exact ⟨j, st, hj, hr⟩
  · intro a w hI
    obtain ⟨⟨s, h1, h2⟩, _⟩ := leastOf_spec hI
    refine wpIn_mono (h _ s h1 a w h2) fun e a' w' ⟨s', q, r⟩ => ?_
    cases e with
    | normal =>
      obtain ⟨j', hj, hI'⟩ := q
      have := (leastOf_spec (p := fun j => ∃ s, I j s ∧ FR G s a' w') ⟨j', s', hI', r⟩).2 j' ⟨s', hI', r⟩
      exact ⟨⟨j', s', hI', r⟩, by show leastOf _ < leastOf _; omega⟩
    | _ => exact ⟨s', q, r⟩

/-- What has to be shown of code; a loop, or a range over a function, stays as it is. -/
def vc (P : Program) (ro : Option Nat) (G : Gh) : Code → St → (Exit → St → Prop) → Prop
  | .skip, st, Q => Q .normal st
  | .region _ ops false, st, Q => runOps P G ops.toList ops.toList st (Q .normal)
  | .seq x y, st, Q => vc P ro G x st fun e s => match e with | .normal => vc P ro G y s Q | e => Q e s
  | .cond c x y, st, Q => match ev st.t c with
    | .v (.bool b) => (b = true → vc P ro G x st Q) ∧ (b = false → vc P ro G y st Q)
    | _ => False
  | .block id c, st, Q => vc P ro G c st (QBlock id Q)
  | .exit id, st, Q => Q (.exit id) st
  | .ret, st, Q => Q .ret st
  | c, st, Q => Sp P ro G c st Q

theorem vc_ok (hG : Stab G) (hY : YOk P G) : ∀ (c : Code) {st : St} {Q : Exit → St → Prop}, vc P ro G c st Q → Sp P ro G c st Q
  | .skip, st, Q, h => fun _ _ hr => wpIn_skip ⟨st, h, hr⟩
  | .region id ops draw, st, Q, h => by
    cases draw with
    | true => exact h
    | false =>
      obtain ⟨ops, rfl⟩ : ∃ l : List Oper, l.toArray = ops := ⟨ops.toList, by simp⟩
      exact Sp_region hG hY (by simpa [vc] using h)
  | .seq x y, st, Q, h => Sp_seq ((vc_ok hG hY x h).mono fun e s q => by
      cases e with
      | normal => exact vc_ok hG hY y q
      | _ => exact q)
  | .cond c x y, st, Q, h => by
    unfold vc at h
    split at h
    · rename_i b hb; exact Sp_cond hb (fun e => vc_ok hG hY x (h.1 e)) fun e => vc_ok hG hY y (h.2 e)
    · exact h.elim
  | .block id c, st, Q, h => Sp_block (vc_ok hG hY c h)
  | .exit id, st, Q, h => fun _ _ hr => wpIn_exit ⟨st, h, hr⟩
  | .ret, st, Q, h => fun _ _ hr => wpIn_ret ⟨st, h, hr⟩
  | .loop c, st, Q, h => h
  | .rangeFunc _ _ _ _, st, Q, h => h
  | .scope _, st, Q, h => h
  | .label _, st, Q, h => h
  | .goto _, st, Q, h => h
  | .refuse _, st, Q, h => h
end
end
end Go.DL

/- A function's plain contract out of what has to be shown of its code. -/
namespace Go.DL
open Go.RowKit Go.Proofs

noncomputable section
set_option linter.unusedSectionVars false
variable [Tabs]

def resOne (P : Program) (s : St) : ResultVar → Option D
  | .tmp t => some (s.t.getD t .any)
  | .cell a t => loadD P s.H t (s.t.getD a .any)

def resL (P : Program) (s : St) : List ResultVar → Option (List D)
  | [] => some []
  | r :: rs => match resOne P s r, resL P s rs with
    | some d, some ds => some (d :: ds)
    | _, _ => none

def resD (P : Program) (rs : List ResultVar) (s : St) : Option D :=
  match resL P s rs with
  | some [d] => some d
  | some ds => some (.tup ds)
  | none => none

/-- Does a value speak of fresh memory alone (own blocks are)? -/
def frK (lk : Nat → Option Blk) : Nat → D → Bool
  | _, .v _ => true
  | _, .any => true
  | _, .nil => true
  | _, .fl _ => true
  | k + 1, .ms b _ _ _ => match lk b with
    | some (.live _ es) => es.all fun e => e.all (frK lk k)
    | _ => true
  | _, _ => false

/-- How a result reads. -/
def snapR (lk : Nat → Option Blk) : Nat → D → D
  | _, .nil => .fl []
  | _, .fl es => .fl es
  | k + 1, .agg cs => .agg (cs.map (snapR lk k))
  | k + 1, .tup cs => .tup (cs.map (snapR lk k))
  | k + 1, .ms b off len _ => match lk b with
    | some (.live _ es) => if off + len ≤ es.length then
        if es.all (fun e => e.all (frK lk k)) = true then .fl (((es.take (off + len)).drop off).map (List.map (snap lk k))) else .sl (((es.take (off + len)).drop off).map (List.map (snap lk k)))
      else .any
    | _ => .any
  | k, d => snap lk k d

/-- What is asked where a function ends: its result reads as d. -/
def Post (P : Program) (rs : List ResultVar) (d : D) : Exit → St → Prop
  | .normal, s => (resD P rs s).map (snapR (fun b => s.H[b]?) 5) = some d
  | .ret, s => (resD P rs s).map (snapR (fun b => s.H[b]?) 5) = some d
  | _, _ => False

section
variable {P : Program} {w : World} {A : Rd} {φ : Nat → Loc}

def resSem (tmps : Array Value) : ResultVar → Sem Value
  | .tmp t => pure (tmps.getD t undef)
  | .cell b t => do loadVar t (← asAddr (tmps.getD b undef))

theorem run_resOne {st : St} {a : Act} (hr : RH A φ w st.H) (ht : TR A w φ st.t a.tmps) {r : ResultVar} {d : D} (h : resOne P st r = some d) :
    ∃ x, (resSem a.tmps r).run P w = .ok x w ∧ V A w φ d x := by
  cases r with
  | tmp t =>
    simp only [resOne, Option.some.injEq] at h
    subst h
    exact ⟨_, rfl, (by rw [← lkF_eq]; exact ht.ev (.tmp t))⟩
  | cell b t =>
    have hv := ht.ev (.tmp b)
    have h' : loadD P st.H t (st.t.getD b .any) = some d := h
    simp only [ev, lkF_eq, Act.eval] at hv
    unfold loadD at h'
    split at h'
    · rename_i cs hcs
      obtain ⟨n, o, hu, hc⟩ := peek_ok hr (Sub.refl _) hv hcs
      obtain ⟨x, h1, h2⟩ := run_loadVar_take h' hc
      exact ⟨x, by simp only [resSem, hu, asAddr, Sem.run_bind, Sem.run_pure, Result.andThen, h1], h2⟩
    · cases h'

theorem run_resL {st : St} {a : Act} (hr : RH A φ w st.H) (ht : TR A w φ st.t a.tmps) : ∀ {rs : List ResultVar} {ds : List D}, resL P st rs = some ds →
    ∃ xs : List Value, (rs.mapM (resSem a.tmps)).run P w = .ok xs w ∧ xs.length = ds.length ∧
      ∀ (i : Nat) (d : D) (u : Value), ds[i]? = some d → xs[i]? = some u → V A w φ d u
  | [], ds, h => by
    simp only [resL, Option.some.injEq] at h; subst h
    exact ⟨[], rfl, rfl, by simp⟩
  | r :: rs, ds, h => by
    simp only [resL] at h
    split at h
    · rename_i d ds' h1 h2
      cases h
      obtain ⟨x, k1, k2⟩ := run_resOne hr ht h1
      obtain ⟨xs, k3, k4, k5⟩ := run_resL hr ht h2
      refine ⟨x :: xs, ?_, by simp [k4], fun i d' u h3 h4 => ?_⟩
      · simp only [List.mapM_cons, Sem.run_bind, k1, Result.andThen, Sem.run_pure, k3]
      · cases i with
        | zero => simp at h3 h4; subst h3; subst h4; exact k2
        | succ i => simp at h3 h4; exact k5 i d' u h3 h4
    · cases h

theorem run_resD {st : St} {a : Act} (hr : RH A φ w st.H) (ht : TR A w φ st.t a.tmps) {fn : Func} {d : D} (h : resD P fn.results.toList st = some d) :
    ∃ x, (results fn a.tmps).run P w = .ok x w ∧ V A w φ d x := by
  have hres : results fn a.tmps = (do let vs ← fn.results.mapM (resSem a.tmps); pure (if h : vs.size = 1 then vs[0] else .tuple vs)) := by
    unfold results
    congr 2
  unfold resD at h
  have key : ∀ {ds : List D}, resL P st fn.results.toList = some ds → ∃ xs : List Value, (results fn a.tmps).run P w = .ok (if h : xs.toArray.size = 1 then xs.toArray[0] else .tuple xs.toArray) w ∧ xs.length = ds.length ∧
      ∀ (i : Nat) (d : D) (u : Value), ds[i]? = some d → xs[i]? = some u → V A w φ d u := fun {ds} hl => by
    obtain ⟨xs, k1, k2, k3⟩ := run_resL hr ht hl
    refine ⟨xs, ?_, k2, k3⟩
    rw [hres, Array.mapM_eq_mapM_toList, Sem.run_bind, Sem.run_map, k1]
    rfl
  split at h
  · rename_i d' hl
    cases h
    obtain ⟨xs, k1, k2, k3⟩ := key hl
    match xs, k2 with
    | [x], _ => exact ⟨x, by rw [k1]; rfl, k3 0 _ x rfl rfl⟩
  · rename_i ds hne hl
    cases h
    obtain ⟨xs, k1, k2, k3⟩ := key hl
    have hne1 : ¬ (xs.toArray.size = 1) := fun e => by
      simp only [List.size_toArray] at e
      match ds, hne, k2 with
      | [d], hne, _ => exact hne d rfl
      | [], _, k2 => simp at k2; subst k2; cases e
      | _ :: _ :: _, _, k2 => simp at k2; omega
    rw [dif_neg hne1] at k1
    exact ⟨_, k1, .tup _ _ _ (by simpa using k2) fun i d u h1 h2 => k3 i d u h1 (by simpa using h2)⟩
  · cases h
end

theorem V.snapF {A : Rd} {w : World} {φ : Nat → Loc} {H : List Blk} (hr : RH A φ w H) {lk : Nat → Option Blk} (hlk : ∀ b sz es, lk b = some (.live sz es) → H[b]? = some (.live sz es)) {B : Rd}
    (hA : ∀ n, A n → A.b0 ≤ n → B n) (hB : ∀ n, own φ n → B n) :
    ∀ (k : Nat) {d : D} {u : Value}, V A w φ d u → frK lk k d = true → V B w nowhere (DL.snap lk k d) u := by
  have leaf : ∀ {es : List (List D)} {u : Value}, V A w φ (.fl es) u → V B w nowhere (.sl es) u := fun {es u} h => by
    cases h with
    | fl0 => exact .sl0 _ _ _
    | fl _ _ n off sz cap u ha hcap hsz hc h =>
      exact .sl _ _ n off sz cap u (hA n ha.1 ha.2) hcap hsz hc fun i e j d h1 h2 => V.mono (A := A.fresh) (A' := B.all) (fun m hm => hA m hm.1 hm.2) (fun _ _ => rfl) (fun _ => Loc.le_refl _) (h i e j d h1 h2)
  intro k
  induction k with
  | zero =>
    intro d u h hd
    cases d <;> simp [frK] at hd
    · cases h; exact .v _ _
    · exact leaf h
    · cases h; exact .sl0 _ _ _
    · exact .any _ _
  | succ k ih =>
    intro d u h hd
    cases d <;> simp only [frK, Bool.false_eq_true] at hd
    · cases h; exact .v _ _
    · exact leaf h
    · rename_i b off len cap
      cases h with
      | ms _ _ _ _ _ cap' a hlen hcap h =>
        simp only [DL.snap]
        split
        · rename_i sz es hb0
          have hb := hlk _ _ _ hb0
          rw [hb0] at hd
          simp only [List.all_eq_true] at hd
          split
          · rename_i hol
            rcases hr.live b sz es hb with ⟨rfl, hp⟩ | ⟨n, base, room, c, ty, hp, hl⟩
            · simp at hol; obtain ⟨rfl, rfl⟩ := hol
              simp; exact .sl0 _ _ _
            · rw [hp] at h
              obtain ⟨h1, h2⟩ := h
              rcases Nat.eq_zero_or_pos len with hz | hz
              · subst hz; simp; exact .sl0 _ _ _
              have ha : a = some ⟨n, base + off * sz, none⟩ := h2.resolve_left (by omega)
              subst ha
              have hlen2 : (((es.take (off + len)).drop off).map (List.map (DL.snap lk k))).length = len := by simp; omega
              have hex : ∀ (i : Nat) (e : List D), (((es.take (off + len)).drop off).map (List.map (DL.snap lk k)))[i]? = some e → ∃ e0, es[off + i]? = some e0 ∧ e = e0.map (DL.snap lk k) := fun i e he => by
                simp only [List.getElem?_map, Option.map_eq_some_iff, List.getElem?_drop, List.getElem?_take] at he
                obtain ⟨e0, he, rfl⟩ := he
                split at he
                · exact ⟨e0, he, rfl⟩
                · cases he
              have hcell : ∀ (i : Nat) (e : List D) (j : Nat) (d : D), (((es.take (off + len)).drop off).map (List.map (DL.snap lk k)))[i]? = some e → e[j]? = some d →
                  w.cell? ⟨n, base + off * sz + i * sz + j, none⟩ = some ((c[base + (off + i) * sz + j]?).getD default) ∧ V B w nowhere d ((c[base + (off + i) * sz + j]?).getD default) := fun i e j d he hd' => by
                obtain ⟨e0, h3, rfl⟩ := hex i e he
                simp only [List.getElem?_map, Option.map_eq_some_iff] at hd'
                obtain ⟨d0, h4, rfl⟩ := hd'
                obtain ⟨u, hu, hv⟩ := hl.val _ _ _ _ h3 h4
                rw [cell_of_blk hl.blk, show base + off * sz + i * sz + j = base + (off + i) * sz + j by rw [Nat.add_mul]; omega, hu]
                exact ⟨rfl, ih hv (hd e0 (List.mem_of_getElem? h3) d0 (List.mem_of_getElem? h4))⟩
              have := V.sl (A := B) (w := w) nowhere (((es.take (off + len)).drop off).map (List.map (DL.snap lk k))) n (base + off * sz) sz cap' (fun i j => (c[base + (off + i) * sz + j]?).getD default)
                (hB n ⟨b, _, _, _, hp⟩) (by omega) (fun i e he => by obtain ⟨e0, h3, rfl⟩ := hex i e he; simpa using hl.len _ _ h3)
                (fun i e j d he hd => (hcell i e j d he hd).1)
                (fun i e j d he hd => V.mono (A := B) (A' := B.all) (fun _ x => x) (fun _ _ => rfl) (fun _ => Loc.le_refl _) (hcell i e j d he hd).2 (Nat.zero_le _))
              rw [hlen2] at this
              exact this
          · exact .any _ _
        · exact .any _ _
    · cases h; exact .sl0 _ _ _
    · exact .any _ _

theorem V.snapR {A : Rd} {w : World} {φ : Nat → Loc} {H : List Blk} (hr : RH A φ w H) {lk : Nat → Option Blk} (hlk : ∀ b sz es, lk b = some (.live sz es) → H[b]? = some (.live sz es)) :
    ∀ (k : Nat) {d : D} {u : Value}, V A w φ d u → V (both A φ) w nowhere (DL.snapR lk k d) u := by
  have plain : ∀ (k : Nat) {d : D} {u : Value}, V A w φ d u → V (both A φ) w nowhere (DL.snap lk k d) u := fun k d u h =>
    h.snap hr hlk (fun _ x => Or.inl x) (fun b sz es n base sz' room _ hp => Or.inr ⟨b, _, _, _, hp⟩) k
  have leaf : ∀ {es : List (List D)} {u : Value}, V A w φ (.fl es) u → V (both A φ) w nowhere (.fl es) u := fun {es u} h => by
    cases h with
    | fl0 => exact .fl0 _ _ _
    | fl _ _ n off sz cap u ha hcap hsz hc h =>
      exact .fl _ _ n off sz cap u ⟨Or.inl ha.1, ha.2⟩ hcap hsz hc fun i e j d h1 h2 =>
        V.mono (A := A.fresh) (A' := (both A φ).fresh) (fun m hm => ⟨Or.inl hm.1, hm.2⟩) (fun _ _ => rfl) (fun _ => Loc.le_refl _) (h i e j d h1 h2)
  intro k
  induction k with
  | zero =>
    intro d u h
    cases d with
    | nil => cases h; exact .fl0 _ _ _
    | fl es => exact leaf h
    | _ => exact plain 0 h
  | succ k ih =>
    intro d u h
    cases d with
    | nil => cases h; exact .fl0 _ _ _
    | fl es => exact leaf h
    | agg cs =>
      cases h with
      | agg _ _ vs hl h =>
        refine .agg _ _ _ (by simpa using hl) fun i d u h1 h2 => ?_
        simp only [List.getElem?_map, Option.map_eq_some_iff] at h1
        obtain ⟨d0, h1, rfl⟩ := h1
        exact ih (h i d0 u h1 h2)
    | tup cs =>
      cases h with
      | tup _ _ vs hl h =>
        refine .tup _ _ _ (by simpa using hl) fun i d u h1 h2 => ?_
        simp only [List.getElem?_map, Option.map_eq_some_iff] at h1
        obtain ⟨d0, h1, rfl⟩ := h1
        exact ih (h i d0 u h1 h2)
    | ms b off len cap =>
      have hp := plain (k + 1) h
      simp only [DL.snapR]
      simp only [DL.snap] at hp
      split
      · rename_i sz es hb0
        simp only [hb0] at hp
        split
        · rename_i hol
          rw [if_pos hol] at hp
          split
          · rename_i hall
            -- the same, as fresh memory
            have hF := h.snapF hr hlk (B := (both A φ).fresh) (fun n h1 h2 => ⟨Or.inl h1, h2⟩) (fun n hn => ⟨Or.inr hn, hr.ofr n hn⟩) (k + 1) (by simp only [frK, hb0]; exact hall)
            simp only [DL.snap, hb0, if_pos hol] at hF
            generalize ((es.take (off + len)).drop off).map (List.map (DL.snap lk k)) = L at hF
            cases hF with
            | sl0 => exact .fl0 _ _ _
            | sl _ _ n off sz cap u ha hcap hsz hc hq => exact .fl _ _ n off sz cap u ha hcap hsz hc fun i e j d h1 h2 => hq i e j d h1 h2
          · exact hp
        · exact .any _ _
      · exact .any _ _
    | _ => exact plain (k + 1) h

theorem not_own_nowhere (n : Nat) : ¬ own nowhere n := fun ⟨_, _, _, _, h⟩ => by cases h

theorem rh_nil {w : World} {A : Rd} (h : ∀ n, A n → n < w.heap.size) (hb : A.b0 ≤ w.heap.size) (hla : Laid A.on w) : RH A nowhere w [] :=
  { out := fun _ _ => rfl, free := fun _ _ => rfl, dead := (fun b hb => by simp at hb), live := (fun b sz es hb => by simp at hb), tab := (fun b clk es hb => by simp at hb), inj := (fun b b' n base sz room base' sz' room' h => by cases h),
    dis := (fun n hn => (not_own_nowhere n hn).elim), lt := h, olt := (fun n hn => (not_own_nowhere n hn).elim), ofr := (fun n hn => (not_own_nowhere n hn).elim), bsz := hb, la := hla }

theorem enter_tr {A : Rd} {w : World} {φ : Nat → Loc} {args : List D} {vs : Array Value} (hla : Laid A.on w) (h : VS A w φ args vs) (n : Nat) :
    TR A w φ (args ++ List.replicate (n - args.length) .any) (vs ++ Array.replicate (n - vs.size) undef) := by
  refine ⟨by simp [h.size], fun i d u h1 h2 => ?_, hla⟩
  rw [List.getElem?_append] at h1
  rw [Array.getElem?_append, h.size] at h2
  split at h1
  · rename_i hi
    rw [if_pos hi] at h2
    exact h.val i d u h1 h2
  · rw [List.getElem?_replicate] at h1
    split at h1
    · cases h1; exact .any _ _
    · cases h1

/-- What is asked where a function ends: its result is d, and Q holds. -/
def PostE (P : Program) (rs : List ResultVar) (Q : D → St → Prop) : Exit → St → Prop
  | .normal, s => ∃ d, resD P rs s = some d ∧ Q d s
  | .ret, s => ∃ d, resD P rs s = some d ∧ Q d s
  | _, _ => False

/-- A frame that ends, with the marks of its ranges over functions. -/
theorem leavesM {P : Program} {G : Gh} (hG : Stab G) {fn : Func} {R : Ending → World → Prop} {t : List D} {H : List Blk} {g : Gst} {A : Rd} {φ : Nat → Loc} (tmps : Array Value) :
    ∀ (ds : List Nat) (w : World), RH A φ w H → TR A w φ t tmps → G.I g w ⟨ownAll φ ds, A, φ⟩ → (∀ r, r ∈ ds → w.heap[r]? = some (.deferred (some [])) ∧ ¬ A r ∧ ¬ own φ r) → ds.Nodup →
      (∀ w', RH A φ w' H → TR A w' φ t tmps → G.I g w' ⟨ownAll φ [], A, φ⟩ → LeavesInM Fence.wide 0 P fn tmps R G.tail .returning w') →
      LeavesInM Fence.wide 0 P fn tmps R (ds.map mark ++ G.tail) .returning w
  | [], w, hr, ht, hg, _, _, h => h w hr ht hg
  | r :: ds, w, hr, ht, hg, hd, hnd, h => by
    obtain ⟨h1, h2, h3⟩ := hd r (List.mem_cons_self ..)
    have hlt : r < w.heap.size := (Array.getElem?_eq_some_iff.1 h1).1
    let w' : World := { w with heap := w.heap.setIfInBounds r (.deferred none) }
    have hsame : ∀ m, m ≠ r → w'.heap[m]? = w.heap[m]? := fun m hm => by
      show (w.heap.setIfInBounds r _)[m]? = _
      rw [Array.getElem?_setIfInBounds, if_neg (Ne.symm hm)]
    have hsz : w'.heap.size = w.heap.size := by show (w.heap.setIfInBounds r _).size = _; simp
    have hA : ∀ m, A m → w'.heap[m]? = w.heap[m]? := fun m hm => hsame m fun e => h2 (e ▸ hm)
    have hO : ∀ m, own φ m → w'.heap[m]? = w.heap[m]? := fun m hm => hsame m fun e => h3 (e ▸ hm)
    have hrec := leavesM hG (fn := fn) (R := R) (t := t) (H := H) (g := g) (A := A) (φ := φ) tmps ds w' (hr.move hA hO (Nat.le_of_eq hsz.symm)) (ht.mono (fun _ x => x) hA fun _ => Loc.le_refl _)
      (hG _ _ _ _ _ hg ⟨⟨rfl, rfl, rfl, Nat.le_of_eq hsz.symm, fun m _ hm => hsame m fun e => hm (e ▸ Or.inr (List.mem_cons_self ..)), fun m hm => .inl (hm.imp id (List.mem_cons_of_mem _))⟩, fun _ x => x, fun _ x => .inl x, fun _ _ => Loc.le_refl _, rfl⟩)
      (fun r' hr' => ⟨(hsame r' fun e => by subst e; exact (List.nodup_cons.1 hnd).1 hr').trans (hd r' (List.mem_cons_of_mem _ hr')).1, (hd r' (List.mem_cons_of_mem _ hr')).2⟩) (List.nodup_cons.1 hnd).2 h
    exact ⟨by simp, .inl ⟨r, w', rfl, run_takeDeferred h1, hrec⟩⟩

/-- THE RULE FOR A FUNCTION, over own blocks and what surrounds the frame. -/
theorem func_ofS {P : Program} {G : Gh} (hG : Stab G) (htl : G.tail = []) {f : FuncId} {fn : Func} {c : Code} {args : List D} (hf : P.funcs[f]? = some fn) (hb : fn.body = some c)
    {w : World} {A : Rd} {φ : Nat → Loc} {H : List Blk} {g : Gst} {vs : Array Value} (hr : RH A φ w H) (hv : VS A w φ args vs) (hg : G.I g w ⟨own φ, A, φ⟩) {Q : D → St → Prop}
    (h : Sp P none G c { t := args ++ List.replicate (fn.ntmps - args.length) .any, H := H, ds := [], g := g } (PostE P fn.results.toList Q)) {R : Ending → World → Prop}
    (hR : ∀ s w' A' φ' d x, RH A' φ' w' s.H → G.I s.g w' ⟨own φ', A', φ'⟩ → V A' w' φ' d x → Q d s → R (.returned x) w') : CallsIn Fence.wide 0 P f vs w R := by
  refine callsIn_of_wp_marks (F := Fence.wide) hf hb trivial ?_
  have hown : ∀ φ : Nat → Loc, ownAll φ [] = own φ := fun φ => by funext n; simp [ownAll]
  have hfr : FR G { t := args ++ List.replicate (fn.ntmps - args.length) .any, H := H, ds := [], g := g } { tmps := vs ++ Array.replicate (fn.ntmps - vs.size) undef, defers := [] } w :=
    ⟨A, φ, hr, enter_tr hr.la hv _, by rw [hown]; exact hg, by rw [htl]; rfl, by simp, List.nodup_nil⟩
  have hend : ∀ s a w', PostE P fn.results.toList Q .normal s → FR G s a w' → LeavesInM Fence.wide 0 P fn a.tmps R a.defers .returning w' := by
    rintro s a w' ⟨d, h1, h2⟩ ⟨A', φ', hr⟩
    rw [hr.df]
    refine leavesM hG (t := s.t) (H := s.H) (g := s.g) (A := A') (φ := φ') a.tmps s.ds w' hr.rh hr.tr hr.gh hr.dk hr.nd fun w'' k1 k2 k3 => ?_
    obtain ⟨x, h4, h5⟩ := run_resD (a := a) k1 k2 h1
    rw [htl]
    exact ⟨x, h4, hR s w'' A' φ' d x k1 (by rw [hown] at k3; exact k3) h5 h2⟩
  refine wpIn_mono (h _ w hfr) ?_
  rintro e a w' ⟨s, q, r⟩
  cases e with
  | normal => exact hend s a w' q r
  | ret => exact hend s a w' q r
  | exit id => exact q.elim
  | goto l => exact q.elim
  | panic ch => exact q.elim
  | outgrown => exact q.elim

theorem own_nowhere : own nowhere = fun _ => False := by funext n; simpa using not_own_nowhere n

/-- THE RULE FOR A FUNCTION: a plain contract. -/
theorem Maps.ofS {P : Program} {f : FuncId} {fn : Func} {c : Code} {args : List D} {d : D} (hf : P.funcs[f]? = some fn) (hb : fn.body = some c) (hname : (fn.name == "runtime.NumGoroutine") = false)
    (h : ∀ G, Stab G → YOk P G → G.N = 0 → Sp P none G c { t := args ++ List.replicate (fn.ntmps - args.length) .any, H := [], ds := [], g := (0, false) } (Post P fn.results.toList d)) : Maps P f args d := by
  refine ⟨enters_of hf hname hb, fun w A vs hA hla hv => ?_⟩
  have hG : Stab (Gh.keep 0 w ⟨fun _ => False, ⟨A, w.heap.size⟩, nowhere⟩) := stab_keep 0 w _
  have hY : YOk P (Gh.keep 0 w ⟨fun _ => False, ⟨A, w.heap.size⟩, nowhere⟩) := fun l g ds vs K w F _ _ _ _ _ _ h => h.elim
  have hgh : Keep 0 w ⟨fun _ => False, ⟨A, w.heap.size⟩, nowhere⟩ w ⟨own nowhere, ⟨A, w.heap.size⟩, nowhere⟩ := by rw [own_nowhere]; exact Keep.refl _ _ _
  refine func_ofS hG rfl hf hb (g := (0, false)) (rh_nil hA (Nat.le_refl _) hla) hv hgh
    (Q := fun d' s => DL.snapR (fun b => s.H[b]?) 5 d' = d) ?_ ?_
  · have hP : Post P fn.results.toList d = PostE P fn.results.toList (fun d' s => DL.snapR (fun b => s.H[b]?) 5 d' = d) := by
      funext e s
      cases e <;> simp [Post, PostE, Option.map_eq_some_iff]
    rw [← hP]; exact h _ hG hY rfl
  · intro s w' A' φ' d0 x hrh hg h5 h3
    have hb0 : A'.b0 = w.heap.size := hg.b0
    refine ⟨x, (both A' φ').on, rfl, ?_, fun m hm => Or.inl (hg.up m hm), fun m hm => ?_, fun m hm => Or.elim hm (hrh.lt m) (hrh.olt m), hg.ext.sub fun _ x => x.elim⟩
    · rw [← h3]
      exact V.mono (A := both A' φ') (A' := ⟨(both A' φ').on, w.heap.size⟩) (fun _ x => x) (fun _ _ => rfl) (fun _ => Loc.le_refl _) (h5.snapR hrh (fun _ _ _ x => x) 5) (Nat.le_of_eq hb0.symm)
    · rcases hm with hm | hm
      · rcases hg.new m hm with x | x | x
        · exact .inl x
        · exact x.elim
        · exact .inr x
      · exact (hg.ext.own m hm).elim (fun x => x.elim) .inr

theorem Maps.of {P : Program} {f : FuncId} {fn : Func} {c : Code} {args : List D} {d : D} (hf : P.funcs[f]? = some fn) (hb : fn.body = some c) (hname : (fn.name == "runtime.NumGoroutine") = false)
    (h : ∀ G, Stab G → YOk P G → G.N = 0 → vc P none G c { t := args ++ List.replicate (fn.ntmps - args.length) .any, H := [], ds := [], g := (0, false) } (Post P fn.results.toList d)) : Maps P f args d :=
  Maps.ofS hf hb hname fun G hG hY hN => vc_ok hG hY c (h G hG hY hN)

/-- THE RULE FOR A FUNCTION, over own blocks: its body is walked on the caller's blocks. -/
theorem CallSp.ofS {P : Program} {f : FuncId} {fn : Func} {c : Code} {args : List D} {H : List Blk} {Q : D → List Blk → Prop} (hf : P.funcs[f]? = some fn) (hb : fn.body = some c) (hname : (fn.name == "runtime.NumGoroutine") = false)
    (h : ∀ G, Stab G → YOk P G → G.N = H.length → Sp P none G c { t := args ++ List.replicate (fn.ntmps - args.length) .any, H := H, ds := [], g := (0, false) } (PostE P fn.results.toList fun d s => Q d s.H)) : CallSp P f args H Q := by
  refine ⟨enters_of hf hname hb, fun w A φ vs hr hv => ?_⟩
  have hG : Stab (Gh.keep H.length w ⟨own φ, A, φ⟩) := stab_keep _ w _
  have hY : YOk P (Gh.keep H.length w ⟨own φ, A, φ⟩) := fun l g ds vs K w F _ _ _ _ _ _ h => h.elim
  refine func_ofS hG rfl hf hb (g := (0, false)) hr hv (Keep.refl _ _ _) (h _ hG hY rfl) ?_
  intro s w' A' φ' d x hrh hg h5 h3
  have hg : Keep H.length w ⟨own φ, A, φ⟩ w' ⟨own φ', A', φ'⟩ := hg
  refine ⟨x, d, s.H, A', φ', rfl, h3, hrh, h5, ⟨hg.ext, hg.up, hg.new, fun b => ?_, hg.b0⟩⟩
  rcases Nat.lt_or_ge b H.length with hb | hb
  · exact hg.le b hb
  · rw [hr.out b (List.getElem?_eq_none hb)]; exact .inl rfl

theorem CallSp.of {P : Program} {f : FuncId} {fn : Func} {c : Code} {args : List D} {H : List Blk} {Q : D → List Blk → Prop} (hf : P.funcs[f]? = some fn) (hb : fn.body = some c) (hname : (fn.name == "runtime.NumGoroutine") = false)
    (h : ∀ G, Stab G → YOk P G → G.N = H.length → vc P none G c { t := args ++ List.replicate (fn.ntmps - args.length) .any, H := H, ds := [], g := (0, false) } (PostE P fn.results.toList fun d s => Q d s.H)) : CallSp P f args H Q :=
  CallSp.ofS hf hb hname fun G hG hY hN => vc_ok hG hY c (h G hG hY hN)
end
end Go.DL
