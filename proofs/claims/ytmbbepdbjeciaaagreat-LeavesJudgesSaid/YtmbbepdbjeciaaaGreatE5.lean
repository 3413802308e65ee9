/- A function's plain contract out of what has to be shown of its code. -/
import Derived.Test.YtmbbepdbjeciaaaGreatE4
import Derived.RangeFuncRecord
import Derived.OrdersIn
set_option linter.all false
namespace Go.DL
open Go.RowKit Go.Proofs

noncomputable section

def resOne (P : Program) (s : St) : ResultVar → Option D
  | .tmp t => some (s.t.getD t .any)
  | .cell a t => loadD P s.H t (s.t.getD a .any)

def resL (P : Program) (s : St) : List ResultVar → Option (List D)
  | [] => some []
  | r :: rs => match resOne P s r, resL P s rs with
    | some d, some ds => some (d :: ds)
    | _, _ => none

def resD (P : Program) (rs : List ResultVar) (s : St) : Option D :=
  match resL P s rs with
  | some [d] => some d
  | some ds => some (.tup ds)
  | none => none

/-- Does a value speak of fresh memory alone (own blocks are)? -/
def frK (lk : Nat → Option Blk) : Nat → D → Bool
  | _, .v _ => true
  | _, .any => true
  | _, .nil => true
  | _, .fl _ => true
  | k + 1, .ms b _ _ _ => match lk b with
    | some (.live _ es) => es.all fun e => e.all (frK lk k)
    | _ => true
  | _, _ => false

/-- How a result reads. -/
def snapR (lk : Nat → Option Blk) : Nat → D → D
  | _, .nil => .fl []
  | _, .fl es => .fl es
  | k + 1, .agg cs => .agg (cs.map (snapR lk k))
  | k + 1, .tup cs => .tup (cs.map (snapR lk k))
  | k + 1, .ms b off len _ => match lk b with
    | some (.live _ es) => if off + len ≤ es.length then
        if es.all (fun e => e.all (frK lk k)) = true then .fl (((es.take (off + len)).drop off).map (List.map (snap lk k))) else .sl (((es.take (off + len)).drop off).map (List.map (snap lk k)))
      else .any
    | _ => .any
  | k, d => snap lk k d

/-- What is asked where a function ends: its result reads as d. -/
def Post (P : Program) (rs : List ResultVar) (d : D) : Exit → St → Prop
  | .normal, s => (resD P rs s).map (snapR (fun b => s.H[b]?) 5) = some d
  | .ret, s => (resD P rs s).map (snapR (fun b => s.H[b]?) 5) = some d
  | _, _ => False

section
variable {P : Program} {w : World} {A : Rd} {φ : Nat → Loc}

def resSem (tmps : Array Value) : ResultVar → Sem Value
  | .tmp t => pure (tmps.getD t undef)
  | .cell b t => do loadVar t (← asAddr (tmps.getD b undef))

theorem run_resOne {st : St} {a : Act} (hr : RH A φ w st.H) (ht : TR A w φ st.t a.tmps) {r : ResultVar} {d : D} (h : resOne P st r = some d) :
    ∃ x, (resSem a.tmps r).run P w = .ok x w ∧ V A w φ d x := by
  cases r with
  | tmp t =>
    simp only [resOne, Option.some.injEq] at h
    subst h
    exact ⟨_, rfl, (by rw [← lkF_eq]; exact ht.ev (.tmp t))⟩
  | cell b t =>
    have hv := ht.ev (.tmp b)
    have h' : loadD P st.H t (st.t.getD b .any) = some d := h
    simp only [ev, lkF_eq, Act.eval] at hv
    unfold loadD at h'
    split at h'
    · rename_i cs hcs
      obtain ⟨n, o, hu, hc⟩ := peek_ok hr (Sub.refl _) hv hcs
      obtain ⟨x, h1, h2⟩ := run_loadVar_take h' hc
      exact ⟨x, by simp only [resSem, hu, asAddr, Sem.run_bind, Sem.run_pure, Result.andThen, h1], h2⟩
    · cases h'

theorem run_resL {st : St} {a : Act} (hr : RH A φ w st.H) (ht : TR A w φ st.t a.tmps) : ∀ {rs : List ResultVar} {ds : List D}, resL P st rs = some ds →
    ∃ xs : List Value, (rs.mapM (resSem a.tmps)).run P w = .ok xs w ∧ xs.length = ds.length ∧
      ∀ (i : Nat) (d : D) (u : Value), ds[i]? = some d → xs[i]? = some u → V A w φ d u
  | [], ds, h => by
    simp only [resL, Option.some.injEq] at h; subst h
    exact ⟨[], rfl, rfl, by simp⟩
  | r :: rs, ds, h => by
    simp only [resL] at h
    split at h
    · rename_i d ds' h1 h2
      cases h
      obtain ⟨x, k1, k2⟩ := run_resOne hr ht h1
      obtain ⟨xs, k3, k4, k5⟩ := run_resL hr ht h2
      refine ⟨x :: xs, ?_, by simp [k4], fun i d' u h3 h4 => ?_⟩
      · simp only [List.mapM_cons, Sem.run_bind, k1, Result.andThen, Sem.run_pure, k3]
      · cases i with
        | zero => simp at h3 h4; subst h3; subst h4; exact k2
        | succ i => simp at h3 h4; exact k5 i d' u h3 h4
    · cases h

theorem run_resD {st : St} {a : Act} (hr : RH A φ w st.H) (ht : TR A w φ st.t a.tmps) {fn : Func} {d : D} (h : resD P fn.results.toList st = some d) :
    ∃ x, (results fn a.tmps).run P w = .ok x w ∧ V A w φ d x := by
  have hres : results fn a.tmps = (do let vs ← fn.results.mapM (resSem a.tmps); pure (if h : vs.size = 1 then vs[0] else .tuple vs)) := by
    unfold results
    congr 2
  unfold resD at h
  have key : ∀ {ds : List D}, resL P st fn.results.toList = some ds → ∃ xs : List Value, (results fn a.tmps).run P w = .ok (if h : xs.toArray.size = 1 then xs.toArray[0] else .tuple xs.toArray) w ∧ xs.length = ds.length ∧
      ∀ (i : Nat) (d : D) (u : Value), ds[i]? = some d → xs[i]? = some u → V A w φ d u := fun {ds} hl => by
    obtain ⟨xs, k1, k2, k3⟩ := run_resL hr ht hl
    refine ⟨xs, ?_, k2, k3⟩
    rw [hres, Array.mapM_eq_mapM_toList, Sem.run_bind, Sem.run_map, k1]
    rfl
  split at h
  · rename_i d' hl
    cases h
    obtain ⟨xs, k1, k2, k3⟩ := key hl
    match xs, k2 with
    | [x], _ => exact ⟨x, by rw [k1]; rfl, k3 0 _ x rfl rfl⟩
  · rename_i ds hne hl
    cases h
    obtain ⟨xs, k1, k2, k3⟩ := key hl
    have hne1 : ¬ (xs.toArray.size = 1) := fun e => by
      simp only [List.size_toArray] at e
      match ds, hne, k2 with
      | [d], hne, _ => exact hne d rfl
      | [], _, k2 => simp at k2; subst k2; cases e
      | _ :: _ :: _, _, k2 => simp at k2; omega
    rw [dif_neg hne1] at k1
    exact ⟨_, k1, .tup _ _ _ (by simpa using k2) fun i d u h1 h2 => k3 i d u h1 (by simpa using h2)⟩
  · cases h
end

theorem V.snapF {A : Rd} {w : World} {φ : Nat → Loc} {H : List Blk} (hr : RH A φ w H) {lk : Nat → Option Blk} (hlk : ∀ b sz es, lk b = some (.live sz es) → H[b]? = some (.live sz es)) {B : Rd}
    (hA : ∀ n, A n → A.b0 ≤ n → B n) (hB : ∀ n, own φ n → B n) :
    ∀ (k : Nat) {d : D} {u : Value}, V A w φ d u → frK lk k d = true → V B w nowhere (DL.snap lk k d) u := by
  have leaf : ∀ {es : List (List D)} {u : Value}, V A w φ (.fl es) u → V B w nowhere (.sl es) u := fun {es u} h => by
    cases h with
    | fl0 => exact .sl0 _ _ _
    | fl _ _ n off sz cap u ha hcap hsz hc h =>
      exact .sl _ _ n off sz cap u (hA n ha.1 ha.2) hcap hsz hc fun i e j d h1 h2 => V.mono (A := A.fresh) (A' := B.all) (fun m hm => hA m hm.1 hm.2) (fun _ _ => rfl) (fun _ => Loc.le_refl _) (h i e j d h1 h2)
  intro k
  induction k with
  | zero =>
    intro d u h hd
    cases d <;> simp [frK] at hd
    · cases h; exact .v _ _
    · exact leaf h
    · cases h; exact .sl0 _ _ _
    · exact .any _ _
  | succ k ih =>
    intro d u h hd
    cases d <;> simp only [frK, Bool.false_eq_true] at hd
    · cases h; exact .v _ _
    · exact leaf h
    · rename_i b off len cap
      cases h with
      | ms _ _ _ _ _ cap' a hlen hcap h =>
        simp only [DL.snap]
        split
        · rename_i sz es hb0
          have hb := hlk _ _ _ hb0
          rw [hb0] at hd
          simp only [List.all_eq_true] at hd
          split
          · rename_i hol
            rcases hr.live b sz es hb with ⟨rfl, hp⟩ | ⟨n, base, room, c, ty, hp, hl⟩
            · simp at hol; obtain ⟨rfl, rfl⟩ := hol
              simp; exact .sl0 _ _ _
            · rw [hp] at h
              obtain ⟨h1, h2⟩ := h
              rcases Nat.eq_zero_or_pos len with hz | hz
              · subst hz; simp; exact .sl0 _ _ _
              have ha : a = some ⟨n, base + off * sz, none⟩ := h2.resolve_left (by omega)
              subst ha
              have hlen2 : (((es.take (off + len)).drop off).map (List.map (DL.snap lk k))).length = len := by simp; omega
              have hex : ∀ (i : Nat) (e : List D), (((es.take (off + len)).drop off).map (List.map (DL.snap lk k)))[i]? = some e → ∃ e0, es[off + i]? = some e0 ∧ e = e0.map (DL.snap lk k) := fun i e he => by
                simp only [List.getElem?_map, Option.map_eq_some_iff, List.getElem?_drop, List.getElem?_take] at he
                obtain ⟨e0, he, rfl⟩ := he
                split at he
                · exact ⟨e0, he, rfl⟩
                · cases he
              have hcell : ∀ (i : Nat) (e : List D) (j : Nat) (d : D), (((es.take (off + len)).drop off).map (List.map (DL.snap lk k)))[i]? = some e → e[j]? = some d →
                  w.cell? ⟨n, base + off * sz + i * sz + j, none⟩ = some ((c[base + (off + i) * sz + j]?).getD default) ∧ V B w nowhere d ((c[base + (off + i) * sz + j]?).getD default) := fun i e j d he hd' => by
                obtain ⟨e0, h3, rfl⟩ := hex i e he
                simp only [List.getElem?_map, Option.map_eq_some_iff] at hd'
                obtain ⟨d0, h4, rfl⟩ := hd'
                obtain ⟨u, hu, hv⟩ := hl.val _ _ _ _ h3 h4
                rw [cell_of_blk hl.blk, show base + off * sz + i * sz + j = base + (off + i) * sz + j by rw [Nat.add_mul]; omega, hu]
                exact ⟨rfl, ih hv (hd e0 (List.mem_of_getElem? h3) d0 (List.mem_of_getElem? h4))⟩
              have := V.sl (A := B) (w := w) nowhere (((es.take (off + len)).drop off).map (List.map (DL.snap lk k))) n (base + off * sz) sz cap' (fun i j => (c[base + (off + i) * sz + j]?).getD default)
                (hB n ⟨b, _, _, _, hp⟩) (by omega) (fun i e he => by obtain ⟨e0, h3, rfl⟩ := hex i e he; simpa using hl.len _ _ h3)
                (fun i e j d he hd => (hcell i e j d he hd).1)
                (fun i e j d he hd => V.mono (A := B) (A' := B.all) (fun _ x => x) (fun _ _ => rfl) (fun _ => Loc.le_refl _) (hcell i e j d he hd).2 (Nat.zero_le _))
              rw [hlen2] at this
              exact this
          · exact .any _ _
        · exact .any _ _
    · cases h; exact .sl0 _ _ _
    · exact .any _ _

theorem V.snapR {A : Rd} {w : World} {φ : Nat → Loc} {H : List Blk} (hr : RH A φ w H) {lk : Nat → Option Blk} (hlk : ∀ b sz es, lk b = some (.live sz es) → H[b]? = some (.live sz es)) :
    ∀ (k : Nat) {d : D} {u : Value}, V A w φ d u → V (both A φ) w nowhere (DL.snapR lk k d) u := by
  have plain : ∀ (k : Nat) {d : D} {u : Value}, V A w φ d u → V (both A φ) w nowhere (DL.snap lk k d) u := fun k d u h =>
    h.snap hr hlk (fun _ x => Or.inl x) (fun b sz es n base sz' room _ hp => Or.inr ⟨b, _, _, _, hp⟩) k
  have leaf : ∀ {es : List (List D)} {u : Value}, V A w φ (.fl es) u → V (both A φ) w nowhere (.fl es) u := fun {es u} h => by
    cases h with
    | fl0 => exact .fl0 _ _ _
    | fl _ _ n off sz cap u ha hcap hsz hc h =>
      exact .fl _ _ n off sz cap u ⟨Or.inl ha.1, ha.2⟩ hcap hsz hc fun i e j d h1 h2 =>
        V.mono (A := A.fresh) (A' := (both A φ).fresh) (fun m hm => ⟨Or.inl hm.1, hm.2⟩) (fun _ _ => rfl) (fun _ => Loc.le_refl _) (h i e j d h1 h2)
  intro k
  induction k with
  | zero =>
    intro d u h
    cases d with
    | nil => cases h; exact .fl0 _ _ _
    | fl es => exact leaf h
    | _ => exact plain 0 h
  | succ k ih =>
    intro d u h
    cases d with
    | nil => cases h; exact .fl0 _ _ _
    | fl es => exact leaf h
    | agg cs =>
      cases h with
      | agg _ _ vs hl h =>
        refine .agg _ _ _ (by simpa using hl) fun i d u h1 h2 => ?_
        simp only [List.getElem?_map, Option.map_eq_some_iff] at h1
        obtain ⟨d0, h1, rfl⟩ := h1
        exact ih (h i d0 u h1 h2)
    | tup cs =>
      cases h with
      | tup _ _ vs hl h =>
        refine .tup _ _ _ (by simpa using hl) fun i d u h1 h2 => ?_
        simp only [List.getElem?_map, Option.map_eq_some_iff] at h1
        obtain ⟨d0, h1, rfl⟩ := h1
        exact ih (h i d0 u h1 h2)
    | ms b off len cap =>
      have hp := plain (k + 1) h
      simp only [DL.snapR]
      simp only [DL.snap] at hp
      split
      · rename_i sz es hb0
        simp only [hb0] at hp
        split
        · rename_i hol
          rw [if_pos hol] at hp
          split
          · rename_i hall
            -- the same, as fresh memory
            have hF := h.snapF hr hlk (B := (both A φ).fresh) (fun n h1 h2 => ⟨Or.inl h1, h2⟩) (fun n hn => ⟨Or.inr hn, hr.ofr n hn⟩) (k + 1) (by simp only [frK, hb0]; exact hall)
            simp only [DL.snap, hb0, if_pos hol] at hF
            generalize ((es.take (off + len)).drop off).map (List.map (DL.snap lk k)) = L at hF
            cases hF with
            | sl0 => exact .fl0 _ _ _
            | sl _ _ n off sz cap u ha hcap hsz hc hq => exact .fl _ _ n off sz cap u ha hcap hsz hc fun i e j d h1 h2 => hq i e j d h1 h2
          · exact hp
        · exact .any _ _
      · exact .any _ _
    | _ => exact plain (k + 1) h

theorem not_own_nowhere (n : Nat) : ¬ own nowhere n := fun ⟨_, _, _, _, h⟩ => by cases h

theorem rh_nil {w : World} {A : Rd} (h : ∀ n, A n → n < w.heap.size) (hb : A.b0 ≤ w.heap.size) : RH A nowhere w [] :=
  { out := fun _ _ => rfl, free := fun _ _ => rfl, dead := (fun b hb => by simp at hb), live := (fun b sz es hb => by simp at hb), tab := (fun b clk es hb => by simp at hb), inj := (fun b b' n base sz room base' sz' room' h => by cases h),
    dis := (fun n hn => (not_own_nowhere n hn).elim), lt := h, olt := (fun n hn => (not_own_nowhere n hn).elim), ofr := (fun n hn => (not_own_nowhere n hn).elim), bsz := hb }

theorem enter_tr {A : Rd} {w : World} {φ : Nat → Loc} {args : List D} {vs : Array Value} (h : VS A w φ args vs) (n : Nat) :
    TR A w φ (args ++ List.replicate (n - args.length) .any) (vs ++ Array.replicate (n - vs.size) undef) := by
  refine ⟨by simp [h.size], fun i d u h1 h2 => ?_⟩
  rw [List.getElem?_append] at h1
  rw [Array.getElem?_append, h.size] at h2
  split at h1
  · rename_i hi
    rw [if_pos hi] at h2
    exact h.val i d u h1 h2
  · rw [List.getElem?_replicate] at h1
    split at h1
    · cases h1; exact .any _ _
    · cases h1

/-- What is asked where a function ends: its result is d, and Q holds. -/
def PostE (P : Program) (rs : List ResultVar) (Q : D → St → Prop) : Exit → St → Prop
  | .normal, s => ∃ d, resD P rs s = some d ∧ Q d s
  | .ret, s => ∃ d, resD P rs s = some d ∧ Q d s
  | _, _ => False

/-- A frame that ends, with the marks of its ranges over functions. -/
theorem leavesM {P : Program} {G : Gh} (hG : Stab G) {fn : Func} {R : Ending → World → Prop} {t : List D} {H : List Blk} {g : Gst} {A : Rd} {φ : Nat → Loc} (tmps : Array Value) :
    ∀ (ds : List Nat) (w : World), RH A φ w H → TR A w φ t tmps → G.I g w ⟨ownAll φ ds, A, φ⟩ → (∀ r, r ∈ ds → w.heap[r]? = some (.deferred (some [])) ∧ ¬ A r ∧ ¬ own φ r) → ds.Nodup →
      (∀ w', RH A φ w' H → TR A w' φ t tmps → G.I g w' ⟨ownAll φ [], A, φ⟩ → ∃ v, (results fn tmps).run P w' = .ok v w' ∧ R (.returned v) w') →
      LeavesInM Fence.wide 0 P fn tmps R (ds.map mark) .returning w
  | [], w, hr, ht, hg, _, _, h => by
    obtain ⟨v, h1, h2⟩ := h w hr ht hg
    exact ⟨v, h1, h2⟩
  | r :: ds, w, hr, ht, hg, hd, hnd, h => by
    obtain ⟨h1, h2, h3⟩ := hd r (List.mem_cons_self ..)
    have hlt : r < w.heap.size := (Array.getElem?_eq_some_iff.1 h1).1
    let w' : World := { w with heap := w.heap.setIfInBounds r (.deferred none) }
    have hsame : ∀ m, m ≠ r → w'.heap[m]? = w.heap[m]? := fun m hm => by
      show (w.heap.setIfInBounds r _)[m]? = _
      rw [Array.getElem?_setIfInBounds, if_neg (Ne.symm hm)]
    have hsz : w'.heap.size = w.heap.size := by show (w.heap.setIfInBounds r _).size = _; simp
    have hA : ∀ m, A m → w'.heap[m]? = w.heap[m]? := fun m hm => hsame m fun e => h2 (e ▸ hm)
    have hO : ∀ m, own φ m → w'.heap[m]? = w.heap[m]? := fun m hm => hsame m fun e => h3 (e ▸ hm)
    have hrec := leavesM hG (fn := fn) (R := R) (t := t) (H := H) (g := g) (A := A) (φ := φ) tmps ds w' (hr.move hA hO (Nat.le_of_eq hsz.symm)) (ht.mono (fun _ x => x) hA fun _ => Loc.le_refl _)
      (hG _ _ _ _ _ hg ⟨⟨rfl, rfl, rfl, Nat.le_of_eq hsz.symm, fun m _ hm => hsame m fun e => hm (e ▸ Or.inr (List.mem_cons_self ..)), fun m hm => .inl (hm.imp id (List.mem_cons_of_mem _))⟩, fun _ x => x, fun _ x => .inl x, fun _ _ => Loc.le_refl _, rfl⟩)
      (fun r' hr' => ⟨(hsame r' fun e => by subst e; exact (List.nodup_cons.1 hnd).1 hr').trans (hd r' (List.mem_cons_of_mem _ hr')).1, (hd r' (List.mem_cons_of_mem _ hr')).2⟩) (List.nodup_cons.1 hnd).2 h
    exact ⟨by simp, .inl ⟨r, w', rfl, run_takeDeferred h1, hrec⟩⟩

/-- THE RULE FOR A FUNCTION, over own blocks and what surrounds the frame. -/
theorem func_ofS {P : Program} {G : Gh} (hG : Stab G) {f : FuncId} {fn : Func} {c : Code} {args : List D} (hf : P.funcs[f]? = some fn) (hb : fn.body = some c)
    {w : World} {A : Rd} {φ : Nat → Loc} {H : List Blk} {g : Gst} {vs : Array Value} (hr : RH A φ w H) (hv : VS A w φ args vs) (hg : G.I g w ⟨own φ, A, φ⟩) {Q : D → St → Prop}
    (h : Sp P none G c { t := args ++ List.replicate (fn.ntmps - args.length) .any, H := H, ds := [], g := g } (PostE P fn.results.toList Q)) {R : Ending → World → Prop}
    (hR : ∀ s w' A' φ' d x, RH A' φ' w' s.H → G.I s.g w' ⟨own φ', A', φ'⟩ → V A' w' φ' d x → Q d s → R (.returned x) w') : CallsIn Fence.wide 0 P f vs w R := by
  refine callsIn_of_wp_marks (F := Fence.wide) hf hb trivial ?_
  have hown : ∀ φ : Nat → Loc, ownAll φ [] = own φ := fun φ => by funext n; simp [ownAll]
  have hfr : FR G { t := args ++ List.replicate (fn.ntmps - args.length) .any, H := H, ds := [], g := g } { tmps := vs ++ Array.replicate (fn.ntmps - vs.size) undef, defers := [] } w :=
    ⟨A, φ, hr, enter_tr hv _, by rw [hown]; exact hg, rfl, by simp, List.nodup_nil⟩
  have hend : ∀ s a w', PostE P fn.results.toList Q .normal s → FR G s a w' → LeavesInM Fence.wide 0 P fn a.tmps R a.defers .returning w' := by
    rintro s a w' ⟨d, h1, h2⟩ ⟨A', φ', hr⟩
    rw [hr.df]
    refine leavesM hG (t := s.t) (H := s.H) (g := s.g) (A := A') (φ := φ') a.tmps s.ds w' hr.rh hr.tr hr.gh hr.dk hr.nd fun w'' k1 k2 k3 => ?_
    obtain ⟨x, h4, h5⟩ := run_resD (a := a) k1 k2 h1
    exact ⟨x, h4, hR s w'' A' φ' d x k1 (by rw [hown] at k3; exact k3) h5 h2⟩
  refine wpIn_mono (h _ w hfr) ?_
  rintro e a w' ⟨s, q, r⟩
  cases e with
  | normal => exact hend s a w' q r
  | ret => exact hend s a w' q r
  | exit id => exact q.elim
  | goto l => exact q.elim
  | panic ch => exact q.elim
  | outgrown => exact q.elim

theorem own_nowhere : own nowhere = fun _ => False := by funext n; simpa using not_own_nowhere n

/-- THE RULE FOR A FUNCTION: a plain contract. -/
theorem Maps.ofS {P : Program} {f : FuncId} {fn : Func} {c : Code} {args : List D} {d : D} (hf : P.funcs[f]? = some fn) (hb : fn.body = some c) (hname : (fn.name == "runtime.NumGoroutine") = false)
    (h : ∀ G, Stab G → YOk P G → G.N = 0 → Sp P none G c { t := args ++ List.replicate (fn.ntmps - args.length) .any, H := [], ds := [], g := (0, false) } (Post P fn.results.toList d)) : Maps P f args d := by
  refine ⟨enters_of hf hname hb, fun w A vs hA hv => ?_⟩
  have hG : Stab (Gh.keep 0 w ⟨fun _ => False, ⟨A, w.heap.size⟩, nowhere⟩) := stab_keep 0 w _
  have hY : YOk P (Gh.keep 0 w ⟨fun _ => False, ⟨A, w.heap.size⟩, nowhere⟩) := fun l g ds vs K w F _ _ _ _ _ _ h => h.elim
  have hgh : Keep 0 w ⟨fun _ => False, ⟨A, w.heap.size⟩, nowhere⟩ w ⟨own nowhere, ⟨A, w.heap.size⟩, nowhere⟩ := by rw [own_nowhere]; exact Keep.refl _ _ _
  refine func_ofS hG hf hb (g := (0, false)) (rh_nil hA (Nat.le_refl _)) hv hgh
    (Q := fun d' s => DL.snapR (fun b => s.H[b]?) 5 d' = d) ?_ ?_
  · have hP : Post P fn.results.toList d = PostE P fn.results.toList (fun d' s => DL.snapR (fun b => s.H[b]?) 5 d' = d) := by
      funext e s
      cases e <;> simp [Post, PostE, Option.map_eq_some_iff]
    rw [← hP]; exact h _ hG hY rfl
  · intro s w' A' φ' d0 x hrh hg h5 h3
    have hb0 : A'.b0 = w.heap.size := hg.b0
    refine ⟨x, (both A' φ').on, rfl, ?_, fun m hm => Or.inl (hg.up m hm), fun m hm => ?_, fun m hm => Or.elim hm (hrh.lt m) (hrh.olt m), hg.ext.sub fun _ x => x.elim⟩
    · rw [← h3]
      exact V.mono (A := both A' φ') (A' := ⟨(both A' φ').on, w.heap.size⟩) (fun _ x => x) (fun _ _ => rfl) (fun _ => Loc.le_refl _) (h5.snapR hrh (fun _ _ _ x => x) 5) (Nat.le_of_eq hb0.symm)
    · rcases hm with hm | hm
      · rcases hg.new m hm with x | x | x
        · exact .inl x
        · exact x.elim
        · exact .inr x
      · exact (hg.ext.own m hm).elim (fun x => x.elim) .inr

theorem Maps.of {P : Program} {f : FuncId} {fn : Func} {c : Code} {args : List D} {d : D} (hf : P.funcs[f]? = some fn) (hb : fn.body = some c) (hname : (fn.name == "runtime.NumGoroutine") = false)
    (h : ∀ G, Stab G → YOk P G → G.N = 0 → vc P none G c { t := args ++ List.replicate (fn.ntmps - args.length) .any, H := [], ds := [], g := (0, false) } (Post P fn.results.toList d)) : Maps P f args d :=
  Maps.ofS hf hb hname fun G hG hY hN => vc_ok hG hY c (h G hG hY hN)

/-- THE RULE FOR A FUNCTION, over own blocks: its body is walked on the caller's blocks. -/
theorem CallSp.ofS {P : Program} {f : FuncId} {fn : Func} {c : Code} {args : List D} {H : List Blk} {Q : D → List Blk → Prop} (hf : P.funcs[f]? = some fn) (hb : fn.body = some c) (hname : (fn.name == "runtime.NumGoroutine") = false)
    (h : ∀ G, Stab G → YOk P G → G.N = H.length → Sp P none G c { t := args ++ List.replicate (fn.ntmps - args.length) .any, H := H, ds := [], g := (0, false) } (PostE P fn.results.toList fun d s => Q d s.H)) : CallSp P f args H Q := by
  refine ⟨enters_of hf hname hb, fun w A φ vs hr hv => ?_⟩
  have hG : Stab (Gh.keep H.length w ⟨own φ, A, φ⟩) := stab_keep _ w _
  have hY : YOk P (Gh.keep H.length w ⟨own φ, A, φ⟩) := fun l g ds vs K w F _ _ _ _ _ _ h => h.elim
  refine func_ofS hG hf hb (g := (0, false)) hr hv (Keep.refl _ _ _) (h _ hG hY rfl) ?_
  intro s w' A' φ' d x hrh hg h5 h3
  have hg : Keep H.length w ⟨own φ, A, φ⟩ w' ⟨own φ', A', φ'⟩ := hg
  refine ⟨x, d, s.H, A', φ', rfl, h3, hrh, h5, ⟨hg.ext, hg.up, hg.new, fun b => ?_, hg.b0⟩⟩
  rcases Nat.lt_or_ge b H.length with hb | hb
  · exact hg.le b hb
  · rw [hr.out b (List.getElem?_eq_none hb)]; exact .inl rfl

theorem CallSp.of {P : Program} {f : FuncId} {fn : Func} {c : Code} {args : List D} {H : List Blk} {Q : D → List Blk → Prop} (hf : P.funcs[f]? = some fn) (hb : fn.body = some c) (hname : (fn.name == "runtime.NumGoroutine") = false)
    (h : ∀ G, Stab G → YOk P G → G.N = H.length → vc P none G c { t := args ++ List.replicate (fn.ntmps - args.length) .any, H := H, ds := [], g := (0, false) } (PostE P fn.results.toList fun d s => Q d s.H)) : CallSp P f args H Q :=
  CallSp.ofS hf hb hname fun G hG hY hN => vc_ok hG hY c (h G hG hY hN)
end
end Go.DL

/- A region that draws its order: one canonical run stands for all orders, where what is unordered commutes. -/
namespace Go.DL
open Go.RowKit Go.Proofs

noncomputable section

/-- What an operation does to own blocks: nothing, and it does not look; it looks; it makes one; it writes. -/
inductive Kind where
  | pure | look | make | write
  deriving DecidableEq

def kindOf (o : Oper) : Kind :=
  match o.op with
  | .move _ | .assign _ | .pick .. | .binOp .. | .unOp .. | .convert .. | .extract .. | .field .. | .index .. | .fieldAddr .. | .makeFunc .. | .build .. | .nilCheck _ => .pure
  | .call { callee := .builtin b, .. } => match b with
    | .len | .max | .min => .pure
    | _ => .write
  | .indexAddr .. | .slice .. | .load .. | .lookup .. => .look
  | .call { callee := .value _, .. } => .look
  | .alloc _ | .box .. | .buildSlice .. | .makeSlice .. | .makeMap .. => .make
  | _ => .write

def depsOf (o : Oper) : List Nat := (o.after.toList.filter (Region.binds .any)).map (·.on)

/-- Of each operation those that come before it in every order. -/
def ancs : List Oper → List (List Nat) → List (List Nat)
  | [], acc => acc
  | o :: r, acc => ancs r (acc ++ [(depsOf o).flatMap fun j => j :: acc.getD j []])

def readsOf (ops : List Oper) (o : Oper) : List Nat :=
  (o.op.operands.toList.filterMap fun | .tmp t => some t | _ => none) ++
    match o.guard with
    | some (j, _) => match ops[j]? with
      | some p => p.dst.toList
      | none => []
    | none => []

/-- The place of an operation's new block among the region's. -/
def rankOf (ops : List Oper) (i : Nat) : Nat := ((ops.take i).filter fun o => kindOf o == .make || kindOf o == .write).length
def slots (ops : List Oper) : Nat := (ops.filter fun o => kindOf o == .make || kindOf o == .write).length
def needs (o : Oper) : Bool := kindOf o == .make || kindOf o == .write

/-- Two operations that may change places. -/
def indep (ops : List Oper) (an : List (List Nat)) (j i : Nat) : Bool :=
  match ops[j]?, ops[i]? with
  | some p, some o =>
    (match p.dst with | some d => !(readsOf ops o).contains d && o.dst != some d | none => true) &&
    (match o.dst with | some d => !(readsOf ops p).contains d | none => true) &&
    (match kindOf p, kindOf o with
      | .write, k => k == .pure
      | k, .write => k == .pure
      | .make, .look => !(an.getD i []).contains j
      | .look, .make => !(an.getD j []).contains i
      | _, _ => true)
  | _, _ => false

def drawOk (ops : List Oper) : Bool :=
  let an := ancs ops []
  (List.range ops.length).all fun i =>
    (((ops[i]?).map depsOf).getD []).all (fun j => decide (j < i)) &&
    (List.range i).all fun j => (an.getD i []).contains j || indep ops an j i

/-- The slots that an operation may not look at: those of what need not come before it. -/
def hiddenOf (ops : List Oper) (an : List (List Nat)) (i : Nat) : List Nat :=
  (List.range ops.length).filterMap fun k => match ops[k]? with
    | some o => if needs o && !(an.getD i []).contains k then some (rankOf ops k) else none
    | none => none

def maskL (base : Nat) (hs : List Nat) (H : List Blk) : List Blk := hs.foldl (fun H s => H.set (base + s) .free) H

section
variable {P : Program} {G : Gh}

theorem maskL_get (base : Nat) : ∀ (hs : List Nat) (H : List Blk) (b : Nat), (maskL base hs H)[b]? = if (∃ s ∈ hs, b = base + s) ∧ b < H.length then some .free else H[b]?
  | [], H, b => by simp [maskL]
  | s :: hs, H, b => by
    have ih := maskL_get base hs (H.set (base + s) .free) b
    have e : maskL base (s :: hs) H = maskL base hs (H.set (base + s) .free) := rfl
    rw [e, ih, List.length_set]
    by_cases h2 : b < H.length
    · by_cases h1 : ∃ s' ∈ hs, b = base + s'
      · obtain ⟨s', h3, h4⟩ := h1
        rw [if_pos ⟨⟨s', h3, h4⟩, h2⟩, if_pos ⟨⟨s', List.mem_cons_of_mem _ h3, h4⟩, h2⟩]
      · rw [if_neg (fun h => h1 h.1)]
        by_cases h3 : base + s = b
        · subst h3
          rw [List.getElem?_set_self h2, if_pos ⟨⟨s, List.mem_cons_self .., rfl⟩, h2⟩]
        · rw [List.getElem?_set_ne h3, if_neg]
          rintro ⟨⟨s', h4, h5⟩, _⟩
          rcases List.mem_cons.1 h4 with h6 | h6
          · subst h6; exact h3 h5.symm
          · exact h1 ⟨s', h6, h5⟩
    · rw [if_neg (fun h => h2 h.2), if_neg (fun h => h2 h.2), List.getElem?_eq_none (by simpa using h2), List.getElem?_eq_none (by simpa using h2)]

theorem maskL_sub (base : Nat) (hs : List Nat) (H : List Blk) : Sub (maskL base hs H) H := fun b sz es h => by
  rw [maskL_get] at h
  split at h
  · cases h
  · exact h

theorem maskL_free {base : Nat} {hs : List Nat} {H : List Blk} {b : Nat} {y : Blk} (h : (maskL base hs H)[b]? = some y) (hf : H[b]? = some .free) : y = .free := by
  rw [maskL_get] at h
  split at h
  · exact (Option.some.inj h).symm
  · rw [hf] at h; exact (Option.some.inj h).symm
theorem maskL_subT (base : Nat) (hs : List Nat) (H : List Blk) : SubT (maskL base hs H) H := fun b sz es h => by
  rw [maskL_get] at h
  split at h
  · cases h
  · exact h

theorem maskL_set {base : Nat} {hs : List Nat} {H : List Blk} {s : Nat} {x : Blk} (h : s ∈ hs) : maskL base hs (H.set (base + s) x) = maskL base hs H := by
  apply List.ext_getElem?
  intro b
  rw [maskL_get, maskL_get, List.length_set, List.getElem?_set]
  by_cases h1 : (∃ s' ∈ hs, b = base + s') ∧ b < H.length
  · rw [if_pos h1, if_pos h1]
  · rw [if_neg h1, if_neg h1]
    split
    · rename_i e
      split
      · rename_i hl; exact absurd ⟨⟨s, h, e.symm⟩, e ▸ hl⟩ h1
      · rename_i hl; rw [List.getElem?_eq_none]; omega
    · rfl

/-- What one operation gives: its value and what it does to the own blocks. -/
def Acts (P : Program) (ops : List Oper) (o : Oper) (s : Nat) (t : List D) (H : List Blk) (d : D) (e : Eff) : Prop :=
  match o.guard with
  | none => go
  | some (j, want) => match guardD ops t j with
    | some b => if b = want then go else d = .any ∧ e = .keep
    | none => False
where go : Prop :=
  match o.op with
  | .call { callee := .value f, args, .. } => match callD t f args.toList with
    | some (g, xs) => Maps P g (xs.map (snap (fun b => H[b]?) 5)) d ∧ freshD 5 d = true ∧ e = .keep
    | none => False
  | op => stepD P H s t op = some (d, e)

theorem stepD_congr {H : List Blk} {s : Nat} {t t' : List D} {op : Op} (h : ∀ x ∈ op.operands, ev t x = ev t' x) : stepD P H s t op = stepD P H s t' op := by
  cases op with
  | move x => simp [stepD, h x (by simp [Op.operands])]
  | assign x => simp [stepD, h x (by simp [Op.operands])]
  | pick c a b => simp [stepD, h c (by simp [Op.operands]), h a (by simp [Op.operands]), h b (by simp [Op.operands])]
  | binOp op ty x y _ => simp [stepD, h x (by simp [Op.operands]), h y (by simp [Op.operands])]
  | unOp op _ x => simp [stepD, h x (by simp [Op.operands])]
  | convert src dst x => simp [stepD, h x (by simp [Op.operands])]
  | extract x i => simp [stepD, h x (by simp [Op.operands])]
  | field ty x f => simp [stepD, h x (by simp [Op.operands])]
  | index ty x i => simp [stepD, h x (by simp [Op.operands]), h i (by simp [Op.operands])]
  | fieldAddr ty x f => simp [stepD, h x (by simp [Op.operands])]
  | indexAddr ty x i => simp [stepD, h x (by simp [Op.operands]), h i (by simp [Op.operands])]
  | slice ty x lo hi mx =>
    have h1 : lo.map (ev t) = lo.map (ev t') := by cases lo <;> simp; exact h _ (by simp [Op.operands])
    have h2 : hi.map (ev t) = hi.map (ev t') := by cases hi <;> simp; exact h _ (by simp [Op.operands])
    have h3 : mx.map (ev t) = mx.map (ev t') := by cases mx <;> simp; exact h _ (by simp [Op.operands])
    simp only [stepD, h x (by simp [Op.operands]), h1, h2, h3]
  | load ty p => simp [stepD, h p (by simp [Op.operands])]
  | nilCheck x => simp [stepD, h x (by simp [Op.operands])]
  | makeFunc f a b =>
    have h1 : a.toList.map (ev t) = a.toList.map (ev t') := List.map_congr_left fun x hx => h x (by simp [Op.operands]; exact .inl (by simpa using hx))
    have h2 : b.toList.map (ev t) = b.toList.map (ev t') := List.map_congr_left fun x hx => h x (by simp [Op.operands]; exact .inr (by simpa using hx))
    simp only [stepD, h1, h2]
  | build ty ps =>
    have h1 : ps.toList.map (fun p => (p.1, ev t p.2)) = ps.toList.map (fun p => (p.1, ev t' p.2)) := List.map_congr_left fun p hp => by
      rw [h p.2 (by simp only [Op.operands, List.mem_toArray, List.mem_map]; exact ⟨p, hp, rfl⟩)]
    simp only [stepD, h1]
  | buildSlice ty len ps =>
    have h1 : ps.toList.map (fun p => (p.1, ev t p.2)) = ps.toList.map (fun p => (p.1, ev t' p.2)) := List.map_congr_left fun p hp => by
      rw [h p.2 (by simp only [Op.operands, List.mem_toArray, List.mem_map]; exact ⟨p, hp, rfl⟩)]
    simp only [stepD, h1]
  | makeSlice ty l c => simp [stepD, h l (by simp [Op.operands]), h c (by simp [Op.operands])]
  | alloc ty => rfl
  | box _ x => simp only [stepD, h x (by simp [Op.operands])]
  | store ty p x => simp [stepD, h p (by simp [Op.operands]), h x (by simp [Op.operands])]
  | makeMap ty r => cases r <;> rfl
  | lookup ty x i ok => simp [stepD, h x (by simp [Op.operands]), h i (by simp [Op.operands])]
  | mapUpdate ty m k x => simp [stepD, h m (by simp [Op.operands]), h k (by simp [Op.operands]), h x (by simp [Op.operands])]
  | mapEntry ty m k => simp [stepD, h m (by simp [Op.operands]), h k (by simp [Op.operands])]
  | entryStore ty m k x => simp [stepD, h m (by simp [Op.operands]), h k (by simp [Op.operands]), h x (by simp [Op.operands])]
  | call c =>
    obtain ⟨cal, args, tys⟩ := c
    cases cal with
    | builtin b =>
      have h1 : args.toList.map (ev t) = args.toList.map (ev t') := List.map_congr_left fun x hx => h x (by simp [Op.operands, Call.operands]; simpa using hx)
      simp only [stepD, h1]
    | _ => rfl
  | _ => rfl

theorem ev_setT {t : List D} {dst : Option Tmp} {d : D} {x : Operand} (h : ∀ i, dst = some i → x ≠ .tmp i) : ev (setT t dst d) x = ev t x := by
  cases x with
  | tmp j =>
    cases dst with
    | none => rfl
    | some i =>
      have hne : i ≠ j := fun e => h i rfl (by rw [e])
      simp [ev, lkF_eq, setT, List.getD, hne]
  | _ => rfl

theorem reads_op {ops : List Oper} {o : Oper} {i : Nat} (h : i ∉ readsOf ops o) : ∀ x ∈ o.op.operands, x ≠ .tmp i := fun x hx e => by
  subst e
  exact h (by simp only [readsOf, List.mem_append, List.mem_filterMap]; exact .inl ⟨_, by simpa using hx, rfl⟩)

theorem guardD_setT {ops : List Oper} {o : Oper} {t : List D} {dst : Option Tmp} {d : D} {j : Nat} {want : Bool} (hg : o.guard = some (j, want)) (h : ∀ i, dst = some i → i ∉ readsOf ops o) :
    guardD ops (setT t dst d) j = guardD ops t j := by
  unfold guardD
  cases hj : ops[j]? with
  | none => rfl
  | some p =>
    cases hp : p.dst with
    | none => simp [hp]
    | some k =>
      simp only [hp]
      cases dst with
      | none => rfl
      | some i =>
        have hne : i ≠ k := fun e => h i rfl (by subst e; simp [readsOf, hg, hj, hp])
        simp [setT, hne]

/-- An operation's act does not see a temporary that it does not read. -/
theorem Acts.setT {ops : List Oper} {o : Oper} {s : Nat} {t : List D} {H : List Blk} {d d' : D} {e : Eff} {dst : Option Tmp} (h : ∀ i, dst = some i → i ∉ readsOf ops o) :
    Acts P ops o s (DL.setT t dst d') H d e ↔ Acts P ops o s t H d e := by
  have hev : ∀ x ∈ o.op.operands, ev (DL.setT t dst d') x = ev t x := fun x hx => ev_setT fun i hi => reads_op (h i hi) x hx
  have hgo : Acts.go P o s (DL.setT t dst d') H d e = Acts.go P o s t H d e := by
    unfold Acts.go
    split
    · rename_i f args tys hop
      have h1 : callD (DL.setT t dst d') f args.toList = callD t f args.toList := by
        unfold callD
        have hf : ev (DL.setT t dst d') f = ev t f := hev f (by rw [hop]; simp [Op.operands, Call.operands])
        have ha : args.toList.map (ev (DL.setT t dst d')) = args.toList.map (ev t) := List.map_congr_left fun x hx => hev x (by rw [hop]; simp [Op.operands, Call.operands]; exact .inr (by simpa using hx))
        rw [hf, ha]
      rw [h1]
    · rw [stepD_congr hev]
  unfold Acts
  split
  · rw [hgo]
  · rename_i j want hg
    rw [guardD_setT hg h, hgo]

theorem builtin_pure {H H' : List Blk} {s : Nat} {b : Builtin} {xs : List D} {ts : List TypeId} (h : b = .len ∨ b = .max ∨ b = .min) : builtinD P H s b xs ts = builtinD P H' s b xs ts := by
  rcases h with rfl | rfl | rfl
  all_goals
    unfold builtinD
    split <;> first | rfl | simp_all

theorem stepD_pure {H H' : List Blk} {s : Nat} {t : List D} {o : Oper} (h : kindOf o = .pure ∨ kindOf o = .make) : stepD P H s t o.op = stepD P H' s t o.op := by
  unfold kindOf at h
  split at h <;> first
    | (rename_i ho; rw [ho]; rfl)
    | (rename_i r ho; rw [ho]; cases r <;> rfl)
    | (rcases h with h | h <;> cases h)
    | (rename_i b args tys ho
       rw [ho]
       simp only [stepD]
       cases b <;> first | (simp at h; done) | exact builtin_pure (by simp))

theorem stepD_eff {H : List Blk} {s : Nat} {t : List D} {o : Oper} {d : D} {e : Eff} (h : stepD P H s t o.op = some (d, e)) :
    (kindOf o = .pure ∨ kindOf o = .look → e = .keep) ∧ (kindOf o = .make → ∃ x, e = .put x) := by
  have kd : ∀ {q : Option D}, keepD q = some (d, e) → e = .keep := fun {q} h => by
    simp only [keepD, Option.map_eq_some_iff, Prod.mk.injEq] at h
    obtain ⟨_, _, _, rfl⟩ := h; rfl
  have bl : ∀ {b : Builtin} {xs : List D} {ts : List TypeId}, (b = .len ∨ b = .max ∨ b = .min) → builtinD P H s b xs ts = some (d, e) → e = .keep := fun {b xs ts} hb h => by
    unfold builtinD at h
    split at h
    · split at h
      · simp only [Option.map_eq_some_iff, Prod.mk.injEq] at h
        obtain ⟨_, _, _, rfl⟩ := h; rfl
      · cases h
    · simp at hb
    · simp only [Option.map_eq_some_iff, Prod.mk.injEq] at h
      obtain ⟨_, _, _, rfl⟩ := h; rfl
    · simp only [Option.map_eq_some_iff, Prod.mk.injEq] at h
      obtain ⟨_, _, _, rfl⟩ := h; rfl
    · cases h
  unfold kindOf
  cases ho : o.op with
  | move x => rw [ho] at h; simp only [stepD, Option.some.injEq, Prod.mk.injEq] at h; exact ⟨fun _ => h.2.symm, fun x => by cases x⟩
  | assign x => rw [ho] at h; simp only [stepD, Option.some.injEq, Prod.mk.injEq] at h; exact ⟨fun _ => h.2.symm, fun x => by cases x⟩
  | makeFunc f a b => rw [ho] at h; simp only [stepD, Option.some.injEq, Prod.mk.injEq] at h; exact ⟨fun _ => h.2.symm, fun x => by cases x⟩
  | pick c a b => rw [ho] at h; exact ⟨fun _ => kd h, fun x => by cases x⟩
  | binOp op ty x y _ => rw [ho] at h; exact ⟨fun _ => kd h, fun x => by cases x⟩
  | unOp op _ x => rw [ho] at h; exact ⟨fun _ => kd h, fun x => by cases x⟩
  | convert src dst x => rw [ho] at h; exact ⟨fun _ => kd h, fun x => by cases x⟩
  | extract x i => rw [ho] at h; exact ⟨fun _ => kd h, fun x => by cases x⟩
  | field ty x f => rw [ho] at h; exact ⟨fun _ => kd h, fun x => by cases x⟩
  | index ty x i => rw [ho] at h; exact ⟨fun _ => kd h, fun x => by cases x⟩
  | fieldAddr ty x f => rw [ho] at h; exact ⟨fun _ => kd h, fun x => by cases x⟩
  | indexAddr ty x i => rw [ho] at h; exact ⟨fun _ => kd h, fun x => by cases x⟩
  | slice ty x lo hi mx =>
    rw [ho] at h
    simp only [stepD] at h
    split at h
    · cases h
    · exact ⟨fun _ => kd h, fun x => by cases x⟩
  | load ty p => rw [ho] at h; exact ⟨fun _ => kd h, fun x => by cases x⟩
  | nilCheck x => rw [ho] at h; exact ⟨fun _ => kd h, fun x => by cases x⟩
  | build ty ps => rw [ho] at h; exact ⟨fun _ => kd h, fun x => by cases x⟩
  | buildSlice ty len ps =>
    rw [ho] at h
    simp only [stepD, Option.map_eq_some_iff, Prod.mk.injEq, Prod.exists] at h
    obtain ⟨_, _, _, _, rfl⟩ := h
    exact ⟨fun x => (by rcases x with x | x <;> cases x), fun _ => ⟨_, rfl⟩⟩
  | makeSlice ty l c =>
    rw [ho] at h
    simp only [stepD, Option.map_eq_some_iff, Prod.mk.injEq, Prod.exists] at h
    obtain ⟨_, _, _, _, _, _, rfl⟩ := h
    exact ⟨fun x => (by rcases x with x | x <;> cases x), fun _ => ⟨_, rfl⟩⟩
  | alloc ty =>
    rw [ho] at h
    simp only [stepD, Option.map_eq_some_iff, Prod.mk.injEq] at h
    obtain ⟨_, _, _, rfl⟩ := h
    exact ⟨fun x => (by rcases x with x | x <;> cases x), fun _ => ⟨_, rfl⟩⟩
  | box _ x =>
    rw [ho] at h
    simp only [stepD] at h
    split at h
    · simp only [Option.some.injEq, Prod.mk.injEq] at h
      obtain ⟨_, rfl⟩ := h
      exact ⟨fun x => (by rcases x with x | x <;> cases x), fun _ => ⟨_, rfl⟩⟩
    · cases h
  | call c =>
    obtain ⟨cal, args, tys⟩ := c
    cases cal with
    | builtin b =>
      rw [ho] at h
      simp only [stepD] at h
      by_cases hb : b = .len ∨ b = .max ∨ b = .min
      · refine ⟨fun _ => bl hb h, fun x => ?_⟩
        rcases hb with rfl | rfl | rfl <;> simp at x
      · cases b <;> simp at hb ⊢
    | value f => rw [ho] at h; cases h
    | invoke r m => rw [ho] at h; cases h
  | store ty p x => exact ⟨fun x => (by rcases x with x | x <;> cases x), fun x => (by cases x)⟩
  | mapUpdate ty m k x => exact ⟨fun x => (by rcases x with x | x <;> cases x), fun x => (by cases x)⟩
  | mapEntry ty m k => exact ⟨fun x => (by rcases x with x | x <;> cases x), fun x => (by cases x)⟩
  | entryStore ty m k x => exact ⟨fun x => (by rcases x with x | x <;> cases x), fun x => (by cases x)⟩
  | lookup ty x i ok => rw [ho] at h; exact ⟨fun _ => kd h, fun x => by cases x⟩
  | makeMap ty r =>
    rw [ho] at h
    cases r with
    | some _ => cases h
    | none =>
      simp only [stepD, Option.some.injEq, Prod.mk.injEq] at h
      obtain ⟨_, rfl⟩ := h
      exact ⟨fun x => (by rcases x with x | x <;> cases x), fun _ => ⟨_, rfl⟩⟩
  | _ => rw [ho] at h; cases h

theorem Acts.go_eff {o : Oper} {s : Nat} {t : List D} {H : List Blk} {d : D} {e : Eff} (h : Acts.go P o s t H d e) :
    (kindOf o = .pure ∨ kindOf o = .look → e = .keep) ∧ (kindOf o = .make → ∃ x, e = .put x) := by
  unfold Acts.go at h
  split at h
  · rename_i ho
    split at h
    · exact ⟨fun _ => h.2.2, fun x => by unfold kindOf at x; rw [ho] at x; cases x⟩
    · exact h.elim
  · exact stepD_eff h

theorem Acts.eff {ops : List Oper} {o : Oper} {s : Nat} {t : List D} {H : List Blk} {d : D} {e : Eff} (h : Acts P ops o s t H d e) :
    (kindOf o = .pure ∨ kindOf o = .look → e = .keep) ∧ (kindOf o = .make → e = .keep ∨ ∃ x, e = .put x) := by
  unfold Acts at h
  split at h
  · exact ⟨(Acts.go_eff h).1, fun x => .inr ((Acts.go_eff h).2 x)⟩
  · split at h
    · split at h
      · exact ⟨(Acts.go_eff h).1, fun x => .inr ((Acts.go_eff h).2 x)⟩
      · exact ⟨fun _ => h.2, fun _ => .inl h.2⟩
    · exact h.elim

theorem Acts.heap {ops : List Oper} {o : Oper} {s : Nat} {t : List D} {H H' : List Blk} {d : D} {e : Eff} (hk : kindOf o = .pure ∨ kindOf o = .make) (h : Acts P ops o s t H d e) : Acts P ops o s t H' d e := by
  have hgo : Acts.go P o s t H d e → Acts.go P o s t H' d e := fun h => by
    unfold Acts.go at h ⊢
    split at h
    · rename_i ho
      unfold kindOf at hk; rw [ho] at hk; rcases hk with hk | hk <;> cases hk
    · rw [stepD_pure hk (H' := H')] at h; exact h
  unfold Acts at h ⊢
  split at h
  · exact hgo h
  · split at h
    · split at h
      · rename_i hb; rw [if_pos hb]; exact hgo h
      · rename_i hb; rw [if_neg hb]; exact h
    · exact h.elim

/-- The place that operation i has for a new block. -/
def slotAt (ops : List Oper) (base i : Nat) : Nat := base + (match ops[i]? with | some o => if needs o then rankOf ops i else slots ops | none => slots ops)

/-- One operation of a region, in whatever order. -/
def StepR (P : Program) (ops : List Oper) (an : List (List Nat)) (base i : Nat) (st st' : St) : Prop :=
  ∃ o d e, ops[i]? = some o ∧ Acts P ops o (slotAt ops base i) st.t (maskL base (hiddenOf ops an i) st.H) d e ∧ st' = { t := setT st.t o.dst d, H := e.app st.H (slotAt ops base i), ds := st.ds, g := st.g }

theorem setT_comm {t : List D} {a b : Option Tmp} {x y : D} (h : ∀ i, a = some i → b ≠ some i) : setT (setT t a x) b y = setT (setT t b y) a x := by
  cases a with
  | none => cases b <;> rfl
  | some i => cases b with
    | none => rfl
    | some j => exact List.set_comm _ _ (fun e => h i rfl (by rw [e]))

theorem rank_lt {ops : List Oper} {i : Nat} {o : Oper} (ho : ops[i]? = some o) (hn : needs o = true) : rankOf ops i < slots ops := by
  have hi := (List.getElem?_eq_some_iff.1 ho).1
  have he := (List.getElem?_eq_some_iff.1 ho).2
  have : slots ops = ((ops.take i ++ ops.drop i).filter fun o => kindOf o == .make || kindOf o == .write).length := by rw [List.take_append_drop]; rfl
  rw [this, List.filter_append, List.length_append, List.drop_eq_getElem_cons hi, he, List.filter_cons_of_pos (by simpa [needs] using hn)]
  simp [rankOf]

theorem rank_mono {ops : List Oper} {i j : Nat} {o : Oper} (ho : ops[j]? = some o) (hn : needs o = true) (h : j < i) : rankOf ops j < rankOf ops i := by
  have h1 : (ops.take i)[j]? = some o := by rw [List.getElem?_take, if_pos h]; exact ho
  have := rank_lt h1 hn
  have e : rankOf (ops.take i) j = rankOf ops j := by simp only [rankOf]; rw [List.take_take, Nat.min_eq_left (Nat.le_of_lt h)]
  rw [e] at this
  exact this

theorem slot_ne {ops : List Oper} {base i j : Nat} {o p : Oper} (ho : ops[i]? = some o) (hp : ops[j]? = some p) (hno : needs o = true) (hnp : needs p = true) (h : i ≠ j) : slotAt ops base i ≠ slotAt ops base j := by
  simp only [slotAt, ho, hp, hno, hnp, if_true]
  rcases Nat.lt_or_gt_of_ne h with h | h
  · have := rank_mono ho hno h; omega
  · have := rank_mono hp hnp h; omega

theorem hidden_mem {ops : List Oper} {an : List (List Nat)} {i j : Nat} {p : Oper} (hp : ops[j]? = some p) (hn : needs p = true) (h : (an.getD i []).contains j = false) : rankOf ops j ∈ hiddenOf ops an i := by
  simp only [hiddenOf, List.mem_filterMap, List.mem_range]
  exact ⟨j, (List.getElem?_eq_some_iff.1 hp).1, by simp only [hp, hn, h, Bool.not_false, Bool.and_true, if_true]⟩

/-- Two operations that may change places do. -/
theorem StepR.swap {ops : List Oper} {an : List (List Nat)} {base j i : Nat} {st s1 s2 : St} (hij : j ≠ i) (hind : indep ops an j i = true) (h1 : StepR P ops an base j st s1) (h2 : StepR P ops an base i s1 s2) :
    ∃ s1', StepR P ops an base i st s1' ∧ StepR P ops an base j s1' s2 := by
  obtain ⟨p, dp, ep, hp, ap, rfl⟩ := h1
  obtain ⟨o, d, e, ho, ao, rfl⟩ := h2
  simp only [indep, hp, ho, Bool.and_eq_true] at hind
  obtain ⟨⟨i1, i2⟩, i3⟩ := hind
  have r1 : ∀ k, p.dst = some k → k ∉ readsOf ops o := fun k hk => by rw [hk] at i1; simp at i1; exact i1.1
  have r2 : ∀ k, o.dst = some k → k ∉ readsOf ops p := fun k hk => by rw [hk] at i2; simpa using i2
  have r3 : ∀ k, p.dst = some k → o.dst ≠ some k := fun k hk => by rw [hk] at i1; simp at i1; exact i1.2
  have ao' := (Acts.setT r1).1 ao
  -- the heaps
  have key : Acts P ops o (slotAt ops base i) st.t (maskL base (hiddenOf ops an i) st.H) d e ∧ Acts P ops p (slotAt ops base j) st.t (maskL base (hiddenOf ops an j) (e.app st.H (slotAt ops base i))) dp ep ∧
      e.app (ep.app st.H (slotAt ops base j)) (slotAt ops base i) = ep.app (e.app st.H (slotAt ops base i)) (slotAt ops base j) := by
    have keepP : kindOf p = .pure ∨ kindOf p = .look → ep = .keep := ap.eff.1
    have keepO : kindOf o = .pure ∨ kindOf o = .look → e = .keep := ao.eff.1
    have needP : kindOf p = .make ∨ kindOf p = .write → needs p = true := fun h => by simp [needs]; exact h
    have needO : kindOf o = .make ∨ kindOf o = .write → needs o = true := fun h => by simp [needs]; exact h
    have slotO : needs o = true → slotAt ops base i = base + rankOf ops i := fun h => by simp [slotAt, ho, h]
    have slotP : needs p = true → slotAt ops base j = base + rankOf ops j := fun h => by simp [slotAt, hp, h]
    cases hkp : kindOf p with
    | pure =>
      have e1 := keepP (.inl hkp)
      subst e1
      exact ⟨ao', ap.heap (.inl hkp), rfl⟩
    | write =>
      rw [hkp] at i3
      have hko : kindOf o = .pure := by cases hk : kindOf o <;> rw [hk] at i3 <;> first | rfl | simp at i3
      have e1 := keepO (.inl hko)
      subst e1
      exact ⟨ao'.heap (.inl hko), ap, rfl⟩
    | look =>
      have e1 := keepP (.inr hkp)
      subst e1
      cases hko : kindOf o with
      | pure => have e2 := keepO (.inl hko); subst e2; exact ⟨ao', ap, rfl⟩
      | look => have e2 := keepO (.inr hko); subst e2; exact ⟨ao', ap, rfl⟩
      | write => rw [hkp, hko] at i3; simp at i3
      | make =>
        rw [hkp, hko] at i3
        have hc : (an.getD j []).contains i = false := by simpa using i3
        have hn := needO (.inl hko)
        refine ⟨ao', ?_, rfl⟩
        rcases ao.eff.2 hko with rfl | ⟨x, rfl⟩
        · exact ap
        · rw [slotO hn]
          simp only [Eff.app]
          rw [maskL_set (hidden_mem ho hn hc)]
          exact ap
    | make =>
      have hnp := needP (.inl hkp)
      have epc := ap.eff.2 hkp
      have nohide : (an.getD i []).contains j = false → maskL base (hiddenOf ops an i) (ep.app st.H (slotAt ops base j)) = maskL base (hiddenOf ops an i) st.H := fun hc => by
        rcases epc with rfl | ⟨x, rfl⟩
        · rfl
        · rw [slotP hnp]; simp only [Eff.app]; rw [maskL_set (hidden_mem hp hnp hc)]
      cases hko : kindOf o with
      | pure => have e2 := keepO (.inl hko); subst e2; exact ⟨ao'.heap (.inl hko), ap, rfl⟩
      | look =>
        rw [hkp, hko] at i3
        have hc : (an.getD i []).contains j = false := by simpa using i3
        have e2 := keepO (.inr hko); subst e2
        rw [nohide hc] at ao'
        exact ⟨ao', ap, rfl⟩
      | write => rw [hkp, hko] at i3; simp at i3
      | make =>
        refine ⟨ao'.heap (.inr hko), ap.heap (.inr hkp), ?_⟩
        have hno := needO (.inl hko)
        have hne := slot_ne (base := base) ho hp hno hnp (Ne.symm hij)
        rcases epc with rfl | ⟨x, rfl⟩
        · rfl
        · rcases ao.eff.2 hko with rfl | ⟨y, rfl⟩
          · rfl
          · exact List.set_comm _ _ (Ne.symm hne)
  refine ⟨_, ⟨o, d, e, ho, key.1, rfl⟩, p, dp, ep, hp, (Acts.setT r2).2 key.2.1, ?_⟩
  rw [setT_comm r3, key.2.2]
end
end
end Go.DL

/- A region that draws its order: the rule. -/
namespace Go.DL
open Go.RowKit Go.Proofs

noncomputable section

def RunR (P : Program) (ops : List Oper) (an : List (List Nat)) (base : Nat) : List Nat → St → St → Prop
  | [], st, st' => st = st'
  | i :: l, st, st' => ∃ s1, StepR P ops an base i st s1 ∧ RunR P ops an base l s1 st'

section
variable {P : Program} {G : Gh} {ops : List Oper} {an : List (List Nat)} {base : Nat}

theorem RunR.front {i : Nat} : ∀ {l1 l2 : List Nat} {st stf : St}, (∀ j ∈ l1, j ≠ i ∧ indep ops an j i = true) → RunR P ops an base (l1 ++ i :: l2) st stf →
    ∃ s1, StepR P ops an base i st s1 ∧ RunR P ops an base (l1 ++ l2) s1 stf
  | [], l2, st, stf, _, h => h
  | j :: l1, l2, st, stf, hj, h => by
    obtain ⟨s1, h1, h2⟩ := h
    obtain ⟨s2, h3, h4⟩ := RunR.front (fun k hk => hj k (List.mem_cons_of_mem _ hk)) h2
    obtain ⟨hne, hi⟩ := hj j (List.mem_cons_self ..)
    obtain ⟨s3, h5, h6⟩ := h1.swap hne hi h3
    exact ⟨s3, h5, s2, h6, h4⟩

theorem ancs_spec : ∀ (l : List Oper) (acc : List (List Nat)), (∀ k, k < acc.length → (ancs l acc).getD k [] = acc.getD k []) ∧
    ∀ k o, l[k]? = some o → ∀ m ∈ (ancs l acc).getD (acc.length + k) [], m ∈ depsOf o ∨ ∃ j ∈ depsOf o, m ∈ (ancs l acc).getD j []
  | [], acc => ⟨fun _ _ => rfl, fun k o h => by simp at h⟩
  | p :: l, acc => by
    obtain ⟨h1, h2⟩ := ancs_spec l (acc ++ [(depsOf p).flatMap fun j => j :: acc.getD j []])
    have e : ancs (p :: l) acc = ancs l (acc ++ [(depsOf p).flatMap fun j => j :: acc.getD j []]) := rfl
    rw [e]
    have h1' : ∀ k, k < acc.length → (ancs l (acc ++ [(depsOf p).flatMap fun j => j :: acc.getD j []])).getD k [] = acc.getD k [] := fun k hk => by
      rw [h1 k (by simp; omega)]
      simp [List.getD, List.getElem?_append_left hk]
    refine ⟨h1', fun k o hk m hm => ?_⟩
    cases k with
    | zero =>
      simp only [List.getElem?_cons_zero, Option.some.injEq] at hk
      subst hk
      rw [Nat.add_zero, h1 acc.length (by simp)] at hm
      have : (acc ++ [(depsOf p).flatMap fun j => j :: acc.getD j []]).getD acc.length [] = (depsOf p).flatMap fun j => j :: acc.getD j [] := by simp [List.getD]
      rw [this, List.mem_flatMap] at hm
      obtain ⟨j, hj, hm⟩ := hm
      rcases List.mem_cons.1 hm with rfl | hm
      · exact .inl hj
      · rcases Nat.lt_or_ge j acc.length with hlt | hge
        · exact .inr ⟨j, hj, by rw [h1' j hlt]; exact hm⟩
        · simp [List.getD, List.getElem?_eq_none hge] at hm
    | succ k =>
      simp only [List.getElem?_cons_succ] at hk
      refine h2 k o hk m ?_
      rw [show (acc ++ [(depsOf p).flatMap fun j => j :: acc.getD j []]).length + k = acc.length + (k + 1) by simp; omega]
      exact hm

/-- What is left, in the text's order. -/
def remOf (n : Nat) (listed : Array Bool) : List Nat := (List.range n).filter fun i => !listed.getD i true

theorem mem_rem {n i : Nat} {listed : Array Bool} : i ∈ remOf n listed ↔ i < n ∧ listed.getD i true = false := by simp [remOf]

/-- The places of what is to come are free. -/
structure SlotsFree (ops : List Oper) (base : Nat) (listed : Array Bool) (H : List Blk) : Prop where
  slot : ∀ k, k < ops.length → listed.getD k true = false → H[slotAt ops base k]? = some .free
  last : H[base + slots ops]? = some .free

theorem slot_set {H : List Blk} {b s : Nat} {x : Blk} (h : H[s]? = some .free) (hb : b ≠ s) : (H.set b x)[s]? = some .free := by
  rw [List.getElem?_set, if_neg hb]; exact h

theorem slot_case {i : Nat} {o : Oper} (ho : ops[i]? = some o) : slotAt ops base i = base + slots ops ∨ (needs o = true ∧ slotAt ops base i = base + rankOf ops i ∧ rankOf ops i < slots ops) := by
  by_cases hn : needs o = true
  · exact .inr ⟨hn, by simp [slotAt, ho, hn], rank_lt ho hn⟩
  · exact .inl (by simp [slotAt, ho, hn])

theorem Acts.upd_live {o : Oper} {s : Nat} {t : List D} {H : List Blk} {d : D} {e : Eff} (h : Acts P ops o s t H d e) : (∀ b x, e = .upd b x → ∃ y, H[b]? = some y ∧ y ≠ .free) ∧
    (∀ b x, e = .ren (some b) x → ∃ y, H[b]? = some y ∧ y ≠ .free) := by
  have go : Acts.go P o s t H d e → (∀ b x, e = .upd b x → ∃ y, H[b]? = some y ∧ y ≠ .free) ∧ (∀ b x, e = .ren (some b) x → ∃ y, H[b]? = some y ∧ y ≠ .free) := fun h => by
    unfold Acts.go at h
    split at h
    · split at h
      · obtain ⟨_, _, rfl⟩ := h; exact ⟨fun _ _ x => (by cases x), fun _ _ x => (by cases x)⟩
      · exact h.elim
    · exact ⟨fun b x he => stepD_upd (he ▸ h), fun b x he => stepD_ren (he ▸ h)⟩
  unfold Acts at h
  split at h
  · exact go h
  · split at h
    · split at h
      · exact go h
      · obtain ⟨_, rfl⟩ := h; exact ⟨fun _ _ x => (by cases x), fun _ _ x => (by cases x)⟩
    · exact h.elim

theorem getD_set {listed : Array Bool} {i k : Nat} (hk : k < listed.size) : (listed.setIfInBounds i true).getD k true = (if i = k then true else listed.getD k true) := by
  rw [Array.getD_eq_getD_getElem?, Array.getD_eq_getD_getElem?, Array.getElem?_setIfInBounds]
  split
  · rename_i h; subst h; simp [hk]
  · rfl

theorem getD_set' {listed : Array Bool} {i k : Nat} : (listed.setIfInBounds i true).getD k false = (if i = k ∧ k < listed.size then true else listed.getD k false) := by
  rw [Array.getD_eq_getD_getElem?, Array.getD_eq_getD_getElem?, Array.getElem?_setIfInBounds]
  by_cases h : i = k
  · subst h
    by_cases hk : i < listed.size <;> simp [hk]
  · simp [h]

theorem getD_ft {listed : Array Bool} {k : Nat} (hk : k < listed.size) : listed.getD k true = listed.getD k false := by
  simp [Array.getD_eq_getD_getElem?, hk]

theorem SlotsFree.step {listed : Array Bool} {st st' : St} {i : Nat} (hf : SlotsFree ops base listed st.H) (hi : i < ops.length) (hli : listed.getD i true = false) (hls : listed.size = ops.length)
    (h : StepR P ops an base i st st') : SlotsFree ops base (listed.setIfInBounds i true) st'.H := by
  obtain ⟨o, d, e, ho, ha, rfl⟩ := h
  have live : ∀ {b : Nat} {y : Blk}, (maskL base (hiddenOf ops an i) st.H)[b]? = some y → y ≠ .free → ∀ s : Nat, st.H[s]? = some Blk.free → b ≠ s := fun {b y} hb hy s hs e => by
    subst e; exact hy (maskL_free hb hs)
  have other : ∀ s : Nat, st.H[s]? = some Blk.free → s ≠ slotAt ops base i → (e.app st.H (slotAt ops base i))[s]? = some Blk.free := fun s hs hne => by
    cases e with
    | keep => exact hs
    | put x => exact slot_set hs (Ne.symm hne)
    | upd b x => obtain ⟨y, hb, hy⟩ := ha.upd_live.1 b x rfl; exact slot_set hs (live hb hy s hs)
    | ren ob x =>
      refine slot_set ?_ (Ne.symm hne)
      cases ob with
      | none => exact hs
      | some b => obtain ⟨y, hb, hy⟩ := ha.upd_live.2 b x rfl; exact slot_set hs (live hb hy s hs)
  -- an operation without a place of its own makes no block
  have keep : needs o = false → ∀ s : Nat, st.H[s]? = some Blk.free → (e.app st.H (slotAt ops base i))[s]? = some Blk.free := fun hn s hs => by
    have hk : kindOf o = .pure ∨ kindOf o = .look := by cases hk : kindOf o <;> simp [needs, hk] at hn ⊢
    rw [ha.eff.1 hk]; exact hs
  refine ⟨fun k hk hlk => ?_, ?_⟩
  · have hki : k ≠ i := fun e => by subst e; rw [getD_set (by omega)] at hlk; simp at hlk
    have hlk' : listed.getD k true = false := by
      rw [getD_set (by omega), if_neg (Ne.symm hki)] at hlk; exact hlk
    have hs := hf.slot k hk hlk'
    by_cases hn : needs o = true
    · refine other _ hs fun he => ?_
      obtain ⟨p, hp⟩ : ∃ p, ops[k]? = some p := ⟨_, List.getElem?_eq_getElem hk⟩
      rcases slot_case (base := base) hp with h1 | ⟨h1, _, _⟩
      · rcases slot_case (base := base) ho with h2 | ⟨_, h2, h3⟩
        · simp [slotAt, ho, hn] at h2
          have := rank_lt ho hn; omega
        · omega
      · exact slot_ne hp ho h1 hn hki he
    · exact keep (by simpa using hn) _ hs
  · by_cases hn : needs o = true
    · refine other _ hf.last ?_
      rcases slot_case (base := base) ho with h2 | ⟨_, h2, h3⟩
      · simp [slotAt, ho, hn] at h2
        have := rank_lt ho hn; omega
      · omega
    · exact keep (by simpa using hn) _ hf.last

theorem SlotsFree.at {listed : Array Bool} {H : List Blk} {i : Nat} (hf : SlotsFree ops base listed H) (hi : i < ops.length) (hli : listed.getD i true = false) : H[slotAt ops base i]? = some .free := hf.slot i hi hli

/-- One operation of a region that draws its order, at the model. -/
theorem step_ok (hG : Stab G) (hY : YOk P G) {ro : Option Nat} {st st' : St} {a : Act} {w : World} {i : Nat} {Q : Exit → Act → World → Prop} {K : Act → World → Prop} (hr : FR G st a w) (hfree : st.H[slotAt ops base i]? = some .free)
    (h : StepR P ops an base i st st') (hK : ∀ a' w', FR G st' a' w' → K a' w') : wpOpIn (FW ro) 0 P ops.toArray Q i K a w := by
  obtain ⟨o, d, e, ho, ha, rfl⟩ := h
  obtain ⟨A, φ, hr⟩ := hr
  have hgo : Acts.go P o (slotAt ops base i) st.t (maskL base (hiddenOf ops an i) st.H) d e → o.wpIn (FW ro) 0 P a w K Q := fun h => by
    unfold Acts.go at h
    split at h
    · rename_i f args tys hop
      split at h
      · rename_i g xs hc
        obtain ⟨h1, h2, rfl⟩ := h
        refine execO_ok hG hY (K := fun s => s = { t := setT st.t o.dst d, H := st.H, ds := st.ds, g := st.g }) ⟨A, φ, hr⟩ ?_ fun s a' w' e hf => hK a' w' (by rw [e] at hf; exact hf)
        unfold execO
        rw [hop]
        simp only [callD_yieldD hc, hc]
        exact call_freshL (lk := fun b => (maskL base (hiddenOf ops an i) st.H)[b]?) (fun b sz es hb => maskL_sub _ _ _ _ _ _ hb) h1 h2 rfl
      · exact h.elim
    · rename_i hop
      obtain ⟨x, w', A', φ', h1, h2⟩ := stepD_ok hG hr hfree (maskL_sub base (hiddenOf ops an i) st.H) (maskL_subT base (hiddenOf ops an i) st.H) h
      have hnd : ∀ c, o.op ≠ .defer c := fun c hc => by rw [hc] at h; cases h
      refine ⟨fun _ _ => trivial, ?_⟩
      rw [Oper.semAt_eq _ _ _ hnd]
      rcases h1 with h1 | ⟨h1, rfl⟩
      · rw [h1]; exact hK _ _ ⟨A', φ', h2⟩
      · rw [h1]; exact hK _ _ ⟨A', φ', h2⟩
  have hget : ops.toArray[i]? = some o := by simpa using ho
  unfold wpOpIn
  simp only [hget]
  unfold Acts at ha
  split at ha
  · rename_i hg
    rw [if_pos (by simp [Region.wanted, hg])]
    exact hgo ha
  · rename_i j want hg
    split at ha
    · rename_i b hb
      have hy := guard_ok (ops := ops) hr.tr hb
      have hw : Region.wanted o (yielded ops.toArray a.tmps) = (b == want) := by simp [Region.wanted, hg, hy]
      rw [hw]
      split at ha
      · rename_i hbw
        rw [if_pos (by simpa using hbw)]
        exact hgo ha
      · rename_i hbw
        rw [if_neg (by simpa using hbw)]
        obtain ⟨rfl, rfl⟩ := ha
        exact ⟨fun _ _ => trivial, hK _ _ ⟨A, φ, hr.value o.dst (.any _ _)⟩⟩
    · exact ha.elim

theorem any_ok (hG : Stab G) (hY : YOk P G) {ro : Option Nat} {Q : Exit → Act → World → Prop} {stf : St} (hd : drawOk ops = true) (han : an = ancs ops []) (hQ : ∀ a' w', FR G stf a' w' → Q .normal a' w') :
    ∀ (fuel : Nat) (listed : Array Bool) (st : St) (a : Act) (w : World), listed.size = ops.length → (remOf ops.length listed).length = fuel →
      (∀ k, listed.getD k false = true → ∀ m ∈ an.getD k [], listed.getD m false = true) → FR G st a w → SlotsFree ops base listed st.H → RunR P ops an base (remOf ops.length listed) st stf →
      wpAnyIn (FW ro) 0 P .any ops.toArray Q fuel listed a w := by
  have hdeps : ∀ i o, ops[i]? = some o → ∀ j ∈ depsOf o, j < i := fun i o ho j hj => by
    have hi := (List.getElem?_eq_some_iff.1 ho).1
    simp only [drawOk, List.all_eq_true, List.mem_range, Bool.and_eq_true] at hd
    have := (hd i hi).1 j (by simp [ho]; exact hj)
    simpa using this
  have hind : ∀ i, i < ops.length → ∀ j, j < i → (an.getD i []).contains j = true ∨ indep ops an j i = true := fun i hi j hj => by
    simp only [drawOk, List.all_eq_true, List.mem_range, Bool.and_eq_true] at hd
    have := (hd i hi).2 j hj
    rw [← han] at this
    simpa using this
  have ready_iff : ∀ (listed : Array Bool) i, i ∈ Region.ready .any ops.toArray listed ↔ i < ops.length ∧ listed.getD i true = false ∧ ∃ o, ops[i]? = some o ∧ ∀ j ∈ depsOf o, listed.getD j false = true := fun listed i => by
    unfold Region.ready
    simp only [List.mem_filter, List.mem_range, List.size_toArray, Bool.and_eq_true, Bool.not_eq_true']
    refine and_congr Iff.rfl (and_congr Iff.rfl ?_)
    cases ho : ops[i]? with
    | none => simp [ho]
    | some o =>
      simp only [List.getElem?_toArray, ho, Option.map_some, Option.getD_some, Option.some.injEq, exists_eq_left']
      simp only [depsOf, List.mem_map, List.mem_filter, Array.mem_toList_iff, Array.all_eq_true_iff_forall_mem, Bool.or_eq_true, Bool.not_eq_true']
      constructor
      · rintro h j ⟨e, ⟨he, hb⟩, rfl⟩
        rcases h e he with h | h
        · rw [hb] at h; cases h
        · exact h
      · intro h e he
        cases hb : Region.binds .any e with
        | false => exact .inl rfl
        | true => exact .inr (h e.on ⟨e, ⟨he, hb⟩, rfl⟩)
  intro fuel
  induction fuel with
  | zero =>
    intro listed st a w hls hlen hdc hr hf hrun
    have hnil : remOf ops.length listed = [] := List.eq_nil_of_length_eq_zero hlen
    refine ⟨?_, ?_⟩
    · cases hrd : Region.ready .any ops.toArray listed with
      | nil => rfl
      | cons i l =>
        have : i ∈ Region.ready .any ops.toArray listed := by rw [hrd]; exact List.mem_cons_self ..
        obtain ⟨h1, h2, _⟩ := (ready_iff listed i).1 this
        have : i ∈ remOf ops.length listed := mem_rem.2 ⟨h1, h2⟩
        rw [hnil] at this; cases this
    · rw [hnil] at hrun
      have : st = stf := hrun
      subst this
      exact hQ a w hr
  | succ fuel ih =>
    intro listed st a w hls hlen hdc hr hf hrun
    refine ⟨fun hnil => ?_, fun i hi => ?_⟩
    · -- the first that is left is ready
      exfalso
      cases hrem : remOf ops.length listed with
      | nil => rw [hrem] at hlen; cases hlen
      | cons i l =>
        have himem : i ∈ remOf ops.length listed := by rw [hrem]; exact List.mem_cons_self ..
        obtain ⟨h1, h2⟩ := mem_rem.1 himem
        have hready : i ∈ Region.ready .any ops.toArray listed := by
          refine (ready_iff listed i).2 ⟨h1, h2, _, List.getElem?_eq_getElem h1, fun j hj => ?_⟩
          have hji := hdeps i _ (List.getElem?_eq_getElem h1) j hj
          have hjl : j < listed.size := by omega
          cases hjv : listed.getD j true with
          | true => rw [← getD_ft hjl]; exact hjv
          | false =>
            have hjm : j ∈ remOf ops.length listed := mem_rem.2 ⟨by omega, hjv⟩
            have hs : (remOf ops.length listed).Pairwise (· < ·) := List.Pairwise.filter _ List.pairwise_lt_range
            rw [hrem] at hs hjm
            rcases List.mem_cons.1 hjm with e | hm
            · omega
            · have := (List.pairwise_cons.1 hs).1 j hm; omega
        rw [hnil] at hready; cases hready
    · obtain ⟨h1, h2, o, ho, hdep⟩ := (ready_iff listed i).1 hi
      have himem : i ∈ remOf ops.length listed := mem_rem.2 ⟨h1, h2⟩
      obtain ⟨l1, l2, hl⟩ := List.append_of_mem himem
      have hs : (remOf ops.length listed).Pairwise (· < ·) := List.Pairwise.filter _ List.pairwise_lt_range
      have hl1 : ∀ j ∈ l1, j < i := fun j hj => by
        rw [hl] at hs
        exact (List.pairwise_append.1 hs).2.2 j hj i (List.mem_cons_self ..)
      have hl2 : ∀ j ∈ l2, i < j := fun j hj => by
        rw [hl] at hs
        exact (List.pairwise_cons.1 (List.pairwise_append.1 hs).2.1).1 j hj
      have hunl : ∀ j ∈ l1, listed.getD j true = false := fun j hj => (mem_rem.1 (by rw [hl]; exact List.mem_append_left _ hj)).2
      have hfront : ∀ j ∈ l1, j ≠ i ∧ indep ops an j i = true := fun j hj => by
        have hji := hl1 j hj
        refine ⟨by omega, ?_⟩
        rcases hind i h1 j hji with hc | hc
        · exfalso
          have hm : j ∈ an.getD i [] := by simpa using hc
          have hspec := (ancs_spec ops []).2 i o ho j (by rw [← han]; simpa using hm)
          rw [← han] at hspec
          have hlisted : listed.getD j false = true := by
            rcases hspec with h | ⟨k, hk, hm'⟩
            · exact hdep j h
            · exact hdc k (hdep k hk) j hm'
          have hjl : j < listed.size := by omega
          have := hunl j hj
          rw [getD_ft hjl, hlisted] at this; cases this
        · exact hc
      rw [hl] at hrun
      obtain ⟨s1, hstep, hrest⟩ := RunR.front hfront hrun
      have hrem' : remOf ops.length (listed.setIfInBounds i true) = l1 ++ l2 := by
        have hcongr : remOf ops.length (listed.setIfInBounds i true) = (remOf ops.length listed).filter fun k => decide (k ≠ i) := by
          unfold remOf
          rw [List.filter_filter]
          apply List.filter_congr
          intro k hk
          rw [getD_set (by rw [hls]; simpa using hk)]
          by_cases hik : i = k
          · subst hik; simp
          · simp [hik, Ne.symm hik]
        rw [hcongr, hl, List.filter_append, List.filter_cons_of_neg (by simp)]
        congr 1
        · exact List.filter_eq_self.2 fun j hj => by have := hl1 j hj; simp; omega
        · exact List.filter_eq_self.2 fun j hj => by have := hl2 j hj; simp; omega
      refine step_ok hG hY hr (hf.at h1 h2) hstep fun a' w' hr' => ?_
      refine ih _ s1 a' w' (by simpa using hls) ?_ ?_ hr' (hf.step h1 h2 hls hstep) (by rw [hrem']; exact hrest)
      · rw [hrem']
        rw [hl] at hlen
        simp only [List.length_append, List.length_cons] at hlen ⊢
        omega
      · intro k hk m hm
        rw [getD_set'] at hk ⊢
        split at hk
        · rename_i hik
          obtain ⟨rfl, _⟩ := hik
          have hspec := (ancs_spec ops []).2 i o ho m (by rw [← han]; simpa using hm)
          rw [← han] at hspec
          have : listed.getD m false = true := by
            rcases hspec with h | ⟨k, hk, hm'⟩
            · exact hdep m h
            · exact hdc k (hdep k hk) m hm'
          split
          · rfl
          · exact this
        · split
          · rfl
          · exact hdc k hk m hm
end
end
end Go.DL
