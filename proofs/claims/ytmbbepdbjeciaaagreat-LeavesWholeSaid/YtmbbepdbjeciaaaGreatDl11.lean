/- A function's plain contract out of what has to be shown of its code. -/
import Derived.Test.YtmbbepdbjeciaaaGreatDl10
import Derived.RangeFuncRecord
set_option linter.all false
namespace Go.DL
open Go.RowKit Go.Proofs

noncomputable section

def resOne (P : Program) (s : St) : ResultVar → Option D
  | .tmp t => some (s.t.getD t .any)
  | .cell a t => loadD P s.H t (s.t.getD a .any)

def resL (P : Program) (s : St) : List ResultVar → Option (List D)
  | [] => some []
  | r :: rs => match resOne P s r, resL P s rs with
    | some d, some ds => some (d :: ds)
    | _, _ => none

def resD (P : Program) (rs : List ResultVar) (s : St) : Option D :=
  match resL P s rs with
  | some [d] => some d
  | some ds => some (.tup ds)
  | none => none

/-- Does a value speak of fresh memory alone (own blocks are)? -/
def frK (lk : Nat → Option Blk) : Nat → D → Bool
  | _, .v _ => true
  | _, .any => true
  | _, .nil => true
  | _, .fl _ => true
  | k + 1, .ms b _ _ _ => match lk b with
    | some (.live _ es) => es.all fun e => e.all (frK lk k)
    | _ => true
  | _, _ => false

/-- How a result reads. -/
def snapR (lk : Nat → Option Blk) : Nat → D → D
  | _, .nil => .fl []
  | _, .fl es => .fl es
  | k + 1, .agg cs => .agg (cs.map (snapR lk k))
  | k + 1, .tup cs => .tup (cs.map (snapR lk k))
  | k + 1, .ms b off len _ => match lk b with
    | some (.live _ es) => if off + len ≤ es.length then
        if es.all (fun e => e.all (frK lk k)) = true then .fl (((es.take (off + len)).drop off).map (List.map (snap lk k))) else .sl (((es.take (off + len)).drop off).map (List.map (snap lk k)))
      else .any
    | _ => .any
  | k, d => snap lk k d

/-- What is asked where a function ends: its result reads as d. -/
def Post (P : Program) (rs : List ResultVar) (d : D) : Exit → St → Prop
  | .normal, s => (resD P rs s).map (snapR (fun b => s.H[b]?) 5) = some d
  | .ret, s => (resD P rs s).map (snapR (fun b => s.H[b]?) 5) = some d
  | _, _ => False

section
variable {P : Program} {w : World} {A : Rd} {φ : Nat → Loc}

def resSem (tmps : Array Value) : ResultVar → Sem Value
  | .tmp t => pure (tmps.getD t undef)
  | .cell b t => do loadVar t (← asAddr (tmps.getD b undef))

theorem run_resOne {st : St} {a : Act} (hr : RH A φ w st.H) (ht : TR A w φ st.t a.tmps) {r : ResultVar} {d : D} (h : resOne P st r = some d) :
    ∃ x, (resSem a.tmps r).run P w = .ok x w ∧ V A w φ d x := by
  cases r with
  | tmp t =>
    simp only [resOne, Option.some.injEq] at h
    subst h
    exact ⟨_, rfl, (by rw [← lkF_eq]; exact ht.ev (.tmp t))⟩
  | cell b t =>
    have hv := ht.ev (.tmp b)
    have h' : loadD P st.H t (st.t.getD b .any) = some d := h
    simp only [ev, lkF_eq, Act.eval] at hv
    unfold loadD at h'
    split at h'
    · rename_i cs hcs
      obtain ⟨n, o, hu, hc⟩ := peek_ok hr (Sub.refl _) hv hcs
      obtain ⟨x, h1, h2⟩ := run_loadVar_take h' hc
      exact ⟨x, by simp only [resSem, hu, asAddr, Sem.run_bind, Sem.run_pure, Result.andThen, h1], h2⟩
    · cases h'

theorem run_resL {st : St} {a : Act} (hr : RH A φ w st.H) (ht : TR A w φ st.t a.tmps) : ∀ {rs : List ResultVar} {ds : List D}, resL P st rs = some ds →
    ∃ xs : List Value, (rs.mapM (resSem a.tmps)).run P w = .ok xs w ∧ xs.length = ds.length ∧
      ∀ (i : Nat) (d : D) (u : Value), ds[i]? = some d → xs[i]? = some u → V A w φ d u
  | [], ds, h => by
    simp only [resL, Option.some.injEq] at h; subst h
    exact ⟨[], rfl, rfl, by simp⟩
  | r :: rs, ds, h => by
    simp only [resL] at h
    split at h
    · rename_i d ds' h1 h2
      cases h
      obtain ⟨x, k1, k2⟩ := run_resOne hr ht h1
      obtain ⟨xs, k3, k4, k5⟩ := run_resL hr ht h2
      refine ⟨x :: xs, ?_, by simp [k4], fun i d' u h3 h4 => ?_⟩
      · simp only [List.mapM_cons, Sem.run_bind, k1, Result.andThen, Sem.run_pure, k3]
      · cases i with
        | zero => simp at h3 h4; subst h3; subst h4; exact k2
        | succ i => simp at h3 h4; exact k5 i d' u h3 h4
    · cases h

theorem run_resD {st : St} {a : Act} (hr : RH A φ w st.H) (ht : TR A w φ st.t a.tmps) {fn : Func} {d : D} (h : resD P fn.results.toList st = some d) :
    ∃ x, (results fn a.tmps).run P w = .ok x w ∧ V A w φ d x := by
  have hres : results fn a.tmps = (do let vs ← fn.results.mapM (resSem a.tmps); pure (if h : vs.size = 1 then vs[0] else .tuple vs)) := by
    unfold results
    congr 2
  unfold resD at h
  have key : ∀ {ds : List D}, resL P st fn.results.toList = some ds → ∃ xs : List Value, (results fn a.tmps).run P w = .ok (if h : xs.toArray.size = 1 then xs.toArray[0] else .tuple xs.toArray) w ∧ xs.length = ds.length ∧
      ∀ (i : Nat) (d : D) (u : Value), ds[i]? = some d → xs[i]? = some u → V A w φ d u := fun {ds} hl => by
    obtain ⟨xs, k1, k2, k3⟩ := run_resL hr ht hl
    refine ⟨xs, ?_, k2, k3⟩
    rw [hres, Array.mapM_eq_mapM_toList, Sem.run_bind, Sem.run_map, k1]
    rfl
  split at h
  · rename_i d' hl
    cases h
    obtain ⟨xs, k1, k2, k3⟩ := key hl
    match xs, k2 with
    | [x], _ => exact ⟨x, by rw [k1]; rfl, k3 0 _ x rfl rfl⟩
  · rename_i ds hne hl
    cases h
    obtain ⟨xs, k1, k2, k3⟩ := key hl
    have hne1 : ¬ (xs.toArray.size = 1) := fun e => by
      simp only [List.size_toArray] at e
      match ds, hne, k2 with
      | [d], hne, _ => exact hne d rfl
      | [], _, k2 => simp at k2; subst k2; cases e
      | _ :: _ :: _, _, k2 => simp at k2; omega
    rw [dif_neg hne1] at k1
    exact ⟨_, k1, .tup _ _ _ (by simpa using k2) fun i d u h1 h2 => k3 i d u h1 (by simpa using h2)⟩
  · cases h
end

theorem V.snapF {A : Rd} {w : World} {φ : Nat → Loc} {H : List Blk} (hr : RH A φ w H) {lk : Nat → Option Blk} (hlk : ∀ b sz es, lk b = some (.live sz es) → H[b]? = some (.live sz es)) {B : Rd}
    (hA : ∀ n, A n → A.b0 ≤ n → B n) (hB : ∀ n, own φ n → B n) :
    ∀ (k : Nat) {d : D} {u : Value}, V A w φ d u → frK lk k d = true → V B w nowhere (DL.snap lk k d) u := by
  have leaf : ∀ {es : List (List D)} {u : Value}, V A w φ (.fl es) u → V B w nowhere (.sl es) u := fun {es u} h => by
    cases h with
    | fl0 => exact .sl0 _ _ _
    | fl _ _ n off sz cap u ha hcap hsz hc h =>
      exact .sl _ _ n off sz cap u (hA n ha.1 ha.2) hcap hsz hc fun i e j d h1 h2 => V.mono (A := A.fresh) (A' := B.all) (fun m hm => hA m hm.1 hm.2) (fun _ _ => rfl) (fun _ => Loc.le_refl _) (h i e j d h1 h2)
  intro k
  induction k with
  | zero =>
    intro d u h hd
    cases d <;> simp [frK] at hd
    · cases h; exact .v _ _
    · exact leaf h
    · cases h; exact .sl0 _ _ _
    · exact .any _ _
  | succ k ih =>
    intro d u h hd
    cases d <;> simp only [frK, Bool.false_eq_true] at hd
    · cases h; exact .v _ _
    · exact leaf h
    · rename_i b off len cap
      cases h with
      | ms _ _ _ _ _ cap' a hlen hcap h =>
        simp only [DL.snap]
        split
        · rename_i sz es hb0
          have hb := hlk _ _ _ hb0
          rw [hb0] at hd
          simp only [List.all_eq_true] at hd
          split
          · rename_i hol
            rcases hr.live b sz es hb with ⟨rfl, hp⟩ | ⟨n, base, room, c, ty, hp, hl⟩
            · simp at hol; obtain ⟨rfl, rfl⟩ := hol
              simp; exact .sl0 _ _ _
            · rw [hp] at h
              obtain ⟨h1, h2⟩ := h
              rcases Nat.eq_zero_or_pos len with hz | hz
              · subst hz; simp; exact .sl0 _ _ _
              have ha : a = some ⟨n, base + off * sz, none⟩ := h2.resolve_left (by omega)
              subst ha
              have hlen2 : (((es.take (off + len)).drop off).map (List.map (DL.snap lk k))).length = len := by simp; omega
              have hex : ∀ (i : Nat) (e : List D), (((es.take (off + len)).drop off).map (List.map (DL.snap lk k)))[i]? = some e → ∃ e0, es[off + i]? = some e0 ∧ e = e0.map (DL.snap lk k) := fun i e he => by
                simp only [List.getElem?_map, Option.map_eq_some_iff, List.getElem?_drop, List.getElem?_take] at he
                obtain ⟨e0, he, rfl⟩ := he
                split at he
                · exact ⟨e0, he, rfl⟩
                · cases he
              have hcell : ∀ (i : Nat) (e : List D) (j : Nat) (d : D), (((es.take (off + len)).drop off).map (List.map (DL.snap lk k)))[i]? = some e → e[j]? = some d →
                  w.cell? ⟨n, base + off * sz + i * sz + j, none⟩ = some ((c[base + (off + i) * sz + j]?).getD default) ∧ V B w nowhere d ((c[base + (off + i) * sz + j]?).getD default) := fun i e j d he hd' => by
                obtain ⟨e0, h3, rfl⟩ := hex i e he
                simp only [List.getElem?_map, Option.map_eq_some_iff] at hd'
                obtain ⟨d0, h4, rfl⟩ := hd'
                obtain ⟨u, hu, hv⟩ := hl.val _ _ _ _ h3 h4
                rw [cell_of_blk hl.blk, show base + off * sz + i * sz + j = base + (off + i) * sz + j by rw [Nat.add_mul]; omega, hu]
                exact ⟨rfl, ih hv (hd e0 (List.mem_of_getElem? h3) d0 (List.mem_of_getElem? h4))⟩
              have := V.sl (A := B) (w := w) nowhere (((es.take (off + len)).drop off).map (List.map (DL.snap lk k))) n (base + off * sz) sz cap' (fun i j => (c[base + (off + i) * sz + j]?).getD default)
                (hB n ⟨b, _, _, _, hp⟩) (by omega) (fun i e he => by obtain ⟨e0, h3, rfl⟩ := hex i e he; simpa using hl.len _ _ h3)
                (fun i e j d he hd => (hcell i e j d he hd).1)
                (fun i e j d he hd => V.mono (A := B) (A' := B.all) (fun _ x => x) (fun _ _ => rfl) (fun _ => Loc.le_refl _) (hcell i e j d he hd).2 (Nat.zero_le _))
              rw [hlen2] at this
              exact this
          · exact .any _ _
        · exact .any _ _
    · cases h; exact .sl0 _ _ _
    · exact .any _ _

theorem V.snapR {A : Rd} {w : World} {φ : Nat → Loc} {H : List Blk} (hr : RH A φ w H) {lk : Nat → Option Blk} (hlk : ∀ b sz es, lk b = some (.live sz es) → H[b]? = some (.live sz es)) :
    ∀ (k : Nat) {d : D} {u : Value}, V A w φ d u → V (both A φ) w nowhere (DL.snapR lk k d) u := by
  have plain : ∀ (k : Nat) {d : D} {u : Value}, V A w φ d u → V (both A φ) w nowhere (DL.snap lk k d) u := fun k d u h =>
    h.snap hr hlk (fun _ x => Or.inl x) (fun b sz es n base sz' room _ hp => Or.inr ⟨b, _, _, _, hp⟩) k
  have leaf : ∀ {es : List (List D)} {u : Value}, V A w φ (.fl es) u → V (both A φ) w nowhere (.fl es) u := fun {es u} h => by
    cases h with
    | fl0 => exact .fl0 _ _ _
    | fl _ _ n off sz cap u ha hcap hsz hc h =>
      exact .fl _ _ n off sz cap u ⟨Or.inl ha.1, ha.2⟩ hcap hsz hc fun i e j d h1 h2 =>
        V.mono (A := A.fresh) (A' := (both A φ).fresh) (fun m hm => ⟨Or.inl hm.1, hm.2⟩) (fun _ _ => rfl) (fun _ => Loc.le_refl _) (h i e j d h1 h2)
  intro k
  induction k with
  | zero =>
    intro d u h
    cases d with
    | nil => cases h; exact .fl0 _ _ _
    | fl es => exact leaf h
    | _ => exact plain 0 h
  | succ k ih =>
    intro d u h
    cases d with
    | nil => cases h; exact .fl0 _ _ _
    | fl es => exact leaf h
    | agg cs =>
      cases h with
      | agg _ _ vs hl h =>
        refine .agg _ _ _ (by simpa using hl) fun i d u h1 h2 => ?_
        simp only [List.getElem?_map, Option.map_eq_some_iff] at h1
        obtain ⟨d0, h1, rfl⟩ := h1
        exact ih (h i d0 u h1 h2)
    | tup cs =>
      cases h with
      | tup _ _ vs hl h =>
        refine .tup _ _ _ (by simpa using hl) fun i d u h1 h2 => ?_
        simp only [List.getElem?_map, Option.map_eq_some_iff] at h1
        obtain ⟨d0, h1, rfl⟩ := h1
        exact ih (h i d0 u h1 h2)
    | ms b off len cap =>
      have hp := plain (k + 1) h
      simp only [DL.snapR]
      simp only [DL.snap] at hp
      split
      · rename_i sz es hb0
        simp only [hb0] at hp
        split
        · rename_i hol
          rw [if_pos hol] at hp
          split
          · rename_i hall
            -- the same, as fresh memory
            have hF := h.snapF hr hlk (B := (both A φ).fresh) (fun n h1 h2 => ⟨Or.inl h1, h2⟩) (fun n hn => ⟨Or.inr hn, hr.ofr n hn⟩) (k + 1) (by simp only [frK, hb0]; exact hall)
            simp only [DL.snap, hb0, if_pos hol] at hF
            generalize ((es.take (off + len)).drop off).map (List.map (DL.snap lk k)) = L at hF
            cases hF with
            | sl0 => exact .fl0 _ _ _
            | sl _ _ n off sz cap u ha hcap hsz hc hq => exact .fl _ _ n off sz cap u ha hcap hsz hc fun i e j d h1 h2 => hq i e j d h1 h2
          · exact hp
        · exact .any _ _
      · exact .any _ _
    | _ => exact plain (k + 1) h

theorem not_own_nowhere (n : Nat) : ¬ own nowhere n := fun ⟨_, _, _, _, h⟩ => by cases h

theorem rh_nil {w : World} {A : Rd} (h : ∀ n, A n → n < w.heap.size) (hb : A.b0 ≤ w.heap.size) : RH A nowhere w [] :=
  { out := fun _ _ => rfl, free := fun _ _ => rfl, dead := (fun b hb => by simp at hb), live := (fun b sz es hb => by simp at hb), inj := (fun b b' n base sz room base' sz' room' h => by cases h),
    dis := (fun n hn => (not_own_nowhere n hn).elim), lt := h, olt := (fun n hn => (not_own_nowhere n hn).elim), ofr := (fun n hn => (not_own_nowhere n hn).elim), bsz := hb }

theorem enter_tr {A : Rd} {w : World} {φ : Nat → Loc} {args : List D} {vs : Array Value} (h : VS A w φ args vs) (n : Nat) :
    TR A w φ (args ++ List.replicate (n - args.length) .any) (vs ++ Array.replicate (n - vs.size) undef) := by
  refine ⟨by simp [h.size], fun i d u h1 h2 => ?_⟩
  rw [List.getElem?_append] at h1
  rw [Array.getElem?_append, h.size] at h2
  split at h1
  · rename_i hi
    rw [if_pos hi] at h2
    exact h.val i d u h1 h2
  · rw [List.getElem?_replicate] at h1
    split at h1
    · cases h1; exact .any _ _
    · cases h1

/-- What is asked where a function ends: its result is d, and Q holds. -/
def PostE (P : Program) (rs : List ResultVar) (Q : D → St → Prop) : Exit → St → Prop
  | .normal, s => ∃ d, resD P rs s = some d ∧ Q d s
  | .ret, s => ∃ d, resD P rs s = some d ∧ Q d s
  | _, _ => False

/-- A frame that ends, with the marks of its ranges over functions. -/
theorem leavesM {P : Program} {G : Gh} (hG : Stab G) {fn : Func} {R : Ending → World → Prop} {t : List D} {H : List Blk} {g : Gst} {A : Rd} {φ : Nat → Loc} (tmps : Array Value) :
    ∀ (ds : List Nat) (w : World), RH A φ w H → TR A w φ t tmps → G.I g w ⟨ownAll φ ds, A, φ⟩ → (∀ r, r ∈ ds → w.heap[r]? = some (.deferred (some [])) ∧ ¬ A r ∧ ¬ own φ r) → ds.Nodup →
      (∀ w', RH A φ w' H → TR A w' φ t tmps → G.I g w' ⟨ownAll φ [], A, φ⟩ → ∃ v, (results fn tmps).run P w' = .ok v w' ∧ R (.returned v) w') →
      LeavesInM Fence.wide 0 P fn tmps R (ds.map mark) .returning w
  | [], w, hr, ht, hg, _, _, h => by
    obtain ⟨v, h1, h2⟩ := h w hr ht hg
    exact ⟨v, h1, h2⟩
  | r :: ds, w, hr, ht, hg, hd, hnd, h => by
    obtain ⟨h1, h2, h3⟩ := hd r (List.mem_cons_self ..)
    have hlt : r < w.heap.size := (Array.getElem?_eq_some_iff.1 h1).1
    let w' : World := { w with heap := w.heap.setIfInBounds r (.deferred none) }
    have hsame : ∀ m, m ≠ r → w'.heap[m]? = w.heap[m]? := fun m hm => by
      show (w.heap.setIfInBounds r _)[m]? = _
      rw [Array.getElem?_setIfInBounds, if_neg (Ne.symm hm)]
    have hsz : w'.heap.size = w.heap.size := by show (w.heap.setIfInBounds r _).size = _; simp
    have hA : ∀ m, A m → w'.heap[m]? = w.heap[m]? := fun m hm => hsame m fun e => h2 (e ▸ hm)
    have hO : ∀ m, own φ m → w'.heap[m]? = w.heap[m]? := fun m hm => hsame m fun e => h3 (e ▸ hm)
    have hrec := leavesM hG (fn := fn) (R := R) (t := t) (H := H) (g := g) (A := A) (φ := φ) tmps ds w' (hr.move hA hO (Nat.le_of_eq hsz.symm)) (ht.mono (fun _ x => x) hA fun _ => Loc.le_refl _)
      (hG _ _ _ _ _ hg ⟨⟨rfl, rfl, rfl, Nat.le_of_eq hsz.symm, fun m _ hm => hsame m fun e => hm (e ▸ Or.inr (List.mem_cons_self ..)), fun m hm => .inl (hm.imp id (List.mem_cons_of_mem _))⟩, fun _ x => x, fun _ x => .inl x, fun _ _ => Loc.le_refl _, rfl⟩)
      (fun r' hr' => ⟨(hsame r' fun e => by subst e; exact (List.nodup_cons.1 hnd).1 hr').trans (hd r' (List.mem_cons_of_mem _ hr')).1, (hd r' (List.mem_cons_of_mem _ hr')).2⟩) (List.nodup_cons.1 hnd).2 h
    exact ⟨by simp, .inl ⟨r, w', rfl, run_takeDeferred h1, hrec⟩⟩

/-- THE RULE FOR A FUNCTION, over own blocks and what surrounds the frame. -/
theorem func_ofS {P : Program} {G : Gh} (hG : Stab G) {f : FuncId} {fn : Func} {c : Code} {args : List D} (hf : P.funcs[f]? = some fn) (hb : fn.body = some c)
    {w : World} {A : Rd} {φ : Nat → Loc} {H : List Blk} {g : Gst} {vs : Array Value} (hr : RH A φ w H) (hv : VS A w φ args vs) (hg : G.I g w ⟨own φ, A, φ⟩) {Q : D → St → Prop}
    (h : Sp P none G c { t := args ++ List.replicate (fn.ntmps - args.length) .any, H := H, ds := [], g := g } (PostE P fn.results.toList Q)) {R : Ending → World → Prop}
    (hR : ∀ s w' A' φ' d x, RH A' φ' w' s.H → G.I s.g w' ⟨own φ', A', φ'⟩ → V A' w' φ' d x → Q d s → R (.returned x) w') : CallsIn Fence.wide 0 P f vs w R := by
  refine callsIn_of_wp_marks (F := Fence.wide) hf hb trivial ?_
  have hown : ∀ φ : Nat → Loc, ownAll φ [] = own φ := fun φ => by funext n; simp [ownAll]
  have hfr : FR G { t := args ++ List.replicate (fn.ntmps - args.length) .any, H := H, ds := [], g := g } { tmps := vs ++ Array.replicate (fn.ntmps - vs.size) undef, defers := [] } w :=
    ⟨A, φ, hr, enter_tr hv _, by rw [hown]; exact hg, rfl, by simp, List.nodup_nil⟩
  have hend : ∀ s a w', PostE P fn.results.toList Q .normal s → FR G s a w' → LeavesInM Fence.wide 0 P fn a.tmps R a.defers .returning w' := by
    rintro s a w' ⟨d, h1, h2⟩ ⟨A', φ', hr⟩
    rw [hr.df]
    refine leavesM hG (t := s.t) (H := s.H) (g := s.g) (A := A') (φ := φ') a.tmps s.ds w' hr.rh hr.tr hr.gh hr.dk hr.nd fun w'' k1 k2 k3 => ?_
    obtain ⟨x, h4, h5⟩ := run_resD (a := a) k1 k2 h1
    exact ⟨x, h4, hR s w'' A' φ' d x k1 (by rw [hown] at k3; exact k3) h5 h2⟩
  refine wpIn_mono (h _ w hfr) ?_
  rintro e a w' ⟨s, q, r⟩
  cases e with
  | normal => exact hend s a w' q r
  | ret => exact hend s a w' q r
  | exit id => exact q.elim
  | goto l => exact q.elim
  | panic ch => exact q.elim
  | outgrown => exact q.elim

theorem func_of {P : Program} {G : Gh} (hG : Stab G) (hY : YOk P G) {f : FuncId} {fn : Func} {c : Code} {args : List D} (hf : P.funcs[f]? = some fn) (hb : fn.body = some c)
    {w : World} {A : Rd} {φ : Nat → Loc} {H : List Blk} {g : Gst} {vs : Array Value} (hr : RH A φ w H) (hv : VS A w φ args vs) (hg : G.I g w ⟨own φ, A, φ⟩) {Q : D → St → Prop}
    (h : vc P none G c { t := args ++ List.replicate (fn.ntmps - args.length) .any, H := H, ds := [], g := g } (PostE P fn.results.toList Q)) {R : Ending → World → Prop}
    (hR : ∀ s w' A' φ' d x, RH A' φ' w' s.H → G.I s.g w' ⟨own φ', A', φ'⟩ → V A' w' φ' d x → Q d s → R (.returned x) w') : CallsIn Fence.wide 0 P f vs w R :=
  func_ofS hG hf hb hr hv hg (vc_ok hG hY c h) hR

theorem own_nowhere : own nowhere = fun _ => False := by funext n; simpa using not_own_nowhere n

/-- THE RULE FOR A FUNCTION: a plain contract. -/
theorem Maps.ofS {P : Program} {f : FuncId} {fn : Func} {c : Code} {args : List D} {d : D} (hf : P.funcs[f]? = some fn) (hb : fn.body = some c) (hname : (fn.name == "runtime.NumGoroutine") = false)
    (h : ∀ G, Stab G → YOk P G → G.N = 0 → Sp P none G c { t := args ++ List.replicate (fn.ntmps - args.length) .any, H := [], ds := [], g := (0, false) } (Post P fn.results.toList d)) : Maps P f args d := by
  refine ⟨enters_of hf hname hb, fun w A vs hA hv => ?_⟩
  have hG : Stab (Gh.keep 0 w ⟨fun _ => False, ⟨A, w.heap.size⟩, nowhere⟩) := stab_keep 0 w _
  have hY : YOk P (Gh.keep 0 w ⟨fun _ => False, ⟨A, w.heap.size⟩, nowhere⟩) := fun l g ds vs K w F _ _ _ _ _ _ h => h.elim
  have hgh : Keep 0 w ⟨fun _ => False, ⟨A, w.heap.size⟩, nowhere⟩ w ⟨own nowhere, ⟨A, w.heap.size⟩, nowhere⟩ := by rw [own_nowhere]; exact Keep.refl _ _ _
  refine func_ofS hG hf hb (g := (0, false)) (rh_nil hA (Nat.le_refl _)) hv hgh
    (Q := fun d' s => DL.snapR (fun b => s.H[b]?) 5 d' = d) ?_ ?_
  · have hP : Post P fn.results.toList d = PostE P fn.results.toList (fun d' s => DL.snapR (fun b => s.H[b]?) 5 d' = d) := by
      funext e s
      cases e <;> simp [Post, PostE, Option.map_eq_some_iff]
    rw [← hP]; exact h _ hG hY rfl
  · intro s w' A' φ' d0 x hrh hg h5 h3
    have hb0 : A'.b0 = w.heap.size := hg.b0
    refine ⟨x, (both A' φ').on, rfl, ?_, fun m hm => Or.inl (hg.up m hm), fun m hm => ?_, fun m hm => Or.elim hm (hrh.lt m) (hrh.olt m), hg.ext.sub fun _ x => x.elim⟩
    · rw [← h3]
      exact V.mono (A := both A' φ') (A' := ⟨(both A' φ').on, w.heap.size⟩) (fun _ x => x) (fun _ _ => rfl) (fun _ => Loc.le_refl _) (h5.snapR hrh (fun _ _ _ x => x) 5) (Nat.le_of_eq hb0.symm)
    · rcases hm with hm | hm
      · rcases hg.new m hm with x | x | x
        · exact .inl x
        · exact x.elim
        · exact .inr x
      · exact (hg.ext.own m hm).elim (fun x => x.elim) .inr

theorem Maps.of {P : Program} {f : FuncId} {fn : Func} {c : Code} {args : List D} {d : D} (hf : P.funcs[f]? = some fn) (hb : fn.body = some c) (hname : (fn.name == "runtime.NumGoroutine") = false)
    (h : ∀ G, Stab G → YOk P G → G.N = 0 → vc P none G c { t := args ++ List.replicate (fn.ntmps - args.length) .any, H := [], ds := [], g := (0, false) } (Post P fn.results.toList d)) : Maps P f args d :=
  Maps.ofS hf hb hname fun G hG hY hN => vc_ok hG hY c (h G hG hY hN)

/-- THE RULE FOR A FUNCTION, over own blocks: its body is walked on the caller's blocks. -/
theorem CallSp.ofS {P : Program} {f : FuncId} {fn : Func} {c : Code} {args : List D} {H : List Blk} {Q : D → List Blk → Prop} (hf : P.funcs[f]? = some fn) (hb : fn.body = some c) (hname : (fn.name == "runtime.NumGoroutine") = false)
    (h : ∀ G, Stab G → YOk P G → G.N = H.length → Sp P none G c { t := args ++ List.replicate (fn.ntmps - args.length) .any, H := H, ds := [], g := (0, false) } (PostE P fn.results.toList fun d s => Q d s.H)) : CallSp P f args H Q := by
  refine ⟨enters_of hf hname hb, fun w A φ vs hr hv => ?_⟩
  have hG : Stab (Gh.keep H.length w ⟨own φ, A, φ⟩) := stab_keep _ w _
  have hY : YOk P (Gh.keep H.length w ⟨own φ, A, φ⟩) := fun l g ds vs K w F _ _ _ _ _ _ h => h.elim
  refine func_ofS hG hf hb (g := (0, false)) hr hv (Keep.refl _ _ _) (h _ hG hY rfl) ?_
  intro s w' A' φ' d x hrh hg h5 h3
  have hg : Keep H.length w ⟨own φ, A, φ⟩ w' ⟨own φ', A', φ'⟩ := hg
  refine ⟨x, d, s.H, A', φ', rfl, h3, hrh, h5, ⟨hg.ext, hg.up, hg.new, fun b => ?_, hg.b0⟩⟩
  rcases Nat.lt_or_ge b H.length with hb | hb
  · exact hg.le b hb
  · rw [hr.out b (List.getElem?_eq_none hb)]; exact .inl rfl

theorem CallSp.of {P : Program} {f : FuncId} {fn : Func} {c : Code} {args : List D} {H : List Blk} {Q : D → List Blk → Prop} (hf : P.funcs[f]? = some fn) (hb : fn.body = some c) (hname : (fn.name == "runtime.NumGoroutine") = false)
    (h : ∀ G, Stab G → YOk P G → G.N = H.length → vc P none G c { t := args ++ List.replicate (fn.ntmps - args.length) .any, H := H, ds := [], g := (0, false) } (PostE P fn.results.toList fun d s => Q d s.H)) : CallSp P f args H Q :=
  CallSp.ofS hf hb hname fun G hG hY hN => vc_ok hG hY c (h G hG hY hN)
end
end Go.DL
