/- Regions that draw their order, once more: what an operation writes is claimed beforehand, and hidden from what is unordered beside it. -/
import Derived.Test.YtmbbepdbjeciaaaGreatDl18
set_option linter.all false
namespace Go.DL
open Go.RowKit Go.Proofs

noncomputable section

/-- What an effect writes. -/
def ups (s : Nat) : Eff → List (Nat × Blk)
  | .keep => []
  | .put x => [(s, x)]
  | .upd b x => [(b, x)]
  | .ren none x => [(s, x)]
  | .ren (some b) x => [(b, .dead), (s, x)]
def sets (H : List Blk) (u : List (Nat × Blk)) : List Blk := u.foldl (fun H p => H.set p.1 p.2) H
theorem app_sets (H : List Blk) (s : Nat) (e : Eff) : e.app H s = sets H (ups s e) := by
  cases e with
  | ren o x => cases o <;> rfl
  | _ => rfl
theorem sets_cons (H : List Blk) (p : Nat × Blk) (u : List (Nat × Blk)) : sets H (p :: u) = sets (H.set p.1 p.2) u := rfl
theorem sets_set (a : Nat) (x : Blk) : ∀ (u : List (Nat × Blk)) (H : List Blk), (∀ p ∈ u, p.1 ≠ a) → (sets H u).set a x = sets (H.set a x) u
  | [], H, _ => rfl
  | p :: u, H, h => by
    rw [sets_cons, sets_cons, sets_set a x u _ fun q hq => h q (List.mem_cons_of_mem _ hq), List.set_comm _ _ (h p (List.mem_cons_self ..))]
theorem sets_comm : ∀ (v u : List (Nat × Blk)) (H : List Blk), (∀ p ∈ u, ∀ q ∈ v, p.1 ≠ q.1) → sets (sets H u) v = sets (sets H v) u
  | [], u, H, _ => rfl
  | q :: v, u, H, h => by
    rw [sets_cons, sets_cons, sets_set q.1 q.2 u H fun p hp => h p hp q (List.mem_cons_self ..)]
    exact sets_comm v u _ fun p hp q' hq' => h p hp q' (List.mem_cons_of_mem _ hq')
theorem mask_sets {hs : List Nat} : ∀ {u : List (Nat × Blk)} {H : List Blk}, (∀ p ∈ u, p.1 ∈ hs) → maskL 0 hs (sets H u) = maskL 0 hs H
  | [], _, _ => rfl
  | p :: u, H, h => by
    rw [sets_cons, mask_sets fun q hq => h q (List.mem_cons_of_mem _ hq)]
    have := maskL_set (base := 0) (H := H) (x := p.2) (h p (List.mem_cons_self ..))
    rw [Nat.zero_add] at this
    exact this

/-- A call of a function that leaves one more block of one's own, at a place that is free. -/
def CallAt (P : Program) (f : FuncId) (xs : List D) (Hm : List Blk) (s : Nat) (d : D) (x : Blk) : Prop :=
  ∀ H, Sub Hm H → H[s]? = some .free → CallSp P f xs H fun d' H' => d' = d ∧ H' = H.set s x

def isCallV (o : Oper) : Bool := match o.op with
  | .call { callee := .value _, .. } => true
  | _ => false
def needsQ (o : Oper) : Bool := needs o || isCallV o
def rankQ (ops : List Oper) (i : Nat) : Nat := ((ops.take i).filter needsQ).length
def slotsQ (ops : List Oper) : Nat := (ops.filter needsQ).length
def slotQ (ops : List Oper) (base i : Nat) : Nat := base + (match ops[i]? with | some o => if needsQ o then rankQ ops i else slotsQ ops | none => slotsQ ops)
/-- The places and the blocks that operation i may not look at. -/
def unord (an : List (List Nat)) (k i : Nat) : Bool := !((an.getD i []).contains k) && !((an.getD k []).contains i) && k != i
def hidQ (ops : List Oper) (an : List (List Nat)) (wbs : List (Option Nat)) (base i : Nat) : List Nat :=
  ((List.range ops.length).filterMap fun k => match ops[k]? with
    | some o => if needsQ o && !(an.getD i []).contains k then some (base + rankQ ops k) else none
    | none => none) ++
  ((List.range ops.length).filterMap fun k => if unord an k i then wbs.getD k none else none)

/-- What an operation may write. -/
def effOk : Eff → Bool → Option Nat → Bool
  | .keep, _, _ => true
  | .put _, n, _ => n
  | .upd b _, n, w => n && w == some b
  | .ren none _, n, _ => n
  | .ren (some b) _, n, w => n && w == some b
theorem effOk_keys {e : Eff} {n : Bool} {w : Option Nat} {s : Nat} (h : effOk e n w = true) : ∀ p ∈ ups s e, (n = true ∧ p.1 = s) ∨ (n = true ∧ w = some p.1) := by
  cases e with
  | keep => intro p hp; cases hp
  | put x => intro p hp; simp only [ups, List.mem_singleton] at hp; subst hp; exact .inl ⟨h, rfl⟩
  | upd b x => intro p hp; simp only [ups, List.mem_singleton] at hp; subst hp; simp only [effOk, Bool.and_eq_true, beq_iff_eq] at h; exact .inr h
  | ren o x =>
    cases o with
    | none => intro p hp; simp only [ups, List.mem_singleton] at hp; subst hp; exact .inl ⟨h, rfl⟩
    | some b =>
      intro p hp
      simp only [ups, List.mem_cons, List.not_mem_nil, or_false] at hp
      simp only [effOk, Bool.and_eq_true, beq_iff_eq] at h
      rcases hp with rfl | rfl
      · exact .inr h
      · exact .inl ⟨h.1, rfl⟩

/-- What a guard comes to: yes or no; or its own operation was passed over. -/
def gD (ops : List Oper) (t : List D) (j : Nat) : Option (Option Bool) :=
  match ops[j]? with
  | some o => match o.dst with
    | some i => match t[i]? with
      | some (.v (.bool b)) => some (some b)
      | some (.v (.tuple _)) => some none
      | _ => none
    | none => none
  | none => none
theorem gD_ok {ops : List Oper} {A : Rd} {w : World} {φ : Nat → Loc} {t : List D} {tmps : Array Value} (ht : TR A w φ t tmps) {j : Nat} {r : Option Bool} (h : gD ops t j = some r) : yielded ops.toArray tmps j = r := by
  unfold gD at h
  split at h
  · rename_i o ho
    split at h
    · rename_i i hi
      split at h
      · rename_i b hb
        cases h
        have hlt : i < tmps.size := by rw [ht.size]; exact (List.getElem?_eq_some_iff.1 hb).1
        have hv := (ht.val i _ tmps[i] hb (by simp [hlt])).v_inv
        simp [yielded, ho, hi, hlt, hv]
      · rename_i vs hb
        cases h
        have hlt : i < tmps.size := by rw [ht.size]; exact (List.getElem?_eq_some_iff.1 hb).1
        have hv := (ht.val i _ tmps[i] hb (by simp [hlt])).v_inv
        simp [yielded, ho, hi, hlt, hv]
      · cases h
    · cases h
  · cases h
theorem gD_setT {ops : List Oper} {o : Oper} {t : List D} {dst : Option Tmp} {d : D} {j : Nat} {want : Bool} (hg : o.guard = some (j, want)) (h : ∀ i, dst = some i → i ∉ readsOf ops o) : gD ops (setT t dst d) j = gD ops t j := by
  unfold gD
  cases hj : ops[j]? with
  | none => rfl
  | some p =>
    cases hp : p.dst with
    | none => simp [hp]
    | some k =>
      simp only [hp]
      cases dst with
      | none => rfl
      | some i =>
        have hne : i ≠ k := fun e => h i rfl (by subst e; simp [readsOf, hg, hj, hp])
        simp [setT, hne]

section
variable {P : Program} {G : Gh}

def goQ (P : Program) (o : Oper) (s : Nat) (t : List D) (H : List Blk) (d : D) (e : Eff) : Prop :=
  match o.op with
  | .call { callee := .value f, args, .. } => match callD t f args.toList with
    | some (g, xs) => (Maps P g (xs.map (snap (fun b => H[b]?) 5)) d ∧ freshD 5 d = true ∧ e = .keep) ∨ ∃ x, e = .put x ∧ CallAt P g xs H s d x
    | none => False
  | op => stepD P H s t op = some (d, e)
def ActsQ (P : Program) (ops : List Oper) (o : Oper) (s : Nat) (t : List D) (H : List Blk) (d : D) (e : Eff) : Prop :=
  match o.guard with
  | none => goQ P o s t H d e
  | some (j, want) => match gD ops t j with
    | some r => if r = some want then goQ P o s t H d e else d = .v undef ∧ e = .keep
    | none => False

theorem ActsQ.setT {ops : List Oper} {o : Oper} {s : Nat} {t : List D} {H : List Blk} {d d' : D} {e : Eff} {dst : Option Tmp} (h : ∀ i, dst = some i → i ∉ readsOf ops o) :
    ActsQ P ops o s (DL.setT t dst d') H d e ↔ ActsQ P ops o s t H d e := by
  have hev : ∀ x ∈ o.op.operands, ev (DL.setT t dst d') x = ev t x := fun x hx => ev_setT fun i hi => reads_op (h i hi) x hx
  have hgo : goQ P o s (DL.setT t dst d') H d e = goQ P o s t H d e := by
    unfold goQ
    split
    · rename_i f args tys hop
      have h1 : callD (DL.setT t dst d') f args.toList = callD t f args.toList := by
        unfold callD
        have hf : ev (DL.setT t dst d') f = ev t f := hev f (by rw [hop]; simp [Op.operands, Call.operands])
        have ha : args.toList.map (ev (DL.setT t dst d')) = args.toList.map (ev t) := List.map_congr_left fun x hx => hev x (by rw [hop]; simp [Op.operands, Call.operands]; exact .inr (by simpa using hx))
        rw [hf, ha]
      rw [h1]
    · rw [stepD_congr hev]
  unfold ActsQ
  split
  · rw [hgo]
  · rename_i j want hg
    rw [gD_setT hg h, hgo]

theorem ActsQ.upd_live {ops : List Oper} {o : Oper} {s : Nat} {t : List D} {H : List Blk} {d : D} {e : Eff} (h : ActsQ P ops o s t H d e) : (∀ b x, e = .upd b x → ∃ sz es, H[b]? = some (.live sz es)) ∧
    (∀ b x, e = .ren (some b) x → ∃ sz es, H[b]? = some (.live sz es)) := by
  have go : goQ P o s t H d e → (∀ b x, e = .upd b x → ∃ sz es, H[b]? = some (.live sz es)) ∧ (∀ b x, e = .ren (some b) x → ∃ sz es, H[b]? = some (.live sz es)) := fun h => by
    unfold goQ at h
    split at h
    · split at h
      · rcases h with ⟨_, _, rfl⟩ | ⟨_, rfl, _⟩
        · exact ⟨fun _ _ x => (by cases x), fun _ _ x => (by cases x)⟩
        · exact ⟨fun _ _ x => (by cases x), fun _ _ x => (by cases x)⟩
      · exact h.elim
    · exact ⟨fun b x he => stepD_upd (he ▸ h), fun b x he => stepD_ren (he ▸ h)⟩
  unfold ActsQ at h
  split at h
  · exact go h
  · split at h
    · split at h
      · exact go h
      · obtain ⟨_, rfl⟩ := h; exact ⟨fun _ _ x => (by cases x), fun _ _ x => (by cases x)⟩
    · exact h.elim

/-- Two operations whose temporaries, and claims, leave each other alone. -/
def indepQ (ops : List Oper) (an : List (List Nat)) (wbs : List (Option Nat)) (base j i : Nat) : Bool :=
  match ops[j]?, ops[i]? with
  | some p, some o =>
    (match p.dst with | some d => !(readsOf ops o).contains d && o.dst != some d | none => true) &&
    (match o.dst with | some d => !(readsOf ops p).contains d | none => true) &&
    !((an.getD j []).contains i) &&
    (match wbs.getD j none with | some b => wbs.getD i none != some b && slotQ ops base i != b | none => true) &&
    (match wbs.getD i none with | some b => slotQ ops base j != b | none => true)
  | _, _ => false
def drawQ (ops : List Oper) (wbs : List (Option Nat)) (base : Nat) : Bool :=
  let an := ancs ops []
  (List.range ops.length).all fun i =>
    (((ops[i]?).map depsOf).getD []).all (fun j => decide (j < i)) &&
    (List.range i).all fun j => (an.getD i []).contains j || indepQ ops an wbs base j i

def StepQ (P : Program) (ops : List Oper) (an : List (List Nat)) (wbs : List (Option Nat)) (base i : Nat) (st st' : St) : Prop :=
  ∃ o d e, ops[i]? = some o ∧ ActsQ P ops o (slotQ ops base i) st.t (maskL 0 (hidQ ops an wbs base i) st.H) d e ∧ effOk e (needsQ o) (wbs.getD i none) = true ∧
    st' = { t := setT st.t o.dst d, H := e.app st.H (slotQ ops base i), ds := st.ds, g := st.g }

theorem rankQ_lt {ops : List Oper} {i : Nat} {o : Oper} (ho : ops[i]? = some o) (hn : needsQ o = true) : rankQ ops i < slotsQ ops := by
  have hi := (List.getElem?_eq_some_iff.1 ho).1
  have he := (List.getElem?_eq_some_iff.1 ho).2
  have : slotsQ ops = ((ops.take i ++ ops.drop i).filter needsQ).length := by rw [List.take_append_drop]; rfl
  rw [this, List.filter_append, List.length_append, List.drop_eq_getElem_cons hi, he, List.filter_cons_of_pos hn]
  simp [rankQ]
theorem rankQ_mono {ops : List Oper} {i j : Nat} {o : Oper} (ho : ops[j]? = some o) (hn : needsQ o = true) (h : j < i) : rankQ ops j < rankQ ops i := by
  have h1 : (ops.take i)[j]? = some o := by rw [List.getElem?_take, if_pos h]; exact ho
  have := rankQ_lt h1 hn
  have e : rankQ (ops.take i) j = rankQ ops j := by simp only [rankQ]; rw [List.take_take, Nat.min_eq_left (Nat.le_of_lt h)]
  rw [e] at this
  exact this
theorem slotQ_ne {ops : List Oper} {base i j : Nat} {o p : Oper} (ho : ops[i]? = some o) (hp : ops[j]? = some p) (hno : needsQ o = true) (hnp : needsQ p = true) (h : i ≠ j) : slotQ ops base i ≠ slotQ ops base j := by
  simp only [slotQ, ho, hp, hno, hnp, if_true]
  rcases Nat.lt_or_gt_of_ne h with h | h
  · have := rankQ_mono ho hno h; omega
  · have := rankQ_mono hp hnp h; omega
theorem slotQ_case {ops : List Oper} {base i : Nat} {o : Oper} (ho : ops[i]? = some o) : slotQ ops base i = base + slotsQ ops ∨ (needsQ o = true ∧ slotQ ops base i = base + rankQ ops i ∧ rankQ ops i < slotsQ ops) := by
  by_cases hn : needsQ o = true
  · exact .inr ⟨hn, by simp [slotQ, ho, hn], rankQ_lt ho hn⟩
  · exact .inl (by simp [slotQ, ho, hn])

/-- All that op j writes is hidden from op i. -/
theorem hid_keys {ops : List Oper} {an : List (List Nat)} {wbs : List (Option Nat)} {base i j : Nat} {p : Oper} {e : Eff} (hp : ops[j]? = some p) (he : effOk e (needsQ p) (wbs.getD j none) = true) (h1 : (an.getD i []).contains j = false) (h2 : (an.getD j []).contains i = false) (hne : j ≠ i) :
    ∀ q ∈ ups (slotQ ops base j) e, q.1 ∈ hidQ ops an wbs base i := fun q hq => by
  have hj := (List.getElem?_eq_some_iff.1 hp).1
  simp only [hidQ, List.mem_append, List.mem_filterMap, List.mem_range]
  rcases effOk_keys he q hq with ⟨hn, h⟩ | ⟨hn, h⟩
  · left
    refine ⟨j, hj, ?_⟩
    simp only [hp, hn, h1, Bool.not_false, Bool.and_true, if_true, h, slotQ]
  · right
    refine ⟨j, hj, ?_⟩
    rw [if_pos (by unfold unord; rw [h1, h2]; simp [hne])]
    exact h

theorem StepQ.swap {ops : List Oper} {an : List (List Nat)} {wbs : List (Option Nat)} {base j i : Nat} {st s1 s2 : St} (hij : j ≠ i) (hc : (an.getD i []).contains j = false) (hind : indepQ ops an wbs base j i = true) (h1 : StepQ P ops an wbs base j st s1) (h2 : StepQ P ops an wbs base i s1 s2) :
    ∃ s1', StepQ P ops an wbs base i st s1' ∧ StepQ P ops an wbs base j s1' s2 := by
  obtain ⟨p, dp, ep, hp, ap, op, rfl⟩ := h1
  obtain ⟨o, d, e, ho, ao, oo, rfl⟩ := h2
  simp only [indepQ, hp, ho, Bool.and_eq_true] at hind
  obtain ⟨⟨⟨⟨i1, i2⟩, i3⟩, i4⟩, i5⟩ := hind
  have hc' : (an.getD j []).contains i = false := by simpa using i3
  have r1 : ∀ k, p.dst = some k → k ∉ readsOf ops o := fun k hk => by rw [hk] at i1; simp at i1; exact i1.1
  have r2 : ∀ k, o.dst = some k → k ∉ readsOf ops p := fun k hk => by rw [hk] at i2; simpa using i2
  have r3 : ∀ k, p.dst = some k → o.dst ≠ some k := fun k hk => by rw [hk] at i1; simp at i1; exact i1.2
  have ao' := (ActsQ.setT r1).1 ao
  simp only at ao'
  have m1 : maskL 0 (hidQ ops an wbs base i) (ep.app st.H (slotQ ops base j)) = maskL 0 (hidQ ops an wbs base i) st.H := by
    rw [app_sets]; exact mask_sets (hid_keys hp op hc hc' hij)
  have m2 : maskL 0 (hidQ ops an wbs base j) (e.app st.H (slotQ ops base i)) = maskL 0 (hidQ ops an wbs base j) st.H := by
    rw [app_sets]; exact mask_sets (hid_keys ho oo hc' hc (Ne.symm hij))
  rw [m1] at ao'
  have hcomm : e.app (ep.app st.H (slotQ ops base j)) (slotQ ops base i) = ep.app (e.app st.H (slotQ ops base i)) (slotQ ops base j) := by
    rw [app_sets, app_sets, app_sets, app_sets]
    refine sets_comm _ _ _ fun q hq q' hq' => ?_
    rcases effOk_keys op q hq with ⟨n1, k1⟩ | ⟨n1, k1⟩
    · rcases effOk_keys oo q' hq' with ⟨n2, k2⟩ | ⟨n2, k2⟩
      · rw [k1, k2]; exact slotQ_ne hp ho n1 n2 hij
      · rw [k2] at i5; rw [k1]; simpa using i5
    · rw [k1] at i4
      simp only [Bool.and_eq_true, bne_iff_ne, ne_eq] at i4
      rcases effOk_keys oo q' hq' with ⟨n2, k2⟩ | ⟨n2, k2⟩
      · rw [k2]; exact fun e => i4.2 e.symm
      · exact fun e => i4.1 (by rw [k2, e])
  refine ⟨_, ⟨o, d, e, ho, ao', oo, rfl⟩, p, dp, ep, hp, (ActsQ.setT r2).2 ?_, op, ?_⟩
  · simp only; rw [m2]; exact ap
  · simp only; rw [setT_comm r3, hcomm]
end
end
end Go.DL
