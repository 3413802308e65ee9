/- The rule for a region that draws its order. -/
import Derived.Test.YtmbbepdbjeciaaaGreatDl13
set_option linter.all false
namespace Go.DL
open Go.RowKit Go.Proofs

noncomputable section

/-- For each operation: its place for a new block, and the places that it may not look at. -/
def mkPlan (ops : List Oper) : List (Nat × List Nat) :=
  let an := ancs ops []
  (List.range ops.length).map fun i => (slotAt ops 0 i, hiddenOf ops an i)

def actGo (P : Program) (o : Oper) (s : Nat) (Hm : List Blk) (st : St) (K : St → Prop) : Prop :=
  match o.op with
  | .call { callee := .value f, args, .. } => match callD st.t f args.toList with
    | some (g, xs) => ∃ d, Maps P g (xs.map (snap (fun b => Hm[b]?) 5)) d ∧ freshD 5 d = true ∧ K { t := setT st.t o.dst d, H := st.H, ds := st.ds, g := st.g }
    | none => False
  | op => match stepD P Hm s st.t op with
    | some (d, e) => K { t := setT st.t o.dst d, H := e.app st.H s, ds := st.ds, g := st.g }
    | none => False

def actO (P : Program) (ops : List Oper) (o : Oper) (s : Nat) (Hm : List Blk) (st : St) (K : St → Prop) : Prop :=
  match o.guard with
  | none => actGo P o s Hm st K
  | some (j, want) => match guardD ops st.t j with
    | some b => if b = want then actGo P o s Hm st K else K { t := setT st.t o.dst .any, H := st.H, ds := st.ds, g := st.g }
    | none => False

def runPlan (P : Program) (ops : List Oper) (base : Nat) : List (Nat × List Nat) → List Oper → St → (St → Prop) → Prop
  | (s, hs) :: pl, o :: l, st, K => actO P ops o (base + s) (maskL base hs st.H) st fun st' => runPlan P ops base pl l st' K
  | _, _, st, K => K st

section
variable {P : Program} {G : Gh} {ops : List Oper} {base : Nat}

theorem actGo_step {o : Oper} {s : Nat} {Hm : List Blk} {st : St} {K : St → Prop} (h : actGo P o s Hm st K) :
    ∃ d e, Acts.go P o s st.t Hm d e ∧ K { t := setT st.t o.dst d, H := e.app st.H s, ds := st.ds, g := st.g } := by
  unfold actGo at h
  split at h
  · rename_i f args tys hop
    split at h
    · rename_i g xs hc
      obtain ⟨d, h1, h2, h3⟩ := h
      refine ⟨d, .keep, ?_, h3⟩
      unfold Acts.go
      rw [hop]; simp only [hc]
      exact ⟨h1, h2, trivial⟩
    · exact h.elim
  · rename_i hop
    split at h
    · rename_i d e hs
      refine ⟨d, e, ?_, h⟩
      unfold Acts.go
      split
      · rename_i f args tys ho; exact absurd ho (hop _ _ _)
      · exact hs
    · exact h.elim

theorem actO_step {o : Oper} {s : Nat} {Hm : List Blk} {st : St} {K : St → Prop} (h : actO P ops o s Hm st K) :
    ∃ d e, Acts P ops o s st.t Hm d e ∧ K { t := setT st.t o.dst d, H := e.app st.H s, ds := st.ds, g := st.g } := by
  unfold actO at h
  split at h
  · rename_i hg
    obtain ⟨d, e, h1, h2⟩ := actGo_step h
    exact ⟨d, e, by unfold Acts; rw [hg]; exact h1, h2⟩
  · rename_i j want hg
    split at h
    · rename_i b hb
      split at h
      · rename_i hw
        obtain ⟨d, e, h1, h2⟩ := actGo_step h
        exact ⟨d, e, by unfold Acts; rw [hg]; simp only [hb, if_pos hw]; exact h1, h2⟩
      · rename_i hw
        exact ⟨.any, .keep, by unfold Acts; rw [hg]; simp only [hb, if_neg hw]; trivial, h⟩
    · exact h.elim

theorem slotAt_base (i : Nat) : slotAt ops base i = base + slotAt ops 0 i := by simp [slotAt]

theorem runPlan_run (K : St → Prop) : ∀ (l : List Oper) (k : Nat) (st : St), ops.drop k = l →
    runPlan P ops base ((List.range' k l.length).map fun i => (slotAt ops 0 i, hiddenOf ops (ancs ops []) i)) l st K →
    ∃ stf, RunR P ops (ancs ops []) base (List.range' k l.length) st stf ∧ K stf
  | [], k, st, _, h => ⟨st, rfl, by simpa [runPlan] using h⟩
  | o :: l, k, st, hd, h => by
    have hk : k < ops.length := by
      rcases Nat.lt_or_ge k ops.length with x | x
      · exact x
      · rw [List.drop_eq_nil_of_le x] at hd; cases hd
    rw [List.drop_eq_getElem_cons hk] at hd
    obtain ⟨ho, hd⟩ := List.cons.inj hd
    simp only [List.length_cons, List.range'_succ, List.map_cons, runPlan] at h ⊢
    obtain ⟨d, e, h1, h2⟩ := actO_step h
    obtain ⟨stf, h3, h4⟩ := runPlan_run K l (k + 1) _ hd h2
    refine ⟨stf, ⟨_, ⟨o, d, e, by rw [List.getElem?_eq_getElem hk, ho], ?_, rfl⟩, ?_⟩, h4⟩
    · rw [slotAt_base]; exact h1
    · rw [slotAt_base]; exact h3

theorem Eff.app_length {H : List Blk} {s : Nat} {e : Eff} : (e.app H s).length = H.length := by
  cases e with
  | keep => rfl
  | put x => simp [Eff.app]
  | upd b x => simp [Eff.app]
  | ren o x => cases o <;> simp [Eff.app, killO]

/-- A run keeps the number of blocks, and the last place free. -/
theorem RunR.last {an : List (List Nat)} : ∀ {l : List Nat} {listed : Array Bool} {st stf : St}, RunR P ops an base l st stf → listed.size = ops.length → l.Nodup → (∀ i ∈ l, i < ops.length ∧ listed.getD i true = false) →
    SlotsFree ops base listed st.H → stf.H.length = st.H.length ∧ stf.H[base + slots ops]? = some .free
  | [], _, st, stf, h, _, _, _, hf => by
    have : st = stf := h
    subst this; exact ⟨rfl, hf.last⟩
  | i :: l, listed, st, stf, ⟨s1, h1, h2⟩, hs, hn, hl, hf => by
    obtain ⟨q1, q2⟩ := hl i (List.mem_cons_self ..)
    have hf' := hf.step q1 q2 hs h1
    have hl' : ∀ j ∈ l, j < ops.length ∧ (listed.setIfInBounds i true).getD j true = false := fun j hj => by
      obtain ⟨r1, r2⟩ := hl j (List.mem_cons_of_mem _ hj)
      refine ⟨r1, ?_⟩
      have hne : i ≠ j := fun e => (List.nodup_cons.1 hn).1 (e ▸ hj)
      rw [getD_set (by omega), if_neg hne]
      exact r2
    obtain ⟨k1, k2⟩ := RunR.last h2 (by simpa using hs) (List.nodup_cons.1 hn).2 hl' hf'
    obtain ⟨o, d, e, _, _, rfl⟩ := h1
    exact ⟨k1.trans Eff.app_length, k2⟩

theorem FRc.drop {st : St} {H : List Blk} {a : Act} {w : World} {A : Rd} {φ : Nat → Loc} (hH : st.H = H ++ [.free]) (h : FRc G st a w A φ) : FRc G { st with H := H } a w A φ := by
  have hr := h.rh
  rw [hH] at hr
  refine ⟨⟨fun b hb => ?_, fun b hb => ?_, fun b hb => ?_, fun b sz es hb => ?_, hr.inj, hr.dis, hr.lt, hr.olt, hr.ofr, hr.bsz⟩, h.tr, h.gh, h.df, h.dk, h.nd⟩
  · rcases Nat.lt_trichotomy b H.length with hl | hl | hl
    · rw [List.getElem?_eq_none_iff] at hb; exact absurd hb (Nat.not_le_of_lt hl)
    · exact hr.free b (by subst hl; simp)
    · exact hr.out b (by simp; omega)
  · exact hr.free b (by rw [List.getElem?_append_left (List.getElem?_eq_some_iff.1 hb).1]; exact hb)
  · exact hr.dead b (by rw [List.getElem?_append_left (List.getElem?_eq_some_iff.1 hb).1]; exact hb)
  · exact hr.live b sz es (by rw [List.getElem?_append_left (List.getElem?_eq_some_iff.1 hb).1]; exact hb)

theorem FRc.rooms {a : Act} {w : World} {A : Rd} {φ : Nat → Loc} : ∀ (n : Nat) {st : St}, FRc G st a w A φ → FRc G { st with H := st.H ++ List.replicate n .free } a w A φ
  | 0, st, h => by simpa using h
  | n + 1, st, h => by
    have := FRc.rooms n h.room
    rw [List.replicate_succ]
    simpa using this

/-- THE RULE FOR A REGION THAT DRAWS ITS ORDER. -/
theorem Sp_draw (hG : Stab G) (hY : YOk P G) {ro : Option Nat} {id : Nat} {st : St} {Q : Exit → St → Prop} (hm : P.follows .mixedOrders = true) (hd : drawOk ops = true) {pl : List (Nat × List Nat)} (hpl : mkPlan ops = pl)
    (h : runPlan P ops st.H.length pl ops { st with H := st.H ++ List.replicate (slots ops + 1) .free } fun s => Q .normal { s with H := s.H.dropLast }) : Sp P ro G (.region id ops.toArray true) st Q := by
  rintro a w ⟨A, φ, hr⟩
  refine wpIn_region_any hm ?_
  rw [← hpl] at h
  have hpl' : mkPlan ops = (List.range' 0 ops.length).map fun i => (slotAt ops 0 i, hiddenOf ops (ancs ops []) i) := by
    simp [mkPlan, List.range_eq_range']
  rw [hpl'] at h
  obtain ⟨stf, hrun, hq⟩ := runPlan_run _ ops 0 _ (by simp) h
  have hlen : (st.H ++ List.replicate (slots ops + 1) Blk.free).length = st.H.length + slots ops + 1 := by simp; omega
  have hfree : ∀ k, k ≤ slots ops → (st.H ++ List.replicate (slots ops + 1) Blk.free)[st.H.length + k]? = some .free := fun k hk => by
    rw [List.getElem?_append_right (by omega), List.getElem?_replicate, if_pos (by omega)]
  have hsf : SlotsFree ops st.H.length (Array.replicate ops.length false) (st.H ++ List.replicate (slots ops + 1) Blk.free) := by
    refine ⟨fun k hk _ => ?_, hfree _ (Nat.le_refl _)⟩
    rcases slot_case (base := st.H.length) (List.getElem?_eq_getElem hk) with e | ⟨_, e, hlt⟩
    · rw [e]; exact hfree _ (Nat.le_refl _)
    · rw [e]; exact hfree _ (Nat.le_of_lt hlt)
  have hrem : remOf ops.length (Array.replicate ops.length false) = List.range' 0 ops.length := by
    rw [← List.range_eq_range']
    refine List.filter_eq_self.2 fun i hi => ?_
    simp at hi; simp [hi]
  obtain ⟨k1, k2⟩ := hrun.last (listed := Array.replicate ops.length false) (by simp) (List.nodup_range' ..) (fun i hi => by simp at hi; exact ⟨hi, by simp [hi]⟩) hsf
  have hlast : stf.H = stf.H.dropLast ++ [.free] := by
    have hne : stf.H ≠ [] := fun e => by rw [e] at k1; simp at k1
    have h1 := (List.dropLast_concat_getLast hne).symm
    have h2 : stf.H.getLast hne = .free := by
      have := List.getLast_eq_getElem hne
      have h3 : stf.H.length - 1 = st.H.length + slots ops := by rw [k1, hlen]; rfl
      rw [List.getElem?_eq_some_iff] at k2
      obtain ⟨hlt, k2⟩ := k2
      rw [this, ← k2]
      congr 1
    rw [h2] at h1; exact h1
  have hfr0 : FR G st a { w with drawn := w.drawn + 1 } :=
    ⟨A, φ, hr.drew hG⟩
  have hfr1 : FR G { st with H := st.H ++ List.replicate (slots ops + 1) .free } a { w with drawn := w.drawn + 1 } :=
    let ⟨A, φ, h⟩ := hfr0; ⟨A, φ, h.rooms _⟩
  rw [List.size_toArray]
  refine any_ok (P := P) (stf := stf) hG hY hd rfl (fun a' w' ⟨A', φ', hr'⟩ => ⟨_, hq, A', φ', hr'.drop hlast⟩) ops.length _ _ a _ (by simp) (by rw [hrem]; simp) (fun k hk => by
      rw [Array.getD_eq_getD_getElem?] at hk; simp only [Array.getElem?_replicate] at hk; split at hk <;> cases hk) hfr1 hsf ?_
  rw [hrem]; exact hrun
end
end
end Go.DL
