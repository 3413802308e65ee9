/- The rule for a region that draws its order, with claims. -/
import Derived.Test.YtmbbepdbjeciaaaGreatE6
set_option linter.all false
namespace Go.DL
open Go.RowKit Go.Proofs

noncomputable section

def RunQ (P : Program) (ops : List Oper) (an : List (List Nat)) (wbs : List (Option Nat)) (base : Nat) : List Nat → St → St → Prop
  | [], st, st' => st = st'
  | i :: l, st, st' => ∃ s1, StepQ P ops an wbs base i st s1 ∧ RunQ P ops an wbs base l s1 st'

section
variable {P : Program} {G : Gh} {ops : List Oper} {an : List (List Nat)} {wbs : List (Option Nat)} {base : Nat}

theorem RunQ.front {i : Nat} : ∀ {l1 l2 : List Nat} {st stf : St}, (∀ j ∈ l1, j ≠ i ∧ (an.getD i []).contains j = false ∧ indepQ ops an wbs base j i = true) → RunQ P ops an wbs base (l1 ++ i :: l2) st stf →
    ∃ s1, StepQ P ops an wbs base i st s1 ∧ RunQ P ops an wbs base (l1 ++ l2) s1 stf
  | [], l2, st, stf, _, h => h
  | j :: l1, l2, st, stf, hj, h => by
    obtain ⟨s1, h1, h2⟩ := h
    obtain ⟨s2, h3, h4⟩ := RunQ.front (fun k hk => hj k (List.mem_cons_of_mem _ hk)) h2
    obtain ⟨hne, hcn, hi⟩ := hj j (List.mem_cons_self ..)
    obtain ⟨s3, h5, h6⟩ := h1.swap hne hcn hi h3
    exact ⟨s3, h5, s2, h6, h4⟩

/-- The places of what is to come are free. -/
structure SlotsQ (ops : List Oper) (base : Nat) (listed : Array Bool) (H : List Blk) : Prop where
  slot : ∀ k, k < ops.length → listed.getD k true = false → H[slotQ ops base k]? = some .free
  last : H[base + slotsQ ops]? = some .free

theorem SlotsQ.step {listed : Array Bool} {st st' : St} {i : Nat} (hf : SlotsQ ops base listed st.H) (hi : i < ops.length) (hli : listed.getD i true = false) (hls : listed.size = ops.length)
    (h : StepQ P ops an wbs base i st st') : SlotsQ ops base (listed.setIfInBounds i true) st'.H := by
  obtain ⟨o, d, e, ho, ha, hok, rfl⟩ := h
  have live : ∀ {b : Nat} {y : Blk}, (maskL 0 (hidQ ops an wbs base i) st.H)[b]? = some y → y ≠ .free → ∀ s : Nat, st.H[s]? = some Blk.free → b ≠ s := fun {b y} hb hy s hs e => by
    subst e; exact hy (maskL_free hb hs)
  have other : ∀ s : Nat, st.H[s]? = some Blk.free → s ≠ slotQ ops base i → (e.app st.H (slotQ ops base i))[s]? = some Blk.free := fun s hs hne => by
    cases e with
    | keep => exact hs
    | put x => exact slot_set hs (Ne.symm hne)
    | upd b x => obtain ⟨y, hb, hy⟩ := ha.upd_live.1 b x rfl; exact slot_set hs (live hb hy s hs)
    | ren ob x =>
      refine slot_set ?_ (Ne.symm hne)
      cases ob with
      | none => exact hs
      | some b => obtain ⟨y, hb, hy⟩ := ha.upd_live.2 b x rfl; exact slot_set hs (live hb hy s hs)
  -- an operation without a place of its own makes no block
  have keep : needsQ o = false → ∀ s : Nat, st.H[s]? = some Blk.free → (e.app st.H (slotQ ops base i))[s]? = some Blk.free := fun hn s hs => by
    rw [hn] at hok
    cases e with
    | keep => exact hs
    | put x => cases hok
    | upd b x => simp [effOk] at hok
    | ren ob x => cases ob <;> simp [effOk] at hok
  refine ⟨fun k hk hlk => ?_, ?_⟩
  · have hki : k ≠ i := fun e => by subst e; rw [getD_set (by omega)] at hlk; simp at hlk
    have hlk' : listed.getD k true = false := by
      rw [getD_set (by omega), if_neg (Ne.symm hki)] at hlk; exact hlk
    have hs := hf.slot k hk hlk'
    by_cases hn : needsQ o = true
    · refine other _ hs fun he => ?_
      obtain ⟨p, hp⟩ : ∃ p, ops[k]? = some p := ⟨_, List.getElem?_eq_getElem hk⟩
      rcases slotQ_case (base := base) hp with h1 | ⟨h1, _, _⟩
      · rcases slotQ_case (base := base) ho with h2 | ⟨_, h2, h3⟩
        · simp [slotQ, ho, hn] at h2
          have := rankQ_lt ho hn; omega
        · omega
      · exact slotQ_ne hp ho h1 hn hki he
    · exact keep (by simpa using hn) _ hs
  · by_cases hn : needsQ o = true
    · refine other _ hf.last ?_
      rcases slotQ_case (base := base) ho with h2 | ⟨_, h2, h3⟩
      · simp [slotQ, ho, hn] at h2
        have := rankQ_lt ho hn; omega
      · omega
    · exact keep (by simpa using hn) _ hf.last

theorem SlotsQ.at {listed : Array Bool} {H : List Blk} {i : Nat} (hf : SlotsQ ops base listed H) (hi : i < ops.length) (hli : listed.getD i true = false) : H[slotQ ops base i]? = some .free := hf.slot i hi hli

/-- One operation of a region that draws its order, at the model. -/
theorem stepQ_ok (hG : Stab G) (hY : YOk P G) {ro : Option Nat} {st st' : St} {a : Act} {w : World} {i : Nat} {Q : Exit → Act → World → Prop} {K : Act → World → Prop} (hr : FR G st a w) (hfree : st.H[slotQ ops base i]? = some .free)
    (h : StepQ P ops an wbs base i st st') (hK : ∀ a' w', FR G st' a' w' → K a' w') : wpOpIn (FW ro) 0 P ops.toArray Q i K a w := by
  obtain ⟨o, d, e, ho, ha, _, rfl⟩ := h
  obtain ⟨A, φ, hr⟩ := hr
  have hgo : goQ P o (slotQ ops base i) st.t (maskL 0 (hidQ ops an wbs base i) st.H) d e → o.wpIn (FW ro) 0 P a w K Q := fun h => by
    unfold goQ at h
    split at h
    · rename_i f args tys hop
      split at h
      · rename_i g xs hc
        rcases h with ⟨h1, h2, rfl⟩ | ⟨x, rfl, hat⟩
        rotate_left
        · refine execO_ok hG hY (K := fun s => s = { t := setT st.t o.dst d, H := st.H.set (slotQ ops base i) x, ds := st.ds, g := st.g }) ⟨A, φ, hr⟩ ?_ fun s a' w' e hf => hK a' w' (by rw [e] at hf; exact hf)
          unfold execO
          rw [hop]
          simp only [callD_yieldD hc, hc]
          exact (hat st.H (maskL_sub _ _ _) hfree).mono fun d' H' ⟨q1, q2⟩ => by subst q1; subst q2; rfl
        refine execO_ok hG hY (K := fun s => s = { t := setT st.t o.dst d, H := st.H, ds := st.ds, g := st.g }) ⟨A, φ, hr⟩ ?_ fun s a' w' e hf => hK a' w' (by rw [e] at hf; exact hf)
        unfold execO
        rw [hop]
        simp only [callD_yieldD hc, hc]
        exact call_freshL (lk := fun b => (maskL 0 (hidQ ops an wbs base i) st.H)[b]?) (fun b sz es hb => maskL_sub _ _ _ _ _ _ hb) h1 h2 rfl
      · exact h.elim
    · rename_i hop
      obtain ⟨x, w', A', φ', h1, h2⟩ := stepD_ok hG hr hfree (maskL_sub 0 (hidQ ops an wbs base i) st.H) (maskL_subT 0 (hidQ ops an wbs base i) st.H) h
      have hnd : ∀ c, o.op ≠ .defer c := fun c hc => by rw [hc] at h; cases h
      refine ⟨fun _ _ => trivial, ?_⟩
      rw [Oper.semAt_eq _ _ _ hnd]
      rcases h1 with h1 | ⟨h1, rfl⟩
      · rw [h1]; exact hK _ _ ⟨A', φ', h2⟩
      · rw [h1]; exact hK _ _ ⟨A', φ', h2⟩
  have hget : ops.toArray[i]? = some o := by simpa using ho
  unfold wpOpIn
  simp only [hget]
  unfold ActsQ at ha
  split at ha
  · rename_i hg
    rw [if_pos (by simp [Region.wanted, hg])]
    exact hgo ha
  · rename_i j want hg
    split at ha
    · rename_i r hb
      have hy := gD_ok (ops := ops) hr.tr hb
      have hw : Region.wanted o (yielded ops.toArray a.tmps) = (r == some want) := by simp [Region.wanted, hg, hy]
      rw [hw]
      split at ha
      · rename_i hbw
        rw [if_pos (by simpa using hbw)]
        exact hgo ha
      · rename_i hbw
        rw [if_neg (by simpa using hbw)]
        obtain ⟨rfl, rfl⟩ := ha
        exact ⟨fun _ _ => trivial, hK _ _ ⟨A, φ, hr.value o.dst (.v _ undef)⟩⟩
    · exact ha.elim

theorem anyQ_ok (hG : Stab G) (hY : YOk P G) {ro : Option Nat} {Q : Exit → Act → World → Prop} {stf : St} (hd : drawQ ops wbs base = true) (han : an = ancs ops []) (hQ : ∀ a' w', FR G stf a' w' → Q .normal a' w') :
    ∀ (fuel : Nat) (listed : Array Bool) (st : St) (a : Act) (w : World), listed.size = ops.length → (remOf ops.length listed).length = fuel →
      (∀ k, listed.getD k false = true → ∀ m ∈ an.getD k [], listed.getD m false = true) → FR G st a w → SlotsQ ops base listed st.H → RunQ P ops an wbs base (remOf ops.length listed) st stf →
      wpAnyIn (FW ro) 0 P .any ops.toArray Q fuel listed a w := by
  have hdeps : ∀ i o, ops[i]? = some o → ∀ j ∈ depsOf o, j < i := fun i o ho j hj => by
    have hi := (List.getElem?_eq_some_iff.1 ho).1
    simp only [drawQ, List.all_eq_true, List.mem_range, Bool.and_eq_true] at hd
    have := (hd i hi).1 j (by simp [ho]; exact hj)
    simpa using this
  have hind : ∀ i, i < ops.length → ∀ j, j < i → (an.getD i []).contains j = true ∨ indepQ ops an wbs base j i = true := fun i hi j hj => by
    simp only [drawQ, List.all_eq_true, List.mem_range, Bool.and_eq_true] at hd
    have := (hd i hi).2 j hj
    rw [← han] at this
    simpa using this
  have ready_iff : ∀ (listed : Array Bool) i, i ∈ Region.ready .any ops.toArray listed ↔ i < ops.length ∧ listed.getD i true = false ∧ ∃ o, ops[i]? = some o ∧ ∀ j ∈ depsOf o, listed.getD j false = true := fun listed i => by
    unfold Region.ready
    simp only [List.mem_filter, List.mem_range, List.size_toArray, Bool.and_eq_true, Bool.not_eq_true']
    refine and_congr Iff.rfl (and_congr Iff.rfl ?_)
    cases ho : ops[i]? with
    | none => simp [ho]
    | some o =>
      simp only [List.getElem?_toArray, ho, Option.map_some, Option.getD_some, Option.some.injEq, exists_eq_left']
      simp only [depsOf, List.mem_map, List.mem_filter, Array.mem_toList_iff, Array.all_eq_true_iff_forall_mem, Bool.or_eq_true, Bool.not_eq_true']
      constructor
      · rintro h j ⟨e, ⟨he, hb⟩, rfl⟩
        rcases h e he with h | h
        · rw [hb] at h; cases h
        · exact h
      · intro h e he
        cases hb : Region.binds .any e with
        | false => exact .inl rfl
        | true => exact .inr (h e.on ⟨e, ⟨he, hb⟩, rfl⟩)
  intro fuel
  induction fuel with
  | zero =>
    intro listed st a w hls hlen hdc hr hf hrun
    have hnil : remOf ops.length listed = [] := List.eq_nil_of_length_eq_zero hlen
    refine ⟨?_, ?_⟩
    · cases hrd : Region.ready .any ops.toArray listed with
      | nil => rfl
      | cons i l =>
        have : i ∈ Region.ready .any ops.toArray listed := by rw [hrd]; exact List.mem_cons_self ..
        obtain ⟨h1, h2, _⟩ := (ready_iff listed i).1 this
        have : i ∈ remOf ops.length listed := mem_rem.2 ⟨h1, h2⟩
        rw [hnil] at this; cases this
    · rw [hnil] at hrun
      have : st = stf := hrun
      subst this
      exact hQ a w hr
  | succ fuel ih =>
    intro listed st a w hls hlen hdc hr hf hrun
    refine ⟨fun hnil => ?_, fun i hi => ?_⟩
    · -- the first that is left is ready
      exfalso
      cases hrem : remOf ops.length listed with
      | nil => rw [hrem] at hlen; cases hlen
      | cons i l =>
        have himem : i ∈ remOf ops.length listed := by rw [hrem]; exact List.mem_cons_self ..
        obtain ⟨h1, h2⟩ := mem_rem.1 himem
        have hready : i ∈ Region.ready .any ops.toArray listed := by
          refine (ready_iff listed i).2 ⟨h1, h2, _, List.getElem?_eq_getElem h1, fun j hj => ?_⟩
          have hji := hdeps i _ (List.getElem?_eq_getElem h1) j hj
          have hjl : j < listed.size := by omega
          cases hjv : listed.getD j true with
          | true => rw [← getD_ft hjl]; exact hjv
          | false =>
            have hjm : j ∈ remOf ops.length listed := mem_rem.2 ⟨by omega, hjv⟩
            have hs : (remOf ops.length listed).Pairwise (· < ·) := List.Pairwise.filter _ List.pairwise_lt_range
            rw [hrem] at hs hjm
            rcases List.mem_cons.1 hjm with e | hm
            · omega
            · have := (List.pairwise_cons.1 hs).1 j hm; omega
        rw [hnil] at hready; cases hready
    · obtain ⟨h1, h2, o, ho, hdep⟩ := (ready_iff listed i).1 hi
      have himem : i ∈ remOf ops.length listed := mem_rem.2 ⟨h1, h2⟩
      obtain ⟨l1, l2, hl⟩ := List.append_of_mem himem
      have hs : (remOf ops.length listed).Pairwise (· < ·) := List.Pairwise.filter _ List.pairwise_lt_range
      have hl1 : ∀ j ∈ l1, j < i := fun j hj => by
        rw [hl] at hs
        exact (List.pairwise_append.1 hs).2.2 j hj i (List.mem_cons_self ..)
      have hl2 : ∀ j ∈ l2, i < j := fun j hj => by
        rw [hl] at hs
        exact (List.pairwise_cons.1 (List.pairwise_append.1 hs).2.1).1 j hj
      have hunl : ∀ j ∈ l1, listed.getD j true = false := fun j hj => (mem_rem.1 (by rw [hl]; exact List.mem_append_left _ hj)).2
      have hnc : ∀ j ∈ l1, (an.getD i []).contains j = false := fun j hj => by
        have hji := hl1 j hj
        cases hc : (an.getD i []).contains j with
        | false => rfl
        | true =>
          exfalso
          have hm : j ∈ an.getD i [] := by simpa using hc
          have hspec := (ancs_spec ops []).2 i o ho j (by rw [← han]; simpa using hm)
          rw [← han] at hspec
          have hlisted : listed.getD j false = true := by
            rcases hspec with h | ⟨k, hk, hm'⟩
            · exact hdep j h
            · exact hdc k (hdep k hk) j hm'
          have hjl : j < listed.size := by omega
          have := hunl j hj
          rw [getD_ft hjl, hlisted] at this; cases this
      have hfront : ∀ j ∈ l1, j ≠ i ∧ (an.getD i []).contains j = false ∧ indepQ ops an wbs base j i = true := fun j hj => by
        have hji := hl1 j hj
        refine ⟨by omega, hnc j hj, ?_⟩
        rcases hind i h1 j hji with hc | hc
        · rw [hnc j hj] at hc; cases hc
        · exact hc
      rw [hl] at hrun
      obtain ⟨s1, hstep, hrest⟩ := RunQ.front hfront hrun
      have hrem' : remOf ops.length (listed.setIfInBounds i true) = l1 ++ l2 := by
        have hcongr : remOf ops.length (listed.setIfInBounds i true) = (remOf ops.length listed).filter fun k => decide (k ≠ i) := by
          unfold remOf
          rw [List.filter_filter]
          apply List.filter_congr
          intro k hk
          rw [getD_set (by rw [hls]; simpa using hk)]
          by_cases hik : i = k
          · subst hik; simp
          · simp [hik, Ne.symm hik]
        rw [hcongr, hl, List.filter_append, List.filter_cons_of_neg (by simp)]
        congr 1
        · exact List.filter_eq_self.2 fun j hj => by have := hl1 j hj; simp; omega
        · exact List.filter_eq_self.2 fun j hj => by have := hl2 j hj; simp; omega
      refine stepQ_ok hG hY hr (hf.at h1 h2) hstep fun a' w' hr' => ?_
      refine ih _ s1 a' w' (by simpa using hls) ?_ ?_ hr' (hf.step h1 h2 hls hstep) (by rw [hrem']; exact hrest)
      · rw [hrem']
        rw [hl] at hlen
        simp only [List.length_append, List.length_cons] at hlen ⊢
        omega
      · intro k hk m hm
        rw [getD_set'] at hk ⊢
        split at hk
        · rename_i hik
          obtain ⟨rfl, _⟩ := hik
          have hspec := (ancs_spec ops []).2 i o ho m (by rw [← han]; simpa using hm)
          rw [← han] at hspec
          have : listed.getD m false = true := by
            rcases hspec with h | ⟨k, hk, hm'⟩
            · exact hdep m h
            · exact hdc k (hdep k hk) m hm'
          split
          · rfl
          · exact this
        · split
          · rfl
          · exact hdc k hk m hm
/-- A run keeps the number of blocks, and the last place free. -/
theorem RunQ.last {an : List (List Nat)} : ∀ {l : List Nat} {listed : Array Bool} {st stf : St}, RunQ P ops an wbs base l st stf → listed.size = ops.length → l.Nodup → (∀ i ∈ l, i < ops.length ∧ listed.getD i true = false) →
    SlotsQ ops base listed st.H → stf.H.length = st.H.length ∧ stf.H[base + slotsQ ops]? = some .free
  | [], _, st, stf, h, _, _, _, hf => by
    have : st = stf := h
    subst this; exact ⟨rfl, hf.last⟩
  | i :: l, listed, st, stf, ⟨s1, h1, h2⟩, hs, hn, hl, hf => by
    obtain ⟨q1, q2⟩ := hl i (List.mem_cons_self ..)
    have hf' := hf.step q1 q2 hs h1
    have hl' : ∀ j ∈ l, j < ops.length ∧ (listed.setIfInBounds i true).getD j true = false := fun j hj => by
      obtain ⟨r1, r2⟩ := hl j (List.mem_cons_of_mem _ hj)
      refine ⟨r1, ?_⟩
      have hne : i ≠ j := fun e => (List.nodup_cons.1 hn).1 (e ▸ hj)
      rw [getD_set (by omega), if_neg hne]
      exact r2
    obtain ⟨k1, k2⟩ := RunQ.last h2 (by simpa using hs) (List.nodup_cons.1 hn).2 hl' hf'
    obtain ⟨o, d, e, _, _, _, rfl⟩ := h1
    exact ⟨k1.trans Eff.app_length, k2⟩

/-- THE RULE FOR A REGION THAT DRAWS ITS ORDER: one run in the text's order stands for all. -/
theorem Sp_drawQ (hG : Stab G) (hY : YOk P G) {ro : Option Nat} {id : Nat} {st : St} {Q : Exit → St → Prop} (hm : P.follows .mixedOrders = true) (wbs : List (Option Nat)) (hd : drawQ ops wbs st.H.length = true)
    {stf : St} (hrun : RunQ P ops (ancs ops []) wbs st.H.length (List.range ops.length) { st with H := st.H ++ List.replicate (slotsQ ops + 1) .free } stf) (hq : Q .normal { stf with H := stf.H.dropLast }) : Sp P ro G (.region id ops.toArray true) st Q := by
  rintro a w ⟨A, φ, hr⟩
  refine wpIn_region_any hm ?_
  have hlen : (st.H ++ List.replicate (slotsQ ops + 1) Blk.free).length = st.H.length + slotsQ ops + 1 := by simp; omega
  have hfree : ∀ k, k ≤ slotsQ ops → (st.H ++ List.replicate (slotsQ ops + 1) Blk.free)[st.H.length + k]? = some .free := fun k hk => by
    rw [List.getElem?_append_right (by omega), List.getElem?_replicate, if_pos (by omega)]
  have hsf : SlotsQ ops st.H.length (Array.replicate ops.length false) (st.H ++ List.replicate (slotsQ ops + 1) Blk.free) := by
    refine ⟨fun k hk _ => ?_, hfree _ (Nat.le_refl _)⟩
    rcases slotQ_case (base := st.H.length) (List.getElem?_eq_getElem hk) with e | ⟨_, e, hlt⟩
    · rw [e]; exact hfree _ (Nat.le_refl _)
    · rw [e]; exact hfree _ (Nat.le_of_lt hlt)
  have hrem : remOf ops.length (Array.replicate ops.length false) = List.range ops.length := by
    refine List.filter_eq_self.2 fun i hi => ?_
    simp at hi; simp [hi]
  obtain ⟨k1, k2⟩ := hrun.last (listed := Array.replicate ops.length false) (by simp) List.nodup_range (fun i hi => by simp at hi; exact ⟨hi, by simp [hi]⟩) hsf
  have hlast : stf.H = stf.H.dropLast ++ [.free] := by
    have hne : stf.H ≠ [] := fun e => by rw [e] at k1; simp at k1
    have h1 := (List.dropLast_concat_getLast hne).symm
    have h2 : stf.H.getLast hne = .free := by
      have := List.getLast_eq_getElem hne
      have h3 : stf.H.length - 1 = st.H.length + slotsQ ops := by rw [k1, hlen]; rfl
      rw [List.getElem?_eq_some_iff] at k2
      obtain ⟨hlt, k2⟩ := k2
      rw [this, ← k2]
      congr 1
    rw [h2] at h1; exact h1
  have hfr0 : FR G st a { w with drawn := w.drawn + 1 } :=
    ⟨A, φ, hr.drew hG⟩
  have hfr1 : FR G { st with H := st.H ++ List.replicate (slotsQ ops + 1) .free } a { w with drawn := w.drawn + 1 } :=
    let ⟨A, φ, h⟩ := hfr0; ⟨A, φ, h.rooms _⟩
  rw [List.size_toArray]
  refine anyQ_ok (P := P) (stf := stf) hG hY hd rfl (fun a' w' ⟨A', φ', hr'⟩ => ⟨_, hq, A', φ', hr'.drop hlast⟩) ops.length _ _ a _ (by simp) (by rw [hrem]; simp) (fun k hk => by
      rw [Array.getD_eq_getD_getElem?] at hk; simp only [Array.getElem?_replicate] at hk; split at hk <;> cases hk) hfr1 hsf ?_
  rw [hrem]; exact hrun
end
end
end Go.DL

/- A call that leaves one block more, at a place that was free: out of a contract that leaves it at the end. -/
namespace Go.DL
open Go.RowKit Go.Proofs

/-- What speaks only of blocks that are laid carries over where these stay. -/
theorem V.carry {A0 A : Rd} {w0 w : World} {φ0 φ φ' : Nat → Loc} (hφ : ∀ b, φ0 b ≠ .free → (φ b).le (φ' b)) : ∀ {d : D} {u u0 : Value}, V A w φ d u → V A0 w0 φ0 d u0 → V A w φ' d u := by
  intro d u u0 h
  have key : ∀ {A : Rd} {w : World} {φ : Nat → Loc} {d : D} {u : Value}, V A w φ d u → (∀ b, φ0 b ≠ .free → (φ b).le (φ' b)) → ∀ u0, V A0 w0 φ0 d u0 → V A w φ' d u := by
    intro A w φ d u h
    induction h with
    | v φ x => intro _ _ _; exact .v _ _
    | any φ x => intro _ _ _; exact .any _ _
    | nil φ a => intro _ _ _; exact .nil _ _
    | agg φ cs vs hl h ih =>
      intro hφ u0 h0
      cases h0 with
      | agg _ _ vs0 hl0 h0 =>
        refine .agg _ _ _ hl fun i d u h1 h2 => ?_
        have hi : i < vs0.size := by rw [hl0]; exact (List.getElem?_eq_some_iff.1 h1).1
        exact ih i d u h1 h2 hφ vs0[i] (h0 i d _ h1 (by simp [hi]))
    | tup φ cs vs hl h ih =>
      intro hφ u0 h0
      cases h0 with
      | tup _ _ vs0 hl0 h0 =>
        refine .tup _ _ _ hl fun i d u h1 h2 => ?_
        have hi : i < vs0.size := by rw [hl0]; exact (List.getElem?_eq_some_iff.1 h1).1
        exact ih i d u h1 h2 hφ vs0[i] (h0 i d _ h1 (by simp [hi]))
    | sl0 φ a cap => intro _ _ _; exact .sl0 _ _ _
    | sl φ es n off sz cap u ha hcap hsz hcc h ih => intro _ _ _; exact .sl _ es n off sz cap u ha hcap hsz hcc h
    | fl0 φ a cap => intro _ _ _; exact .fl0 _ _ _
    | fl φ es n off sz cap u ha hcap hsz hcc h ih => intro _ _ _; exact .fl _ es n off sz cap u ha hcap hsz hcc h
    | rp φ cs n off u ha hcc h ih => intro _ _ _; exact .rp _ cs n off u ha hcc h
    | ms φ b off len cap cap' a hlen hcap h =>
      intro hφ u0 h0
      have hb : φ0 b ≠ .free := fun e => by
        cases h0 with
        | ms _ _ _ _ _ cap0 a0 _ _ h0 => rw [e] at h0; exact h0
      refine .ms _ b off len cap cap' a hlen hcap ?_
      rcases hφ b hb with e | e | e
      · rw [e] at h; exact h.elim
      · rw [e]; trivial
      · rw [← e]; exact h
    | mp φ b i f x h =>
      intro hφ u0 h0
      have hb : φ0 b ≠ .free := fun e => by
        cases h0 with
        | mp _ _ _ _ x0 h0 => rw [e] at h0; exact h0
      refine .mp _ b i f x ?_
      rcases hφ b hb with e | e | e
      · rw [e] at h; exact h.elim
      · rw [e]; trivial
      · rw [← e]; exact h
    | mm φ b r h =>
      intro hφ u0 h0
      have hb : φ0 b ≠ .free := fun e => by
        cases h0 with
        | mm _ _ x0 h0 => rw [e] at h0; exact h0
      refine .mm _ b r ?_
      rcases hφ b hb with e | e | e
      · rw [e] at h; exact h.elim
      · rw [e]; trivial
      · rw [← e]; exact h
    | fn φ f first caps vs us hl hl' h h' ih ih' =>
      intro hφ u0 h0
      cases h0 with
      | fn _ _ _ _ vs0 us0 hl0 hl0' h0 h0' =>
        refine .fn _ f _ _ _ _ hl hl' (fun i d u h1 h2 => ?_) fun i d u h1 h2 => ?_
        · have hi : i < vs0.size := by rw [hl0]; exact (List.getElem?_eq_some_iff.1 h1).1
          exact ih i d u h1 h2 hφ vs0[i] (h0 i d _ h1 (by simp [hi]))
        · have hi : i < us0.size := by rw [hl0']; exact (List.getElem?_eq_some_iff.1 h1).1
          exact ih' i d u h1 h2 hφ us0[i] (h0' i d _ h1 (by simp [hi]))
  exact key h hφ u0

theorem CallAt.of {P : Program} {f : FuncId} {xs : List D} {Hm : List Blk} {s off len cap sz : Nat} {es : List (List D)}
    (h : ∀ H, Sub Hm H → CallSp P f xs H fun d' H' => d' = .ms (H.length + 1) off len cap ∧ H' = H ++ [.dead, .live sz es]) (hx : BlkBelow 0 (.live sz es)) : CallAt P f xs Hm s (.ms s off len cap) (.live sz es) := by
  intro H hsub hfree
  have hs : s < H.length := (List.getElem?_eq_some_iff.1 hfree).1
  refine ⟨(h H hsub).1, fun w A φ vs hr hv => ((h H hsub).2 w A φ vs hr hv).mono ?_⟩
  rintro e w' ⟨v, d, H', A', φ', he, ⟨hd, hH'⟩, hr', hvd, hev⟩
  subst hd; subst hH'
  let φ2 : Nat → Loc := fun b => if b = s then φ' (H.length + 1) else if b < H.length then φ' b else .free
  have p_s : φ2 s = φ' (H.length + 1) := by simp [φ2]
  have p_lt : ∀ {b}, b ≠ s → b < H.length → φ2 b = φ' b := fun h1 h2 => by simp [φ2, h1, h2]
  have p_ge : ∀ {b}, H.length ≤ b → φ2 b = .free := fun {b} h1 => by
    have h2 : ¬ b < H.length := by omega
    have h3 : b ≠ s := by omega
    simp [φ2, h2, h3]
  have f_s : φ s = .free := hr.free s hfree
  have f'_s : φ' s = .free := hr'.free s (by rw [List.getElem?_append_left hs]; exact hfree)
  have f_ge : ∀ b, H.length ≤ b → φ b = .free := fun b hb => hr.out b (List.getElem?_eq_none hb)
  -- where φ2 has a place, φ' has it, too
  have back : ∀ {b n base sz room}, φ2 b = .loc n base sz room → ∃ b', φ' b' = .loc n base sz room ∧ (b' = if b = s then H.length + 1 else b) ∧ b < H.length := fun {b n base sz room} hb => by
    by_cases h1 : b = s
    · subst h1; rw [p_s] at hb; exact ⟨_, hb, by simp, hs⟩
    · by_cases h2 : b < H.length
      · rw [p_lt h1 h2] at hb; exact ⟨b, hb, by simp [h1], h2⟩
      · rw [p_ge (by omega)] at hb; cases hb
  have own2 : ∀ {n}, own φ2 n → own φ' n := fun ⟨b, base, sz, room, hb⟩ => by
    obtain ⟨b', h1, _⟩ := back hb; exact ⟨b', base, sz, room, h1⟩
  have mono2 : ∀ b, φ b ≠ .free → (φ' b).le (φ2 b) := fun b hb => by
    have h1 : b ≠ s := fun e => hb (by rw [e]; exact f_s)
    have h2 : b < H.length := by
      rcases Nat.lt_or_ge b H.length with x | x
      · exact x
      · exact absurd (f_ge b x) hb
    rw [p_lt h1 h2]; exact Loc.le_refl _
  refine ⟨v, _, _, A', φ2, he, ⟨rfl, rfl⟩, ?_, ?_, ⟨⟨hev.ext.os, hev.ext.tape, hev.ext.output, hev.ext.size, hev.ext.same, fun n hn => hev.ext.own n (own2 hn)⟩, hev.up, hev.new, fun b => ?_, hev.b0⟩⟩
  · -- the blocks
    have get : ∀ b x, b ≠ s → (H.set s (.live sz es))[b]? = some x → b < H.length ∧ H[b]? = some x ∧ (H ++ [.dead, .live sz es])[b]? = some x := fun b x hb h => by
      rw [List.getElem?_set_ne (Ne.symm hb)] at h
      have hlt := (List.getElem?_eq_some_iff.1 h).1
      exact ⟨hlt, h, by rw [List.getElem?_append_left hlt]; exact h⟩
    refine ⟨fun b hb => ?_, fun b hb => ?_, fun b hb => ?_, fun b sz' es' hb => ?_, fun b c' es' hb => ?_, fun b b' n base sz room base' sz' room' h1 h2 => ?_, fun n hn => hr'.dis n (own2 hn), hr'.lt, fun n hn => hr'.olt n (own2 hn), fun n hn => hr'.ofr n (own2 hn), hr'.bsz⟩
    · rw [List.getElem?_eq_none_iff, List.length_set] at hb
      exact p_ge hb
    · have hne : b ≠ s := fun e => by subst e; rw [List.getElem?_set_self hs] at hb; cases hb
      obtain ⟨h1, _, h3⟩ := get b _ hne hb
      rw [p_lt hne h1]; exact hr'.free b h3
    · have hne : b ≠ s := fun e => by subst e; rw [List.getElem?_set_self hs] at hb; cases hb
      obtain ⟨h1, _, h3⟩ := get b _ hne hb
      rw [p_lt hne h1]; exact hr'.dead b h3
    · by_cases hne : b = s
      · subst hne
        rw [List.getElem?_set_self hs] at hb
        cases hb
        rw [p_s]
        rcases hr'.live (H.length + 1) sz es (by simp) with h1 | ⟨n, base, room, c, ty, h1, h2⟩
        · exact .inl h1
        · refine .inr ⟨n, base, room, c, ty, h1, h2.blk, h2.fits, h2.size, h2.len, fun i e j d k1 k2 => ?_⟩
          obtain ⟨u, k3, k4⟩ := h2.val i e j d k1 k2
          have k5 := k4.cut (K := 0) 4 (hx e (List.mem_of_getElem? k1) d (List.mem_of_getElem? k2))
          exact ⟨u, k3, V.mono (fun _ x => x) (fun _ _ => rfl) (fun b => .inl (by simp [cutφ])) k5⟩
      · obtain ⟨h1, h2, h3⟩ := get b _ hne hb
        rw [p_lt hne h1]
        rcases hr'.live b sz' es' h3 with h4 | ⟨n, base, room, c, ty, h4, h5⟩
        · exact .inl h4
        · refine .inr ⟨n, base, room, c, ty, h4, h5.blk, h5.fits, h5.size, h5.len, fun i e j d k1 k2 => ?_⟩
          obtain ⟨u, k3, k4⟩ := h5.val i e j d k1 k2
          rcases hr.live b sz' es' h2 with ⟨h6, _⟩ | ⟨n0, base0, room0, c0, ty0, h6, h7⟩
          · rw [h6] at k1; simp at k1
          · obtain ⟨u0, _, k5⟩ := h7.val i e j d k1 k2
            exact ⟨u, k3, k4.carry mono2 k5⟩
    · have hne : b ≠ s := fun e => by subst e; rw [List.getElem?_set_self hs] at hb; cases hb
      obtain ⟨h1, h2, h3⟩ := get b _ hne hb
      rw [p_lt hne h1]
      obtain ⟨n, ms, h4, h5⟩ := hr'.tab b c' es' h3
      refine ⟨n, ms, h4, h5.blk, h5.len, fun i k d q e k1 k2 => ?_⟩
      obtain ⟨k3, k4, k5⟩ := h5.ent i k d q e k1 k2
      obtain ⟨n0, ms0, h6, h7⟩ := hr.tab b c' es' h2
      have hi : i < ms0.size := by rw [h7.len]; exact (List.getElem?_eq_some_iff.1 k1).1
      exact ⟨k3, k4, k5.carry mono2 (h7.ent i k d q ms0[i] k1 (Array.getElem?_eq_getElem hi)).2.2⟩
    · obtain ⟨c1, q1, r1, l1⟩ := back h1
      obtain ⟨c2, q2, r2, l2⟩ := back h2
      have := hr'.inj _ _ _ _ _ _ _ _ _ q1 q2
      rw [r1, r2] at this
      by_cases e1 : b = s
      · by_cases e2 : b' = s
        · rw [e1, e2]
        · simp [e1, e2] at this; omega
      · by_cases e2 : b' = s
        · simp [e1, e2] at this; omega
        · simpa [e1, e2] using this
  · cases hvd with
    | ms _ _ _ _ _ cap' a h1 h2 h3 => exact .ms _ _ _ _ _ _ _ h1 h2 (by rw [p_s]; exact h3)
  · by_cases h1 : b = s
    · subst h1; exact .inl f_s
    · by_cases h2 : b < H.length
      · rw [p_lt h1 h2]; exact hev.le b
      · exact .inl (f_ge b (by omega))
end Go.DL
