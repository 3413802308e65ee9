/- The rule for a region that draws its order, with claims. -/
import Derived.Test.YtmbbepdbjeciaaaGreatDl25
set_option linter.all false
namespace Go.DL
open Go.RowKit Go.Proofs

noncomputable section

def RunQ (P : Program) (ops : List Oper) (an : List (List Nat)) (wbs : List (Option Nat)) (base : Nat) : List Nat → St → St → Prop
  | [], st, st' => st = st'
  | i :: l, st, st' => ∃ s1, StepQ P ops an wbs base i st s1 ∧ RunQ P ops an wbs base l s1 st'

section
variable {P : Program} {G : Gh} {ops : List Oper} {an : List (List Nat)} {wbs : List (Option Nat)} {base : Nat}

theorem RunQ.front {i : Nat} : ∀ {l1 l2 : List Nat} {st stf : St}, (∀ j ∈ l1, j ≠ i ∧ (an.getD i []).contains j = false ∧ indepQ ops an wbs base j i = true) → RunQ P ops an wbs base (l1 ++ i :: l2) st stf →
    ∃ s1, StepQ P ops an wbs base i st s1 ∧ RunQ P ops an wbs base (l1 ++ l2) s1 stf
  | [], l2, st, stf, _, h => h
  | j :: l1, l2, st, stf, hj, h => by
    obtain ⟨s1, h1, h2⟩ := h
    obtain ⟨s2, h3, h4⟩ := RunQ.front (fun k hk => hj k (List.mem_cons_of_mem _ hk)) h2
    obtain ⟨hne, hcn, hi⟩ := hj j (List.mem_cons_self ..)
    obtain ⟨s3, h5, h6⟩ := h1.swap hne hcn hi h3
    exact ⟨s3, h5, s2, h6, h4⟩

/-- The places of what is to come are free. -/
structure SlotsQ (ops : List Oper) (base : Nat) (listed : Array Bool) (H : List Blk) : Prop where
  slot : ∀ k, k < ops.length → listed.getD k true = false → H[slotQ ops base k]? = some .free
  last : H[base + slotsQ ops]? = some .free

theorem SlotsQ.step {listed : Array Bool} {st st' : St} {i : Nat} (hf : SlotsQ ops base listed st.H) (hi : i < ops.length) (hli : listed.getD i true = false) (hls : listed.size = ops.length)
    (h : StepQ P ops an wbs base i st st') : SlotsQ ops base (listed.setIfInBounds i true) st'.H := by
  obtain ⟨o, d, e, ho, ha, hok, rfl⟩ := h
  have live : ∀ {b sz : Nat} {es : List (List D)}, (maskL 0 (hidQ ops an wbs base i) st.H)[b]? = some (Blk.live sz es) → ∀ s : Nat, st.H[s]? = some Blk.free → b ≠ s := fun hb s hs e => by
    subst e; rw [maskL_sub _ _ _ _ _ _ hb] at hs; cases hs
  have other : ∀ s : Nat, st.H[s]? = some Blk.free → s ≠ slotQ ops base i → (e.app st.H (slotQ ops base i))[s]? = some Blk.free := fun s hs hne => by
    cases e with
    | keep => exact hs
    | put x => exact slot_set hs (Ne.symm hne)
    | upd b x => obtain ⟨sz, es, hb⟩ := ha.upd_live.1 b x rfl; exact slot_set hs (live hb s hs)
    | ren ob x =>
      refine slot_set ?_ (Ne.symm hne)
      cases ob with
      | none => exact hs
      | some b => obtain ⟨sz, es, hb⟩ := ha.upd_live.2 b x rfl; exact slot_set hs (live hb s hs)
  -- an operation without a place of its own makes no block
  have keep : needsQ o = false → ∀ s : Nat, st.H[s]? = some Blk.free → (e.app st.H (slotQ ops base i))[s]? = some Blk.free := fun hn s hs => by
    rw [hn] at hok
    cases e with
    | keep => exact hs
    | put x => cases hok
    | upd b x => simp [effOk] at hok
    | ren ob x => cases ob <;> simp [effOk] at hok
  refine ⟨fun k hk hlk => ?_, ?_⟩
  · have hki : k ≠ i := fun e => by subst e; rw [getD_set (by omega)] at hlk; simp at hlk
    have hlk' : listed.getD k true = false := by
      rw [getD_set (by omega), if_neg (Ne.symm hki)] at hlk; exact hlk
    have hs := hf.slot k hk hlk'
    by_cases hn : needsQ o = true
    · refine other _ hs fun he => ?_
      obtain ⟨p, hp⟩ : ∃ p, ops[k]? = some p := ⟨_, List.getElem?_eq_getElem hk⟩
      rcases slotQ_case (base := base) hp with h1 | ⟨h1, _, _⟩
      · rcases slotQ_case (base := base) ho with h2 | ⟨_, h2, h3⟩
        · simp [slotQ, ho, hn] at h2
          have := rankQ_lt ho hn; omega
        · omega
      · exact slotQ_ne hp ho h1 hn hki he
    · exact keep (by simpa using hn) _ hs
  · by_cases hn : needsQ o = true
    · refine other _ hf.last ?_
      rcases slotQ_case (base := base) ho with h2 | ⟨_, h2, h3⟩
      · simp [slotQ, ho, hn] at h2
        have := rankQ_lt ho hn; omega
      · omega
    · exact keep (by simpa using hn) _ hf.last

theorem SlotsQ.at {listed : Array Bool} {H : List Blk} {i : Nat} (hf : SlotsQ ops base listed H) (hi : i < ops.length) (hli : listed.getD i true = false) : H[slotQ ops base i]? = some .free := hf.slot i hi hli

/-- One operation of a region that draws its order, at the model. -/
theorem stepQ_ok (hG : Stab G) (hY : YOk P G) {ro : Option Nat} {st st' : St} {a : Act} {w : World} {i : Nat} {Q : Exit → Act → World → Prop} {K : Act → World → Prop} (hr : FR G st a w) (hfree : st.H[slotQ ops base i]? = some .free)
    (h : StepQ P ops an wbs base i st st') (hK : ∀ a' w', FR G st' a' w' → K a' w') : wpOpIn (FW ro) 0 P ops.toArray Q i K a w := by
  obtain ⟨o, d, e, ho, ha, _, rfl⟩ := h
  obtain ⟨A, φ, hr⟩ := hr
  have hgo : goQ P o (slotQ ops base i) st.t (maskL 0 (hidQ ops an wbs base i) st.H) d e → o.wpIn (FW ro) 0 P a w K Q := fun h => by
    unfold goQ at h
    split at h
    · rename_i f args tys hop
      split at h
      · rename_i g xs hc
        rcases h with ⟨h1, h2, rfl⟩ | ⟨x, rfl, hat⟩
        rotate_left
        · refine execO_ok hG hY (K := fun s => s = { t := setT st.t o.dst d, H := st.H.set (slotQ ops base i) x, ds := st.ds, g := st.g }) ⟨A, φ, hr⟩ ?_ fun s a' w' e hf => hK a' w' (by rw [e] at hf; exact hf)
          unfold execO
          rw [hop]
          simp only [callD_yieldD hc, hc]
          exact (hat st.H (maskL_sub _ _ _) hfree).mono fun d' H' ⟨q1, q2⟩ => by subst q1; subst q2; rfl
        refine execO_ok hG hY (K := fun s => s = { t := setT st.t o.dst d, H := st.H, ds := st.ds, g := st.g }) ⟨A, φ, hr⟩ ?_ fun s a' w' e hf => hK a' w' (by rw [e] at hf; exact hf)
        unfold execO
        rw [hop]
        simp only [callD_yieldD hc, hc]
        exact call_freshL (lk := fun b => (maskL 0 (hidQ ops an wbs base i) st.H)[b]?) (fun b sz es hb => maskL_sub _ _ _ _ _ _ hb) h1 h2 rfl
      · exact h.elim
    · rename_i hop
      obtain ⟨x, w', A', φ', h1, h2⟩ := stepD_ok hG hr hfree (maskL_sub 0 (hidQ ops an wbs base i) st.H) h
      have hnd : ∀ c, o.op ≠ .defer c := fun c hc => by rw [hc] at h; cases h
      refine ⟨fun _ _ => trivial, ?_⟩
      rw [Oper.semAt_eq _ _ _ hnd]
      rcases h1 with h1 | ⟨h1, rfl⟩
      · rw [h1]; exact hK _ _ ⟨A', φ', h2⟩
      · rw [h1]; exact hK _ _ ⟨A', φ', h2⟩
  have hget : ops.toArray[i]? = some o := by simpa using ho
  unfold wpOpIn
  simp only [hget]
  unfold ActsQ at ha
  split at ha
  · rename_i hg
    rw [if_pos (by simp [Region.wanted, hg])]
    exact hgo ha
  · rename_i j want hg
    split at ha
    · rename_i r hb
      have hy := gD_ok (ops := ops) hr.tr hb
      have hw : Region.wanted o (yielded ops.toArray a.tmps) = (r == some want) := by simp [Region.wanted, hg, hy]
      rw [hw]
      split at ha
      · rename_i hbw
        rw [if_pos (by simpa using hbw)]
        exact hgo ha
      · rename_i hbw
        rw [if_neg (by simpa using hbw)]
        obtain ⟨rfl, rfl⟩ := ha
        exact ⟨fun _ _ => trivial, hK _ _ ⟨A, φ, hr.value o.dst (.v _ undef)⟩⟩
    · exact ha.elim

theorem anyQ_ok (hG : Stab G) (hY : YOk P G) {ro : Option Nat} {Q : Exit → Act → World → Prop} {stf : St} (hd : drawQ ops wbs base = true) (han : an = ancs ops []) (hQ : ∀ a' w', FR G stf a' w' → Q .normal a' w') :
    ∀ (fuel : Nat) (listed : Array Bool) (st : St) (a : Act) (w : World), listed.size = ops.length → (remOf ops.length listed).length = fuel →
      (∀ k, listed.getD k false = true → ∀ m ∈ an.getD k [], listed.getD m false = true) → FR G st a w → SlotsQ ops base listed st.H → RunQ P ops an wbs base (remOf ops.length listed) st stf →
      wpAnyIn (FW ro) 0 P .any ops.toArray Q fuel listed a w := by
  have hdeps : ∀ i o, ops[i]? = some o → ∀ j ∈ depsOf o, j < i := fun i o ho j hj => by
    have hi := (List.getElem?_eq_some_iff.1 ho).1
    simp only [drawQ, List.all_eq_true, List.mem_range, Bool.and_eq_true] at hd
    have := (hd i hi).1 j (by simp [ho]; exact hj)
    simpa using this
  have hind : ∀ i, i < ops.length → ∀ j, j < i → (an.getD i []).contains j = true ∨ indepQ ops an wbs base j i = true := fun i hi j hj => by
    simp only [drawQ, List.all_eq_true, List.mem_range, Bool.and_eq_true] at hd
    have := (hd i hi).2 j hj
    rw [← han] at this
    simpa using this
  have ready_iff : ∀ (listed : Array Bool) i, i ∈ Region.ready .any ops.toArray listed ↔ i < ops.length ∧ listed.getD i true = false ∧ ∃ o, ops[i]? = some o ∧ ∀ j ∈ depsOf o, listed.getD j false = true := fun listed i => by
    unfold Region.ready
    simp only [List.mem_filter, List.mem_range, List.size_toArray, Bool.and_eq_true, Bool.not_eq_true']
    refine and_congr Iff.rfl (and_congr Iff.rfl ?_)
    cases ho : ops[i]? with
    | none => simp [ho]
    | some o =>
      simp only [List.getElem?_toArray, ho, Option.map_some, Option.getD_some, Option.some.injEq, exists_eq_left']
      simp only [depsOf, List.mem_map, List.mem_filter, Array.mem_toList_iff, Array.all_eq_true_iff_forall_mem, Bool.or_eq_true, Bool.not_eq_true']
      constructor
      · rintro h j ⟨e, ⟨he, hb⟩, rfl⟩
        rcases h e he with h | h
        · rw [hb] at h; cases h
        · exact h
      · intro h e he
        cases hb : Region.binds .any e with
        | false => exact .inl rfl
        | true => exact .inr (h e.on ⟨e, ⟨he, hb⟩, rfl⟩)
  intro fuel
  induction fuel with
  | zero =>
    intro listed st a w hls hlen hdc hr hf hrun
    have hnil : remOf ops.length listed = [] := List.eq_nil_of_length_eq_zero hlen
    refine ⟨?_, ?_⟩
    · cases hrd : Region.ready .any ops.toArray listed with
      | nil => rfl
      | cons i l =>
        have : i ∈ Region.ready .any ops.toArray listed := by rw [hrd]; exact List.mem_cons_self ..
        obtain ⟨h1, h2, _⟩ := (ready_iff listed i).1 this
        have : i ∈ remOf ops.length listed := mem_rem.2 ⟨h1, h2⟩
        rw [hnil] at this; cases this
    · rw [hnil] at hrun
      have : st = stf := hrun
      subst this
      exact hQ a w hr
  | succ fuel ih =>
    intro listed st a w hls hlen hdc hr hf hrun
    refine ⟨fun hnil => ?_, fun i hi => ?_⟩
    · -- the first that is left is ready
      exfalso
      cases hrem : remOf ops.length listed with
      | nil => rw [hrem] at hlen; cases hlen
      | cons i l =>
        have himem : i ∈ remOf ops.length listed := by rw [hrem]; exact List.mem_cons_self ..
        obtain ⟨h1, h2⟩ := mem_rem.1 himem
        have hready : i ∈ Region.ready .any ops.toArray listed := by
          refine (ready_iff listed i).2 ⟨h1, h2, _, List.getElem?_eq_getElem h1, fun j hj => ?_⟩
          have hji := hdeps i _ (List.getElem?_eq_getElem h1) j hj
          have hjl : j < listed.size := by omega
          cases hjv : listed.getD j true with
          | true => rw [← getD_ft hjl]; exact hjv
          | false =>
            have hjm : j ∈ remOf ops.length listed := mem_rem.2 ⟨by omega, hjv⟩
            have hs : (remOf ops.length listed).Pairwise (· < ·) := List.Pairwise.filter _ List.pairwise_lt_range
            rw [hrem] at hs hjm
            rcases List.mem_cons.1 hjm with e | hm
            · omega
            · have := (List.pairwise_cons.1 hs).1 j hm; omega
        rw [hnil] at hready; cases hready
    · obtain ⟨h1, h2, o, ho, hdep⟩ := (ready_iff listed i).1 hi
      have himem : i ∈ remOf ops.length listed := mem_rem.2 ⟨h1, h2⟩
      obtain ⟨l1, l2, hl⟩ := List.append_of_mem himem
      have hs : (remOf ops.length listed).Pairwise (· < ·) := List.Pairwise.filter _ List.pairwise_lt_range
      have hl1 : ∀ j ∈ l1, j < i := fun j hj => by
        rw [hl] at hs
        exact (List.pairwise_append.1 hs).2.2 j hj i (List.mem_cons_self ..)
      have hl2 : ∀ j ∈ l2, i < j := fun j hj => by
        rw [hl] at hs
        exact (List.pairwise_cons.1 (List.pairwise_append.1 hs).2.1).1 j hj
      have hunl : ∀ j ∈ l1, listed.getD j true = false := fun j hj => (mem_rem.1 (by rw [hl]; exact List.mem_append_left _ hj)).2
      have hnc : ∀ j ∈ l1, (an.getD i []).contains j = false := fun j hj => by
        have hji := hl1 j hj
        cases hc : (an.getD i []).contains j with
        | false => rfl
        | true =>
          exfalso
          have hm : j ∈ an.getD i [] := by simpa using hc
          have hspec := (ancs_spec ops []).2 i o ho j (by rw [← han]; simpa using hm)
          rw [← han] at hspec
          have hlisted : listed.getD j false = true := by
            rcases hspec with h | ⟨k, hk, hm'⟩
            · exact hdep j h
            · exact hdc k (hdep k hk) j hm'
          have hjl : j < listed.size := by omega
          have := hunl j hj
          rw [getD_ft hjl, hlisted] at this; cases this
      have hfront : ∀ j ∈ l1, j ≠ i ∧ (an.getD i []).contains j = false ∧ indepQ ops an wbs base j i = true := fun j hj => by
        have hji := hl1 j hj
        refine ⟨by omega, hnc j hj, ?_⟩
        rcases hind i h1 j hji with hc | hc
        · rw [hnc j hj] at hc; cases hc
        · exact hc
      rw [hl] at hrun
      obtain ⟨s1, hstep, hrest⟩ := RunQ.front hfront hrun
      have hrem' : remOf ops.length (listed.setIfInBounds i true) = l1 ++ l2 := by
        have hcongr : remOf ops.length (listed.setIfInBounds i true) = (remOf ops.length listed).filter fun k => decide (k ≠ i) := by
          unfold remOf
          rw [List.filter_filter]
          apply List.filter_congr
          intro k hk
          rw [getD_set (by rw [hls]; simpa using hk)]
          by_cases hik : i = k
          · subst hik; simp
          · simp [hik, Ne.symm hik]
        rw [hcongr, hl, List.filter_append, List.filter_cons_of_neg (by simp)]
        congr 1
        · exact List.filter_eq_self.2 fun j hj => by have := hl1 j hj; simp; omega
        · exact List.filter_eq_self.2 fun j hj => by have := hl2 j hj; simp; omega
      refine stepQ_ok hG hY hr (hf.at h1 h2) hstep fun a' w' hr' => ?_
      refine ih _ s1 a' w' (by simpa using hls) ?_ ?_ hr' (hf.step h1 h2 hls hstep) (by rw [hrem']; exact hrest)
      · rw [hrem']
        rw [hl] at hlen
        simp only [List.length_append, List.length_cons] at hlen ⊢
        omega
      · intro k hk m hm
        rw [getD_set'] at hk ⊢
        split at hk
        · rename_i hik
          obtain ⟨rfl, _⟩ := hik
          have hspec := (ancs_spec ops []).2 i o ho m (by rw [← han]; simpa using hm)
          rw [← han] at hspec
          have : listed.getD m false = true := by
            rcases hspec with h | ⟨k, hk, hm'⟩
            · exact hdep m h
            · exact hdc k (hdep k hk) m hm'
          split
          · rfl
          · exact this
        · split
          · rfl
          · exact hdc k hk m hm
/-- A run keeps the number of blocks, and the last place free. -/
theorem RunQ.last {an : List (List Nat)} : ∀ {l : List Nat} {listed : Array Bool} {st stf : St}, RunQ P ops an wbs base l st stf → listed.size = ops.length → l.Nodup → (∀ i ∈ l, i < ops.length ∧ listed.getD i true = false) →
    SlotsQ ops base listed st.H → stf.H.length = st.H.length ∧ stf.H[base + slotsQ ops]? = some .free
  | [], _, st, stf, h, _, _, _, hf => by
    have : st = stf := h
    subst this; exact ⟨rfl, hf.last⟩
  | i :: l, listed, st, stf, ⟨s1, h1, h2⟩, hs, hn, hl, hf => by
    obtain ⟨q1, q2⟩ := hl i (List.mem_cons_self ..)
    have hf' := hf.step q1 q2 hs h1
    have hl' : ∀ j ∈ l, j < ops.length ∧ (listed.setIfInBounds i true).getD j true = false := fun j hj => by
      obtain ⟨r1, r2⟩ := hl j (List.mem_cons_of_mem _ hj)
      refine ⟨r1, ?_⟩
      have hne : i ≠ j := fun e => (List.nodup_cons.1 hn).1 (e ▸ hj)
      rw [getD_set (by omega), if_neg hne]
      exact r2
    obtain ⟨k1, k2⟩ := RunQ.last h2 (by simpa using hs) (List.nodup_cons.1 hn).2 hl' hf'
    obtain ⟨o, d, e, _, _, _, rfl⟩ := h1
    exact ⟨k1.trans Eff.app_length, k2⟩

/-- THE RULE FOR A REGION THAT DRAWS ITS ORDER: one run in the text's order stands for all. -/
theorem Sp_drawQ (hG : Stab G) (hY : YOk P G) {ro : Option Nat} {id : Nat} {st : St} {Q : Exit → St → Prop} (hm : P.follows .mixedOrders = true) (wbs : List (Option Nat)) (hd : drawQ ops wbs st.H.length = true)
    {stf : St} (hrun : RunQ P ops (ancs ops []) wbs st.H.length (List.range ops.length) { st with H := st.H ++ List.replicate (slotsQ ops + 1) .free } stf) (hq : Q .normal { stf with H := stf.H.dropLast }) : Sp P ro G (.region id ops.toArray true) st Q := by
  rintro a w ⟨A, φ, hr⟩
  refine wpIn_region_any hm ?_
  have hlen : (st.H ++ List.replicate (slotsQ ops + 1) Blk.free).length = st.H.length + slotsQ ops + 1 := by simp; omega
  have hfree : ∀ k, k ≤ slotsQ ops → (st.H ++ List.replicate (slotsQ ops + 1) Blk.free)[st.H.length + k]? = some .free := fun k hk => by
    rw [List.getElem?_append_right (by omega), List.getElem?_replicate, if_pos (by omega)]
  have hsf : SlotsQ ops st.H.length (Array.replicate ops.length false) (st.H ++ List.replicate (slotsQ ops + 1) Blk.free) := by
    refine ⟨fun k hk _ => ?_, hfree _ (Nat.le_refl _)⟩
    rcases slotQ_case (base := st.H.length) (List.getElem?_eq_getElem hk) with e | ⟨_, e, hlt⟩
    · rw [e]; exact hfree _ (Nat.le_refl _)
    · rw [e]; exact hfree _ (Nat.le_of_lt hlt)
  have hrem : remOf ops.length (Array.replicate ops.length false) = List.range ops.length := by
    refine List.filter_eq_self.2 fun i hi => ?_
    simp at hi; simp [hi]
  obtain ⟨k1, k2⟩ := hrun.last (listed := Array.replicate ops.length false) (by simp) List.nodup_range (fun i hi => by simp at hi; exact ⟨hi, by simp [hi]⟩) hsf
  have hlast : stf.H = stf.H.dropLast ++ [.free] := by
    have hne : stf.H ≠ [] := fun e => by rw [e] at k1; simp at k1
    have h1 := (List.dropLast_concat_getLast hne).symm
    have h2 : stf.H.getLast hne = .free := by
      have := List.getLast_eq_getElem hne
      have h3 : stf.H.length - 1 = st.H.length + slotsQ ops := by rw [k1, hlen]; rfl
      rw [List.getElem?_eq_some_iff] at k2
      obtain ⟨hlt, k2⟩ := k2
      rw [this, ← k2]
      congr 1
    rw [h2] at h1; exact h1
  have hfr0 : FR G st a { w with drawn := w.drawn + 1 } :=
    ⟨A, φ, hr.drew hG⟩
  have hfr1 : FR G { st with H := st.H ++ List.replicate (slotsQ ops + 1) .free } a { w with drawn := w.drawn + 1 } :=
    let ⟨A, φ, h⟩ := hfr0; ⟨A, φ, h.rooms _⟩
  rw [List.size_toArray]
  refine anyQ_ok (P := P) (stf := stf) hG hY hd rfl (fun a' w' ⟨A', φ', hr'⟩ => ⟨_, hq, A', φ', hr'.drop hlast⟩) ops.length _ _ a _ (by simp) (by rw [hrem]; simp) (fun k hk => by
      rw [Array.getD_eq_getD_getElem?] at hk; simp only [Array.getElem?_replicate] at hk; split at hk <;> cases hk) hfr1 hsf ?_
  rw [hrem]; exact hrun
end
end
end Go.DL
