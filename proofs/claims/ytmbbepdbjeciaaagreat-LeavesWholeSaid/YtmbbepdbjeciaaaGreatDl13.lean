/- A region that draws its order: the rule. -/
import Derived.Test.YtmbbepdbjeciaaaGreatDl12
set_option linter.all false
namespace Go.DL
open Go.RowKit Go.Proofs

noncomputable section

def RunR (P : Program) (ops : List Oper) (an : List (List Nat)) (base : Nat) : List Nat → St → St → Prop
  | [], st, st' => st = st'
  | i :: l, st, st' => ∃ s1, StepR P ops an base i st s1 ∧ RunR P ops an base l s1 st'

section
variable {P : Program} {G : Gh} {ops : List Oper} {an : List (List Nat)} {base : Nat}

theorem RunR.front {i : Nat} : ∀ {l1 l2 : List Nat} {st stf : St}, (∀ j ∈ l1, j ≠ i ∧ indep ops an j i = true) → RunR P ops an base (l1 ++ i :: l2) st stf →
    ∃ s1, StepR P ops an base i st s1 ∧ RunR P ops an base (l1 ++ l2) s1 stf
  | [], l2, st, stf, _, h => h
  | j :: l1, l2, st, stf, hj, h => by
    obtain ⟨s1, h1, h2⟩ := h
    obtain ⟨s2, h3, h4⟩ := RunR.front (fun k hk => hj k (List.mem_cons_of_mem _ hk)) h2
    obtain ⟨hne, hi⟩ := hj j (List.mem_cons_self ..)
    obtain ⟨s3, h5, h6⟩ := h1.swap hne hi h3
    exact ⟨s3, h5, s2, h6, h4⟩

theorem ancs_spec : ∀ (l : List Oper) (acc : List (List Nat)), (∀ k, k < acc.length → (ancs l acc).getD k [] = acc.getD k []) ∧
    ∀ k o, l[k]? = some o → ∀ m ∈ (ancs l acc).getD (acc.length + k) [], m ∈ depsOf o ∨ ∃ j ∈ depsOf o, m ∈ (ancs l acc).getD j []
  | [], acc => ⟨fun _ _ => rfl, fun k o h => by simp at h⟩
  | p :: l, acc => by
    obtain ⟨h1, h2⟩ := ancs_spec l (acc ++ [(depsOf p).flatMap fun j => j :: acc.getD j []])
    have e : ancs (p :: l) acc = ancs l (acc ++ [(depsOf p).flatMap fun j => j :: acc.getD j []]) := rfl
    rw [e]
    have h1' : ∀ k, k < acc.length → (ancs l (acc ++ [(depsOf p).flatMap fun j => j :: acc.getD j []])).getD k [] = acc.getD k [] := fun k hk => by
      rw [h1 k (by simp; omega)]
      simp [List.getD, List.getElem?_append_left hk]
    refine ⟨h1', fun k o hk m hm => ?_⟩
    cases k with
    | zero =>
      simp only [List.getElem?_cons_zero, Option.some.injEq] at hk
      subst hk
      rw [Nat.add_zero, h1 acc.length (by simp)] at hm
      have : (acc ++ [(depsOf p).flatMap fun j => j :: acc.getD j []]).getD acc.length [] = (depsOf p).flatMap fun j => j :: acc.getD j [] := by simp [List.getD]
      rw [this, List.mem_flatMap] at hm
      obtain ⟨j, hj, hm⟩ := hm
      rcases List.mem_cons.1 hm with rfl | hm
      · exact .inl hj
      · rcases Nat.lt_or_ge j acc.length with hlt | hge
        · exact .inr ⟨j, hj, by rw [h1' j hlt]; exact hm⟩
        · simp [List.getD, List.getElem?_eq_none hge] at hm
    | succ k =>
      simp only [List.getElem?_cons_succ] at hk
      refine h2 k o hk m ?_
      rw [show (acc ++ [(depsOf p).flatMap fun j => j :: acc.getD j []]).length + k = acc.length + (k + 1) by simp; omega]
      exact hm

/-- What is left, in the text's order. -/
def remOf (n : Nat) (listed : Array Bool) : List Nat := (List.range n).filter fun i => !listed.getD i true

theorem mem_rem {n i : Nat} {listed : Array Bool} : i ∈ remOf n listed ↔ i < n ∧ listed.getD i true = false := by simp [remOf]

/-- The places of what is to come are free. -/
structure SlotsFree (ops : List Oper) (base : Nat) (listed : Array Bool) (H : List Blk) : Prop where
  slot : ∀ k, k < ops.length → listed.getD k true = false → H[slotAt ops base k]? = some .free
  last : H[base + slots ops]? = some .free

theorem slot_set {H : List Blk} {b s : Nat} {x : Blk} (h : H[s]? = some .free) (hb : b ≠ s) : (H.set b x)[s]? = some .free := by
  rw [List.getElem?_set, if_neg hb]; exact h

theorem slot_case {i : Nat} {o : Oper} (ho : ops[i]? = some o) : slotAt ops base i = base + slots ops ∨ (needs o = true ∧ slotAt ops base i = base + rankOf ops i ∧ rankOf ops i < slots ops) := by
  by_cases hn : needs o = true
  · exact .inr ⟨hn, by simp [slotAt, ho, hn], rank_lt ho hn⟩
  · exact .inl (by simp [slotAt, ho, hn])

theorem Acts.upd_live {o : Oper} {s : Nat} {t : List D} {H : List Blk} {d : D} {e : Eff} (h : Acts P ops o s t H d e) : (∀ b x, e = .upd b x → ∃ sz es, H[b]? = some (.live sz es)) ∧
    (∀ b x, e = .ren (some b) x → ∃ sz es, H[b]? = some (.live sz es)) := by
  have go : Acts.go P o s t H d e → (∀ b x, e = .upd b x → ∃ sz es, H[b]? = some (.live sz es)) ∧ (∀ b x, e = .ren (some b) x → ∃ sz es, H[b]? = some (.live sz es)) := fun h => by
    unfold Acts.go at h
    split at h
    · split at h
      · obtain ⟨_, _, rfl⟩ := h; exact ⟨fun _ _ x => (by cases x), fun _ _ x => (by cases x)⟩
      · exact h.elim
    · exact ⟨fun b x he => stepD_upd (he ▸ h), fun b x he => stepD_ren (he ▸ h)⟩
  unfold Acts at h
  split at h
  · exact go h
  · split at h
    · split at h
      · exact go h
      · obtain ⟨_, rfl⟩ := h; exact ⟨fun _ _ x => (by cases x), fun _ _ x => (by cases x)⟩
    · exact h.elim

theorem getD_set {listed : Array Bool} {i k : Nat} (hk : k < listed.size) : (listed.setIfInBounds i true).getD k true = (if i = k then true else listed.getD k true) := by
  rw [Array.getD_eq_getD_getElem?, Array.getD_eq_getD_getElem?, Array.getElem?_setIfInBounds]
  split
  · rename_i h; subst h; simp [hk]
  · rfl

theorem getD_set' {listed : Array Bool} {i k : Nat} : (listed.setIfInBounds i true).getD k false = (if i = k ∧ k < listed.size then true else listed.getD k false) := by
  rw [Array.getD_eq_getD_getElem?, Array.getD_eq_getD_getElem?, Array.getElem?_setIfInBounds]
  by_cases h : i = k
  · subst h
    by_cases hk : i < listed.size <;> simp [hk]
  · simp [h]

theorem getD_ft {listed : Array Bool} {k : Nat} (hk : k < listed.size) : listed.getD k true = listed.getD k false := by
  simp [Array.getD_eq_getD_getElem?, hk]

theorem SlotsFree.step {listed : Array Bool} {st st' : St} {i : Nat} (hf : SlotsFree ops base listed st.H) (hi : i < ops.length) (hli : listed.getD i true = false) (hls : listed.size = ops.length)
    (h : StepR P ops an base i st st') : SlotsFree ops base (listed.setIfInBounds i true) st'.H := by
  obtain ⟨o, d, e, ho, ha, rfl⟩ := h
  have live : ∀ {b sz : Nat} {es : List (List D)}, (maskL base (hiddenOf ops an i) st.H)[b]? = some (Blk.live sz es) → ∀ s : Nat, st.H[s]? = some Blk.free → b ≠ s := fun hb s hs e => by
    subst e; rw [maskL_sub _ _ _ _ _ _ hb] at hs; cases hs
  have other : ∀ s : Nat, st.H[s]? = some Blk.free → s ≠ slotAt ops base i → (e.app st.H (slotAt ops base i))[s]? = some Blk.free := fun s hs hne => by
    cases e with
    | keep => exact hs
    | put x => exact slot_set hs (Ne.symm hne)
    | upd b x => obtain ⟨sz, es, hb⟩ := ha.upd_live.1 b x rfl; exact slot_set hs (live hb s hs)
    | ren ob x =>
      refine slot_set ?_ (Ne.symm hne)
      cases ob with
      | none => exact hs
      | some b => obtain ⟨sz, es, hb⟩ := ha.upd_live.2 b x rfl; exact slot_set hs (live hb s hs)
  -- an operation without a place of its own makes no block
  have keep : needs o = false → ∀ s : Nat, st.H[s]? = some Blk.free → (e.app st.H (slotAt ops base i))[s]? = some Blk.free := fun hn s hs => by
    have hk : kindOf o = .pure ∨ kindOf o = .look := by cases hk : kindOf o <;> simp [needs, hk] at hn ⊢
    rw [ha.eff.1 hk]; exact hs
  refine ⟨fun k hk hlk => ?_, ?_⟩
  · have hki : k ≠ i := fun e => by subst e; rw [getD_set (by omega)] at hlk; simp at hlk
    have hlk' : listed.getD k true = false := by
      rw [getD_set (by omega), if_neg (Ne.symm hki)] at hlk; exact hlk
    have hs := hf.slot k hk hlk'
    by_cases hn : needs o = true
    · refine other _ hs fun he => ?_
      obtain ⟨p, hp⟩ : ∃ p, ops[k]? = some p := ⟨_, List.getElem?_eq_getElem hk⟩
      rcases slot_case (base := base) hp with h1 | ⟨h1, _, _⟩
      · rcases slot_case (base := base) ho with h2 | ⟨_, h2, h3⟩
        · simp [slotAt, ho, hn] at h2
          have := rank_lt ho hn; omega
        · omega
      · exact slot_ne hp ho h1 hn hki he
    · exact keep (by simpa using hn) _ hs
  · by_cases hn : needs o = true
    · refine other _ hf.last ?_
      rcases slot_case (base := base) ho with h2 | ⟨_, h2, h3⟩
      · simp [slotAt, ho, hn] at h2
        have := rank_lt ho hn; omega
      · omega
    · exact keep (by simpa using hn) _ hf.last

theorem SlotsFree.at {listed : Array Bool} {H : List Blk} {i : Nat} (hf : SlotsFree ops base listed H) (hi : i < ops.length) (hli : listed.getD i true = false) : H[slotAt ops base i]? = some .free := hf.slot i hi hli

/-- One operation of a region that draws its order, at the model. -/
theorem step_ok (hG : Stab G) (hY : YOk P G) {ro : Option Nat} {st st' : St} {a : Act} {w : World} {i : Nat} {Q : Exit → Act → World → Prop} {K : Act → World → Prop} (hr : FR G st a w) (hfree : st.H[slotAt ops base i]? = some .free)
    (h : StepR P ops an base i st st') (hK : ∀ a' w', FR G st' a' w' → K a' w') : wpOpIn (FW ro) 0 P ops.toArray Q i K a w := by
  obtain ⟨o, d, e, ho, ha, rfl⟩ := h
  obtain ⟨A, φ, hr⟩ := hr
  have hgo : Acts.go P o (slotAt ops base i) st.t (maskL base (hiddenOf ops an i) st.H) d e → o.wpIn (FW ro) 0 P a w K Q := fun h => by
    unfold Acts.go at h
    split at h
    · rename_i f args tys hop
      split at h
      · rename_i g xs hc
        obtain ⟨h1, h2, rfl⟩ := h
        refine execO_ok hG hY (K := fun s => s = { t := setT st.t o.dst d, H := st.H, ds := st.ds, g := st.g }) ⟨A, φ, hr⟩ ?_ fun s a' w' e hf => hK a' w' (by rw [e] at hf; exact hf)
        unfold execO
        rw [hop]
        simp only [callD_yieldD hc, hc]
        exact call_freshL (lk := fun b => (maskL base (hiddenOf ops an i) st.H)[b]?) (fun b sz es hb => maskL_sub _ _ _ _ _ _ hb) h1 h2 rfl
      · exact h.elim
    · rename_i hop
      obtain ⟨x, w', A', φ', h1, h2⟩ := stepD_ok hG hr hfree (maskL_sub base (hiddenOf ops an i) st.H) h
      have hnd : ∀ c, o.op ≠ .defer c := fun c hc => by rw [hc] at h; cases h
      refine ⟨fun _ _ => trivial, ?_⟩
      rw [Oper.semAt_eq _ _ _ hnd]
      rcases h1 with h1 | ⟨h1, rfl⟩
      · rw [h1]; exact hK _ _ ⟨A', φ', h2⟩
      · rw [h1]; exact hK _ _ ⟨A', φ', h2⟩
  have hget : ops.toArray[i]? = some o := by simpa using ho
  unfold wpOpIn
  simp only [hget]
  unfold Acts at ha
  split at ha
  · rename_i hg
    rw [if_pos (by simp [Region.wanted, hg])]
    exact hgo ha
  · rename_i j want hg
    split at ha
    · rename_i b hb
      have hy := guard_ok (ops := ops) hr.tr hb
      have hw : Region.wanted o (yielded ops.toArray a.tmps) = (b == want) := by simp [Region.wanted, hg, hy]
      rw [hw]
      split at ha
      · rename_i hbw
        rw [if_pos (by simpa using hbw)]
        exact hgo ha
      · rename_i hbw
        rw [if_neg (by simpa using hbw)]
        obtain ⟨rfl, rfl⟩ := ha
        exact ⟨fun _ _ => trivial, hK _ _ ⟨A, φ, hr.value o.dst (.any _ _)⟩⟩
    · exact ha.elim

theorem any_ok (hG : Stab G) (hY : YOk P G) {ro : Option Nat} {Q : Exit → Act → World → Prop} {stf : St} (hd : drawOk ops = true) (han : an = ancs ops []) (hQ : ∀ a' w', FR G stf a' w' → Q .normal a' w') :
    ∀ (fuel : Nat) (listed : Array Bool) (st : St) (a : Act) (w : World), listed.size = ops.length → (remOf ops.length listed).length = fuel →
      (∀ k, listed.getD k false = true → ∀ m ∈ an.getD k [], listed.getD m false = true) → FR G st a w → SlotsFree ops base listed st.H → RunR P ops an base (remOf ops.length listed) st stf →
      wpAnyIn (FW ro) 0 P .any ops.toArray Q fuel listed a w := by
  have hdeps : ∀ i o, ops[i]? = some o → ∀ j ∈ depsOf o, j < i := fun i o ho j hj => by
    have hi := (List.getElem?_eq_some_iff.1 ho).1
    simp only [drawOk, List.all_eq_true, List.mem_range, Bool.and_eq_true] at hd
    have := (hd i hi).1 j (by simp [ho]; exact hj)
    simpa using this
  have hind : ∀ i, i < ops.length → ∀ j, j < i → (an.getD i []).contains j = true ∨ indep ops an j i = true := fun i hi j hj => by
    simp only [drawOk, List.all_eq_true, List.mem_range, Bool.and_eq_true] at hd
    have := (hd i hi).2 j hj
    rw [← han] at this
    simpa using this
  have ready_iff : ∀ (listed : Array Bool) i, i ∈ Region.ready .any ops.toArray listed ↔ i < ops.length ∧ listed.getD i true = false ∧ ∃ o, ops[i]? = some o ∧ ∀ j ∈ depsOf o, listed.getD j false = true := fun listed i => by
    unfold Region.ready
    simp only [List.mem_filter, List.mem_range, List.size_toArray, Bool.and_eq_true, Bool.not_eq_true']
    refine and_congr Iff.rfl (and_congr Iff.rfl ?_)
    cases ho : ops[i]? with
    | none => simp [ho]
    | some o =>
      simp only [List.getElem?_toArray, ho, Option.map_some, Option.getD_some, Option.some.injEq, exists_eq_left']
      simp only [depsOf, List.mem_map, List.mem_filter, Array.mem_toList_iff, Array.all_eq_true_iff_forall_mem, Bool.or_eq_true, Bool.not_eq_true']
      constructor
      · rintro h j ⟨e, ⟨he, hb⟩, rfl⟩
        rcases h e he with h | h
        · rw [hb] at h; cases h
        · exact h
      · intro h e he
        cases hb : Region.binds .any e with
        | false => exact .inl rfl
        | true => exact .inr (h e.on ⟨e, ⟨he, hb⟩, rfl⟩)
  intro fuel
  induction fuel with
  | zero =>
    intro listed st a w hls hlen hdc hr hf hrun
    have hnil : remOf ops.length listed = [] := List.eq_nil_of_length_eq_zero hlen
    refine ⟨?_, ?_⟩
    · cases hrd : Region.ready .any ops.toArray listed with
      | nil => rfl
      | cons i l =>
        have : i ∈ Region.ready .any ops.toArray listed := by rw [hrd]; exact List.mem_cons_self ..
        obtain ⟨h1, h2, _⟩ := (ready_iff listed i).1 this
        have : i ∈ remOf ops.length listed := mem_rem.2 ⟨h1, h2⟩
        rw [hnil] at this; cases this
    · rw [hnil] at hrun
      have : st = stf := hrun
      subst this
      exact hQ a w hr
  | succ fuel ih =>
    intro listed st a w hls hlen hdc hr hf hrun
    refine ⟨fun hnil => ?_, fun i hi => ?_⟩
    · -- the first that is left is ready
      exfalso
      cases hrem : remOf ops.length listed with
      | nil => rw [hrem] at hlen; cases hlen
      | cons i l =>
        have himem : i ∈ remOf ops.length listed := by rw [hrem]; exact List.mem_cons_self ..
        obtain ⟨h1, h2⟩ := mem_rem.1 himem
        have hready : i ∈ Region.ready .any ops.toArray listed := by
          refine (ready_iff listed i).2 ⟨h1, h2, _, List.getElem?_eq_getElem h1, fun j hj => ?_⟩
          have hji := hdeps i _ (List.getElem?_eq_getElem h1) j hj
          have hjl : j < listed.size := by omega
          cases hjv : listed.getD j true with
          | true => rw [← getD_ft hjl]; exact hjv
          | false =>
            have hjm : j ∈ remOf ops.length listed := mem_rem.2 ⟨by omega, hjv⟩
            have hs : (remOf ops.length listed).Pairwise (· < ·) := List.Pairwise.filter _ List.pairwise_lt_range
            rw [hrem] at hs hjm
            rcases List.mem_cons.1 hjm with e | hm
            · omega
            · have := (List.pairwise_cons.1 hs).1 j hm; omega
        rw [hnil] at hready; cases hready
    · obtain ⟨h1, h2, o, ho, hdep⟩ := (ready_iff listed i).1 hi
      have himem : i ∈ remOf ops.length listed := mem_rem.2 ⟨h1, h2⟩
      obtain ⟨l1, l2, hl⟩ := List.append_of_mem himem
      have hs : (remOf ops.length listed).Pairwise (· < ·) := List.Pairwise.filter _ List.pairwise_lt_range
      have hl1 : ∀ j ∈ l1, j < i := fun j hj => by
        rw [hl] at hs
        exact (List.pairwise_append.1 hs).2.2 j hj i (List.mem_cons_self ..)
      have hl2 : ∀ j ∈ l2, i < j := fun j hj => by
        rw [hl] at hs
        exact (List.pairwise_cons.1 (List.pairwise_append.1 hs).2.1).1 j hj
      have hunl : ∀ j ∈ l1, listed.getD j true = false := fun j hj => (mem_rem.1 (by rw [hl]; exact List.mem_append_left _ hj)).2
      have hfront : ∀ j ∈ l1, j ≠ i ∧ indep ops an j i = true := fun j hj => by
        have hji := hl1 j hj
        refine ⟨by omega, ?_⟩
        rcases hind i h1 j hji with hc | hc
        · exfalso
          have hm : j ∈ an.getD i [] := by simpa using hc
          have hspec := (ancs_spec ops []).2 i o ho j (by rw [← han]; simpa using hm)
          rw [← han] at hspec
          have hlisted : listed.getD j false = true := by
            rcases hspec with h | ⟨k, hk, hm'⟩
            · exact hdep j h
            · exact hdc k (hdep k hk) j hm'
          have hjl : j < listed.size := by omega
          have := hunl j hj
          rw [getD_ft hjl, hlisted] at this; cases this
        · exact hc
      rw [hl] at hrun
      obtain ⟨s1, hstep, hrest⟩ := RunR.front hfront hrun
      have hrem' : remOf ops.length (listed.setIfInBounds i true) = l1 ++ l2 := by
        have hcongr : remOf ops.length (listed.setIfInBounds i true) = (remOf ops.length listed).filter fun k => decide (k ≠ i) := by
          unfold remOf
          rw [List.filter_filter]
          apply List.filter_congr
          intro k hk
          rw [getD_set (by rw [hls]; simpa using hk)]
          by_cases hik : i = k
          · subst hik; simp
          · simp [hik, Ne.symm hik]
        rw [hcongr, hl, List.filter_append, List.filter_cons_of_neg (by simp)]
        congr 1
        · exact List.filter_eq_self.2 fun j hj => by have := hl1 j hj; simp; omega
        · exact List.filter_eq_self.2 fun j hj => by have := hl2 j hj; simp; omega
      refine step_ok hG hY hr (hf.at h1 h2) hstep fun a' w' hr' => ?_
      refine ih _ s1 a' w' (by simpa using hls) ?_ ?_ hr' (hf.step h1 h2 hls hstep) (by rw [hrem']; exact hrest)
      · rw [hrem']
        rw [hl] at hlen
        simp only [List.length_append, List.length_cons] at hlen ⊢
        omega
      · intro k hk m hm
        rw [getD_set'] at hk ⊢
        split at hk
        · rename_i hik
          obtain ⟨rfl, _⟩ := hik
          have hspec := (ancs_spec ops []).2 i o ho m (by rw [← han]; simpa using hm)
          rw [← han] at hspec
          have : listed.getD m false = true := by
            rcases hspec with h | ⟨k, hk, hm'⟩
            · exact hdep m h
            · exact hdc k (hdep k hk) m hm'
          split
          · rfl
          · exact this
        · split
          · rfl
          · exact hdc k hk m hm
end
end
end Go.DL
