/- A call that leaves one block more, at a place that was free: out of a contract that leaves it at the end. -/
import Derived.Test.YtmbbepdbjeciaaaGreatDl26
set_option linter.all false
namespace Go.DL
open Go.RowKit Go.Proofs

/-- What speaks only of blocks that are laid carries over where these stay. -/
theorem V.carry {A0 A : Rd} {w0 w : World} {φ0 φ φ' : Nat → Loc} (hφ : ∀ b, φ0 b ≠ .free → (φ b).le (φ' b)) : ∀ {d : D} {u u0 : Value}, V A w φ d u → V A0 w0 φ0 d u0 → V A w φ' d u := by
  intro d u u0 h
  have key : ∀ {A : Rd} {w : World} {φ : Nat → Loc} {d : D} {u : Value}, V A w φ d u → (∀ b, φ0 b ≠ .free → (φ b).le (φ' b)) → ∀ u0, V A0 w0 φ0 d u0 → V A w φ' d u := by
    intro A w φ d u h
    induction h with
    | v φ x => intro _ _ _; exact .v _ _
    | any φ x => intro _ _ _; exact .any _ _
    | nil φ a => intro _ _ _; exact .nil _ _
    | agg φ cs vs hl h ih =>
      intro hφ u0 h0
      cases h0 with
      | agg _ _ vs0 hl0 h0 =>
        refine .agg _ _ _ hl fun i d u h1 h2 => ?_
        have hi : i < vs0.size := by rw [hl0]; exact (List.getElem?_eq_some_iff.1 h1).1
        exact ih i d u h1 h2 hφ vs0[i] (h0 i d _ h1 (by simp [hi]))
    | tup φ cs vs hl h ih =>
      intro hφ u0 h0
      cases h0 with
      | tup _ _ vs0 hl0 h0 =>
        refine .tup _ _ _ hl fun i d u h1 h2 => ?_
        have hi : i < vs0.size := by rw [hl0]; exact (List.getElem?_eq_some_iff.1 h1).1
        exact ih i d u h1 h2 hφ vs0[i] (h0 i d _ h1 (by simp [hi]))
    | sl0 φ a cap => intro _ _ _; exact .sl0 _ _ _
    | sl φ es n off sz cap u ha hcap hsz hcc h ih => intro _ _ _; exact .sl _ es n off sz cap u ha hcap hsz hcc h
    | fl0 φ a cap => intro _ _ _; exact .fl0 _ _ _
    | fl φ es n off sz cap u ha hcap hsz hcc h ih => intro _ _ _; exact .fl _ es n off sz cap u ha hcap hsz hcc h
    | rp φ cs n off u ha hcc h ih => intro _ _ _; exact .rp _ cs n off u ha hcc h
    | ms φ b off len cap cap' a hlen hcap h =>
      intro hφ u0 h0
      have hb : φ0 b ≠ .free := fun e => by
        cases h0 with
        | ms _ _ _ _ _ cap0 a0 _ _ h0 => rw [e] at h0; exact h0
      refine .ms _ b off len cap cap' a hlen hcap ?_
      rcases hφ b hb with e | e | e
      · rw [e] at h; exact h.elim
      · rw [e]; trivial
      · rw [← e]; exact h
    | mp φ b i f x h =>
      intro hφ u0 h0
      have hb : φ0 b ≠ .free := fun e => by
        cases h0 with
        | mp _ _ _ _ x0 h0 => rw [e] at h0; exact h0
      refine .mp _ b i f x ?_
      rcases hφ b hb with e | e | e
      · rw [e] at h; exact h.elim
      · rw [e]; trivial
      · rw [← e]; exact h
    | fn φ f first caps vs us hl hl' h h' ih ih' =>
      intro hφ u0 h0
      cases h0 with
      | fn _ _ _ _ vs0 us0 hl0 hl0' h0 h0' =>
        refine .fn _ f _ _ _ _ hl hl' (fun i d u h1 h2 => ?_) fun i d u h1 h2 => ?_
        · have hi : i < vs0.size := by rw [hl0]; exact (List.getElem?_eq_some_iff.1 h1).1
          exact ih i d u h1 h2 hφ vs0[i] (h0 i d _ h1 (by simp [hi]))
        · have hi : i < us0.size := by rw [hl0']; exact (List.getElem?_eq_some_iff.1 h1).1
          exact ih' i d u h1 h2 hφ us0[i] (h0' i d _ h1 (by simp [hi]))
  exact key h hφ u0

theorem CallAt.of {P : Program} {f : FuncId} {xs : List D} {Hm : List Blk} {s off len cap sz : Nat} {es : List (List D)}
    (h : ∀ H, Sub Hm H → CallSp P f xs H fun d' H' => d' = .ms (H.length + 1) off len cap ∧ H' = H ++ [.dead, .live sz es]) (hx : BlkBelow 0 (.live sz es)) : CallAt P f xs Hm s (.ms s off len cap) (.live sz es) := by
  intro H hsub hfree
  have hs : s < H.length := (List.getElem?_eq_some_iff.1 hfree).1
  refine ⟨(h H hsub).1, fun w A φ vs hr hv => ((h H hsub).2 w A φ vs hr hv).mono ?_⟩
  rintro e w' ⟨v, d, H', A', φ', he, ⟨hd, hH'⟩, hr', hvd, hev⟩
  subst hd; subst hH'
  let φ2 : Nat → Loc := fun b => if b = s then φ' (H.length + 1) else if b < H.length then φ' b else .free
  have p_s : φ2 s = φ' (H.length + 1) := by simp [φ2]
  have p_lt : ∀ {b}, b ≠ s → b < H.length → φ2 b = φ' b := fun h1 h2 => by simp [φ2, h1, h2]
  have p_ge : ∀ {b}, H.length ≤ b → φ2 b = .free := fun {b} h1 => by
    have h2 : ¬ b < H.length := by omega
    have h3 : b ≠ s := by omega
    simp [φ2, h2, h3]
  have f_s : φ s = .free := hr.free s hfree
  have f'_s : φ' s = .free := hr'.free s (by rw [List.getElem?_append_left hs]; exact hfree)
  have f_ge : ∀ b, H.length ≤ b → φ b = .free := fun b hb => hr.out b (List.getElem?_eq_none hb)
  -- where φ2 has a place, φ' has it, too
  have back : ∀ {b n base sz room}, φ2 b = .loc n base sz room → ∃ b', φ' b' = .loc n base sz room ∧ (b' = if b = s then H.length + 1 else b) ∧ b < H.length := fun {b n base sz room} hb => by
    by_cases h1 : b = s
    · subst h1; rw [p_s] at hb; exact ⟨_, hb, by simp, hs⟩
    · by_cases h2 : b < H.length
      · rw [p_lt h1 h2] at hb; exact ⟨b, hb, by simp [h1], h2⟩
      · rw [p_ge (by omega)] at hb; cases hb
  have own2 : ∀ {n}, own φ2 n → own φ' n := fun ⟨b, base, sz, room, hb⟩ => by
    obtain ⟨b', h1, _⟩ := back hb; exact ⟨b', base, sz, room, h1⟩
  have mono2 : ∀ b, φ b ≠ .free → (φ' b).le (φ2 b) := fun b hb => by
    have h1 : b ≠ s := fun e => hb (by rw [e]; exact f_s)
    have h2 : b < H.length := by
      rcases Nat.lt_or_ge b H.length with x | x
      · exact x
      · exact absurd (f_ge b x) hb
    rw [p_lt h1 h2]; exact Loc.le_refl _
  refine ⟨v, _, _, A', φ2, he, ⟨rfl, rfl⟩, ?_, ?_, ⟨⟨hev.ext.os, hev.ext.tape, hev.ext.output, hev.ext.size, hev.ext.same, fun n hn => hev.ext.own n (own2 hn)⟩, hev.up, hev.new, fun b => ?_, hev.b0⟩⟩
  · -- the blocks
    have get : ∀ b x, b ≠ s → (H.set s (.live sz es))[b]? = some x → b < H.length ∧ H[b]? = some x ∧ (H ++ [.dead, .live sz es])[b]? = some x := fun b x hb h => by
      rw [List.getElem?_set_ne (Ne.symm hb)] at h
      have hlt := (List.getElem?_eq_some_iff.1 h).1
      exact ⟨hlt, h, by rw [List.getElem?_append_left hlt]; exact h⟩
    refine ⟨fun b hb => ?_, fun b hb => ?_, fun b hb => ?_, fun b sz' es' hb => ?_, fun b b' n base sz room base' sz' room' h1 h2 => ?_, fun n hn => hr'.dis n (own2 hn), hr'.lt, fun n hn => hr'.olt n (own2 hn), fun n hn => hr'.ofr n (own2 hn), hr'.bsz⟩
    · rw [List.getElem?_eq_none_iff, List.length_set] at hb
      exact p_ge hb
    · have hne : b ≠ s := fun e => by subst e; rw [List.getElem?_set_self hs] at hb; cases hb
      obtain ⟨h1, _, h3⟩ := get b _ hne hb
      rw [p_lt hne h1]; exact hr'.free b h3
    · have hne : b ≠ s := fun e => by subst e; rw [List.getElem?_set_self hs] at hb; cases hb
      obtain ⟨h1, _, h3⟩ := get b _ hne hb
      rw [p_lt hne h1]; exact hr'.dead b h3
    · by_cases hne : b = s
      · subst hne
        rw [List.getElem?_set_self hs] at hb
        cases hb
        rw [p_s]
        rcases hr'.live (H.length + 1) sz es (by simp) with h1 | ⟨n, base, room, c, ty, h1, h2⟩
        · exact .inl h1
        · refine .inr ⟨n, base, room, c, ty, h1, h2.blk, h2.fits, h2.size, h2.len, fun i e j d k1 k2 => ?_⟩
          obtain ⟨u, k3, k4⟩ := h2.val i e j d k1 k2
          have k5 := k4.cut (K := 0) 4 (hx e (List.mem_of_getElem? k1) d (List.mem_of_getElem? k2))
          exact ⟨u, k3, V.mono (fun _ x => x) (fun _ _ => rfl) (fun b => .inl (by simp [cutφ])) k5⟩
      · obtain ⟨h1, h2, h3⟩ := get b _ hne hb
        rw [p_lt hne h1]
        rcases hr'.live b sz' es' h3 with h4 | ⟨n, base, room, c, ty, h4, h5⟩
        · exact .inl h4
        · refine .inr ⟨n, base, room, c, ty, h4, h5.blk, h5.fits, h5.size, h5.len, fun i e j d k1 k2 => ?_⟩
          obtain ⟨u, k3, k4⟩ := h5.val i e j d k1 k2
          rcases hr.live b sz' es' h2 with ⟨h6, _⟩ | ⟨n0, base0, room0, c0, ty0, h6, h7⟩
          · rw [h6] at k1; simp at k1
          · obtain ⟨u0, _, k5⟩ := h7.val i e j d k1 k2
            exact ⟨u, k3, k4.carry mono2 k5⟩
    · obtain ⟨c1, q1, r1, l1⟩ := back h1
      obtain ⟨c2, q2, r2, l2⟩ := back h2
      have := hr'.inj _ _ _ _ _ _ _ _ _ q1 q2
      rw [r1, r2] at this
      by_cases e1 : b = s
      · by_cases e2 : b' = s
        · rw [e1, e2]
        · simp [e1, e2] at this; omega
      · by_cases e2 : b' = s
        · simp [e1, e2] at this; omega
        · simpa [e1, e2] using this
  · cases hvd with
    | ms _ _ _ _ _ cap' a h1 h2 h3 => exact .ms _ _ _ _ _ _ _ h1 h2 (by rw [p_s]; exact h3)
  · by_cases h1 : b = s
    · subst h1; exact .inl f_s
    · by_cases h2 : b < H.length
      · rw [p_lt h1 h2]; exact hev.le b
      · exact .inl (f_ge b (by omega))
end Go.DL
