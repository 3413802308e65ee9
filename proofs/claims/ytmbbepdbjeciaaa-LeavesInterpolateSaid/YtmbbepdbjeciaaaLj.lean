/- The law LeavesInterpolate. -/
import Derived.Test.YtmbbepdbjeciaaaLd
import Derived.Test.YtmbbepdbjeciaaaDm3
import Derived.Test.YtmbbepdbjeciaaaDl30
set_option maxRecDepth 100000
namespace Go.DL
open Go.Proofs Go

theorem eDot_low (o : List Dot) (K : Nat) : BlkBelow K (.live 2 (o.map eDot)) := by
  intro e he d hd
  obtain ⟨x, _, rfl⟩ := List.mem_map.1 he
  simp only [List.mem_cons, List.not_mem_nil, or_false] at hd
  rcases hd with rfl | rfl <;> rfl
theorem eDot_no (o : List Dot) (k s : Nat) : BlkNo k s (.live 2 (o.map eDot)) := by
  intro e he d hd
  obtain ⟨x, _, rfl⟩ := List.mem_map.1 he
  simp only [List.mem_cons, List.not_mem_nil, or_false] at hd
  rcases hd with rfl | rfl <;> rfl
theorem snapDot {lk : Nat → Option Blk} {b cap : Nat} {o : List Dot} (h : lk b = some (.live 2 (o.map eDot))) : snap lk 5 (.ms b 0 o.length cap) = .sl (o.map eDot) := by
  have e : (o.map eDot).map (List.map (snap lk 4)) = o.map eDot := by
    rw [List.map_map]; exact List.map_congr_left fun x _ => rfl
  simp only [snap, h, Nat.zero_add, List.length_map, Nat.le_refl, if_true, List.drop_zero]
  rw [List.take_of_length_le (by simp), e]
theorem apart_of {l : List Dot} (h1 : l.all dotOk = true) (h2 : dups l = false) : DM.Apart (dX l) := by
  refine ⟨fun x hx => ?_, fun i j hij hj => ?_⟩
  · obtain ⟨p, hp, rfl⟩ := List.mem_map.1 hx
    exact (dotW_of h1 p hp).1
  · rw [dX_len] at hj
    have hd : dupAt l j = false := by
      have := List.any_eq_false.1 h2 j (by simpa using hj)
      simpa using this
    have h3 := List.any_eq_false.1 hd l[i] (List.mem_take_iff_getElem.2 ⟨i, by omega, rfl⟩)
    rw [dX_get l (show i < l.length by omega)]
    simpa using h3
theorem through_law {l : List Dot} (h : (ThroughS l).2 = 0) : l.length ≤ 40 ∧ dotW l ∧ DM.Apart (dX l) ∧ (ThroughS l).1 = DM.through (dX l) (dY l) := by
  unfold ThroughS at h ⊢
  split at h
  · cases h
  · rename_i h1
    rw [if_neg h1]
    split at h
    · rename_i h2
      rw [if_pos h2]
      split at h
      · cases h
      · rename_i h3
        rw [if_neg h3]
        exact ⟨by omega, dotW_of h2, apart_of h2 (by simpa using h3), rfl⟩
    · cases h
theorem horner_cg (c : List Int) (x : Int) : DM.Cg (horner c x) (DM.evP c x) := DM.horner_ev x c
theorem value_law {l : List Dot} (h : (ThroughS l).2 = 0) {k : Nat} (hk : k < l.length) : ValueS (ThroughS l).1 l[k].X = (l[k].Y, 0) := by
  obtain ⟨h1, h2, h3, h4⟩ := through_law h
  have hw := h2 l[k] (List.getElem_mem hk)
  have hlen : (ThroughS l).1.length = l.length := by rw [h4, DM.through_len, dX_len]
  have hall : (ThroughS l).1.all (fun a => decide (W a)) = true := List.all_eq_true.2 fun a ha => by
    rw [h4] at ha
    simpa using DM.through_W _ _ a ha
  unfold ValueS
  rw [if_neg (by rw [hlen]; omega), if_pos ⟨hw.1, hall⟩]
  have h5 := DM.through_at (ys := dY l) h3 (m := k) (by rw [dX_len]; exact hk)
  rw [dX_get l hk, dY_get l hk, ← h4] at h5
  rw [DM.Cg.word ((horner_cg _ _).trans h5) (horner_W _ _) hw.2]
/-- The points of a polynomial from a word on. -/
def dotsS (c : List Int) (a : Int) (k : Nat) : List Dot := (List.range k).map fun i : Nat => ⟨a + i, horner c (a + i)⟩
theorem dotsS_len (c : List Int) (a : Int) (k : Nat) : (dotsS c a k).length = k := by simp [dotsS]
theorem dotsS_succ (c : List Int) (a : Int) (k : Nat) : dotsS c a (k + 1) = dotsS c a k ++ [⟨a + k, horner c (a + k)⟩] := by
  simp [dotsS, List.range_succ]
theorem dotsS_get (c : List Int) (a : Int) {k i : Nat} (h : i < k) : (dotsS c a k)[i]'(by rw [dotsS_len]; exact h) = ⟨a + i, horner c (a + i)⟩ := by
  simp [dotsS]
theorem dots_law {c : List Int} {a : Int} (hc : allW c) (hl : c.length ≤ 8) (hw : ∀ j : Nat, j < c.length → W (a + j)) : ThroughS (dotsS c a c.length) = (c, 0) := by
  have hlen := dotsS_len c a c.length
  have hall : (dotsS c a c.length).all dotOk = true := List.all_eq_true.2 fun p hp => by
    obtain ⟨i, hi, rfl⟩ := List.mem_map.1 hp
    rw [List.mem_range] at hi
    simp only [dotOk, decide_eq_true_eq]
    exact ⟨hw i hi, horner_W _ _⟩
  have hd : dups (dotsS c a c.length) = false := List.any_eq_false.2 fun j hj => by
    rw [List.mem_range, hlen] at hj
    rw [Bool.not_eq_true]
    refine List.any_eq_false.2 fun p hp => ?_
    obtain ⟨i, hi, rfl⟩ := List.mem_take_iff_getElem.1 hp
    rw [dX_get _ (by rw [hlen]; exact hj), dotsS_get c a hj, dotsS_get c a (by omega)]
    simp only [decide_eq_true_eq]
    omega
  unfold ThroughS
  rw [if_neg (by rw [hlen]; omega), if_pos hall, if_neg (by rw [hd]; simp)]
  have hA := apart_of hall hd
  rw [DM.through_of (by rw [dX_len, hlen]) hA hc fun i hi => ?_]
  rw [dX_len, hlen] at hi
  rw [dX_get _ (by rw [hlen]; exact hi), dY_get _ (by rw [hlen]; exact hi), dotsS_get c a hi]
  exact (horner_cg _ _).symm
theorem inv_law {n : Int} (h0 : 1 ≤ n) (h1 : n ≤ 65520) : 1 ≤ inv n ∧ inv n ≤ 65520 ∧ 0 ≤ inv n * n ∧ inv n * n ≤ 4292870400 ∧ inv n * n % 65521 = 1 := by
  have hw := inv_W n
  have h2 : inv n * n % 65521 = 1 := by
    have h := DM.cg_iff.1 (DM.mul_invI (a := n) (by omega) h1)
    rw [Int.mul_comm]
    exact h
  have h3 : inv n ≠ 0 := fun e => by rw [e] at h2; simp at h2
  refine ⟨by omega, by omega, Int.mul_nonneg (by omega) (by omega), ?_, h2⟩
  have := Int.mul_le_mul (show inv n ≤ 65520 by omega) h1 (by omega) (by decide)
  omega

set_option maxHeartbeats 16000000 in
theorem m_LeavesInterpolate (hh : Maps Try.prog 7 [] (wB true)) (c : List Int) (a0 : Int) (l : List Dot) (n : Int) (hcl : c.length ≤ 4611686018427387904) (hl : l.length ≤ 4611686018427387904) (hf : -9223372036854775808 ≤ a0 ∧ a0 ≤ 9223372036854775807) :
    Maps Try.prog 4 [.sl (c.map eI), wI a0, .sl (l.map eDot), wI n] (wB true) := by
  refine Maps.vt pok Try.f4 (n := 133) (rs := [.tmp 8]) rfl rfl rfl rfl rfl rfl fun g => ?_
  by_cases hc8 : 8 < c.length
  · repeat (any_goals (first
        | (refine d_RT ?_; (first | refine RT.nil ?_ | (refine d_g ?_; (first | refine RT.gy rfl ?_ | refine RT.gn rfl rfl ?_ | refine RT.gu rfl ?_ | refine RT.gcY rfl rfl rfl (by first | assumption | omega) ?_ | refine RT.gcN rfl rfl rfl (by first | assumption | omega) ?_ | refine RT.gc rfl rfl rfl (fun hc => ?_) (fun hc => ?_) | refine RT.gb rfl rfl rfl (fun hc => ?_) (fun hc => ?_))) | (refine d_mv ?_; refine RT.v (by first | exact f_mvV rfl | exact f_mvS rfl | exact f_mvF rfl | exact f_mvO rfl | exact f_mvP rfl | exact f_mvR rfl | exact f_mvA rfl | exact f_mvT rfl | exact f_mvN rfl | exact f_mvU rfl | exact f_mvX rfl) ?_) | (refine d_as ?_; refine RT.v (by first | exact f_asV rfl | exact f_asS rfl | exact f_asF rfl | exact f_asO rfl | exact f_asP rfl | exact f_asR rfl | exact f_asA rfl | exact f_asT rfl | exact f_asN rfl | exact f_asU rfl | exact f_asX rfl) ?_) | (refine d_ld ?_; refine RT.v (by first | exact f_ldV rfl rfl | exact f_ldO rfl rfl rfl rfl rfl | exact f_ldW rfl rfl (by (first | omega | (simp only [List.length_set, List.length_replicate, List.length_append, List.length_map, List.length_cons, List.length_nil]; omega))) rfl | exact f_ldS rfl rfl | exact f_ldFl rfl rfl | exact f_ldOW rfl rfl rfl rfl rfl rfl | exact f_ldG rfl rfl rfl | exact f_ldA rfl rfl rfl rfl (by first | (simp only [nrm]; rfl) | (simp only [nrm, Nat.reduceAdd, Nat.zero_add]; rfl) | rfl)) ?_) | (refine d_fa ?_; refine RT.v (by first | exact f_fa0 rfl rfl (by decide) | exact f_fa1 rfl rfl (by decide) | exact f_fa2 rfl rfl (by decide) | exact f_fa3 rfl rfl (by decide) | exact f_faO0 (o := 0) rfl rfl (by decide) | exact f_faO0 (o := 1) rfl rfl (by decide) | exact f_faO0 (o := 2) rfl rfl (by decide) | exact f_faO0 (o := 3) rfl rfl (by decide) | exact f_faO0 rfl rfl (by decide) | exact f_faO rfl rfl (by decide)) ?_) | (refine d_bin ?_; refine RT.v (by first | exact f_lss rfl rfl | exact f_add rfl rfl (by omega) (by omega) | exact f_eql rfl rfl | exact f_neq rfl rfl | exact f_gtr rfl rfl | exact f_geq rfl rfl | exact f_mul rfl rfl (by omega) (by omega) | exact f_rem rfl rfl (by omega) (by omega)) ?_) | (refine d_call ?_; (first | (first | refine RT.callM rfl (hh) rfl rfl ?_ | refine RT.callM rfl (hh) (by first | (simp only [nrm]; rfl) | (simp only [nrm, Nat.reduceAdd, Nat.zero_add]; rfl) | rfl) rfl ?_) | refine RT.v (by first | exact f_lenM rfl rfl | exact f_lenF rfl rfl | exact f_lenO rfl rfl | exact f_lenN rfl rfl) ?_)) | (refine d_pk ?_; refine RT.v (by first | exact f_pickTV rfl rfl | exact f_pickFV rfl rfl) ?_) | (refine d_ext ?_; refine RT.v (f_ext rfl rfl) ?_) | (refine d_ix ?_; refine RT.v (by first | exact f_ixL rfl rfl (by first | with_reducible exact castR _ | with_reducible exact castS _ | rfl | omega) (by omega) rfl rfl | exact f_ix rfl rfl (by first | with_reducible exact castR _ | with_reducible exact castS _ | rfl | omega) (by assumption) rfl rfl | exact f_ixO0 rfl rfl (by first | with_reducible exact castR _ | with_reducible exact castS _ | rfl | omega) rfl rfl (by (first | omega | (simp only [List.length_set, List.length_replicate, List.length_append, List.length_map, List.length_cons, List.length_nil]; omega)))) ?_) | refine RT.new (by first | (simp only [nrm]; rfl) | (simp only [nrm, Nat.reduceAdd, Nat.zero_add]; rfl) | rfl) (f_bslW1 rfl rfl rfl) (by first | (simp only [nrm]; rfl) | (simp only [nrm, Nat.reduceAdd, Nat.zero_add]; rfl) | rfl) ?_ | refine RT.v (f_build rfl) ?_))
        | (refine d_VT ?_; (first | refine VT.seq rfl ?_ | refine VT.reg rfl ?_ | refine VT.condT rfl rfl ?_ | refine VT.condF rfl rfl ?_ | refine VT.condY rfl rfl (by first | assumption | omega) ?_ | refine VT.condN rfl rfl (by first | assumption | omega) ?_ | refine VT.condD rfl rfl (fun hc => ?_) (fun hc => ?_) | refine VT.cond rfl rfl (fun hc => ?_) (fun hc => ?_) | refine VT.block rfl ?_ | refine VT.skip rfl ?_ | refine VT.label rfl ?_ | refine VT.scope rfl ?_ | refine VT.exit rfl ?_ | refine VT.ret rfl ?_))
        | with_reducible (refine kSn ?_)
        | with_reducible (refine kSr ?_)
        | with_reducible (refine kBn ?_)
        | with_reducible (refine kBr ?_)
        | with_reducible (refine kSe ?_)
        | with_reducible (refine kBe ?_)
        | with_reducible (refine kBx (by decide) ?_)
        | with_reducible (refine kLn ?_)
        | with_reducible (refine kCn ?_)
        | with_reducible (refine kCr ?_)
        | with_reducible (refine kCe ?_)
        | with_reducible (refine kLr ?_)
        | with_reducible (refine kLe ?_)
        | (with_reducible refine d_kEr ?_; refine kEr rfl ?_)
        | (with_reducible refine d_kEn ?_; refine kEn rfl ?_)))
    rfl
  by_cases hl8 : 8 < l.length
  · repeat (any_goals (first
        | (refine d_RT ?_; (first | refine RT.nil ?_ | (refine d_g ?_; (first | refine RT.gy rfl ?_ | refine RT.gn rfl rfl ?_ | refine RT.gu rfl ?_ | refine RT.gcY rfl rfl rfl (by first | assumption | omega) ?_ | refine RT.gcN rfl rfl rfl (by first | assumption | omega) ?_ | refine RT.gc rfl rfl rfl (fun hc => ?_) (fun hc => ?_) | refine RT.gb rfl rfl rfl (fun hc => ?_) (fun hc => ?_))) | (refine d_mv ?_; refine RT.v (by first | exact f_mvV rfl | exact f_mvS rfl | exact f_mvF rfl | exact f_mvO rfl | exact f_mvP rfl | exact f_mvR rfl | exact f_mvA rfl | exact f_mvT rfl | exact f_mvN rfl | exact f_mvU rfl | exact f_mvX rfl) ?_) | (refine d_as ?_; refine RT.v (by first | exact f_asV rfl | exact f_asS rfl | exact f_asF rfl | exact f_asO rfl | exact f_asP rfl | exact f_asR rfl | exact f_asA rfl | exact f_asT rfl | exact f_asN rfl | exact f_asU rfl | exact f_asX rfl) ?_) | (refine d_ld ?_; refine RT.v (by first | exact f_ldV rfl rfl | exact f_ldO rfl rfl rfl rfl rfl | exact f_ldW rfl rfl (by (first | omega | (simp only [List.length_set, List.length_replicate, List.length_append, List.length_map, List.length_cons, List.length_nil]; omega))) rfl | exact f_ldS rfl rfl | exact f_ldFl rfl rfl | exact f_ldOW rfl rfl rfl rfl rfl rfl | exact f_ldG rfl rfl rfl | exact f_ldA rfl rfl rfl rfl (by first | (simp only [nrm]; rfl) | (simp only [nrm, Nat.reduceAdd, Nat.zero_add]; rfl) | rfl)) ?_) | (refine d_fa ?_; refine RT.v (by first | exact f_fa0 rfl rfl (by decide) | exact f_fa1 rfl rfl (by decide) | exact f_fa2 rfl rfl (by decide) | exact f_fa3 rfl rfl (by decide) | exact f_faO0 (o := 0) rfl rfl (by decide) | exact f_faO0 (o := 1) rfl rfl (by decide) | exact f_faO0 (o := 2) rfl rfl (by decide) | exact f_faO0 (o := 3) rfl rfl (by decide) | exact f_faO0 rfl rfl (by decide) | exact f_faO rfl rfl (by decide)) ?_) | (refine d_bin ?_; refine RT.v (by first | exact f_lss rfl rfl | exact f_add rfl rfl (by omega) (by omega) | exact f_eql rfl rfl | exact f_neq rfl rfl | exact f_gtr rfl rfl | exact f_geq rfl rfl | exact f_mul rfl rfl (by omega) (by omega) | exact f_rem rfl rfl (by omega) (by omega)) ?_) | (refine d_call ?_; (first | (first | refine RT.callM rfl (hh) rfl rfl ?_ | refine RT.callM rfl (hh) (by first | (simp only [nrm]; rfl) | (simp only [nrm, Nat.reduceAdd, Nat.zero_add]; rfl) | rfl) rfl ?_) | refine RT.v (by first | exact f_lenM rfl rfl | exact f_lenF rfl rfl | exact f_lenO rfl rfl | exact f_lenN rfl rfl) ?_)) | (refine d_pk ?_; refine RT.v (by first | exact f_pickTV rfl rfl | exact f_pickFV rfl rfl) ?_) | (refine d_ext ?_; refine RT.v (f_ext rfl rfl) ?_) | (refine d_ix ?_; refine RT.v (by first | exact f_ixL rfl rfl (by first | with_reducible exact castR _ | with_reducible exact castS _ | rfl | omega) (by omega) rfl rfl | exact f_ix rfl rfl (by first | with_reducible exact castR _ | with_reducible exact castS _ | rfl | omega) (by assumption) rfl rfl | exact f_ixO0 rfl rfl (by first | with_reducible exact castR _ | with_reducible exact castS _ | rfl | omega) rfl rfl (by (first | omega | (simp only [List.length_set, List.length_replicate, List.length_append, List.length_map, List.length_cons, List.length_nil]; omega)))) ?_) | refine RT.new (by first | (simp only [nrm]; rfl) | (simp only [nrm, Nat.reduceAdd, Nat.zero_add]; rfl) | rfl) (f_bslW1 rfl rfl rfl) (by first | (simp only [nrm]; rfl) | (simp only [nrm, Nat.reduceAdd, Nat.zero_add]; rfl) | rfl) ?_ | refine RT.v (f_build rfl) ?_))
        | (refine d_VT ?_; (first | refine VT.seq rfl ?_ | refine VT.reg rfl ?_ | refine VT.condT rfl rfl ?_ | refine VT.condF rfl rfl ?_ | refine VT.condY rfl rfl (by first | assumption | omega) ?_ | refine VT.condN rfl rfl (by first | assumption | omega) ?_ | refine VT.condD rfl rfl (fun hc => ?_) (fun hc => ?_) | refine VT.cond rfl rfl (fun hc => ?_) (fun hc => ?_) | refine VT.block rfl ?_ | refine VT.skip rfl ?_ | refine VT.label rfl ?_ | refine VT.scope rfl ?_ | refine VT.exit rfl ?_ | refine VT.ret rfl ?_))
        | with_reducible (refine kSn ?_)
        | with_reducible (refine kSr ?_)
        | with_reducible (refine kBn ?_)
        | with_reducible (refine kBr ?_)
        | with_reducible (refine kSe ?_)
        | with_reducible (refine kBe ?_)
        | with_reducible (refine kBx (by decide) ?_)
        | with_reducible (refine kLn ?_)
        | with_reducible (refine kCn ?_)
        | with_reducible (refine kCr ?_)
        | with_reducible (refine kCe ?_)
        | with_reducible (refine kLr ?_)
        | with_reducible (refine kLe ?_)
        | (with_reducible refine d_kEr ?_; refine kEr rfl ?_)
        | (with_reducible refine d_kEn ?_; refine kEn rfl ?_)))
    rfl
  have ht := m_Through l hl
  have hvl := fun e k hk => value_law (l := l) e (k := k) hk
  have hql : (ThroughS l).2 = 0 → (ThroughS l).1.length ≤ 4611686018427387904 := fun e => by
    obtain ⟨h1, _, _, h4⟩ := through_law e
    rw [h4, DM.through_len, dX_len]; omega
  obtain ⟨q, e1, hq⟩ : ∃ q e1, ThroughS l = (q, e1) := ⟨_, _, rfl⟩
  rw [hq] at ht hvl hql
  simp only at hvl hql
  change Maps Try.prog 12 [.sl (l.map eDot)] (.tup [.fl (q.map eI), wI e1]) at ht
  obtain ⟨m, e0, hi, hm⟩ : ∃ m e0, Maps Try.prog 8 [wI n] (.tup [wI m, wI e0]) ∧ (e0 = 0 → 1 ≤ m ∧ m ≤ 65520 ∧ 0 ≤ m * n ∧ m * n ≤ 4292870400 ∧ m * n % 65521 = 1) := by
    refine ⟨_, _, m_Inverse n, fun e => ?_⟩
    unfold InverseS at e ⊢
    split at e
    · rename_i hn
      rw [if_pos hn]
      exact inv_law hn.1 hn.2
    · cases e
  repeat (any_goals (first
      | (refine d_RT ?_; (first | refine RT.nil ?_ | (refine d_g ?_; (first | refine RT.gy rfl ?_ | refine RT.gn rfl rfl ?_ | refine RT.gu rfl ?_ | refine RT.gcY rfl rfl rfl (by first | assumption | omega) ?_ | refine RT.gcN rfl rfl rfl (by first | assumption | omega) ?_ | refine RT.gc rfl rfl rfl (fun hc => ?_) (fun hc => ?_) | refine RT.gb rfl rfl rfl (fun hc => ?_) (fun hc => ?_))) | (refine d_mv ?_; refine RT.v (by first | exact f_mvV rfl | exact f_mvS rfl | exact f_mvF rfl | exact f_mvO rfl | exact f_mvP rfl | exact f_mvR rfl | exact f_mvA rfl | exact f_mvT rfl | exact f_mvN rfl | exact f_mvU rfl | exact f_mvX rfl) ?_) | (refine d_as ?_; refine RT.v (by first | exact f_asV rfl | exact f_asS rfl | exact f_asF rfl | exact f_asO rfl | exact f_asP rfl | exact f_asR rfl | exact f_asA rfl | exact f_asT rfl | exact f_asN rfl | exact f_asU rfl | exact f_asX rfl) ?_) | (refine d_ld ?_; refine RT.v (by first | exact f_ldV rfl rfl | exact f_ldO rfl rfl rfl rfl rfl | exact f_ldW rfl rfl (by (first | omega | (simp only [List.length_set, List.length_replicate, List.length_append, List.length_map, List.length_cons, List.length_nil]; omega))) rfl | exact f_ldS rfl rfl | exact f_ldFl rfl rfl | exact f_ldOW rfl rfl rfl rfl rfl rfl | exact f_ldG rfl rfl rfl | exact f_ldA rfl rfl rfl rfl (by first | (simp only [nrm]; rfl) | (simp only [nrm, Nat.reduceAdd, Nat.zero_add]; rfl) | rfl)) ?_) | (refine d_fa ?_; refine RT.v (by first | exact f_fa0 rfl rfl (by decide) | exact f_fa1 rfl rfl (by decide) | exact f_fa2 rfl rfl (by decide) | exact f_fa3 rfl rfl (by decide) | exact f_faO0 (o := 0) rfl rfl (by decide) | exact f_faO0 (o := 1) rfl rfl (by decide) | exact f_faO0 (o := 2) rfl rfl (by decide) | exact f_faO0 (o := 3) rfl rfl (by decide) | exact f_faO0 rfl rfl (by decide) | exact f_faO rfl rfl (by decide)) ?_) | (refine d_bin ?_; refine RT.v (by first | exact f_lss rfl rfl | exact f_add rfl rfl (by omega) (by omega) | exact f_eql rfl rfl | exact f_neq rfl rfl | exact f_gtr rfl rfl | exact f_geq rfl rfl | exact f_mul rfl rfl (by omega) (by omega) | exact f_rem rfl rfl (by omega) (by omega)) ?_) | (refine d_call ?_; (first | (first | refine RT.callM rfl (hh) rfl rfl ?_ | refine RT.callM rfl (hh) (by first | (simp only [nrm]; rfl) | (simp only [nrm, Nat.reduceAdd, Nat.zero_add]; rfl) | rfl) rfl ?_) | (first | refine RT.callM rfl (hi) rfl rfl ?_ | refine RT.callM rfl (hi) (by first | (simp only [nrm]; rfl) | (simp only [nrm, Nat.reduceAdd, Nat.zero_add]; rfl) | rfl) rfl ?_) | (first | refine RT.callM rfl (ht) rfl rfl ?_ | refine RT.callM rfl (ht) (by first | (simp only [nrm]; rfl) | (simp only [nrm, Nat.reduceAdd, Nat.zero_add]; rfl) | rfl) rfl ?_) | refine RT.v (by first | exact f_lenM rfl rfl | exact f_lenF rfl rfl | exact f_lenO rfl rfl | exact f_lenN rfl rfl) ?_)) | (refine d_pk ?_; refine RT.v (by first | exact f_pickTV rfl rfl | exact f_pickFV rfl rfl) ?_) | (refine d_ext ?_; refine RT.v (f_ext rfl rfl) ?_) | (refine d_ix ?_; refine RT.v (by first | exact f_ixL rfl rfl (by first | with_reducible exact castR _ | with_reducible exact castS _ | rfl | omega) (by omega) rfl rfl | exact f_ix rfl rfl (by first | with_reducible exact castR _ | with_reducible exact castS _ | rfl | omega) (by assumption) rfl rfl | exact f_ixO0 rfl rfl (by first | with_reducible exact castR _ | with_reducible exact castS _ | rfl | omega) rfl rfl (by (first | omega | (simp only [List.length_set, List.length_replicate, List.length_append, List.length_map, List.length_cons, List.length_nil]; omega)))) ?_) | refine RT.new (by first | (simp only [nrm]; rfl) | (simp only [nrm, Nat.reduceAdd, Nat.zero_add]; rfl) | rfl) (f_bslW1 rfl rfl rfl) (by first | (simp only [nrm]; rfl) | (simp only [nrm, Nat.reduceAdd, Nat.zero_add]; rfl) | rfl) ?_ | refine RT.v (f_build rfl) ?_))
      | (refine d_VT ?_; (first | refine VT.seq rfl ?_ | refine VT.reg rfl ?_ | refine VT.condT rfl rfl ?_ | refine VT.condF rfl rfl ?_ | refine VT.condY rfl rfl (by first | assumption | omega) ?_ | refine VT.condN rfl rfl (by first | assumption | omega) ?_ | refine VT.condD rfl rfl (fun hc => ?_) (fun hc => ?_) | refine VT.cond rfl rfl (fun hc => ?_) (fun hc => ?_) | refine VT.block rfl ?_ | refine VT.skip rfl ?_ | refine VT.label rfl ?_ | refine VT.scope rfl ?_ | refine VT.exit rfl ?_ | refine VT.ret rfl ?_))
      | with_reducible (refine kSn ?_)
      | with_reducible (refine kSr ?_)
      | with_reducible (refine kBn ?_)
      | with_reducible (refine kBr ?_)
      | with_reducible (refine kSe ?_)
      | with_reducible (refine kBe ?_)
      | with_reducible (refine kBx (by decide) ?_)
      | with_reducible (refine kLn ?_)
      | with_reducible (refine kCn ?_)
      | with_reducible (refine kCr ?_)
      | with_reducible (refine kCe ?_)
      | with_reducible (refine kLr ?_)
      | with_reducible (refine kLe ?_)
      | (with_reducible refine d_kEr ?_; refine kEr rfl ?_)
      | (with_reducible refine d_kEn ?_; refine kEn rfl ?_)))
  all_goals
    refine VT.loop (fun j a H g' => ∃ k : Nat, j = l.length - k ∧ k ≤ l.length ∧ a = [(0, .sl (c.map eI)), (1, wI a0), (2, .sl (l.map eDot)), (9, wB true), (12, .fl (q.map eI)), (13, wI e1), (14, wI k)] ∧ H = [] ∧ g' = g) rfl
      ⟨_, _, _, ⟨0, rfl, Nat.zero_le _, rfl, rfl, rfl⟩, Wk.fg ⟨by (repeat first | exact True.intro | refine And.intro ?_ ?_ | exact Or.inr (Or.inl rfl) | exact Or.inl rfl | (refine DLe.i rfl ?_; omega) | (refine DLe.i rfl ?_; simp; done)), rfl, (by first | decide | exact Nat.zero_le _ | exact Nat.le_refl _ | (first | omega | (simp only [List.length_set, List.length_replicate, List.length_append, List.length_map, List.length_cons, List.length_nil]; omega))), (by first | rfl | simp_all [lowB]), by (repeat first | exact bb_nil | refine bb_cons ?_ ?_ | exact eI_low _ _ | exact eDot_low _ _ | exact bb_dead | exact bb_free | exact bb_lit rfl | (simp [BlkBelow, lowB]; done))⟩⟩ ?_
    rintro j a H g' ⟨k, rfl, hk, rfl, rfl, rfl⟩
    by_cases hgo : k < l.length ∧ e1 = 0
    · have hlt := hgo.1
      have he := hgo.2
      have hv := m_Value q l[k].X (hql he)
      rw [hvl he k hlt] at hv
      change Maps Try.prog 10 [.sl (q.map eI), wI l[k].X] (.tup [wI l[k].Y, wI 0]) at hv
      repeat (any_goals (first
          | (refine d_RT ?_; (first | refine RT.nil ?_ | (refine d_g ?_; (first | refine RT.gy rfl ?_ | refine RT.gn rfl rfl ?_ | refine RT.gu rfl ?_ | refine RT.gcY rfl rfl rfl (by first | assumption | omega) ?_ | refine RT.gcN rfl rfl rfl (by first | assumption | omega) ?_ | refine RT.gc rfl rfl rfl (fun hc => ?_) (fun hc => ?_) | refine RT.gb rfl rfl rfl (fun hc => ?_) (fun hc => ?_))) | (refine d_mv ?_; refine RT.v (by first | exact f_mvV rfl | exact f_mvS rfl | exact f_mvF rfl | exact f_mvO rfl | exact f_mvP rfl | exact f_mvR rfl | exact f_mvA rfl | exact f_mvT rfl | exact f_mvN rfl | exact f_mvU rfl | exact f_mvX rfl) ?_) | (refine d_as ?_; refine RT.v (by first | exact f_asV rfl | exact f_asS rfl | exact f_asF rfl | exact f_asO rfl | exact f_asP rfl | exact f_asR rfl | exact f_asA rfl | exact f_asT rfl | exact f_asN rfl | exact f_asU rfl | exact f_asX rfl) ?_) | (refine d_ld ?_; refine RT.v (by first | exact f_ldV rfl rfl | exact f_ldO rfl rfl rfl rfl rfl | exact f_ldW rfl rfl (by (first | omega | (simp only [List.length_set, List.length_replicate, List.length_append, List.length_map, List.length_cons, List.length_nil]; omega))) rfl | exact f_ldS rfl rfl | exact f_ldFl rfl rfl | exact f_ldOW rfl rfl rfl rfl rfl rfl | exact f_ldG rfl rfl rfl | exact f_ldA rfl rfl rfl rfl (by first | (simp only [nrm]; rfl) | (simp only [nrm, Nat.reduceAdd, Nat.zero_add]; rfl) | rfl)) ?_) | (refine d_fa ?_; refine RT.v (by first | exact f_fa0 rfl rfl (by decide) | exact f_fa1 rfl rfl (by decide) | exact f_fa2 rfl rfl (by decide) | exact f_fa3 rfl rfl (by decide) | exact f_faO0 (o := 0) rfl rfl (by decide) | exact f_faO0 (o := 1) rfl rfl (by decide) | exact f_faO0 (o := 2) rfl rfl (by decide) | exact f_faO0 (o := 3) rfl rfl (by decide) | exact f_faO0 rfl rfl (by decide) | exact f_faO rfl rfl (by decide)) ?_) | (refine d_bin ?_; refine RT.v (by first | exact f_lss rfl rfl | exact f_add rfl rfl (by omega) (by omega) | exact f_eql rfl rfl | exact f_neq rfl rfl | exact f_gtr rfl rfl | exact f_geq rfl rfl | exact f_mul rfl rfl (by omega) (by omega) | exact f_rem rfl rfl (by omega) (by omega)) ?_) | (refine d_call ?_; (first | (first | refine RT.callM rfl (hv) rfl rfl ?_ | refine RT.callM rfl (hv) (by first | (simp only [nrm]; rfl) | (simp only [nrm, Nat.reduceAdd, Nat.zero_add]; rfl) | rfl) rfl ?_) | refine RT.v (by first | exact f_lenM rfl rfl | exact f_lenF rfl rfl | exact f_lenO rfl rfl | exact f_lenN rfl rfl) ?_)) | (refine d_pk ?_; refine RT.v (by first | exact f_pickTV rfl rfl | exact f_pickFV rfl rfl) ?_) | (refine d_ext ?_; refine RT.v (f_ext rfl rfl) ?_) | (refine d_ix ?_; refine RT.v (by first | exact f_ixL rfl rfl (by first | with_reducible exact castR _ | with_reducible exact castS _ | rfl | omega) (by omega) rfl rfl | exact f_ix rfl rfl (by first | with_reducible exact castR _ | with_reducible exact castS _ | rfl | omega) (by assumption) rfl rfl | exact f_ixO0 rfl rfl (by first | with_reducible exact castR _ | with_reducible exact castS _ | rfl | omega) rfl rfl (by (first | omega | (simp only [List.length_set, List.length_replicate, List.length_append, List.length_map, List.length_cons, List.length_nil]; omega)))) ?_) | refine RT.new (by first | (simp only [nrm]; rfl) | (simp only [nrm, Nat.reduceAdd, Nat.zero_add]; rfl) | rfl) (f_bslW1 rfl rfl rfl) (by first | (simp only [nrm]; rfl) | (simp only [nrm, Nat.reduceAdd, Nat.zero_add]; rfl) | rfl) ?_ | refine RT.v (f_build rfl) ?_))
          | (refine d_VT ?_; (first | refine VT.seq rfl ?_ | refine VT.reg rfl ?_ | refine VT.condT rfl rfl ?_ | refine VT.condF rfl rfl ?_ | refine VT.condY rfl rfl (by first | assumption | omega) ?_ | refine VT.condN rfl rfl (by first | assumption | omega) ?_ | refine VT.condD rfl rfl (fun hc => ?_) (fun hc => ?_) | refine VT.cond rfl rfl (fun hc => ?_) (fun hc => ?_) | refine VT.block rfl ?_ | refine VT.skip rfl ?_ | refine VT.label rfl ?_ | refine VT.scope rfl ?_ | refine VT.exit rfl ?_ | refine VT.ret rfl ?_))
          | with_reducible (refine kSn ?_)
          | with_reducible (refine kSr ?_)
          | with_reducible (refine kBn ?_)
          | with_reducible (refine kBr ?_)
          | with_reducible (refine kSe ?_)
          | with_reducible (refine kBe ?_)
          | with_reducible (refine kBx (by decide) ?_)
          | with_reducible (refine kLn ?_)
          | with_reducible (refine kCn ?_)
          | with_reducible (refine kCr ?_)
          | with_reducible (refine kCe ?_)
          | with_reducible (refine kLr ?_)
          | with_reducible (refine kLe ?_)
          | (with_reducible refine d_kEr ?_; refine kEr rfl ?_)
          | (with_reducible refine d_kEn ?_; refine kEn rfl ?_)))
      exact ⟨l.length - (k + 1), by omega, _, _, ⟨k + 1, rfl, hlt, rfl, rfl, rfl⟩, Wk.fg ⟨by (repeat first | exact True.intro | refine And.intro ?_ ?_ | exact Or.inr (Or.inl rfl) | exact Or.inl rfl | (refine DLe.i rfl ?_; omega) | (refine DLe.i rfl ?_; simp; done)), rfl, (by first | decide | exact Nat.zero_le _ | exact Nat.le_refl _ | (first | omega | (simp only [List.length_set, List.length_replicate, List.length_append, List.length_map, List.length_cons, List.length_nil]; omega))), (by first | rfl | simp_all [lowB]), by (repeat first | exact bb_nil | refine bb_cons ?_ ?_ | exact eI_low _ _ | exact eDot_low _ _ | exact bb_dead | exact bb_free | exact bb_lit rfl | (simp [BlkBelow, lowB]; done))⟩⟩
    · have hx : k < l.length → ¬ e1 = 0 := fun h e => hgo ⟨h, e⟩
      repeat (any_goals (first
          | (refine d_RT ?_; (first | refine RT.nil ?_ | (refine d_g ?_; (first | refine RT.gy rfl ?_ | refine RT.gn rfl rfl ?_ | refine RT.gu rfl ?_ | refine RT.gcY rfl rfl rfl (by first | assumption | omega) ?_ | refine RT.gcN rfl rfl rfl (by first | assumption | omega) ?_ | refine RT.gc rfl rfl rfl (fun hc => ?_) (fun hc => ?_) | refine RT.gb rfl rfl rfl (fun hc => ?_) (fun hc => ?_))) | (refine d_mv ?_; refine RT.v (by first | exact f_mvV rfl | exact f_mvS rfl | exact f_mvF rfl | exact f_mvO rfl | exact f_mvP rfl | exact f_mvR rfl | exact f_mvA rfl | exact f_mvT rfl | exact f_mvN rfl | exact f_mvU rfl | exact f_mvX rfl) ?_) | (refine d_as ?_; refine RT.v (by first | exact f_asV rfl | exact f_asS rfl | exact f_asF rfl | exact f_asO rfl | exact f_asP rfl | exact f_asR rfl | exact f_asA rfl | exact f_asT rfl | exact f_asN rfl | exact f_asU rfl | exact f_asX rfl) ?_) | (refine d_ld ?_; refine RT.v (by first | exact f_ldV rfl rfl | exact f_ldO rfl rfl rfl rfl rfl | exact f_ldW rfl rfl (by (first | omega | (simp only [List.length_set, List.length_replicate, List.length_append, List.length_map, List.length_cons, List.length_nil]; omega))) rfl | exact f_ldS rfl rfl | exact f_ldFl rfl rfl | exact f_ldOW rfl rfl rfl rfl rfl rfl | exact f_ldG rfl rfl rfl | exact f_ldA rfl rfl rfl rfl (by first | (simp only [nrm]; rfl) | (simp only [nrm, Nat.reduceAdd, Nat.zero_add]; rfl) | rfl)) ?_) | (refine d_fa ?_; refine RT.v (by first | exact f_fa0 rfl rfl (by decide) | exact f_fa1 rfl rfl (by decide) | exact f_fa2 rfl rfl (by decide) | exact f_fa3 rfl rfl (by decide) | exact f_faO0 (o := 0) rfl rfl (by decide) | exact f_faO0 (o := 1) rfl rfl (by decide) | exact f_faO0 (o := 2) rfl rfl (by decide) | exact f_faO0 (o := 3) rfl rfl (by decide) | exact f_faO0 rfl rfl (by decide) | exact f_faO rfl rfl (by decide)) ?_) | (refine d_bin ?_; refine RT.v (by first | exact f_lss rfl rfl | exact f_add rfl rfl (by omega) (by omega) | exact f_eql rfl rfl | exact f_neq rfl rfl | exact f_gtr rfl rfl | exact f_geq rfl rfl | exact f_mul rfl rfl (by omega) (by omega) | exact f_rem rfl rfl (by omega) (by omega)) ?_) | (refine d_call ?_; refine RT.v (by first | exact f_lenM rfl rfl | exact f_lenF rfl rfl | exact f_lenO rfl rfl | exact f_lenN rfl rfl) ?_) | (refine d_pk ?_; refine RT.v (by first | exact f_pickTV rfl rfl | exact f_pickFV rfl rfl) ?_) | (refine d_ext ?_; refine RT.v (f_ext rfl rfl) ?_) | (refine d_ix ?_; refine RT.v (by first | exact f_ixL rfl rfl (by first | with_reducible exact castR _ | with_reducible exact castS _ | rfl | omega) (by omega) rfl rfl | exact f_ix rfl rfl (by first | with_reducible exact castR _ | with_reducible exact castS _ | rfl | omega) (by assumption) rfl rfl | exact f_ixO0 rfl rfl (by first | with_reducible exact castR _ | with_reducible exact castS _ | rfl | omega) rfl rfl (by (first | omega | (simp only [List.length_set, List.length_replicate, List.length_append, List.length_map, List.length_cons, List.length_nil]; omega)))) ?_) | refine RT.new (by first | (simp only [nrm]; rfl) | (simp only [nrm, Nat.reduceAdd, Nat.zero_add]; rfl) | rfl) (f_bslW1 rfl rfl rfl) (by first | (simp only [nrm]; rfl) | (simp only [nrm, Nat.reduceAdd, Nat.zero_add]; rfl) | rfl) ?_ | refine RT.v (f_build rfl) ?_))
          | (refine d_VT ?_; (first | refine VT.seq rfl ?_ | refine VT.reg rfl ?_ | refine VT.condT rfl rfl ?_ | refine VT.condF rfl rfl ?_ | refine VT.condY rfl rfl (by first | assumption | omega) ?_ | refine VT.condN rfl rfl (by first | assumption | omega) ?_ | refine VT.condD rfl rfl (fun hc => ?_) (fun hc => ?_) | refine VT.cond rfl rfl (fun hc => ?_) (fun hc => ?_) | refine VT.block rfl ?_ | refine VT.skip rfl ?_ | refine VT.label rfl ?_ | refine VT.scope rfl ?_ | refine VT.exit rfl ?_ | refine VT.ret rfl ?_))
          | with_reducible (refine kSn ?_)
          | with_reducible (refine kSr ?_)
          | with_reducible (refine kBn ?_)
          | with_reducible (refine kBr ?_)
          | with_reducible (refine kSe ?_)
          | with_reducible (refine kBe ?_)
          | with_reducible (refine kBx (by decide) ?_)
          | with_reducible (refine kLn ?_)
          | with_reducible (refine kCn ?_)
          | with_reducible (refine kCr ?_)
          | with_reducible (refine kCe ?_)
          | with_reducible (refine kLr ?_)
          | with_reducible (refine kLe ?_)
          | (with_reducible refine d_kEr ?_; refine kEr rfl ?_)
          | (with_reducible refine d_kEn ?_; refine kEn rfl ?_)))
      all_goals
        refine VT.phantom (i := 17) (s := 0) (H' := [.live 2 []]) 2 rfl rfl rfl ?_
        refine VT.loop (fun j a H g2 => ∃ (k : Nat) (o : List Dot), j = c.length - k ∧ k ≤ c.length ∧ o = dotsS c a0 k ∧ (0 < k → allW c) ∧ (∀ i : Nat, i < k → W (a0 + i)) ∧ a = [(0, .sl (c.map eI)), (1, wI a0), (9, wB true), (17, .ms 0 0 o.length o.length), (18, wI k)] ∧ H = [.live 2 (o.map eDot)] ∧ g2 = g') rfl
          ⟨_, _, _, ⟨0, [], rfl, Nat.zero_le _, rfl, fun h => absurd h (by decide), fun i h => absurd h (Nat.not_lt_zero _), rfl, rfl, rfl⟩, Wk.fg ⟨by (repeat first | exact True.intro | refine And.intro ?_ ?_ | exact Or.inr (Or.inl rfl) | exact Or.inl rfl | (refine DLe.i rfl ?_; omega) | (refine DLe.i rfl ?_; simp; done)), rfl, (by first | decide | exact Nat.zero_le _ | exact Nat.le_refl _ | (first | omega | (simp only [List.length_set, List.length_replicate, List.length_append, List.length_map, List.length_cons, List.length_nil]; omega))), (by first | rfl | simp_all [lowB]), by (repeat first | exact bb_nil | refine bb_cons ?_ ?_ | exact eI_low _ _ | exact eDot_low _ _ | exact bb_dead | exact bb_free | exact bb_lit rfl | (simp [BlkBelow, lowB]; done))⟩⟩ ?_
        rintro j a H g2 ⟨k, o, rfl, hk, ho, hcw, hw, rfl, rfl, rfl⟩
        by_cases hlt : k < c.length
        · have hb : -9223372036854775808 ≤ a0 + k ∧ a0 + k ≤ 9223372036854775807 := by
            rcases Nat.eq_zero_or_pos k with e | e
            · subst e; simpa using hf
            · have := hw (k - 1) (by omega)
              have e2 : ((k - 1 : Nat) : Int) = (k : Int) - 1 := by omega
              rw [e2] at this
              omega
          by_cases hok : W (a0 + k) ∧ c.all (fun a => decide (W a)) = true
          · have hv := m_Value c (a0 + k) hcl
            rw [ValueS, if_neg (by omega), if_pos hok] at hv
            change Maps Try.prog 10 [.sl (c.map eI), wI (a0 + k)] (.tup [wI (horner c (a0 + k)), wI 0]) at hv
            have hol : o.length = k := by rw [ho, dotsS_len]
            repeat (any_goals (first
                | (refine d_RT ?_; (first | refine RT.nil ?_ | (refine d_bld ?_; refine RT.v (f_build (d := .agg [wI (a0 + k), wI (horner c (a0 + k))]) rfl) ?_) | refine RT.new (by first | (simp only [nrm]; rfl) | (simp only [nrm, Nat.reduceAdd, Nat.zero_add]; rfl) | rfl) (f_bsl (ps := [(0, .tmp 114)]) (sz := 2) (es := [eDot ⟨a0 + k, horner c (a0 + k)⟩]) rfl) (by first | (simp only [nrm]; rfl) | (simp only [nrm, Nat.reduceAdd, Nat.zero_add]; rfl) | rfl) ?_ | refine RT.ap (by first | (simp only [nrm]; rfl) | (simp only [nrm, Nat.reduceAdd, Nat.zero_add]; rfl) | rfl) (f_appG (f := eDot) (o := o) (v := [⟨a0 + k, horner c (a0 + k)⟩]) (by' := 16) rfl rfl rfl rfl rfl rfl rfl (by decide) rfl rfl (fun _ => ⟨rfl, rfl⟩) (by rw [hol]; simp; omega) (by rw [hol]; simp; omega)) (by first | (simp only [nrm]; rfl) | (simp only [nrm, Nat.reduceAdd, Nat.zero_add]; rfl) | rfl) ?_ | (refine d_g ?_; (first | refine RT.gy rfl ?_ | refine RT.gn rfl rfl ?_ | refine RT.gu rfl ?_ | refine RT.gcY rfl rfl rfl (by first | assumption | omega) ?_ | refine RT.gcN rfl rfl rfl (by first | assumption | omega) ?_ | refine RT.gc rfl rfl rfl (fun hc => ?_) (fun hc => ?_) | refine RT.gb rfl rfl rfl (fun hc => ?_) (fun hc => ?_))) | (refine d_mv ?_; refine RT.v (by first | exact f_mvV rfl | exact f_mvS rfl | exact f_mvF rfl | exact f_mvO rfl | exact f_mvP rfl | exact f_mvR rfl | exact f_mvA rfl | exact f_mvT rfl | exact f_mvN rfl | exact f_mvU rfl | exact f_mvX rfl) ?_) | (refine d_as ?_; refine RT.v (by first | exact f_asV rfl | exact f_asS rfl | exact f_asF rfl | exact f_asO rfl | exact f_asP rfl | exact f_asR rfl | exact f_asA rfl | exact f_asT rfl | exact f_asN rfl | exact f_asU rfl | exact f_asX rfl) ?_) | (refine d_ld ?_; refine RT.v (by first | exact f_ldV rfl rfl | exact f_ldO rfl rfl rfl rfl rfl | exact f_ldW rfl rfl (by (first | omega | (simp only [List.length_set, List.length_replicate, List.length_append, List.length_map, List.length_cons, List.length_nil]; omega))) rfl | exact f_ldS rfl rfl | exact f_ldFl rfl rfl | exact f_ldOW rfl rfl rfl rfl rfl rfl | exact f_ldG rfl rfl rfl | exact f_ldA rfl rfl rfl rfl (by first | (simp only [nrm]; rfl) | (simp only [nrm, Nat.reduceAdd, Nat.zero_add]; rfl) | rfl)) ?_) | (refine d_fa ?_; refine RT.v (by first | exact f_fa0 rfl rfl (by decide) | exact f_fa1 rfl rfl (by decide) | exact f_fa2 rfl rfl (by decide) | exact f_fa3 rfl rfl (by decide) | exact f_faO0 (o := 0) rfl rfl (by decide) | exact f_faO0 (o := 1) rfl rfl (by decide) | exact f_faO0 (o := 2) rfl rfl (by decide) | exact f_faO0 (o := 3) rfl rfl (by decide) | exact f_faO0 rfl rfl (by decide) | exact f_faO rfl rfl (by decide)) ?_) | (refine d_bin ?_; refine RT.v (by first | exact f_lss rfl rfl | exact f_add rfl rfl (by omega) (by omega) | exact f_eql rfl rfl | exact f_neq rfl rfl | exact f_gtr rfl rfl | exact f_geq rfl rfl | exact f_mul rfl rfl (by omega) (by omega) | exact f_rem rfl rfl (by omega) (by omega)) ?_) | (refine d_call ?_; (first | (first | refine RT.callM rfl (hv) rfl rfl ?_ | refine RT.callM rfl (hv) (by first | (simp only [nrm]; rfl) | (simp only [nrm, Nat.reduceAdd, Nat.zero_add]; rfl) | rfl) rfl ?_) | refine RT.v (by first | exact f_lenM rfl rfl | exact f_lenF rfl rfl | exact f_lenO rfl rfl | exact f_lenN rfl rfl) ?_)) | (refine d_pk ?_; refine RT.v (by first | exact f_pickTV rfl rfl | exact f_pickFV rfl rfl) ?_) | (refine d_ext ?_; refine RT.v (f_ext rfl rfl) ?_) | (refine d_ix ?_; refine RT.v (by first | exact f_ixL rfl rfl (by first | with_reducible exact castR _ | with_reducible exact castS _ | rfl | omega) (by omega) rfl rfl | exact f_ix rfl rfl (by first | with_reducible exact castR _ | with_reducible exact castS _ | rfl | omega) (by assumption) rfl rfl | exact f_ixO0 rfl rfl (by first | with_reducible exact castR _ | with_reducible exact castS _ | rfl | omega) rfl rfl (by (first | omega | (simp only [List.length_set, List.length_replicate, List.length_append, List.length_map, List.length_cons, List.length_nil]; omega)))) ?_) | refine RT.new (by first | (simp only [nrm]; rfl) | (simp only [nrm, Nat.reduceAdd, Nat.zero_add]; rfl) | rfl) (f_bslW1 rfl rfl rfl) (by first | (simp only [nrm]; rfl) | (simp only [nrm, Nat.reduceAdd, Nat.zero_add]; rfl) | rfl) ?_ | refine RT.v (f_build rfl) ?_))
                | (refine d_VT ?_; (first | refine VT.seq rfl ?_ | refine VT.reg rfl ?_ | refine VT.condT rfl rfl ?_ | refine VT.condF rfl rfl ?_ | refine VT.condY rfl rfl (by first | assumption | omega) ?_ | refine VT.condN rfl rfl (by first | assumption | omega) ?_ | refine VT.condD rfl rfl (fun hc => ?_) (fun hc => ?_) | refine VT.cond rfl rfl (fun hc => ?_) (fun hc => ?_) | refine VT.block rfl ?_ | refine VT.skip rfl ?_ | refine VT.label rfl ?_ | refine VT.scope rfl ?_ | refine VT.exit rfl ?_ | refine VT.ret rfl ?_))
                | with_reducible (refine kSn ?_)
                | with_reducible (refine kSr ?_)
                | with_reducible (refine kBn ?_)
                | with_reducible (refine kBr ?_)
                | with_reducible (refine kSe ?_)
                | with_reducible (refine kBe ?_)
                | with_reducible (refine kBx (by decide) ?_)
                | with_reducible (refine kLn ?_)
                | with_reducible (refine kCn ?_)
                | with_reducible (refine kCr ?_)
                | with_reducible (refine kCe ?_)
                | with_reducible (refine kLr ?_)
                | with_reducible (refine kLe ?_)
                | (with_reducible refine d_kEr ?_; refine kEr rfl ?_)
                | (with_reducible refine d_kEn ?_; refine kEn rfl ?_)))
            refine ⟨c.length - (k + 1), by omega, _, _, ⟨k + 1, o ++ [⟨a0 + k, horner c (a0 + k)⟩], rfl, hlt, by rw [ho, dotsS_succ], fun _ => allW_of hok.2, fun i hi => ?_, rfl, rfl, rfl⟩, (Wk.mv (k := 2) (s := 0) (a' := [(0, .sl (c.map eI)), (1, wI a0), (9, wB true), (17, .ms 0 0 (o ++ [Dot.mk (a0 + k) (horner c (a0 + k))]).length (o ++ [Dot.mk (a0 + k) (horner c (a0 + k))]).length), (18, wI (k + 1 : Nat))]) rfl rfl rfl (by first | decide | exact Nat.zero_le _) (by first | decide | exact Nat.zero_le _) (by (repeat first | exact True.intro | refine And.intro ?_ ?_ | exact Or.inr (Or.inr (Or.inl ⟨_, _, _, rfl, rfl⟩)) | exact Or.inr (Or.inl ⟨rfl, rfl⟩) | exact Or.inl rfl)) (by (repeat first | exact bn_nil | refine bn_cons ?_ ?_ | exact eI_no _ _ _ | exact eDot_no _ _ _ | exact bn_dead | exact bn_free | exact bn_lit rfl)) (by first | (simp only [nrm]; rfl) | (simp only [nrm, Nat.reduceAdd, Nat.zero_add]; rfl) | rfl)).trans <| Wk.fg ⟨by (repeat first | exact True.intro | refine And.intro ?_ ?_ | exact Or.inr (Or.inl rfl) | exact Or.inl rfl | (refine DLe.i rfl ?_; omega) | (refine DLe.i rfl ?_; simp; done)), rfl, (by first | decide | exact Nat.zero_le _ | exact Nat.le_refl _ | (first | omega | (simp only [List.length_set, List.length_replicate, List.length_append, List.length_map, List.length_cons, List.length_nil]; omega))), (by first | rfl | simp_all [lowB]), by (repeat first | exact bb_nil | refine bb_cons ?_ ?_ | exact eI_low _ _ | exact eDot_low _ _ | exact bb_dead | exact bb_free | exact bb_lit rfl | (simp [BlkBelow, lowB]; done))⟩⟩
            rcases Nat.lt_or_ge i k with h | h
            · exact hw i h
            · obtain rfl : i = k := by omega
              exact hok.1
          · have hv := m_Value c (a0 + k) hcl
            rw [ValueS, if_neg (by omega), if_neg hok] at hv
            change Maps Try.prog 10 [.sl (c.map eI), wI (a0 + k)] (.tup [wI 0, wI 1]) at hv
            repeat (any_goals (first
                | (refine d_RT ?_; (first | refine RT.nil ?_ | (refine d_g ?_; (first | refine RT.gy rfl ?_ | refine RT.gn rfl rfl ?_ | refine RT.gu rfl ?_ | refine RT.gcY rfl rfl rfl (by first | assumption | omega) ?_ | refine RT.gcN rfl rfl rfl (by first | assumption | omega) ?_ | refine RT.gc rfl rfl rfl (fun hc => ?_) (fun hc => ?_) | refine RT.gb rfl rfl rfl (fun hc => ?_) (fun hc => ?_))) | (refine d_mv ?_; refine RT.v (by first | exact f_mvV rfl | exact f_mvS rfl | exact f_mvF rfl | exact f_mvO rfl | exact f_mvP rfl | exact f_mvR rfl | exact f_mvA rfl | exact f_mvT rfl | exact f_mvN rfl | exact f_mvU rfl | exact f_mvX rfl) ?_) | (refine d_as ?_; refine RT.v (by first | exact f_asV rfl | exact f_asS rfl | exact f_asF rfl | exact f_asO rfl | exact f_asP rfl | exact f_asR rfl | exact f_asA rfl | exact f_asT rfl | exact f_asN rfl | exact f_asU rfl | exact f_asX rfl) ?_) | (refine d_ld ?_; refine RT.v (by first | exact f_ldV rfl rfl | exact f_ldO rfl rfl rfl rfl rfl | exact f_ldW rfl rfl (by (first | omega | (simp only [List.length_set, List.length_replicate, List.length_append, List.length_map, List.length_cons, List.length_nil]; omega))) rfl | exact f_ldS rfl rfl | exact f_ldFl rfl rfl | exact f_ldOW rfl rfl rfl rfl rfl rfl | exact f_ldG rfl rfl rfl | exact f_ldA rfl rfl rfl rfl (by first | (simp only [nrm]; rfl) | (simp only [nrm, Nat.reduceAdd, Nat.zero_add]; rfl) | rfl)) ?_) | (refine d_fa ?_; refine RT.v (by first | exact f_fa0 rfl rfl (by decide) | exact f_fa1 rfl rfl (by decide) | exact f_fa2 rfl rfl (by decide) | exact f_fa3 rfl rfl (by decide) | exact f_faO0 (o := 0) rfl rfl (by decide) | exact f_faO0 (o := 1) rfl rfl (by decide) | exact f_faO0 (o := 2) rfl rfl (by decide) | exact f_faO0 (o := 3) rfl rfl (by decide) | exact f_faO0 rfl rfl (by decide) | exact f_faO rfl rfl (by decide)) ?_) | (refine d_bin ?_; refine RT.v (by first | exact f_lss rfl rfl | exact f_add rfl rfl (by omega) (by omega) | exact f_eql rfl rfl | exact f_neq rfl rfl | exact f_gtr rfl rfl | exact f_geq rfl rfl | exact f_mul rfl rfl (by omega) (by omega) | exact f_rem rfl rfl (by omega) (by omega)) ?_) | (refine d_call ?_; (first | (first | refine RT.callM rfl (hv) rfl rfl ?_ | refine RT.callM rfl (hv) (by first | (simp only [nrm]; rfl) | (simp only [nrm, Nat.reduceAdd, Nat.zero_add]; rfl) | rfl) rfl ?_) | refine RT.v (by first | exact f_lenM rfl rfl | exact f_lenF rfl rfl | exact f_lenO rfl rfl | exact f_lenN rfl rfl) ?_)) | (refine d_pk ?_; refine RT.v (by first | exact f_pickTV rfl rfl | exact f_pickFV rfl rfl) ?_) | (refine d_ext ?_; refine RT.v (f_ext rfl rfl) ?_) | (refine d_ix ?_; refine RT.v (by first | exact f_ixL rfl rfl (by first | with_reducible exact castR _ | with_reducible exact castS _ | rfl | omega) (by omega) rfl rfl | exact f_ix rfl rfl (by first | with_reducible exact castR _ | with_reducible exact castS _ | rfl | omega) (by assumption) rfl rfl | exact f_ixO0 rfl rfl (by first | with_reducible exact castR _ | with_reducible exact castS _ | rfl | omega) rfl rfl (by (first | omega | (simp only [List.length_set, List.length_replicate, List.length_append, List.length_map, List.length_cons, List.length_nil]; omega)))) ?_) | refine RT.new (by first | (simp only [nrm]; rfl) | (simp only [nrm, Nat.reduceAdd, Nat.zero_add]; rfl) | rfl) (f_bslW1 rfl rfl rfl) (by first | (simp only [nrm]; rfl) | (simp only [nrm, Nat.reduceAdd, Nat.zero_add]; rfl) | rfl) ?_ | refine RT.v (f_build rfl) ?_))
                | (refine d_VT ?_; (first | refine VT.seq rfl ?_ | refine VT.reg rfl ?_ | refine VT.condT rfl rfl ?_ | refine VT.condF rfl rfl ?_ | refine VT.condY rfl rfl (by first | assumption | omega) ?_ | refine VT.condN rfl rfl (by first | assumption | omega) ?_ | refine VT.condD rfl rfl (fun hc => ?_) (fun hc => ?_) | refine VT.cond rfl rfl (fun hc => ?_) (fun hc => ?_) | refine VT.block rfl ?_ | refine VT.skip rfl ?_ | refine VT.label rfl ?_ | refine VT.scope rfl ?_ | refine VT.exit rfl ?_ | refine VT.ret rfl ?_))
                | with_reducible (refine kSn ?_)
                | with_reducible (refine kSr ?_)
                | with_reducible (refine kBn ?_)
                | with_reducible (refine kBr ?_)
                | with_reducible (refine kSe ?_)
                | with_reducible (refine kBe ?_)
                | with_reducible (refine kBx (by decide) ?_)
                | with_reducible (refine kLn ?_)
                | with_reducible (refine kCn ?_)
                | with_reducible (refine kCr ?_)
                | with_reducible (refine kCe ?_)
                | with_reducible (refine kLr ?_)
                | with_reducible (refine kLe ?_)
                | (with_reducible refine d_kEr ?_; refine kEr rfl ?_)
                | (with_reducible refine d_kEn ?_; refine kEn rfl ?_)))
            rfl
        · obtain rfl : k = c.length := by omega
          have hl2 := m_Through o (by rw [ho, dotsS_len]; omega)
          have hcw' : allW c := by
            rcases Nat.eq_zero_or_pos c.length with e | e
            · rw [List.eq_nil_of_length_eq_zero e]; intro x h; cases h
            · exact hcw e
          have e2 : ThroughS o = (c, 0) := by rw [ho]; exact dots_law hcw' (by omega) hw
          rw [e2] at hl2
          change Maps Try.prog 12 [.sl (o.map eDot)] (.tup [.fl (c.map eI), wI 0]) at hl2
          have hs := m_same c c hcl hcl
          rw [decide_eq_true rfl] at hs
          repeat (any_goals (first
              | (refine d_RT ?_; (first | refine RT.nil ?_ | refine RT.callM rfl hl2 (by rw [List.map_cons, List.map_nil]; exact congrArg (fun d => [d]) (snapDot rfl)) rfl ?_ | (refine d_g ?_; (first | refine RT.gy rfl ?_ | refine RT.gn rfl rfl ?_ | refine RT.gu rfl ?_ | refine RT.gcY rfl rfl rfl (by first | assumption | omega) ?_ | refine RT.gcN rfl rfl rfl (by first | assumption | omega) ?_ | refine RT.gc rfl rfl rfl (fun hc => ?_) (fun hc => ?_) | refine RT.gb rfl rfl rfl (fun hc => ?_) (fun hc => ?_))) | (refine d_mv ?_; refine RT.v (by first | exact f_mvV rfl | exact f_mvS rfl | exact f_mvF rfl | exact f_mvO rfl | exact f_mvP rfl | exact f_mvR rfl | exact f_mvA rfl | exact f_mvT rfl | exact f_mvN rfl | exact f_mvU rfl | exact f_mvX rfl) ?_) | (refine d_as ?_; refine RT.v (by first | exact f_asV rfl | exact f_asS rfl | exact f_asF rfl | exact f_asO rfl | exact f_asP rfl | exact f_asR rfl | exact f_asA rfl | exact f_asT rfl | exact f_asN rfl | exact f_asU rfl | exact f_asX rfl) ?_) | (refine d_ld ?_; refine RT.v (by first | exact f_ldV rfl rfl | exact f_ldO rfl rfl rfl rfl rfl | exact f_ldW rfl rfl (by (first | omega | (simp only [List.length_set, List.length_replicate, List.length_append, List.length_map, List.length_cons, List.length_nil]; omega))) rfl | exact f_ldS rfl rfl | exact f_ldFl rfl rfl | exact f_ldOW rfl rfl rfl rfl rfl rfl | exact f_ldG rfl rfl rfl | exact f_ldA rfl rfl rfl rfl (by first | (simp only [nrm]; rfl) | (simp only [nrm, Nat.reduceAdd, Nat.zero_add]; rfl) | rfl)) ?_) | (refine d_fa ?_; refine RT.v (by first | exact f_fa0 rfl rfl (by decide) | exact f_fa1 rfl rfl (by decide) | exact f_fa2 rfl rfl (by decide) | exact f_fa3 rfl rfl (by decide) | exact f_faO0 (o := 0) rfl rfl (by decide) | exact f_faO0 (o := 1) rfl rfl (by decide) | exact f_faO0 (o := 2) rfl rfl (by decide) | exact f_faO0 (o := 3) rfl rfl (by decide) | exact f_faO0 rfl rfl (by decide) | exact f_faO rfl rfl (by decide)) ?_) | (refine d_bin ?_; refine RT.v (by first | exact f_lss rfl rfl | exact f_add rfl rfl (by omega) (by omega) | exact f_eql rfl rfl | exact f_neq rfl rfl | exact f_gtr rfl rfl | exact f_geq rfl rfl | exact f_mul rfl rfl (by omega) (by omega) | exact f_rem rfl rfl (by omega) (by omega)) ?_) | (refine d_call ?_; (first | (first | refine RT.callM rfl (hs) rfl rfl ?_ | refine RT.callM rfl (hs) (by first | (simp only [nrm]; rfl) | (simp only [nrm, Nat.reduceAdd, Nat.zero_add]; rfl) | rfl) rfl ?_) | refine RT.v (by first | exact f_lenM rfl rfl | exact f_lenF rfl rfl | exact f_lenO rfl rfl | exact f_lenN rfl rfl) ?_)) | (refine d_pk ?_; refine RT.v (by first | exact f_pickTV rfl rfl | exact f_pickFV rfl rfl) ?_) | (refine d_ext ?_; refine RT.v (f_ext rfl rfl) ?_) | (refine d_ix ?_; refine RT.v (by first | exact f_ixL rfl rfl (by first | with_reducible exact castR _ | with_reducible exact castS _ | rfl | omega) (by omega) rfl rfl | exact f_ix rfl rfl (by first | with_reducible exact castR _ | with_reducible exact castS _ | rfl | omega) (by assumption) rfl rfl | exact f_ixO0 rfl rfl (by first | with_reducible exact castR _ | with_reducible exact castS _ | rfl | omega) rfl rfl (by (first | omega | (simp only [List.length_set, List.length_replicate, List.length_append, List.length_map, List.length_cons, List.length_nil]; omega)))) ?_) | refine RT.new (by first | (simp only [nrm]; rfl) | (simp only [nrm, Nat.reduceAdd, Nat.zero_add]; rfl) | rfl) (f_bslW1 rfl rfl rfl) (by first | (simp only [nrm]; rfl) | (simp only [nrm, Nat.reduceAdd, Nat.zero_add]; rfl) | rfl) ?_ | refine RT.v (f_build rfl) ?_))
              | (refine d_VT ?_; (first | refine VT.seq rfl ?_ | refine VT.reg rfl ?_ | refine VT.condT rfl rfl ?_ | refine VT.condF rfl rfl ?_ | refine VT.condY rfl rfl (by first | assumption | omega) ?_ | refine VT.condN rfl rfl (by first | assumption | omega) ?_ | refine VT.condD rfl rfl (fun hc => ?_) (fun hc => ?_) | refine VT.cond rfl rfl (fun hc => ?_) (fun hc => ?_) | refine VT.block rfl ?_ | refine VT.skip rfl ?_ | refine VT.label rfl ?_ | refine VT.scope rfl ?_ | refine VT.exit rfl ?_ | refine VT.ret rfl ?_))
              | with_reducible (refine kSn ?_)
              | with_reducible (refine kSr ?_)
              | with_reducible (refine kBn ?_)
              | with_reducible (refine kBr ?_)
              | with_reducible (refine kSe ?_)
              | with_reducible (refine kBe ?_)
              | with_reducible (refine kBx (by decide) ?_)
              | with_reducible (refine kLn ?_)
              | with_reducible (refine kCn ?_)
              | with_reducible (refine kCr ?_)
              | with_reducible (refine kCe ?_)
              | with_reducible (refine kLr ?_)
              | with_reducible (refine kLe ?_)
              | (with_reducible refine d_kEr ?_; refine kEr rfl ?_)
              | (with_reducible refine d_kEn ?_; refine kEn rfl ?_)))
          rfl
end Go.DL
