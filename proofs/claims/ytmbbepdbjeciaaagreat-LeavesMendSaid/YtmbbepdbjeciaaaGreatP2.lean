/- Division as the program does it: place by place from above. No program stands here. -/
import Derived.Test.YtmbbepdbjeciaaaGreatP1
namespace Go.DM

/-- f times b is taken away from the first places. -/
def subP (f : Int) : List Int → List Int → List Int
  | [], r => r
  | _, [] => []
  | b :: bs, r :: rs => (r - f * b) % 65521 :: subP f bs rs
/-- The same from a place on. -/
def subA (f : Int) (b : List Int) : Nat → List Int → List Int
  | 0, r => subP f b r
  | _ + 1, [] => []
  | i + 1, r :: rs => r :: subA f b i rs
theorem subP_len (f : Int) : ∀ b r : List Int, (subP f b r).length = r.length
  | [], _ => rfl
  | _ :: _, [] => rfl
  | b :: bs, r :: rs => by simp [subP, subP_len f bs rs]
theorem subA_len (f : Int) (b : List Int) : ∀ (i : Nat) (r : List Int), (subA f b i r).length = r.length
  | 0, r => subP_len f b r
  | _ + 1, [] => rfl
  | i + 1, r :: rs => by simp [subA, subA_len f b i rs]
theorem subP_W (f : Int) : ∀ b r : List Int, (∀ a, a ∈ r → 0 ≤ a ∧ a ≤ 65520) → ∀ a, a ∈ subP f b r → 0 ≤ a ∧ a ≤ 65520
  | [], _, h => h
  | _ :: _, [], _ => fun a ha => by simp [subP] at ha
  | b :: bs, r :: rs, h => fun a ha => by
    rcases List.mem_cons.1 ha with e | e
    · rw [e]; omega
    · exact subP_W f bs rs (fun x hx => h x (List.mem_cons_of_mem _ hx)) a e
theorem subA_W (f : Int) (b : List Int) : ∀ (i : Nat) (r : List Int), (∀ a, a ∈ r → 0 ≤ a ∧ a ≤ 65520) → ∀ a, a ∈ subA f b i r → 0 ≤ a ∧ a ≤ 65520
  | 0, r, h => subP_W f b r h
  | _ + 1, [], _ => fun a ha => by simp [subA] at ha
  | i + 1, r :: rs, h => fun a ha => by
    rcases List.mem_cons.1 ha with e | e
    · rw [e]; exact h r (List.mem_cons_self ..)
    · exact subA_W f b i rs (fun x hx => h x (List.mem_cons_of_mem _ hx)) a e
theorem subP_ev (f x : Int) : ∀ b r : List Int, b.length ≤ r.length → Cg (evP (subP f b r) x) (evP r x - f * evP b x)
  | [], r, _ => by simp [subP, evP]; exact .refl _
  | _ :: _, [], h => by simp at h
  | b :: bs, r :: rs, h => by
    have ih := subP_ev f x bs rs (by simpa using h)
    have h1 := (Cg.mod (r - f * b)).add ((Cg.refl x).mul ih)
    refine h1.trans (.of_eq ?_)
    simp only [evP]; grind
theorem subA_ev (f x : Int) (b : List Int) : ∀ (i : Nat) (r : List Int), i + b.length ≤ r.length → Cg (evP (subA f b i r) x) (evP r x - f * x ^ i * evP b x)
  | 0, r, h => by
    have := subP_ev f x b r (by omega)
    simpa [subA] using this
  | i + 1, [], h => by simp at h
  | i + 1, r :: rs, h => by
    have ih := subA_ev f x b i rs (by simp at h; omega)
    have h1 := (Cg.refl r).add ((Cg.refl x).mul ih)
    refine h1.trans (.of_eq ?_)
    simp only [evP, Int.pow_succ]; grind
theorem subP_get (f : Int) : ∀ (b r : List Int) (j : Nat), b.length ≤ r.length → (subP f b r).getD j 0 = if j < b.length then (r.getD j 0 - f * b.getD j 0) % 65521 else r.getD j 0
  | [], r, j, _ => by simp [subP]
  | _ :: _, [], _, h => by simp at h
  | b :: bs, r :: rs, 0, _ => by simp [subP]
  | b :: bs, r :: rs, j + 1, h => by
    have ih := subP_get f bs rs j (by simpa using h)
    simpa [subP] using ih
theorem subA_get (f : Int) (b : List Int) : ∀ (i : Nat) (r : List Int) (j : Nat), i + b.length ≤ r.length → (subA f b i r).getD j 0 = if i ≤ j ∧ j < i + b.length then (r.getD j 0 - f * b.getD (j - i) 0) % 65521 else r.getD j 0
  | 0, r, j, h => by
    rw [subA, subP_get f b r j (by omega)]; simp
  | i + 1, [], j, h => by simp at h
  | i + 1, r :: rs, 0, h => by simp [subA]
  | i + 1, r :: rs, j + 1, h => by
    have ih := subA_get f b i rs j (by simp at h; omega)
    simp only [subA, List.getD_cons_succ, ih]
    by_cases hc : i ≤ j ∧ j < i + b.length
    · rw [if_pos hc, if_pos (by omega), show j + 1 - (i + 1) = j - i by omega]
    · rw [if_neg hc, if_neg (by omega)]
theorem ext_getD {a b : List Int} (hl : a.length = b.length) (h : ∀ j, j < a.length → a.getD j 0 = b.getD j 0) : a = b :=
  List.ext_getElem hl fun i h1 h2 => by
    have := h i h1
    simpa [List.getD_eq_getElem?_getD, h1, h2] using this
theorem subA_nil (f : Int) : ∀ (i : Nat) (r : List Int), subA f [] i r = r
  | 0, _ => rfl
  | _ + 1, [] => rfl
  | i + 1, r :: rs => by rw [subA, subA_nil f i rs]
/-- One place more of the part that is taken away. -/
theorem subA_step (f : Int) {b r : List Int} {i q : Nat} (h : i + b.length ≤ r.length) (hq : q < b.length) : (subA f (b.take q) i r).set (i + q) ((r.getD (i + q) 0 - f * b.getD q 0) % 65521) = subA f (b.take (q + 1)) i r := by
  refine ext_getD (by rw [List.length_set, subA_len, subA_len]) fun j hj => ?_
  rw [List.length_set, subA_len] at hj
  have l1 : (b.take q).length = q := by simp; omega
  have l2 : (b.take (q + 1)).length = q + 1 := by simp; omega
  rw [subA_get f _ i r j (by omega), l2]
  simp only [List.getD_eq_getElem?_getD, List.getElem?_set, subA_len]
  by_cases hji : i + q = j
  · subst hji
    rw [if_pos rfl, if_pos hj, if_pos (by omega), show i + q - i = q by omega, List.getElem?_take_of_lt (by omega)]; rfl
  · rw [if_neg hji]
    have := subA_get f (b.take q) i r j (by omega)
    simp only [List.getD_eq_getElem?_getD, l1] at this
    rw [this]
    by_cases hc : i ≤ j ∧ j < i + q
    · rw [if_pos hc, if_pos (by omega), List.getElem?_take_of_lt (by omega), List.getElem?_take_of_lt (by omega)]
    · rw [if_neg hc, if_neg (by omega)]
theorem subA_same (f : Int) {b r : List Int} {i q : Nat} (h : i + b.length ≤ r.length) (hq : q < b.length) : (subA f (b.take q) i r).getD (i + q) 0 = r.getD (i + q) 0 := by
  have l1 : (b.take q).length = q := by simp; omega
  rw [subA_get f _ i r _ (by omega), l1, if_neg (by omega)]

/-- What the division has come to behind m places. -/
def dvS (k e : Nat) (a b : List Int) : Nat → List Int × List Int
  | 0 => (List.replicate k 0, a)
  | m + 1 => ((dvS k e a b m).1.set (k - (m + 1)) ((dvS k e a b m).2.getD (k - (m + 1) + e) 0), subA ((dvS k e a b m).2.getD (k - (m + 1) + e) 0) b (k - (m + 1)) (dvS k e a b m).2)
theorem evP_set (x v : Int) : ∀ (l : List Int) (i : Nat), i < l.length → l.getD i 0 = 0 → evP (l.set i v) x = evP l x + v * x ^ i
  | [], i, h, _ => by simp at h
  | a :: l, 0, _, h0 => by
    simp only [List.getD_cons_zero] at h0
    simp only [List.set_cons_zero, evP, h0]; grind
  | a :: l, i + 1, h, h0 => by
    have ih := evP_set x v l i (by simpa using h) (by simpa using h0)
    simp only [List.set_cons_succ, evP, ih, Int.pow_succ]; grind
structure Dv (k e : Nat) (a b : List Int) (m : Nat) (o r : List Int) : Prop where
  ol : o.length = k
  oW : ∀ z, z ∈ o → 0 ≤ z ∧ z ≤ 65520
  o0 : ∀ j, j < k - m → o.getD j 0 = 0
  rl : r.length = k + e
  rW : ∀ z, z ∈ r → 0 ≤ z ∧ z ≤ 65520
  r0 : ∀ j, k - m + e ≤ j → r.getD j 0 = 0
  ev : ∀ x, Cg (evP a x) (evP r x + evP b x * evP o x)
theorem dv_ok {k e : Nat} {a b : List Int} (al : a.length = k + e) (aW : ∀ z, z ∈ a → 0 ≤ z ∧ z ≤ 65520) (bl : b.length = e + 1) (mon : b.getD e 0 = 1) : ∀ m, m ≤ k → Dv k e a b m (dvS k e a b m).1 (dvS k e a b m).2
  | 0, _ => by
    have hz : ∀ j, (List.replicate k (0 : Int)).getD j 0 = 0 := fun j => by
      simp only [List.getD_eq_getElem?_getD, List.getElem?_replicate]; split <;> rfl
    refine ⟨by simp [dvS], fun z h => ?_, fun j _ => hz j, al, aW, fun j hj => ?_, fun x => ?_⟩
    · have := (List.mem_replicate.1 h).2; omega
    · show a.getD j 0 = 0; rw [List.getD_eq_getElem?_getD, List.getElem?_eq_none (by omega)]; rfl
    · rw [dvS]; simp only [evP_zero]; simp; exact .refl _
  | m + 1, hm => by
    have ih := dv_ok al aW bl mon m (by omega)
    generalize hd : dvS k e a b m = d at ih
    obtain ⟨o, r⟩ := d
    simp only at ih
    have e1 : (dvS k e a b (m + 1)) = (o.set (k - (m + 1)) (r.getD (k - (m + 1) + e) 0), subA (r.getD (k - (m + 1) + e) 0) b (k - (m + 1)) r) := by simp only [dvS, hd]
    rw [e1]
    have hfit : k - (m + 1) + b.length ≤ r.length := by have := ih.rl; omega
    have hf : 0 ≤ r.getD (k - (m + 1) + e) 0 ∧ r.getD (k - (m + 1) + e) 0 ≤ 65520 := by
      refine ih.rW _ ?_
      have := ih.rl
      rw [List.getD_eq_getElem?_getD, List.getElem?_eq_getElem (by omega)]
      exact List.getElem_mem _
    have hol := ih.ol
    refine ⟨by simp [ih.ol], fun z hz => ?_, fun j hj => ?_, by simp [subA_len, ih.rl], subA_W _ _ _ _ ih.rW, fun j hj => ?_, fun x => ?_⟩
    · rcases List.mem_or_eq_of_mem_set hz with h | h
      · exact ih.oW z h
      · rw [h]; exact hf
    · rw [List.getD_eq_getElem?_getD, List.getElem?_set_ne (by omega), ← List.getD_eq_getElem?_getD]
      exact ih.o0 j (by omega)
    · simp only at hj ⊢
      rw [subA_get _ _ _ _ _ hfit]
      split
      · have ej : j = k - (m + 1) + e := by omega
        subst ej
        rw [show k - (m + 1) + e - (k - (m + 1)) = e by omega, mon, Int.mul_one, Int.sub_self]; rfl
      · rename_i hc
        exact ih.r0 j (by omega)
    · have h1 := ih.ev x
      have h2 := subA_ev (r.getD (k - (m + 1) + e) 0) x b (k - (m + 1)) r hfit
      have h3 := evP_set x (r.getD (k - (m + 1) + e) 0) o (k - (m + 1)) (by omega) (ih.o0 _ (by omega))
      simp only
      rw [h3]
      have h4 := (h2.add (Cg.refl (evP b x * (evP o x + r.getD (k - (m + 1) + e) 0 * x ^ (k - (m + 1)))))).symm
      refine (h1.trans (.of_eq ?_)).trans h4
      grind
end Go.DM

/- Sorting by insertion; lists of what is wrong, in order. No program stands here. -/
namespace Go.DM

def Srt (l : List Int) : Prop := l.Pairwise (· ≤ ·)
theorem Srt.ins {L : List Int} {v : Int} {j : Nat} (hs : Srt L) (h1 : ∀ y, y ∈ L.take j → y ≤ v) (h2 : ∀ y, y ∈ L.drop j → v ≤ y) : Srt (L.take j ++ v :: L.drop j) := by
  have h : Srt (L.take j ++ L.drop j) := by rw [List.take_append_drop]; exact hs
  unfold Srt at h ⊢
  rw [List.pairwise_append] at h ⊢
  obtain ⟨a, b, c⟩ := h
  refine ⟨a, List.pairwise_cons.2 ⟨h2, b⟩, fun x hx y hy => ?_⟩
  rcases List.mem_cons.1 hy with rfl | hy
  · exact h1 x hx
  · exact c x hx y hy
theorem Srt.one {a b : List Int} (ha : Srt a) (hb : Srt b) (h : a.Perm b) : a = b := h.eq_of_pairwise (fun x y _ _ h1 h2 => Int.le_antisymm h1 h2) ha hb
/-- In a sorted list the first elements are below what is above the last one of them. -/
theorem Srt.below {L : List Int} {v : Int} {j : Nat} (hs : Srt L) (hj : 0 < j) (hl : j ≤ L.length) (h : L.getD (j - 1) 0 ≤ v) : ∀ y, y ∈ L.take j → y ≤ v := by
  intro y hy
  obtain ⟨i, hi, rfl⟩ := List.getElem_of_mem hy
  have hi' : i < j := by simp at hi; omega
  rw [List.getElem_take]
  have hlast : L.getD (j - 1) 0 = L[j - 1] := by rw [List.getD_eq_getElem?_getD, List.getElem?_eq_getElem (by omega)]; rfl
  rw [hlast] at h
  by_cases he : i = j - 1
  · subst he; exact h
  · exact Int.le_trans (List.pairwise_iff_getElem.1 hs i (j - 1) (by omega) (by omega) (by omega)) h

section
variable {α : Type} (num : α → Int) (bad : α → Bool)
def wrongS (l : List α) (N : Nat) : List Int := (List.range N).flatMap fun n : Nat => (l.filter fun x => decide (num x = (n : Int) + 1) && bad x).map num
theorem wrongS_succ (l : List α) (N : Nat) : wrongS num bad l (N + 1) = wrongS num bad l N ++ (l.filter fun x => decide (num x = (N : Int) + 1) && bad x).map num := by
  simp [wrongS, List.range_succ]
theorem filter_or {α : Type} {p q : α → Bool} : ∀ {l : List α}, (∀ x, x ∈ l → ¬ (p x = true ∧ q x = true)) → (l.filter fun x => p x || q x).Perm (l.filter p ++ l.filter q)
  | [], _ => List.Perm.refl _
  | x :: l, h => by
    have ih := filter_or (p := p) (q := q) fun y hy => h y (List.mem_cons_of_mem _ hy)
    have hx := h x (List.mem_cons_self ..)
    cases hp : p x with
    | true =>
      have hq : q x = false := by
        cases hq : q x with
        | true => exact absurd ⟨hp, hq⟩ hx
        | false => rfl
      rw [List.filter_cons_of_pos (by simp [hp]), List.filter_cons_of_pos (by simp [hp]), List.filter_cons_of_neg (p := q) (by simp [hq])]
      exact ih.cons x
    | false =>
      cases hq : q x with
      | true =>
        rw [List.filter_cons_of_pos (by simp [hq]), List.filter_cons_of_neg (p := p) (by simp [hp]), List.filter_cons_of_pos (p := q) (by simp [hq])]
        exact (ih.cons x).trans List.perm_middle.symm
      | false =>
        rw [List.filter_cons_of_neg (by simp [hp, hq]), List.filter_cons_of_neg (p := p) (by simp [hp]), List.filter_cons_of_neg (p := q) (by simp [hq])]
        exact ih
theorem wrong_perm (l : List α) : ∀ N : Nat, (wrongS num bad l N).Perm ((l.filter fun x => decide (1 ≤ num x ∧ num x ≤ (N : Int)) && bad x).map num)
  | 0 => by
    have : (l.filter fun x => decide (1 ≤ num x ∧ num x ≤ ((0 : Nat) : Int)) && bad x) = [] := List.filter_eq_nil_iff.2 fun x _ => by
      simp only [Bool.and_eq_true, decide_eq_true_eq]; omega
    rw [this]; exact List.Perm.refl _
  | N + 1 => by
    rw [wrongS_succ]
    refine ((wrong_perm l N).append_right _).trans ?_
    rw [← List.map_append]
    refine List.Perm.map num ?_
    have e : (fun x => decide (1 ≤ num x ∧ num x ≤ ((N + 1 : Nat) : Int)) && bad x) = fun x => (decide (1 ≤ num x ∧ num x ≤ (N : Int)) && bad x) || (decide (num x = (N : Int) + 1) && bad x) := by
      funext x
      cases bad x with
      | false => simp
      | true =>
        rw [Bool.eq_iff_iff]
        simp only [Bool.and_true, Bool.or_eq_true, decide_eq_true_eq]
        omega
    rw [e]
    exact (filter_or fun x _ h => by
      simp only [Bool.and_eq_true, decide_eq_true_eq] at h
      omega).symm
theorem wrong_srt (l : List α) : ∀ N : Nat, Srt (wrongS num bad l N) ∧ ∀ y, y ∈ wrongS num bad l N → y ≤ (N : Int)
  | 0 => ⟨List.Pairwise.nil, fun y hy => by simp [wrongS] at hy⟩
  | N + 1 => by
    obtain ⟨h1, h2⟩ := wrong_srt l N
    have hm : ∀ y, y ∈ (l.filter fun x => decide (num x = (N : Int) + 1) && bad x).map num → y = (N : Int) + 1 := fun y hy => by
      obtain ⟨x, hx, rfl⟩ := List.mem_map.1 hy
      have := (List.mem_filter.1 hx).2
      simp only [Bool.and_eq_true, decide_eq_true_eq] at this
      exact this.1
    rw [wrongS_succ]
    refine ⟨List.pairwise_append.2 ⟨h1, ?_, fun x hx y hy => ?_⟩, fun y hy => ?_⟩
    · refine List.pairwise_iff_getElem.2 fun i j hi hj _ => ?_
      rw [hm _ (List.getElem_mem hi), hm _ (List.getElem_mem hj)]
      exact Int.le_refl _
    · rw [hm y hy]; have := h2 x hx; omega
    · rcases List.mem_append.1 hy with h | h
      · have := h2 y h; omega
      · rw [hm y h]; omega
theorem wrong_eq {l : List α} {N : Nat} {w : List Int} (h : ∀ x, x ∈ l → 1 ≤ num x ∧ num x ≤ (N : Int)) (hs : Srt w) (hp : w.Perm ((l.filter bad).map num)) : w = wrongS num bad l N := by
  have e : (l.filter fun x => decide (1 ≤ num x ∧ num x ≤ (N : Int)) && bad x) = l.filter bad := List.filter_congr fun x hx => by
    rw [decide_eq_true (h x hx)]; rfl
  have h2 := wrong_perm num bad l N
  rw [e] at h2
  exact hs.one (wrong_srt num bad l N).1 (hp.trans h2.symm)
theorem wrong_len (l : List α) (N : Nat) : (wrongS num bad l N).length ≤ l.length := by
  rw [(wrong_perm num bad l N).length_eq, List.length_map]
  exact List.length_filter_le _ _
end
end Go.DM
