/- Berlekamp and Welch: the equations, and what solving and dividing them tells. No program stands here. -/
import Derived.Test.YtmbbepdbjeciaaaGreatP1
set_option linter.all false
namespace Go.DM

/-- A power of a word, as a number. -/
def pw (x : Int) (j : Nat) : Int := ((powN x.toNat j : Nat) : Int)
theorem pw_cg {x : Int} (hx : 0 ≤ x) (j : Nat) : Cg (pw x j) (x ^ j) := by
  obtain ⟨n, rfl⟩ := Int.eq_ofNat_of_zero_le hx
  rw [cg_iff, pw, Int.toNat_natCast, powN, Int.natCast_emod, Int.natCast_pow]
  simp
theorem pw_W (x : Int) (j : Nat) : 0 ≤ pw x j ∧ pw x j ≤ 65520 := by
  have := powN_lt x.toNat j
  unfold pw; omega
/-- The equation of a point. -/
def keyRow (k e : Nat) (p : Int × Int) : List Int := (List.range (k + e)).map (pw p.1) ++ ((List.range e).map (fun j => -p.2 * pw p.1 j % 65521) ++ [p.2 * pw p.1 e % 65521])
theorem keyRow_len (k e : Nat) (p : Int × Int) : (keyRow k e p).length = k + 2 * e + 1 := by simp [keyRow]; omega
theorem keyRow_W (k e : Nat) (p : Int × Int) : ∀ a, a ∈ keyRow k e p → 0 ≤ a ∧ a ≤ 65520 := fun a ha => by
  rcases List.mem_append.1 ha with h | h
  · obtain ⟨j, _, rfl⟩ := List.mem_map.1 h
    exact pw_W _ _
  · rcases List.mem_append.1 h with h | h
    · obtain ⟨j, _, rfl⟩ := List.mem_map.1 h
      omega
    · rw [List.mem_singleton.1 h]; omega
theorem dotP_append : ∀ (a q b z : List Int), a.length = q.length → dotP (a ++ b) (q ++ z) = dotP a q + dotP b z
  | [], [], _, _, _ => by simp [dotP]
  | a :: as, q :: qs, b, z, h => by
    have := dotP_append as qs b z (by simpa using h)
    simp only [List.cons_append, dotP, this]; omega
  | [], _ :: _, _, _, h => by simp at h
  | _ :: _, [], _, _, h => by simp at h
theorem dot_pw {x : Int} (hx : 0 ≤ x) (f : Int) (g : Nat → Int) (hg : ∀ j, Cg (g j) (f * x ^ j)) : ∀ (q : List Int) (s : Nat), Cg (dotP ((List.range' s q.length).map g) q) (f * x ^ s * evP q x)
  | [], s => by simp [dotP, evP]; exact .refl _
  | a :: q, s => by
    have ih := dot_pw hx f g hg q (s + 1)
    simp only [List.length_cons, List.range'_succ, List.map_cons, dotP, evP]
    refine (((hg s).mul (Cg.refl a)).add ih).trans (.of_eq ?_)
    rw [Int.pow_succ]; grind
theorem evP_snoc (z x : Int) : ∀ l : List Int, evP (l ++ [z]) x = evP l x + x ^ l.length * z
  | [] => by simp [evP]
  | a :: l => by
    simp only [List.cons_append, evP, evP_snoc z x l, List.length_cons, Int.pow_succ]
    grind
/-- The equation of a point holds just where the key equation does. -/
theorem keyRow_iff {k e : Nat} {p : Int × Int} (hx : 0 ≤ p.1) {q z : List Int} (hq : q.length = k + e) (hz : z.length = e) : Holds (k + 2 * e) (keyRow k e p) (q ++ z) ↔ Cg (evP q p.1) (p.2 * evP (z ++ [1]) p.1) := by
  have h1 : dotP (keyRow k e p) (q ++ z) = dotP ((List.range (k + e)).map (pw p.1)) q + dotP ((List.range e).map (fun j => -p.2 * pw p.1 j % 65521) ++ [p.2 * pw p.1 e % 65521]) z := dotP_append _ _ _ _ (by simp [hq])
  have h2 : dotP ((List.range e).map (fun j => -p.2 * pw p.1 j % 65521) ++ [p.2 * pw p.1 e % 65521]) z = dotP ((List.range e).map (fun j => -p.2 * pw p.1 j % 65521)) z := by
    have := dotP_append ((List.range e).map (fun j => -p.2 * pw p.1 j % 65521)) z [p.2 * pw p.1 e % 65521] [] (by simp [hz])
    rw [List.append_nil] at this
    rw [this]; simp [dotP]
  have h3 : Cg (dotP ((List.range (k + e)).map (pw p.1)) q) (evP q p.1) := by
    have := dot_pw hx 1 (pw p.1) (fun j => by rw [Int.one_mul]; exact pw_cg hx j) q 0
    rw [← List.range_eq_range', hq] at this
    simpa using this
  have h4 : Cg (dotP ((List.range e).map (fun j => -p.2 * pw p.1 j % 65521)) z) (-p.2 * evP z p.1) := by
    have := dot_pw hx (-p.2) (fun j => -p.2 * pw p.1 j % 65521) (fun j => (Cg.mod _).trans ((Cg.refl (-p.2)).mul (pw_cg hx j))) z 0
    rw [← List.range_eq_range', hz] at this
    simpa using this
  have h5 : (keyRow k e p).getD (k + 2 * e) 0 = p.2 * pw p.1 e % 65521 := by
    have : k + 2 * e = ((List.range (k + e)).map (pw p.1)).length + (((List.range e).map (fun j => -p.2 * pw p.1 j % 65521)).length + 0) := by simp; omega
    rw [keyRow, this, List.getD_eq_getElem?_getD, List.getElem?_append_right (by omega), Nat.add_sub_cancel_left, List.getElem?_append_right (by omega), Nat.add_sub_cancel_left]
    rfl
  have h6 : Cg (p.2 * pw p.1 e % 65521) (p.2 * p.1 ^ e) := (Cg.mod _).trans ((Cg.refl p.2).mul (pw_cg hx e))
  unfold Holds
  rw [h1, h2, h5, evP_snoc, hz, Int.mul_one]
  have h7 := h3.add h4
  constructor
  · intro h
    have h8 := (h7.symm.trans h).trans h6
    have h9 := h8.add (Cg.refl (p.2 * evP z p.1))
    refine (Cg.of_eq ?_).trans (h9.trans (.of_eq ?_)) <;> grind
  · intro h
    refine h7.trans (Cg.trans ?_ h6.symm)
    have h9 := h.sub (Cg.refl (p.2 * evP z p.1))
    refine (Cg.of_eq ?_).trans (h9.trans (.of_eq ?_)) <;> grind
theorem sol_key {k e : Nat} {ps : List (Int × Int)} (hp : ∀ p, p ∈ ps → 0 ≤ p.1) {x : List Int} (h : Sol (k + 2 * e) (ps.map (keyRow k e)) x) : Key k e ps (x.take (k + e)) (x.drop (k + e) ++ [1]) := by
  obtain ⟨hl, hh⟩ := h
  have hz : (x.drop (k + e)).length = e := by simp; omega
  refine ⟨by simp; omega, by simp; omega, ?_, fun p hpp => ?_⟩
  · rw [List.getD_eq_getElem?_getD, List.getElem?_append_right (by omega), hz, Nat.sub_self]; rfl
  · refine (keyRow_iff (k := k) (e := e) (hp p hpp) (by simp; omega) hz).1 ?_
    rw [List.take_append_drop]
    exact hh _ (List.mem_map.2 ⟨p, hpp, rfl⟩)
theorem key_sol {k e : Nat} {ps : List (Int × Int)} (hp : ∀ p, p ∈ ps → 0 ≤ p.1) {q E : List Int} (h : Key k e ps q E) : Sol (k + 2 * e) (ps.map (keyRow k e)) (q ++ E.take e) := by
  have hE : E = E.take e ++ [1] := by
    have h1 : E.drop e = [E.getD e 0] := by
      have hl := h.el
      rw [List.drop_eq_getElem_cons (by omega), List.drop_eq_nil_of_le (by omega), List.getD_eq_getElem?_getD, List.getElem?_eq_getElem (by omega)]; rfl
    rw [h.mon] at h1
    rw [← h1, List.take_append_drop]
  have hz : (E.take e).length = e := by have := h.el; simp; omega
  refine ⟨by rw [List.length_append, h.ql, hz]; omega, fun r hr => ?_⟩
  obtain ⟨p, hpp, rfl⟩ := List.mem_map.1 hr
  refine (keyRow_iff (hp p hpp) h.ql hz).2 ?_
  rw [← hE]
  exact h.at_ p hpp

open Classical in
/-- The polynomial that points with few faults tell, if there is one. -/
noncomputable def decS (k e : Nat) (ps : List (Int × Int)) : Option (List Int) := if h : ∃ c, Good k e ps c then some h.choose else none
theorem decS_some {k e : Nat} {ps : List (Int × Int)} {c : List Int} (hA : Apart (ps.map Prod.fst)) (hL : k + 2 * e ≤ ps.length) (h : Good k e ps c) : decS k e ps = some c := by
  have hx : ∃ c, Good k e ps c := ⟨c, h⟩
  rw [decS, dif_pos hx]
  exact congrArg some (Good.one hA hL hx.choose_spec h)
theorem decS_none {k e : Nat} {ps : List (Int × Int)} (h : ∀ c, ¬ Good k e ps c) : decS k e ps = none := by
  rw [decS, dif_neg fun ⟨c, hc⟩ => h c hc]
theorem decS_good {k e : Nat} {ps : List (Int × Int)} {c : List Int} (h : decS k e ps = some c) : Good k e ps c := by
  unfold decS at h
  split at h
  · rename_i hx
    cases h
    exact hx.choose_spec
  · cases h
/-- No solution: nothing is told. -/
theorem dec_no {k e : Nat} {ps : List (Int × Int)} (hp : ∀ p, p ∈ ps → 0 ≤ p.1) (h : ∀ x, ¬ Sol (k + 2 * e) (ps.map (keyRow k e)) x) : decS k e ps = none :=
  decS_none fun c hc => by
    obtain ⟨q, E, hk⟩ := hc.key
    exact h _ (key_sol hp hk)
/-- A solution, divided: if nothing is left, what it gives is told; else nothing is told. -/
theorem dec_yes {k e : Nat} {ps : List (Int × Int)} {x out rest : List Int} (hA : Apart (ps.map Prod.fst)) (hL : k + 2 * e ≤ ps.length) (hs : k + e ≤ 65521) (h : Sol (k + 2 * e) (ps.map (keyRow k e)) x)
    (ol : out.length = k) (oW : ∀ z, z ∈ out → 0 ≤ z ∧ z ≤ 65520) (rl : rest.length = k + e) (rW : ∀ z, z ∈ rest → 0 ≤ z ∧ z ≤ 65520) (hr : ∀ j, e ≤ j → rest.getD j 0 = 0)
    (hd : ∀ y, Cg (evP (x.take (k + e)) y) (evP rest y + evP (x.drop (k + e) ++ [1]) y * evP out y)) :
    ((∀ z, z ∈ rest → z = 0) → decS k e ps = some out) ∧ (¬ (∀ z, z ∈ rest → z = 0) → decS k e ps = none) := by
  have hp : ∀ p, p ∈ ps → 0 ≤ p.1 := fun p hpp => (hA.1 p.1 (List.mem_map.2 ⟨p, hpp, rfl⟩)).1
  have hk := sol_key hp h
  refine ⟨fun hz => decS_some hA hL (hk.good hA ol oW fun y => ?_), fun hz => decS_none fun c hc => hz ?_⟩
  · have h0 : Cg (evP rest y) 0 := zero_ev y fun a ha => by rw [hz a ha]; exact .refl _
    have h1 := (hd y).trans (h0.add (Cg.refl _))
    refine h1.trans (.of_eq ?_)
    grind
  · exact (div_ok hs hk.el hk.mon hk.ql ol oW rl rW hr hd hc.len hc.W (hk.mul hA hL hc)).2
end Go.DM

/- Division as the program does it: place by place from above. No program stands here. -/
namespace Go.DM

/-- f times b is taken away from the first places. -/
def subP (f : Int) : List Int → List Int → List Int
  | [], r => r
  | _, [] => []
  | b :: bs, r :: rs => (r - f * b) % 65521 :: subP f bs rs
/-- The same from a place on. -/
def subA (f : Int) (b : List Int) : Nat → List Int → List Int
  | 0, r => subP f b r
  | _ + 1, [] => []
  | i + 1, r :: rs => r :: subA f b i rs
theorem subP_len (f : Int) : ∀ b r : List Int, (subP f b r).length = r.length
  | [], _ => rfl
  | _ :: _, [] => rfl
  | b :: bs, r :: rs => by simp [subP, subP_len f bs rs]
theorem subA_len (f : Int) (b : List Int) : ∀ (i : Nat) (r : List Int), (subA f b i r).length = r.length
  | 0, r => subP_len f b r
  | _ + 1, [] => rfl
  | i + 1, r :: rs => by simp [subA, subA_len f b i rs]
theorem subP_W (f : Int) : ∀ b r : List Int, (∀ a, a ∈ r → 0 ≤ a ∧ a ≤ 65520) → ∀ a, a ∈ subP f b r → 0 ≤ a ∧ a ≤ 65520
  | [], _, h => h
  | _ :: _, [], _ => fun a ha => by simp [subP] at ha
  | b :: bs, r :: rs, h => fun a ha => by
    rcases List.mem_cons.1 ha with e | e
    · rw [e]; omega
    · exact subP_W f bs rs (fun x hx => h x (List.mem_cons_of_mem _ hx)) a e
theorem subA_W (f : Int) (b : List Int) : ∀ (i : Nat) (r : List Int), (∀ a, a ∈ r → 0 ≤ a ∧ a ≤ 65520) → ∀ a, a ∈ subA f b i r → 0 ≤ a ∧ a ≤ 65520
  | 0, r, h => subP_W f b r h
  | _ + 1, [], _ => fun a ha => by simp [subA] at ha
  | i + 1, r :: rs, h => fun a ha => by
    rcases List.mem_cons.1 ha with e | e
    · rw [e]; exact h r (List.mem_cons_self ..)
    · exact subA_W f b i rs (fun x hx => h x (List.mem_cons_of_mem _ hx)) a e
theorem subP_ev (f x : Int) : ∀ b r : List Int, b.length ≤ r.length → Cg (evP (subP f b r) x) (evP r x - f * evP b x)
  | [], r, _ => by simp [subP, evP]; exact .refl _
  | _ :: _, [], h => by simp at h
  | b :: bs, r :: rs, h => by
    have ih := subP_ev f x bs rs (by simpa using h)
    have h1 := (Cg.mod (r - f * b)).add ((Cg.refl x).mul ih)
    refine h1.trans (.of_eq ?_)
    simp only [evP]; grind
theorem subA_ev (f x : Int) (b : List Int) : ∀ (i : Nat) (r : List Int), i + b.length ≤ r.length → Cg (evP (subA f b i r) x) (evP r x - f * x ^ i * evP b x)
  | 0, r, h => by
    have := subP_ev f x b r (by omega)
    simpa [subA] using this
  | i + 1, [], h => by simp at h
  | i + 1, r :: rs, h => by
    have ih := subA_ev f x b i rs (by simp at h; omega)
    have h1 := (Cg.refl r).add ((Cg.refl x).mul ih)
    refine h1.trans (.of_eq ?_)
    simp only [evP, Int.pow_succ]; grind
theorem subP_get (f : Int) : ∀ (b r : List Int) (j : Nat), b.length ≤ r.length → (subP f b r).getD j 0 = if j < b.length then (r.getD j 0 - f * b.getD j 0) % 65521 else r.getD j 0
  | [], r, j, _ => by simp [subP]
  | _ :: _, [], _, h => by simp at h
  | b :: bs, r :: rs, 0, _ => by simp [subP]
  | b :: bs, r :: rs, j + 1, h => by
    have ih := subP_get f bs rs j (by simpa using h)
    simpa [subP] using ih
theorem subA_get (f : Int) (b : List Int) : ∀ (i : Nat) (r : List Int) (j : Nat), i + b.length ≤ r.length → (subA f b i r).getD j 0 = if i ≤ j ∧ j < i + b.length then (r.getD j 0 - f * b.getD (j - i) 0) % 65521 else r.getD j 0
  | 0, r, j, h => by
    rw [subA, subP_get f b r j (by omega)]; simp
  | i + 1, [], j, h => by simp at h
  | i + 1, r :: rs, 0, h => by simp [subA]
  | i + 1, r :: rs, j + 1, h => by
    have ih := subA_get f b i rs j (by simp at h; omega)
    simp only [subA, List.getD_cons_succ, ih]
    by_cases hc : i ≤ j ∧ j < i + b.length
    · rw [if_pos hc, if_pos (by omega), show j + 1 - (i + 1) = j - i by omega]
    · rw [if_neg hc, if_neg (by omega)]
theorem ext_getD {a b : List Int} (hl : a.length = b.length) (h : ∀ j, j < a.length → a.getD j 0 = b.getD j 0) : a = b :=
  List.ext_getElem hl fun i h1 h2 => by
    have := h i h1
    simpa [List.getD_eq_getElem?_getD, h1, h2] using this
theorem subA_nil (f : Int) : ∀ (i : Nat) (r : List Int), subA f [] i r = r
  | 0, _ => rfl
  | _ + 1, [] => rfl
  | i + 1, r :: rs => by rw [subA, subA_nil f i rs]
/-- One place more of the part that is taken away. -/
theorem subA_step (f : Int) {b r : List Int} {i q : Nat} (h : i + b.length ≤ r.length) (hq : q < b.length) : (subA f (b.take q) i r).set (i + q) ((r.getD (i + q) 0 - f * b.getD q 0) % 65521) = subA f (b.take (q + 1)) i r := by
  refine ext_getD (by rw [List.length_set, subA_len, subA_len]) fun j hj => ?_
  rw [List.length_set, subA_len] at hj
  have l1 : (b.take q).length = q := by simp; omega
  have l2 : (b.take (q + 1)).length = q + 1 := by simp; omega
  rw [subA_get f _ i r j (by omega), l2]
  simp only [List.getD_eq_getElem?_getD, List.getElem?_set, subA_len]
  by_cases hji : i + q = j
  · subst hji
    rw [if_pos rfl, if_pos hj, if_pos (by omega), show i + q - i = q by omega, List.getElem?_take_of_lt (by omega)]; rfl
  · rw [if_neg hji]
    have := subA_get f (b.take q) i r j (by omega)
    simp only [List.getD_eq_getElem?_getD, l1] at this
    rw [this]
    by_cases hc : i ≤ j ∧ j < i + q
    · rw [if_pos hc, if_pos (by omega), List.getElem?_take_of_lt (by omega), List.getElem?_take_of_lt (by omega)]
    · rw [if_neg hc, if_neg (by omega)]
theorem subA_same (f : Int) {b r : List Int} {i q : Nat} (h : i + b.length ≤ r.length) (hq : q < b.length) : (subA f (b.take q) i r).getD (i + q) 0 = r.getD (i + q) 0 := by
  have l1 : (b.take q).length = q := by simp; omega
  rw [subA_get f _ i r _ (by omega), l1, if_neg (by omega)]

/-- What the division has come to behind m places. -/
def dvS (k e : Nat) (a b : List Int) : Nat → List Int × List Int
  | 0 => (List.replicate k 0, a)
  | m + 1 => ((dvS k e a b m).1.set (k - (m + 1)) ((dvS k e a b m).2.getD (k - (m + 1) + e) 0), subA ((dvS k e a b m).2.getD (k - (m + 1) + e) 0) b (k - (m + 1)) (dvS k e a b m).2)
theorem evP_set (x v : Int) : ∀ (l : List Int) (i : Nat), i < l.length → l.getD i 0 = 0 → evP (l.set i v) x = evP l x + v * x ^ i
  | [], i, h, _ => by simp at h
  | a :: l, 0, _, h0 => by
    simp only [List.getD_cons_zero] at h0
    simp only [List.set_cons_zero, evP, h0]; grind
  | a :: l, i + 1, h, h0 => by
    have ih := evP_set x v l i (by simpa using h) (by simpa using h0)
    simp only [List.set_cons_succ, evP, ih, Int.pow_succ]; grind
structure Dv (k e : Nat) (a b : List Int) (m : Nat) (o r : List Int) : Prop where
  ol : o.length = k
  oW : ∀ z, z ∈ o → 0 ≤ z ∧ z ≤ 65520
  o0 : ∀ j, j < k - m → o.getD j 0 = 0
  rl : r.length = k + e
  rW : ∀ z, z ∈ r → 0 ≤ z ∧ z ≤ 65520
  r0 : ∀ j, k - m + e ≤ j → r.getD j 0 = 0
  ev : ∀ x, Cg (evP a x) (evP r x + evP b x * evP o x)
theorem dv_ok {k e : Nat} {a b : List Int} (al : a.length = k + e) (aW : ∀ z, z ∈ a → 0 ≤ z ∧ z ≤ 65520) (bl : b.length = e + 1) (mon : b.getD e 0 = 1) : ∀ m, m ≤ k → Dv k e a b m (dvS k e a b m).1 (dvS k e a b m).2
  | 0, _ => by
    have hz : ∀ j, (List.replicate k (0 : Int)).getD j 0 = 0 := fun j => by
      simp only [List.getD_eq_getElem?_getD, List.getElem?_replicate]; split <;> rfl
    refine ⟨by simp [dvS], fun z h => ?_, fun j _ => hz j, al, aW, fun j hj => ?_, fun x => ?_⟩
    · have := (List.mem_replicate.1 h).2; omega
    · show a.getD j 0 = 0; rw [List.getD_eq_getElem?_getD, List.getElem?_eq_none (by omega)]; rfl
    · rw [dvS]; simp only [evP_zero]; simp; exact .refl _
  | m + 1, hm => by
    have ih := dv_ok al aW bl mon m (by omega)
    generalize hd : dvS k e a b m = d at ih
    obtain ⟨o, r⟩ := d
    simp only at ih
    have e1 : (dvS k e a b (m + 1)) = (o.set (k - (m + 1)) (r.getD (k - (m + 1) + e) 0), subA (r.getD (k - (m + 1) + e) 0) b (k - (m + 1)) r) := by simp only [dvS, hd]
    rw [e1]
    have hfit : k - (m + 1) + b.length ≤ r.length := by have := ih.rl; omega
    have hf : 0 ≤ r.getD (k - (m + 1) + e) 0 ∧ r.getD (k - (m + 1) + e) 0 ≤ 65520 := by
      refine ih.rW _ ?_
      have := ih.rl
      rw [List.getD_eq_getElem?_getD, List.getElem?_eq_getElem (by omega)]
      exact List.getElem_mem _
    have hol := ih.ol
    refine ⟨by simp [ih.ol], fun z hz => ?_, fun j hj => ?_, by simp [subA_len, ih.rl], subA_W _ _ _ _ ih.rW, fun j hj => ?_, fun x => ?_⟩
    · rcases List.mem_or_eq_of_mem_set hz with h | h
      · exact ih.oW z h
      · rw [h]; exact hf
    · rw [List.getD_eq_getElem?_getD, List.getElem?_set_ne (by omega), ← List.getD_eq_getElem?_getD]
      exact ih.o0 j (by omega)
    · simp only at hj ⊢
      rw [subA_get _ _ _ _ _ hfit]
      split
      · have ej : j = k - (m + 1) + e := by omega
        subst ej
        rw [show k - (m + 1) + e - (k - (m + 1)) = e by omega, mon, Int.mul_one, Int.sub_self]; rfl
      · rename_i hc
        exact ih.r0 j (by omega)
    · have h1 := ih.ev x
      have h2 := subA_ev (r.getD (k - (m + 1) + e) 0) x b (k - (m + 1)) r hfit
      have h3 := evP_set x (r.getD (k - (m + 1) + e) 0) o (k - (m + 1)) (by omega) (ih.o0 _ (by omega))
      simp only
      rw [h3]
      have h4 := (h2.add (Cg.refl (evP b x * (evP o x + r.getD (k - (m + 1) + e) 0 * x ^ (k - (m + 1)))))).symm
      refine (h1.trans (.of_eq ?_)).trans h4
      grind
end Go.DM

/- Sorting by insertion; lists of what is wrong, in order. No program stands here. -/
namespace Go.DM

def Srt (l : List Int) : Prop := l.Pairwise (· ≤ ·)
theorem Srt.ins {L : List Int} {v : Int} {j : Nat} (hs : Srt L) (h1 : ∀ y, y ∈ L.take j → y ≤ v) (h2 : ∀ y, y ∈ L.drop j → v ≤ y) : Srt (L.take j ++ v :: L.drop j) := by
  have h : Srt (L.take j ++ L.drop j) := by rw [List.take_append_drop]; exact hs
  unfold Srt at h ⊢
  rw [List.pairwise_append] at h ⊢
  obtain ⟨a, b, c⟩ := h
  refine ⟨a, List.pairwise_cons.2 ⟨h2, b⟩, fun x hx y hy => ?_⟩
  rcases List.mem_cons.1 hy with rfl | hy
  · exact h1 x hx
  · exact c x hx y hy
theorem Srt.one {a b : List Int} (ha : Srt a) (hb : Srt b) (h : a.Perm b) : a = b := h.eq_of_pairwise (fun x y _ _ h1 h2 => Int.le_antisymm h1 h2) ha hb
/-- In a sorted list the first elements are below what is above the last one of them. -/
theorem Srt.below {L : List Int} {v : Int} {j : Nat} (hs : Srt L) (hj : 0 < j) (hl : j ≤ L.length) (h : L.getD (j - 1) 0 ≤ v) : ∀ y, y ∈ L.take j → y ≤ v := by
  intro y hy
  obtain ⟨i, hi, rfl⟩ := List.getElem_of_mem hy
  have hi' : i < j := by simp at hi; omega
  rw [List.getElem_take]
  have hlast : L.getD (j - 1) 0 = L[j - 1] := by rw [List.getD_eq_getElem?_getD, List.getElem?_eq_getElem (by omega)]; rfl
  rw [hlast] at h
  by_cases he : i = j - 1
  · subst he; exact h
  · exact Int.le_trans (List.pairwise_iff_getElem.1 hs i (j - 1) (by omega) (by omega) (by omega)) h

section
variable {α : Type} (num : α → Int) (bad : α → Bool)
def wrongS (l : List α) (N : Nat) : List Int := (List.range N).flatMap fun n : Nat => (l.filter fun x => decide (num x = (n : Int) + 1) && bad x).map num
theorem wrongS_succ (l : List α) (N : Nat) : wrongS num bad l (N + 1) = wrongS num bad l N ++ (l.filter fun x => decide (num x = (N : Int) + 1) && bad x).map num := by
  simp [wrongS, List.range_succ]
theorem filter_or {α : Type} {p q : α → Bool} : ∀ {l : List α}, (∀ x, x ∈ l → ¬ (p x = true ∧ q x = true)) → (l.filter fun x => p x || q x).Perm (l.filter p ++ l.filter q)
  | [], _ => List.Perm.refl _
  | x :: l, h => by
    have ih := filter_or (p := p) (q := q) fun y hy => h y (List.mem_cons_of_mem _ hy)
    have hx := h x (List.mem_cons_self ..)
    cases hp : p x with
    | true =>
      have hq : q x = false := by
        cases hq : q x with
        | true => exact absurd ⟨hp, hq⟩ hx
        | false => rfl
      rw [List.filter_cons_of_pos (by simp [hp]), List.filter_cons_of_pos (by simp [hp]), List.filter_cons_of_neg (p := q) (by simp [hq])]
      exact ih.cons x
    | false =>
      cases hq : q x with
      | true =>
        rw [List.filter_cons_of_pos (by simp [hq]), List.filter_cons_of_neg (p := p) (by simp [hp]), List.filter_cons_of_pos (p := q) (by simp [hq])]
        exact (ih.cons x).trans List.perm_middle.symm
      | false =>
        rw [List.filter_cons_of_neg (by simp [hp, hq]), List.filter_cons_of_neg (p := p) (by simp [hp]), List.filter_cons_of_neg (p := q) (by simp [hq])]
        exact ih
theorem wrong_perm (l : List α) : ∀ N : Nat, (wrongS num bad l N).Perm ((l.filter fun x => decide (1 ≤ num x ∧ num x ≤ (N : Int)) && bad x).map num)
  | 0 => by
    have : (l.filter fun x => decide (1 ≤ num x ∧ num x ≤ ((0 : Nat) : Int)) && bad x) = [] := List.filter_eq_nil_iff.2 fun x _ => by
      simp only [Bool.and_eq_true, decide_eq_true_eq]; omega
    rw [this]; exact List.Perm.refl _
  | N + 1 => by
    rw [wrongS_succ]
    refine ((wrong_perm l N).append_right _).trans ?_
    rw [← List.map_append]
    refine List.Perm.map num ?_
    have e : (fun x => decide (1 ≤ num x ∧ num x ≤ ((N + 1 : Nat) : Int)) && bad x) = fun x => (decide (1 ≤ num x ∧ num x ≤ (N : Int)) && bad x) || (decide (num x = (N : Int) + 1) && bad x) := by
      funext x
      cases bad x with
      | false => simp
      | true =>
        rw [Bool.eq_iff_iff]
        simp only [Bool.and_true, Bool.or_eq_true, decide_eq_true_eq]
        omega
    rw [e]
    exact (filter_or fun x _ h => by
      simp only [Bool.and_eq_true, decide_eq_true_eq] at h
      omega).symm
theorem wrong_srt (l : List α) : ∀ N : Nat, Srt (wrongS num bad l N) ∧ ∀ y, y ∈ wrongS num bad l N → y ≤ (N : Int)
  | 0 => ⟨List.Pairwise.nil, fun y hy => by simp [wrongS] at hy⟩
  | N + 1 => by
    obtain ⟨h1, h2⟩ := wrong_srt l N
    have hm : ∀ y, y ∈ (l.filter fun x => decide (num x = (N : Int) + 1) && bad x).map num → y = (N : Int) + 1 := fun y hy => by
      obtain ⟨x, hx, rfl⟩ := List.mem_map.1 hy
      have := (List.mem_filter.1 hx).2
      simp only [Bool.and_eq_true, decide_eq_true_eq] at this
      exact this.1
    rw [wrongS_succ]
    refine ⟨List.pairwise_append.2 ⟨h1, ?_, fun x hx y hy => ?_⟩, fun y hy => ?_⟩
    · refine List.pairwise_iff_getElem.2 fun i j hi hj _ => ?_
      rw [hm _ (List.getElem_mem hi), hm _ (List.getElem_mem hj)]
      exact Int.le_refl _
    · rw [hm y hy]; have := h2 x hx; omega
    · rcases List.mem_append.1 hy with h | h
      · have := h2 y h; omega
      · rw [hm y h]; omega
theorem wrong_eq {l : List α} {N : Nat} {w : List Int} (h : ∀ x, x ∈ l → 1 ≤ num x ∧ num x ≤ (N : Int)) (hs : Srt w) (hp : w.Perm ((l.filter bad).map num)) : w = wrongS num bad l N := by
  have e : (l.filter fun x => decide (1 ≤ num x ∧ num x ≤ (N : Int)) && bad x) = l.filter bad := List.filter_congr fun x hx => by
    rw [decide_eq_true (h x hx)]; rfl
  have h2 := wrong_perm num bad l N
  rw [e] at h2
  exact hs.one (wrong_srt num bad l N).1 (hp.trans h2.symm)
theorem wrong_len (l : List α) (N : Nat) : (wrongS num bad l N).length ≤ l.length := by
  rw [(wrong_perm num bad l N).length_eq, List.length_map]
  exact List.length_filter_le _ _
end
end Go.DM
