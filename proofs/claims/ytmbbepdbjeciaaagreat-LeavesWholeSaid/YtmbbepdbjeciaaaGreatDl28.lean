/- A contract over no own block, put over some: what a call leaves behind is one block more. -/
import Derived.Test.YtmbbepdbjeciaaaGreatDl27
set_option linter.all false
namespace Go.DL
open Go.RowKit Go.Proofs

theorem CallSp.frame {P : Program} {f : FuncId} {xs : List D} {H : List Blk} {k n sz : Nat} {es : List (List D)}
    (h : CallSp P f (xs.map (snap (fun b => H[b]?) 5)) [] fun d' H' => d' = .ms k 0 n n ∧ H'[k]? = some (.live sz es)) (hf : ∀ e ∈ es, ∀ d ∈ e, freshD 5 d = true) :
    CallSp P f xs H fun d' H' => d' = .ms (H.length + 1) 0 n n ∧ H' = H ++ [.dead, .live sz es] := by
  refine ⟨h.1, fun w A φ vs hr hv => ?_⟩
  have hr0 : RH ⟨(both A φ).on, w.heap.size⟩ nowhere w [] :=
    ⟨fun _ _ => rfl, fun _ h => (by simp at h), fun _ h => (by simp at h), fun _ _ _ h => (by simp at h), fun _ _ _ _ _ _ _ _ _ h => (by cases h), fun _ ⟨_, _, _, _, h⟩ => (by cases h),
      fun n hn => hn.elim (hr.lt n) (hr.olt n), fun _ ⟨_, _, _, _, h⟩ => (by cases h), fun _ ⟨_, _, _, _, h⟩ => (by cases h), Nat.le_refl _⟩
  refine (h.2 w ⟨(both A φ).on, w.heap.size⟩ nowhere vs hr0 (hv.snap (B := ⟨(both A φ).on, w.heap.size⟩) hr (fun _ _ _ x => x) (fun n x => Or.inl x) (fun b sz es n base sz' room _ hp => Or.inr ⟨b, _, _, _, hp⟩) 5)).mono ?_
  rintro e w' ⟨v, d, H', A', φ', rfl, ⟨hd, hH'⟩, hr', hvd, hev⟩
  subst hd
  have nown : ∀ m, ¬ own nowhere m := fun m ⟨_, _, _, _, h⟩ => by cases h
  have hn : ∀ m, own φ' m → w.heap.size ≤ m := fun m hm => (hev.ext.own m hm).resolve_left (nown m)
  have hs : ∀ m, m < w.heap.size → w'.heap[m]? = w.heap[m]? := fun m hm => hev.ext.same m hm (nown m)
  have hr1 := hr.move (w' := w') (fun m hm => hs m (hr.lt m hm)) (fun m hm => hs m (hr.olt m hm)) hev.ext.size
  let φ2 : Nat → Loc := fun b => if b = H.length + 1 then φ' k else if b = H.length then .dead else φ b
  have p1 : φ2 (H.length + 1) = φ' k := by simp [φ2]
  have p0 : φ2 H.length = .dead := by simp [φ2]
  have pb : ∀ {b}, b ≠ H.length + 1 → b ≠ H.length → φ2 b = φ b := fun h1 h2 => by simp [φ2, h1, h2]
  have pl : ∀ {b}, b < H.length → φ2 b = φ b := fun h => pb (by omega) (by omega)
  have f_ge : ∀ b, H.length ≤ b → φ b = .free := fun b hb => hr.out b (List.getElem?_eq_none hb)
  have le2 : ∀ b, (φ b).le (φ2 b) := fun b => by
    rcases Nat.lt_or_ge b H.length with x | x
    · rw [pl x]; exact Loc.le_refl _
    · exact .inl (f_ge b x)
  -- where a place of φ2 comes from
  have back : ∀ {b m base sz room}, φ2 b = .loc m base sz room → (b = H.length + 1 ∧ φ' k = .loc m base sz room) ∨ (b < H.length ∧ φ b = .loc m base sz room) := fun {b m base sz room} hb => by
    by_cases h1 : b = H.length + 1
    · subst h1; rw [p1] at hb; exact .inl ⟨rfl, hb⟩
    · by_cases h2 : b = H.length
      · subst h2; rw [p0] at hb; cases hb
      · rw [pb h1 h2] at hb
        rcases Nat.lt_or_ge b H.length with x | x
        · exact .inr ⟨x, hb⟩
        · rw [f_ge b x] at hb; cases hb
  have own2 : ∀ {m}, own φ2 m → own φ' m ∨ own φ m := fun ⟨b, base, sz, room, hb⟩ => (back hb).elim (fun x => .inl ⟨k, _, _, _, x.2⟩) fun x => .inr ⟨b, _, _, _, x.2⟩
  have b0le : A.b0 ≤ w.heap.size := hr.bsz
  refine ⟨v, _, _, ⟨fun m => A m ∨ (A' m ∧ w.heap.size ≤ m), A.b0⟩, φ2, rfl, ⟨rfl, rfl⟩, ?_, ?_, ⟨⟨hev.ext.os, hev.ext.tape, hev.ext.output, hev.ext.size, fun m hm _ => hs m hm, fun m hm => (own2 hm).elim (fun x => .inr (hn m x)) .inl⟩, fun _ x => .inl x, fun m hm => hm.elim .inl fun x => .inr (.inr x.2), le2, rfl⟩⟩
  · have len2 : (H ++ [Blk.dead, .live sz es]).length = H.length + 2 := by simp
    have get : ∀ b x, (H ++ [Blk.dead, .live sz es])[b]? = some x → (b < H.length ∧ H[b]? = some x) ∨ (b = H.length ∧ x = .dead) ∨ (b = H.length + 1 ∧ x = .live sz es) := fun b x hx => by
      rcases Nat.lt_or_ge b H.length with y | y
      · rw [List.getElem?_append_left y] at hx; exact .inl ⟨y, hx⟩
      · rw [List.getElem?_append_right y] at hx
        rcases hk : b - H.length with _ | _ | q
        · rw [hk] at hx; cases hx; exact .inr (.inl ⟨by omega, rfl⟩)
        · rw [hk] at hx; cases hx; exact .inr (.inr ⟨by omega, rfl⟩)
        · rw [hk] at hx; simp at hx
    refine ⟨fun b hb => ?_, fun b hb => ?_, fun b hb => ?_, fun b sz' es' hb => ?_, fun b b' m base sz1 room base' sz' room' h1 h2 => ?_, fun m hm ha => ?_, fun m hm => ?_, fun m hm => ?_, fun m hm => ?_, Nat.le_trans b0le hev.ext.size⟩
    · rw [List.getElem?_eq_none_iff, len2] at hb
      rw [pb (by omega) (by omega)]; exact f_ge b (by omega)
    · rcases get b _ hb with ⟨h1, h2⟩ | ⟨_, h2⟩ | ⟨_, h2⟩
      · rw [pl h1]; exact hr.free b h2
      · cases h2
      · cases h2
    · rcases get b _ hb with ⟨h1, h2⟩ | ⟨h1, _⟩ | ⟨_, h2⟩
      · rw [pl h1]; exact hr.dead b h2
      · subst h1; exact p0
      · cases h2
    · rcases get b _ hb with ⟨h1, h2⟩ | ⟨_, h2⟩ | ⟨h1, h2⟩
      · rw [pl h1]
        exact (hr1.live b sz' es' h2).imp id fun ⟨m, base, room, c, ty, q1, q2⟩ => ⟨m, base, room, c, ty, q1, q2.mono (fun _ x => Or.inl x) (fun _ _ => rfl) le2 rfl⟩
      · cases h2
      · cases h2
        subst h1
        rw [p1]
        have e0 : A'.b0 = w.heap.size := hev.b0
        rcases hr'.live k sz es hH' with q | ⟨m, base, room, c, ty, q1, q2⟩
        · exact .inl q
        · refine .inr ⟨m, base, room, c, ty, q1, q2.blk, q2.fits, q2.size, q2.len, fun i e j d k1 k2 => ?_⟩
          obtain ⟨u, k3, k4⟩ := q2.val i e j d k1 k2
          exact ⟨u, k3, k4.freshUp (A' := ⟨fun m => A m ∨ (A' m ∧ w.heap.size ≤ m), A.b0⟩) (fun m hm hb => Or.inr ⟨hm, by rw [e0] at hb; exact hb⟩) (by rw [e0]; exact b0le) 5 (hf e (List.mem_of_getElem? k1) d (List.mem_of_getElem? k2))⟩
    · rcases back h1 with ⟨x1, x2⟩ | ⟨x1, x2⟩
      · rcases back h2 with ⟨y1, y2⟩ | ⟨y1, y2⟩
        · omega
        · have := hn m ⟨k, _, _, _, x2⟩
          have := hr.olt m ⟨b', _, _, _, y2⟩
          omega
      · rcases back h2 with ⟨y1, y2⟩ | ⟨y1, y2⟩
        · have := hn m ⟨k, _, _, _, y2⟩
          have := hr.olt m ⟨b, _, _, _, x2⟩
          omega
        · exact hr.inj _ _ _ _ _ _ _ _ _ x2 y2
    · rcases own2 hm with x | x
      · rcases ha with ha | ha
        · have := hr.lt m ha; have := hn m x; omega
        · exact hr'.dis m x ha.1
      · rcases ha with ha | ha
        · exact hr.dis m x ha
        · have := hr.olt m x; omega
    · exact hm.elim (fun x => Nat.lt_of_lt_of_le (hr.lt m x) hev.ext.size) fun x => hr'.lt m x.1
    · exact (own2 hm).elim (hr'.olt m) fun x => Nat.lt_of_lt_of_le (hr.olt m x) hev.ext.size
    · exact (own2 hm).elim (fun x => Nat.le_trans b0le (hn m x)) (hr.ofr m)
  · cases hvd with
    | ms _ _ _ _ _ cap' a h1 h2 h3 => exact .ms _ _ _ _ _ _ _ h1 h2 (by rw [p1]; exact h3)
end Go.DL
