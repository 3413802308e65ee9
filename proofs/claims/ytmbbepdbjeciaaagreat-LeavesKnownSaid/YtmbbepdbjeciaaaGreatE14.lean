/- slices.SortFunc over a block of one's own, at whatever length: out of the library's contract, for any comparison that has a plain contract. -/
import Derived.Test.YtmbbepdbjeciaaaGreatE11
import Derived.Shelf.SlSortCmp.WholeK
import Derived.Shelf.SlSortCmp.NoneTotal
import Derived.Test.YtmbbepdbjeciaaaGreatE13
import Derived.Shelf.SortM.Plain
import Derived.Shelf.SortM.SortNone
namespace Go.DL
open Go.RowKit Go.Proofs Go.Shelf

noncomputable section

theorem Ext.grown {w w' : World} (h : Ext w (fun _ => False) w' (fun _ => False)) : ∃ q os, w' = Go.Sort.grow (w.drewN q) os := by
  refine ⟨w'.drawn - w.drawn, w'.heap.extract w.heap.size w'.heap.size, ?_⟩
  have h1 := h.os
  have h2 := h.tape
  have h3 := h.output
  have h4 := h.drawn
  have hh : w'.heap = w.heap ++ w'.heap.extract w.heap.size w'.heap.size := by
    apply Array.ext_getElem?
    intro k
    have h5 := h.size
    by_cases hk : k < w.heap.size
    · rw [Array.getElem?_append_left hk, h.same k hk fun x => x]
    · rw [Array.getElem?_append_right (by omega), Array.getElem?_extract]
      by_cases h6 : k < w'.heap.size
      · rw [if_pos (by rw [Nat.min_self]; omega)]; congr 1; omega
      · rw [if_neg (by rw [Nat.min_self]; omega)]; exact Array.getElem?_eq_none (by omega)
  obtain ⟨hp, tp, dr, os, ou⟩ := w
  obtain ⟨hp', tp', dr', os', ou'⟩ := w'
  simp only [Go.Sort.grow, World.drewN] at *
  subst h1 h2 h3
  rw [← hh]
  congr 1
  omega

/-- How a comparison may look at a cell: as it is, or not at all. -/
def SeeV (d : D) (u : Value) : Prop := d = .any ∨ d = .v u

theorem SeeV.v {A : Rd} {w : World} {φ : Nat → Loc} {d : D} {u : Value} (h : SeeV d u) : V A w φ d u := by
  rcases h with h | h
  · rw [h]; exact .any _ _
  · rw [h]; exact .v _ _

/-- The cells of an element: sz of them, each of one cell, as the comparison sees them. -/
structure CE (sz : Nat) (kd : List D) (us : List Value) : Prop where
  len : us.length = sz
  one : ∀ v ∈ us, v.oneCell' = true
  see : ∀ (j : Nat) (d : D) (u : Value), kd[j]? = some d → us[j]? = some u → SeeV d u

section
variable {P : Program} {T : Type}

theorem enc_get {α : Type} [Inhabited α] (enc : α → List Value) (sz : Nat) (d : Array α) {i j : Nat} (hi : i < d.size) (hj : j < sz) :
    (Go.Sort.flatK enc sz d)[i * sz + j]! = (enc d[i]!)[j]! ∧ i * sz + j < d.size * sz := by
  have lt : i * sz + j < d.size * sz := by
    have := Nat.mul_le_mul_right sz (show i + 1 ≤ d.size from hi); rw [Nat.add_mul, Nat.one_mul] at this; omega
  have e1 : (i * sz + j) / sz = i := (Go.Sort.blk_iff sz i _ (by omega)).1 ⟨by omega, by omega⟩
  have e2 : (i * sz + j) % sz = j := by rw [Nat.mod_eq_sub_div_mul, e1]; omega
  exact ⟨by rw [Go.Sort.get_flatK _ _ _ _ lt, e1, e2], lt⟩

/-- What the sort leaves of a list. -/
structure Sorts (cf : T → T → Int) (l l' : List T) : Prop where
  perm : l'.Perm l
  srt : l'.Pairwise fun a b => ¬ cf b a < 0

theorem sortFunc_ok {ρ : Ren} (L : SlLaysF0.n6 P ρ) {sz : Nat} (ha : isAggD P (ρ.t 24) = some true) (hs : tsz P (ρ.t 24) = some sz) (eD kD : T → List D) (cf : T → T → Int)
    (hO : Go.Sort.SWO (Go.Proofs.ltOf cf)) {g : FuncId} (hg : ∀ x y us vs, CE sz (kD x) us → CE sz (kD y) vs → Maps P g [.agg (us.map .v), .agg (vs.map .v)] (.v (.int .i64 (cf x y))))
    {H : List Blk} {b cap : Nat} {l : List T} (hb : H[b]? = some (.live sz (l.map eD))) (hlen : l.length < 4611686018427387904)
    (hk : ∀ x ∈ l, (kD x).length = sz) (hc : ∀ x ∈ l, (eD x).all isCell = true)
    (he : ∀ x ∈ l, ∀ (j : Nat) (d d' : D), (eD x)[j]? = some d → (kD x)[j]? = some d' → d' = .any ∨ ∃ u, d' = .v u ∧ d = .v u) :
    CallSp P (ρ.f 6) [.ms b 0 l.length cap, .fn (.func g) [] []] H fun d H' => d = .tup [] ∧ ∃ l', Sorts cf l l' ∧ H' = H.set b (.live sz (l'.map eD)) := by
  refine ⟨L.f6.enters rfl, fun w A φ vs hr hv => ?_⟩
  rw [callsIn_wide]
  obtain ⟨hvs, hvv⟩ := hv
  obtain ⟨v1, v2, rfl⟩ : ∃ v1 v2, vs = #[v1, v2] := by
    obtain ⟨l⟩ := vs
    match l, hvs with
    | [a, b], _ => exact ⟨a, b, rfl⟩
  have q1 := hvv 0 _ v1 rfl rfl
  have q2 := hvv 1 _ v2 rfl rfl
  cases q1 with
  | ms _ _ _ _ _ cap' a hle hcap hp =>
  cases q2 with
  | fn _ _ _ _ vs us hl1 hl2 _ _ =>
  have e1 : vs = #[] := Array.eq_empty_of_size_eq_zero (by simpa using hl1)
  have e2 : us = #[] := Array.eq_empty_of_size_eq_zero (by simpa using hl2)
  subst e1 e2
  have hset : ∀ (φ : Nat → Loc), H.set b (.live sz (l.map eD)) = H := fun _ => by
    refine List.ext_getElem? fun i => ?_
    rw [List.getElem?_set]
    split
    · rename_i e; subst e; rw [if_pos (List.getElem?_eq_some_iff.1 hb).1, hb]
    · rfl
  by_cases h0 : l.length = 0
  · have hl0 := List.eq_nil_of_length_eq_zero h0
    rw [h0]
    refine (AnyF.slices_SortFunc_none L a cap' _ w).mono ?_
    rintro e w' ⟨rfl, rfl⟩
    refine ⟨_, _, H, A, φ, rfl, ⟨rfl, l, ⟨.refl _, by rw [hl0]; exact .nil⟩, (hset φ).symm⟩, hr, .tup _ _ _ rfl fun i d u h => by simp at h, ⟨Ext.refl _ _, fun _ x => x, fun _ => .inl, fun _ => Loc.le_refl _, rfl⟩⟩
  · rcases hr.live b sz _ hb with ⟨e0, _⟩ | ⟨n, base, room, c, ty, hφ, hL⟩
    · exact absurd (by simpa using congrArg List.length e0) h0
    rw [hφ] at hp
    obtain ⟨hroom, hadr⟩ := hp
    have hat : a = some ⟨n, base, none⟩ := by
      rcases hadr with h | h
      · omega
      · simpa using h
    subst hat
    have hfits := hL.fits
    rw [List.length_map] at hfits
    have hsize := hL.size
    -- the elements, with their cells
    let α := { p : T × List Value // p.1 ∈ l ∧ CE sz (kD p.1) p.2 }
    have mk : ∀ i : Fin l.length, ∃ a : α, a.1.1 = l[i] ∧ ∀ j, j < sz → c[base + i * sz + j]? = a.1.2[j]? ∧ ∀ d, (eD l[i])[j]? = some d → ∃ u, a.1.2[j]? = some u ∧ V A w φ d u := fun i => by
      have hmem : l[i] ∈ l := List.getElem_mem _
      have hie : (l.map eD)[i.1]? = some (eD l[i]) := by simp
      have hel := hL.len _ _ hie
      have hsz : base + i.1 * sz + sz ≤ c.size := by
        have := Nat.mul_le_mul_right sz (show i.1 + 1 ≤ room by have := i.2; omega)
        rw [Nat.add_mul, Nat.one_mul] at this; omega
      have hget : ∀ j, j < sz → ((List.range sz).map fun j => (c[base + i.1 * sz + j]?).getD default)[j]? = c[base + i.1 * sz + j]? := fun j hj => by
        simp [hj, show base + i.1 * sz + j < c.size by omega]
      have hu : ∀ (j : Nat) (d : D), (eD l[i])[j]? = some d → ∃ u, ((List.range sz).map fun j => (c[base + i.1 * sz + j]?).getD default)[j]? = some u ∧ V A w φ d u := fun j d hd => by
        obtain ⟨u, h1, h2⟩ := hL.val _ _ _ _ hie hd
        have hj : j < sz := by rw [← hel]; exact (List.getElem?_eq_some_iff.1 hd).1
        exact ⟨u, (hget j hj).trans h1, h2⟩
      refine ⟨⟨(l[i], (List.range sz).map fun j => (c[base + i.1 * sz + j]?).getD default), hmem, by simp, fun v hv => ?_, fun j d u h1 h2 => ?_⟩, rfl, fun j hj => ⟨(hget j hj).symm, fun d hd => hu j d hd⟩⟩
      · obtain ⟨j, hj, rfl⟩ := List.getElem_of_mem hv
        have hj' : j < sz := by simpa using hj
        have hj2 : j < (eD l[i]).length := by rw [hel]; exact hj'
        obtain ⟨u, h1, h2⟩ := hu j _ (List.getElem?_eq_getElem hj2)
        rw [List.getElem?_eq_getElem hj] at h1
        cases h1
        have := hc _ hmem
        rw [List.all_eq_true] at this
        exact h2.isCell (this _ (List.getElem_mem hj2))
      · have hj' : j < sz := by simpa using (List.getElem?_eq_some_iff.1 h2).1
        have hj2 : j < (eD l[i]).length := by rw [hel]; exact hj'
        obtain ⟨u', h3, h4⟩ := hu j _ (List.getElem?_eq_getElem hj2)
        rw [h2] at h3; cases h3
        rcases he _ hmem j _ d (List.getElem?_eq_getElem hj2) h1 with e | ⟨u', e, e'⟩
        · exact .inl e
        · rw [e'] at h4; cases h4; exact .inr e
    have hpos : 0 < l.length := Nat.pos_of_ne_zero h0
    obtain ⟨f, hf⟩ := Classical.axiomOfChoice mk
    letI : Inhabited α := ⟨f ⟨0, hpos⟩⟩
    let enc : α → List Value := fun x => x.1.2
    let cfa : α → α → Int := fun x y => cf x.1.1 y.1.1
    let d : Array α := Array.ofFn f
    have hds : d.size = l.length := by simp [d]
    have hdg : ∀ (i : Nat) (hi : i < l.length), d[i]! = f ⟨i, hi⟩ := fun i hi => by
      rw [getElem!_pos d i (by omega)]; simp [d]
    have hkenc : ∀ x : α, (enc x).length = sz := fun x => x.2.2.len
    have hOa : Go.Sort.SWO (ltOf cfa) := ⟨fun x => hO.irrefl x.1.1, fun x y z => hO.trans x.1.1 y.1.1 z.1.1, fun x y z => hO.ntrans x.1.1 y.1.1 z.1.1⟩
    have hnlt : n < w.heap.size := hr.olt n ⟨b, _, _, _, hφ⟩
    have hsz0 : ∀ i, i < l.length → ∀ j, j < sz → base + i * sz + j < c.size := fun i hi j hj => by
      have := Nat.mul_le_mul_right sz (show i + 1 ≤ room by omega)
      rw [Nat.add_mul, Nat.one_mul] at this; omega
    have hH : Go.Sort.HoldsK enc sz w n base d := fun t ht => by
      rw [Go.Sort.size_flatK] at ht
      have hs0 : 0 < sz := by rcases Nat.eq_zero_or_pos sz with h | h; · rw [h] at ht; omega
                              · exact h
      have hi : t / sz < l.length := by rw [← hds]; exact Nat.div_lt_of_lt_mul (by rw [Nat.mul_comm]; exact ht)
      have hj := Nat.mod_lt t hs0
      have hte : t = t / sz * sz + t % sz := by rw [Nat.mul_comm]; exact (Nat.div_add_mod t sz).symm
      have h1 := (hf ⟨t / sz, hi⟩).2 (t % sz) hj
      have hlt := hsz0 _ hi _ hj
      refine ⟨?_, by simp [World.frozen?, hL.blk]⟩
      rw [cell_of_blk hL.blk]
      conv => lhs; rw [hte, ← Nat.add_assoc, h1.1]
      conv => rhs; rw [hte, (enc_get enc sz d (by omega) hj).1, hdg _ hi]
      have : t % sz < (enc (f ⟨t / sz, hi⟩)).length := by rw [hkenc]; exact hj
      show (enc (f ⟨t / sz, hi⟩))[t % sz]? = _
      rw [List.getElem?_eq_getElem this]
      exact congrArg some (getElem!_pos (enc (f ⟨t / sz, hi⟩)) (t % sz) this).symm
    have hcmp : CmpLays P g #[] enc sz cfa n base d.size w := fun m os dk _ x y => by
      generalize sortWorldK enc sz w n base m dk os = W
      have h := (hg x.1.1 y.1.1 x.1.2 y.1.2 x.2.2 y.2.2).2 W (fun _ => False) #[.agg (enc x).toArray, .agg (enc y).toArray] (fun _ h => h.elim) ⟨rfl, fun i dd u h1 h2 => by
        have go : ∀ z : α, V ⟨fun _ => False, W.heap.size⟩ W nowhere (.agg (z.1.2.map D.v)) (.agg (enc z).toArray) := fun z =>
          .agg _ _ _ (by simp [enc]) fun j d u h1 h2 => by
            have h3 : z.1.2[j]? = some u := by simpa [enc] using h2
            rw [List.getElem?_map, h3] at h1
            cases h1; exact .v _ _
        match i, h1, h2 with
        | 0, h1, h2 => cases h1; cases h2; exact go x
        | 1, h1, h2 => cases h1; cases h2; exact go y
        | i + 2, h1, _ => simp at h1⟩
      rw [callsIn_wide] at h
      refine h.mono ?_
      rintro e w' ⟨v, A', rfl, hv, _, _, _, hx⟩
      exact ⟨by rw [hv.v_inv], hx.grown⟩
    have key := AnyQ.slices_SortFunc L sz (fun w => run_isAgg ha w) (fun w => run_sizeOf hs w) enc hkenc (fun x v hv => x.2.2.one v hv) cfa hOa g #[] n base cap' d w (hg _ _ _ _ (f ⟨0, hpos⟩).2.2 (f ⟨0, hpos⟩).2.2).1 hcmp hH hnlt (by omega)
    rw [hds] at key
    refine key.mono ?_
    rintro e w' ⟨rfl, d', nd, os, hP, hS, rfl⟩
    obtain ⟨hP1, _, hP2⟩ := hP
    have hperm : d'.toList.Perm d.toList := by
      have e1 : (d'.extract 0 l.length).toList = d'.toList := by rw [← hds, ← hP1]; simp
      have e2 : (d.extract 0 l.length).toList = d.toList := by rw [← hds]; simp
      rw [e1, e2] at hP2; exact hP2
    have hd's : d'.size = l.length := by omega
    have hmap : d.toList.map (fun x => x.1.1) = l := by
      refine List.ext_getElem? fun i => ?_
      by_cases hi : i < l.length
      · simp only [List.getElem?_map, d, Array.toList_ofFn, List.getElem?_ofFn, hi, dite_true, Option.map_some]
        rw [List.getElem?_eq_getElem hi, (hf ⟨i, hi⟩).1]; rfl
      · rw [List.getElem?_eq_none (by simp [d]; omega), List.getElem?_eq_none (by omega)]
    -- the row behind the sort
    have hrow : ∀ x ∈ d'.toList, ∀ (j : Nat) (dd : D), (eD x.1.1)[j]? = some dd → ∃ u, (enc x)[j]? = some u ∧ V A w φ dd u := fun x hx j dd hd => by
      have hx' := hperm.subset hx
      obtain ⟨i, hi, rfl⟩ := List.getElem_of_mem hx'
      have hi' : i < l.length := by simpa [d] using hi
      have e : d.toList[i] = f ⟨i, hi'⟩ := by simp [d]
      rw [e] at hd ⊢
      rw [(hf ⟨i, hi'⟩).1] at hd
      have hj : j < sz := by
        have := hL.len i (eD l[i]) (by simp [hi'])
        rw [← this]; exact (List.getElem?_eq_some_iff.1 hd).1
      obtain ⟨_, h⟩ := (hf ⟨i, hi'⟩).2 j hj
      obtain ⟨u, h1, h2⟩ := h dd hd
      exact ⟨u, h1, h2⟩
    refine ⟨_, _, H.set b (.live sz ((d'.toList.map fun x => x.1.1).map eD)), A, φ, rfl, ⟨rfl, d'.toList.map (fun x => x.1.1), ⟨?_, ?_⟩, rfl⟩, ?_, .tup _ _ _ rfl fun i d u h => by simp at h, ?_⟩
    · have := hperm.map (fun x => x.1.1); rwa [hmap] at this
    · rw [List.pairwise_map, List.pairwise_iff_getElem]
      intro i j hi hj hij
      have h := hS i j (Nat.zero_le _) hij (by simpa [hd's] using hj)
      have e1 : d'[i]! = d'.toList[i] := by rw [getElem!_pos d' i (by simpa using hi)]; simp
      have e2 : d'[j]! = d'.toList[j] := by rw [getElem!_pos d' j (by simpa using hj)]; simp
      rw [e1, e2] at h
      simpa [ltOf, cfa] using h
    · -- the frame's blocks
      have hW : (sortWorldK enc sz w n base nd d' os).heap = (Go.Sort.putRowK enc sz (Go.Sort.ahead w nd) n base d').heap ++ os := rfl
      have hps : (Go.Sort.putRowK enc sz (Go.Sort.ahead w nd) n base d').heap.size = w.heap.size := by simp [Go.Sort.putRowK, Go.Sort.putRow, Go.Sort.mapBlock]
      have hpo : ∀ m, m ≠ n → m < w.heap.size → (sortWorldK enc sz w n base nd d' os).heap[m]? = w.heap[m]? := fun m hm hlt => by
        rw [hW, Array.getElem?_append_left (by omega)]
        simp only [Go.Sort.putRowK, Go.Sort.putRow, Go.Sort.mapBlock, Array.getElem?_modify, Go.Sort.heap_ahead]
        rw [if_neg (Ne.symm hm)]
      have hpn : (sortWorldK enc sz w n base nd d' os).heap[n]? = some (.cells (Go.Sort.putCells id base (Go.Sort.flatK enc sz d') c) ty (0, 0)) := by
        rw [hW, Array.getElem?_append_left (by omega)]
        simp only [Go.Sort.putRowK, Go.Sort.putRow, Go.Sort.mapBlock, Array.getElem?_modify, Go.Sort.heap_ahead, if_true, hL.blk, Option.map_some, Go.Sort.onCells]
      have hdis := hr.dis n ⟨b, _, _, _, hφ⟩
      have hsame : ∀ m, A m → (sortWorldK enc sz w n base nd d' os).heap[m]? = w.heap[m]? := fun m hm => hpo m (fun e => hdis (e ▸ hm)) (hr.lt m hm)
      have hup : upd φ b (.loc n base sz room) = φ := by funext x; by_cases e : x = b <;> simp [upd, e, hφ]
      have hsz' : w.heap.size ≤ (sortWorldK enc sz w n base nd d' os).heap.size := by rw [hW, Array.size_append]; omega
      have hlay := hr.lay (A' := A) (w' := sortWorldK enc sz w n base nd d' os) (List.getElem?_eq_some_iff.1 hb).1 (l := .loc n base sz room) (x := .live sz ((d'.toList.map fun x => x.1.1).map eD)) (by rw [hφ]; exact Loc.le_refl _) hsame (fun _ x => x) (fun _ x => .inl x)
        (fun b' m base' sz' room' hne e => hpo m (fun e' => hne (hr.inj b' b n base' sz' room' base sz room (e' ▸ e) hφ)) (hr.olt m ⟨b', _, _, _, e⟩)) hsz'
        ⟨by simp, by simp, fun sz' es'' e => by
          cases e
          refine .inr ⟨n, base, room, _, ty, rfl, hpn, by simp; omega, by simpa [Go.Sort.putCells] using hsize, fun i e he => ?_, fun i e j dd h1 h2 => ?_⟩
          · simp only [List.getElem?_map, Option.map_eq_some_iff] at he
            obtain ⟨t, ⟨x, hx, rfl⟩, rfl⟩ := he
            have hm : x.1.1 ∈ l := x.2.1
            obtain ⟨i', hi', hie⟩ := List.getElem_of_mem hm
            exact hL.len i' _ (by rw [List.getElem?_map, List.getElem?_eq_getElem hi', hie]; rfl)
          · simp only [List.getElem?_map, Option.map_eq_some_iff] at h1
            obtain ⟨t, ⟨x, hx, rfl⟩, rfl⟩ := h1
            obtain ⟨u, hu, hv⟩ := hrow x (List.mem_of_getElem? hx) j dd h2
            have hi : i < d'.size := by simpa using (List.getElem?_eq_some_iff.1 hx).1
            have hj : j < sz := by rw [← hkenc x]; exact (List.getElem?_eq_some_iff.1 hu).1
            have hxg : d'[i]! = x := by
              rw [getElem!_pos d' i hi]
              have := (List.getElem?_eq_some_iff.1 hx).2
              simpa using this
            have hcs := hsz0 i (by omega) j hj
            have hg2 := enc_get enc sz d' hi hj
            refine ⟨u, ?_, hv.mono (fun _ x => x) hsame (by rw [hup]; exact fun _ => Loc.le_refl _)⟩
            simp only [Go.Sort.putCells, Array.getElem?_mapIdx, Array.getElem?_eq_getElem hcs, Option.map_some, Go.Sort.size_flatK, id]
            rw [if_pos ⟨by omega, by omega⟩, show base + i * sz + j - base = i * sz + j by omega, hg2.1, hxg]
            rw [List.getElem?_eq_some_iff] at hu
            obtain ⟨h5, h6⟩ := hu
            rw [getElem!_pos (enc x) j h5, h6]⟩
        (fun _ _ e => by cases e)
        (fun m base' sz' room' e => by
          cases e
          exact ⟨Nat.lt_of_lt_of_le hnlt hsz', hdis, fun b' base' sz' room' hne e => hne (hr.inj b' b n base' sz' room' base sz room e hφ), hr.ofr n ⟨b, _, _, _, hφ⟩⟩)
      rw [hup] at hlay
      exact hlay
    · have hW : (sortWorldK enc sz w n base nd d' os).heap = (Go.Sort.putRowK enc sz (Go.Sort.ahead w nd) n base d').heap ++ os := rfl
      have hps : (Go.Sort.putRowK enc sz (Go.Sort.ahead w nd) n base d').heap.size = w.heap.size := by simp [Go.Sort.putRowK, Go.Sort.putRow, Go.Sort.mapBlock]
      refine ⟨⟨rfl, rfl, rfl, Nat.le_add_right _ _, by rw [hW, Array.size_append]; omega, fun m hm ho => ?_, fun m hm => .inl hm⟩, fun _ x => x, fun _ => .inl, fun _ => Loc.le_refl _, rfl⟩
      rw [hW, Array.getElem?_append_left (by omega)]
      simp only [Go.Sort.putRowK, Go.Sort.putRow, Go.Sort.mapBlock, Array.getElem?_modify, Go.Sort.heap_ahead]
      rw [if_neg (fun e : n = m => ho (e ▸ (⟨b, _, _, _, hφ⟩ : own φ n)))]
/-- A comparison that sees all cells as they are. -/
theorem CE.exact {sz : Nat} {kd : List D} {us : List Value} (h : CE sz kd us) (hl : kd.length = sz) (hk : ∀ d ∈ kd, ∃ u, d = .v u) : us.map D.v = kd := by
  refine List.ext_getElem? fun j => ?_
  rw [List.getElem?_map]
  by_cases hj : j < sz
  · have h1 : j < us.length := by rw [h.len]; exact hj
    have h2 : j < kd.length := by rw [hl]; exact hj
    rw [List.getElem?_eq_getElem h1, List.getElem?_eq_getElem h2]
    have h3 := h.see j _ _ (List.getElem?_eq_getElem h2) (List.getElem?_eq_getElem h1)
    obtain ⟨u, hu⟩ := hk _ (List.getElem_mem h2)
    rcases h3 with h3 | h3
    · rw [hu] at h3; cases h3
    · rw [h3]; rfl
  · rw [List.getElem?_eq_none (by rw [h.len]; omega), List.getElem?_eq_none (by omega)]; rfl
theorem sortFunc_exact {ρ : Ren} (L : SlLaysF0.n6 P ρ) {sz : Nat} (ha : isAggD P (ρ.t 24) = some true) (hs : tsz P (ρ.t 24) = some sz) (eD : T → List D) (cf : T → T → Int)
    (hO : Go.Sort.SWO (Go.Proofs.ltOf cf)) {g : FuncId} (hg : ∀ x y, Maps P g [.agg (eD x), .agg (eD y)] (.v (.int .i64 (cf x y))))
    {H : List Blk} {b cap : Nat} {l : List T} (hb : H[b]? = some (.live sz (l.map eD))) (hlen : l.length < 4611686018427387904)
    (hk : ∀ x, (eD x).length = sz) (hv : ∀ x, ∀ d ∈ eD x, ∃ u, d = .v u) (hc : ∀ x, (eD x).all isCell = true) :
    CallSp P (ρ.f 6) [.ms b 0 l.length cap, .fn (.func g) [] []] H fun d H' => d = .tup [] ∧ ∃ l', Sorts cf l l' ∧ H' = H.set b (.live sz (l'.map eD)) :=
  sortFunc_ok L ha hs eD eD cf hO (fun x y us vs h1 h2 => by rw [h1.exact (hk x) (hv x), h2.exact (hk y) (hv y)]; exact hg x y) hb hlen (fun x _ => hk x) (fun x _ => hc x)
    fun x _ j d d' h1 h2 => by
      rw [h1] at h2; cases h2
      obtain ⟨u, hu⟩ := hv x d (List.mem_of_getElem? h1)
      exact .inr ⟨u, hu, hu⟩
end
end
end Go.DL

/- What stays ahead of new blocks; results of a cell and a temporary; how arguments read. -/
namespace Go.DL
open Go.RowKit Go.Proofs

noncomputable section
/-- The blocks H are as they were; others lie behind them. -/
structure Pre (H H2 : List Blk) : Prop where
  ex : ∃ T, H2 = H ++ T
section
variable {H H2 H3 : List Blk} {b : Nat} {x : Blk}
theorem Pre.refl (H : List Blk) : Pre H H := ⟨[], (List.append_nil _).symm⟩
theorem Pre.app (h : Pre H H2) (T : List Blk) : Pre H (H2 ++ T) := by
  obtain ⟨T1, rfl⟩ := h.ex
  exact ⟨T1 ++ T, List.append_assoc _ _ _⟩
theorem Pre.set (h : Pre H H2) (hb : H.length ≤ b) (x : Blk) : Pre H (H2.set b x) := by
  obtain ⟨T1, rfl⟩ := h.ex
  exact ⟨T1.set (b - H.length) x, List.set_append_right _ _ hb⟩
theorem Pre.trans (h : Pre H H2) (k : Pre H2 H3) : Pre H H3 := by
  obtain ⟨T1, rfl⟩ := h.ex
  obtain ⟨T2, rfl⟩ := k.ex
  exact ⟨T1 ++ T2, List.append_assoc _ _ _⟩
theorem Pre.len (h : Pre H H2) : H.length ≤ H2.length := by
  obtain ⟨T1, rfl⟩ := h.ex
  simp
theorem Pre.get (h : Pre H H2) (k : H[b]? = some x) : H2[b]? = some x := by
  obtain ⟨T1, rfl⟩ := h.ex
  exact hg_app _ k
end
end
end Go.DL

/- Parts of own slices, as elements. -/
namespace Go.DL
open Go.RowKit Go.Proofs

noncomputable section
theorem elems_drop {α : Type} {f : α → List D} {H : List Blk} {b sz k len c : Nat} {l : List α} (hb : H[b]? = some (.live sz (l.map f))) (hl : k + len = l.length) : elemsD H (.ms b k len c) = some ((l.drop k).map f) := by
  simp only [elemsD, hb]
  rw [if_pos (by rw [List.length_map]; omega), List.take_of_length_le (by rw [List.length_map]; omega), List.map_drop]
theorem elems_take {α : Type} {f : α → List D} {H : List Blk} {b sz k c : Nat} {l : List α} (hb : H[b]? = some (.live sz (l.map f))) (hl : k ≤ l.length) : elemsD H (.ms b 0 k c) = some ((l.take k).map f) := by
  simp only [elemsD, hb]
  rw [if_pos (by rw [List.length_map]; omega), List.drop_zero, Nat.zero_add, List.map_take]
end
end Go.DL

/- Engine: clear of a part of an own slice. -/
set_option maxRecDepth 100000
set_option maxHeartbeats 4000000
namespace Go.DL
open Go.RowKit Go.Proofs
theorem RT.clearS {E : Ev} {ops r : List Oper} {n : Nat} {a : AL} {H H' : List Blk} {g : Gst} {K : KA} {x : Operand} {t te ty : TypeId} {pos : String} {aft : Array Edge} {b off len cap sz : Nat} {es : List (List D)} {z : List D}
    (hx : evA n a x = .ms b off len cap) (hu : E.P.underlying t = some (.slice te)) (hz : zeroD E.P te = some z) (hs : z.length = sz) (hc : z.all isCell = true) (hb : H[b]? = some (.live sz es)) (hl : off + len ≤ es.length)
    (hH : H.set b (.live sz (es.take off ++ List.replicate len z ++ es.drop (off + len))) = H') (h : RT E ops r n a H' g K) :
    RT E ops (⟨none, .call { callee := .builtin .clear, args := #[x], argTypes := #[t] }, ty, pos, aft, none⟩ :: r) n a H g K := by
  subst hH; subst hs
  refine ⟨fun ro G hE ds Q hQ ac w hr => ?_⟩
  unfold wpListIn
  rw [if_pos (by simp [Region.wanted])]
  obtain ⟨A, φ, hr⟩ := hr
  have hv := hr.tr.ev x
  rw [ev_T, hx] at hv
  have hlt : b < H.length := (List.getElem?_eq_some_iff.1 hb).1
  have hex : execOp ac.eval ⟨none, .call { callee := .builtin .clear, args := #[x], argTypes := #[t] }, ty, pos, aft, none⟩ = (do pure (.value (← Builtin.clear_ #[t] ty #[ac.eval x]))) := by
    simp only [execOp, resolve, invoke]
    simp [builtin]
  have key : ∃ (w' : World), (Builtin.clear_ #[t] ty #[ac.eval x]).run E.P w = .ok (.tuple #[]) w' ∧
      FRc G { t := T n a, H := H.set b (.live z.length (es.take off ++ List.replicate len z ++ es.drop (off + len))), ds := ds, g := g } ac w' A φ := by
    generalize ac.eval x = u at hv
    cases hv with
    | ms _ _ _ _ _ cap' a0 hlen hcap hm =>
    by_cases h0 : len = 0
    · subst h0
      refine ⟨w, ?_, ?_⟩
      · simp [Builtin.clear_, run_underlying hu]
        cases a0 <;> rfl
      · have e : es.take off ++ List.replicate 0 z ++ es.drop (off + 0) = es := by simp
        rw [e]
        have e2 : H.set b (.live z.length es) = H := by
          obtain ⟨hlt, he⟩ := List.getElem?_eq_some_iff.1 hb
          rw [← he, List.set_getElem_self]
        rw [e2]; exact hr
    · rcases hr.rh.live b z.length es hb with ⟨h1, _⟩ | ⟨n0, base, room, c, tyc, h1, h2⟩
      · subst h1; simp at hl; omega
      rw [h1] at hm
      obtain ⟨hroom, ha⟩ := hm
      have hfit := h2.fits
      have hsize := h2.size
      obtain rfl : a0 = some ⟨n0, base + off * z.length, none⟩ := ha.resolve_left (by omega)
      obtain ⟨xz, hz1, hz2, hz3⟩ := run_zeroD (A := A) (w := w) (φ := φ) hz
      have hzr := zero_rows hz2 hz3 len
      have hcells : Builtin.zeroCells xz.cells len = (Array.range (len * z.length)).map (xz.cells[· % xz.cells.size]!) := by rw [Builtin.zeroCells, hz2]
      rw [← hcells] at hzr
      have hsz := hzr.size
      have hone : ∀ u ∈ (Builtin.zeroCells xz.cells len).toList, u.oneCell' = true := fun u hu => by
        rw [hcells] at hu
        simp only [Array.toList_map, List.mem_map] at hu
        obtain ⟨i, hi, rfl⟩ := hu
        have hzl : 0 < z.length := by
          rcases Nat.eq_zero_or_pos z.length with h | h
          · rw [h] at hi; simp at hi
          · exact h
        have hi2 : i % xz.cells.size < z.length := by rw [hz2]; exact Nat.mod_lt _ hzl
        obtain ⟨y, hy, hyv⟩ := hz3 (i % xz.cells.size) z[i % xz.cells.size] (List.getElem?_eq_getElem hi2)
        have hcell := hyv.isCell (List.all_eq_true.1 hc _ (List.getElem_mem hi2))
        have : xz.cells[i % xz.cells.size]! = y := by rw [Array.getElem!_eq_getD, Array.getD_eq_getD_getElem?, hy]; rfl
        rw [this]; exact hcell
      have hmul : off * z.length + len * z.length ≤ room * z.length := by rw [← Nat.add_mul]; exact Nat.mul_le_mul_right _ (by omega)
      simp only [List.length_replicate] at hsz
      obtain ⟨w', c', hw1, hw2, hw3⟩ := run_storeCells (P := E.P) (n := n0) (ty := tyc) (Builtin.zeroCells xz.cells len).toList w c (base + off * z.length) 0 h2.blk (by simp [hsz]; omega) hone
      rw [Nat.add_zero] at hw3
      refine ⟨w', ?_, ?_⟩
      · obtain ⟨k, rfl⟩ : ∃ k, len = k + 1 := ⟨len - 1, by omega⟩
        simp [Builtin.clear_, run_underlying hu, hz1 w, hw1, Result.andThen]
      · have hlen2 : (es.take off ++ List.replicate len z ++ es.drop (off + len)).length = es.length := by simp; omega
        have hold : ∀ (i : Nat) (e : List D) (j : Nat) (d : D), es[i]? = some e → e[j]? = some d → (i < off ∨ off + len ≤ i) → ∃ u, c'[base + i * z.length + j]? = some u ∧ V A w φ d u := fun i e j d he hd hi => by
          obtain ⟨u, hu, hv⟩ := h2.val i e j d he hd
          have hj : j < z.length := by rw [← h2.len i e he]; exact (List.getElem?_eq_some_iff.1 hd).1
          refine ⟨u, ?_, hv⟩
          rw [hw3.old _ ?_]; exact hu
          simp only [Array.length_toList, hsz]
          rcases hi with hi | hi
          · left
            have : i * z.length + z.length ≤ off * z.length := by rw [← Nat.succ_mul]; exact Nat.mul_le_mul_right _ hi
            omega
          · right
            have : (off + len) * z.length ≤ i * z.length := Nat.mul_le_mul_right _ hi
            rw [Nat.add_mul] at this
            omega
        have hget : ∀ i e, (es.take off ++ List.replicate len z ++ es.drop (off + len))[i]? = some e → (es[i]? = some e ∧ (i < off ∨ off + len ≤ i)) ∨ (e = z ∧ off ≤ i ∧ i < off + len) := fun i e he => by
          have ht : (es.take off).length = off := by rw [List.length_take]; omega
          rw [List.append_assoc] at he
          by_cases h3 : i < off
          · rw [List.getElem?_append_left (by omega), List.getElem?_take_of_lt h3] at he
            exact .inl ⟨he, .inl h3⟩
          · rw [List.getElem?_append_right (by omega), ht] at he
            by_cases h4 : i < off + len
            · rw [List.getElem?_append_left (by simp; omega), List.getElem?_replicate, if_pos (by omega)] at he
              cases he; exact .inr ⟨rfl, by omega, h4⟩
            · rw [List.getElem?_append_right (by simp; omega), List.getElem?_drop, List.length_replicate, show off + len + (i - off - len) = i by omega] at he
              exact .inl ⟨he, .inr (by omega)⟩
        refine hr.rewr hE.st h1 hw2 hlt _ (by rw [hlen2]; exact hfit) (by rw [hw3.size]; exact hsize) (fun i e he => ?_) (fun i e j d he hd => ?_)
        · rcases hget i e he with ⟨h3, _⟩ | ⟨rfl, _⟩
          · exact h2.len i e h3
          · rfl
        · rcases hget i e he with ⟨h3, h4⟩ | ⟨rfl, h4, h5⟩
          · exact hold i e j d h3 hd h4
          · obtain ⟨u, hu, hv⟩ := hzr.val (i - off) e j d (by rw [List.getElem?_replicate, if_pos (by omega)]) hd
            refine ⟨u, ?_, hv⟩
            have hj : j < e.length := (List.getElem?_eq_some_iff.1 hd).1
            have hbd : (i - off) * e.length + j < len * e.length := by
              have : (i - off) * e.length + e.length ≤ len * e.length := by rw [← Nat.succ_mul]; exact Nat.mul_le_mul_right _ (by omega)
              omega
            have := hw3.new ((i - off) * e.length + j) (by simp [hsz]; omega)
            have e3 : base + off * e.length + ((i - off) * e.length + j) = base + i * e.length + j := by
              have : off * e.length + (i - off) * e.length = i * e.length := by rw [← Nat.add_mul]; congr 1; omega
              omega
            rw [e3] at this
            rw [this]; simpa using hu
  obtain ⟨w', hrun, hr2⟩ := key
  have hrun2 : (execOp ac.eval ⟨none, .call { callee := .builtin .clear, args := #[x], argTypes := #[t] }, ty, pos, aft, none⟩).run E.P w = .ok (.value (.tuple #[])) w' := by
    rw [hex, Sem.run_bind, hrun]; rfl
  refine ⟨fun _ _ => trivial, ?_⟩
  rw [Oper.semAt_eq _ _ _ (by simp), hrun2]
  have hr3 := hr2.value none (d := .tup []) (x := .tuple #[]) (.tup _ _ _ rfl (fun i d u h1 _ => by cases h1))
  exact h.out ro G hE ds Q hQ _ _ ⟨A, _, hr3⟩
end Go.DL

/- slices.Sort of words over a block of one's own, at whatever length: out of the library's contract. -/
namespace Go.DL
open Go.RowKit Go.Proofs Go.Shelf
noncomputable section
variable {P : Program}
theorem sortInts_ok {ρ : Ren} (L : SlLaysM.n5 P ρ) {H : List Blk} {b cap : Nat} {l : List Int} (hb : H[b]? = some (.live 1 (l.map eI))) (hlen : l.length < 4611686018427387904) :
    CallSp P (ρ.f 5) [.ms b 0 l.length cap] H fun d H' => d = .tup [] ∧ H' = H.set b (.live 1 ((l.mergeSort fun x y => decide (x ≤ y)).map eI)) := by
  refine ⟨L.f5.enters rfl, fun w A φ vs hr hv => ?_⟩
  rw [callsIn_wide]
  obtain ⟨hvs, hvv⟩ := hv
  obtain ⟨v1, rfl⟩ : ∃ v1, vs = #[v1] := by
    obtain ⟨l⟩ := vs
    match l, hvs with
    | [a], _ => exact ⟨a, rfl⟩
  have q1 := hvv 0 _ v1 rfl rfl
  cases q1 with
  | ms _ _ _ _ _ cap' a hle hcap hp =>
  by_cases h0 : l.length = 0
  · have hl0 := List.eq_nil_of_length_eq_zero h0
    subst hl0
    refine (AnyM.slices_Sort_int_none L a cap' w).mono ?_
    rintro e w' ⟨rfl, rfl⟩
    have hset : H.set b (.live 1 ((([] : List Int).mergeSort fun x y => decide (x ≤ y)).map eI)) = H := by
      refine List.ext_getElem? fun i => ?_
      rw [List.getElem?_set]
      split
      · rename_i e; subst e; rw [if_pos (List.getElem?_eq_some_iff.1 hb).1, hb]; simp
      · rfl
    refine ⟨_, _, H, A, φ, rfl, ⟨rfl, hset.symm⟩, hr, .tup _ _ _ rfl fun i d u h => by simp at h, ⟨Ext.refl _ _, fun _ x => x, fun _ => .inl, fun _ => Loc.le_refl _, rfl⟩⟩
  · rcases hr.live b 1 _ hb with ⟨e0, _⟩ | ⟨n, base, room, c, ty, hφ, hL⟩
    · exact absurd (by simpa using congrArg List.length e0) h0
    rw [hφ] at hp
    obtain ⟨hroom, hadr⟩ := hp
    have hat : a = some ⟨n, base, none⟩ := by
      rcases hadr with h | h
      · omega
      · simpa using h
    subst hat
    have hfits := hL.fits
    rw [List.length_map] at hfits
    have hsize := hL.size
    rw [Nat.mul_one] at hsize
    have hnlt : n < w.heap.size := hr.olt n ⟨b, _, _, _, hφ⟩
    have hval : ∀ (i : Nat) (hi : i < l.length), c[base + i]? = some (.int .i64 l[i]) := fun i hi => by
      obtain ⟨u, h1, h2⟩ := hL.val i (eI l[i]) 0 (wI l[i]) (by simp [hi]) rfl
      rw [h2.v_inv] at h1
      simpa using h1
    have hH : Go.Sort.Holds (Value.int .i64) w n base l.toArray := fun j hj => by
      have hj' : j < l.length := by simpa using hj
      refine ⟨?_, by simp [World.frozen?, hL.blk]⟩
      rw [cell_of_blk hL.blk, hval j hj', getElem!_pos l.toArray j hj]
      simp
    refine (AnyM.slices_Sort_int L n base cap' l w hH hnlt hlen).mono ?_
    rintro e w' ⟨rfl, nd, os, rfl⟩
    obtain ⟨s, hs⟩ : ∃ s, s = l.mergeSort fun x y => decide (x ≤ y) := ⟨_, rfl⟩
    rw [← hs]
    have hsl : s.length = l.length := by rw [hs]; exact List.length_mergeSort _
    obtain ⟨W, hWd⟩ : ∃ W, W = Go.Sort.grow (Go.Sort.putRow (Value.int .i64) (Go.Sort.ahead w nd) n base s.toArray) os := ⟨_, rfl⟩
    rw [← hWd]
    have hW : W.heap = (Go.Sort.putRow (Value.int .i64) (Go.Sort.ahead w nd) n base s.toArray).heap ++ os := by rw [hWd]; rfl
    have hps : (Go.Sort.putRow (Value.int .i64) (Go.Sort.ahead w nd) n base s.toArray).heap.size = w.heap.size := by simp [Go.Sort.putRow, Go.Sort.mapBlock]
    have hpo : ∀ m, m ≠ n → m < w.heap.size → W.heap[m]? = w.heap[m]? := fun m hm hlt => by
      rw [hW, Array.getElem?_append_left (by omega)]
      simp only [Go.Sort.putRow, Go.Sort.mapBlock, Array.getElem?_modify, Go.Sort.heap_ahead]
      rw [if_neg (Ne.symm hm)]
    have hpn : W.heap[n]? = some (.cells (Go.Sort.putCells (Value.int .i64) base s.toArray c) ty (0, 0)) := by
      rw [hW, Array.getElem?_append_left (by omega)]
      simp only [Go.Sort.putRow, Go.Sort.mapBlock, Array.getElem?_modify, Go.Sort.heap_ahead, if_true, hL.blk, Option.map_some, Go.Sort.onCells]
    have hdis := hr.dis n ⟨b, _, _, _, hφ⟩
    have hsame : ∀ m, A m → W.heap[m]? = w.heap[m]? := fun m hm => hpo m (fun e => hdis (e ▸ hm)) (hr.lt m hm)
    have hup : upd φ b (.loc n base 1 room) = φ := by funext x; by_cases e : x = b <;> simp [upd, e, hφ]
    have hsz' : w.heap.size ≤ W.heap.size := by rw [hW, Array.size_append]; omega
    refine ⟨_, _, H.set b (.live 1 (s.map eI)), A, φ, rfl, ⟨rfl, rfl⟩, ?_, .tup _ _ _ rfl fun i d u h => by simp at h, ?_⟩
    · have hlay := hr.lay (A' := A) (w' := W) (List.getElem?_eq_some_iff.1 hb).1 (l := .loc n base 1 room) (x := .live 1 (s.map eI)) (by rw [hφ]; exact Loc.le_refl _) hsame (fun _ x => x) (fun _ x => .inl x)
        (fun b' m base' sz' room' hne e => hpo m (fun e' => hne (hr.inj b' b n base' sz' room' base 1 room (e' ▸ e) hφ)) (hr.olt m ⟨b', _, _, _, e⟩)) hsz'
        ⟨by simp, by simp, fun sz' es'' e => by
          cases e
          refine .inr ⟨n, base, room, _, ty, rfl, hpn, by simp; omega, by simpa [Go.Sort.putCells] using hsize, fun i e he => ?_, fun i e j dd h1 h2 => ?_⟩
          · simp only [List.getElem?_map, Option.map_eq_some_iff] at he
            obtain ⟨t, hx, rfl⟩ := he
            rfl
          · simp only [List.getElem?_map, Option.map_eq_some_iff] at h1
            obtain ⟨t, hx, rfl⟩ := h1
            have hi : i < s.length := (List.getElem?_eq_some_iff.1 hx).1
            match j, h2 with
            | 0, h2 =>
              cases h2
              refine ⟨.int .i64 t, ?_, .v _ _⟩
              have hcs : base + i * 1 + 0 < c.size := by omega
              simp only [Go.Sort.putCells, Array.getElem?_mapIdx, Array.getElem?_eq_getElem hcs, Option.map_some, List.size_toArray]
              rw [if_pos ⟨by omega, by omega⟩, show base + i * 1 + 0 - base = i by omega, getElem!_pos s.toArray i (by simpa using hi)]
              have := (List.getElem?_eq_some_iff.1 hx).2
              simp [this]
            | j + 1, h2 => simp [eI] at h2⟩
        (fun _ _ e => by cases e)
        (fun m base' sz' room' e => by
          cases e
          exact ⟨Nat.lt_of_lt_of_le hnlt hsz', hdis, fun b' base' sz' room' hne e => hne (hr.inj b' b n base' sz' room' base 1 room e hφ), hr.ofr n ⟨b, _, _, _, hφ⟩⟩)
      rw [hup] at hlay
      exact hlay
    · refine ⟨⟨by rw [hWd]; rfl, by rw [hWd]; rfl, by rw [hWd]; rfl, by rw [hWd]; exact Nat.le_add_right _ _, hsz', fun m hm ho => ?_, fun m hm => .inl hm⟩, fun _ x => x, fun _ => .inl, fun _ => Loc.le_refl _, rfl⟩
      exact hpo m (fun e => ho (e ▸ (⟨b, _, _, _, hφ⟩ : own φ n))) hm
end
end Go.DL
