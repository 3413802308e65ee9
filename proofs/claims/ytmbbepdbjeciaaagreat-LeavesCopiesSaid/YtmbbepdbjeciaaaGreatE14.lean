/- Engine: small steps of operations. -/
import Derived.Test.YtmbbepdbjeciaaaGreatE13
import Derived.Test.YtmbbepdbjeciaaaGreatE12
import Derived.Test.YtmbbepdbjeciaaaGreatE11
import Derived.Shelf.SlSortCmp.WholeK
import Derived.Shelf.SlSortCmp.NoneTotal
set_option maxRecDepth 100000
set_option maxHeartbeats 4000000
namespace Go.DL
open Go.Proofs Go
theorem map_get {α β : Type} {f : α → β} {l : List α} {k : Nat} {x : α} (h : l[k]? = some x) : (l.map f)[k]? = some (f x) := by rw [List.getElem?_map, h]; rfl
section
variable {P : Program} {H : List Blk} {s n : Nat} {al : AL} {tx ty' : TypeId} {x y : Operand} {a b : Int}
theorem f_ixQ {α : Type} {f : α → List D} {l : List α} {k : Nat} {sz : Nat} {z : α} (hx : unfl (evA n al x) = .sl (l.map f)) (hy : evA n al y = wI a) (hn : a = k) (hk : l[k]? = some z) (hs : (elemT P tx).map (·.2) = some sz) (hf : (f z).length = sz) :
    Val P H s n al (.indexAddr tx x y) (.rp (f z)) := by
  obtain ⟨h1, rfl⟩ := List.getElem?_eq_some_iff.1 hk
  exact f_ixL hx hy hn h1 hs hf
end
theorem f_appL {P : Program} {H : List Blk} {s n : Nat} {al : AL} {tx : TypeId} {x y : Operand} {α : Type} {f : α → List D} {te : TypeId} {m mm c b1 sz by' : Nat} {es : List (List D)} {o v : List α} {d' : D} (hx : evA n al x = .ms b1 0 m c) (hy : evA n al y = d') (hb1 : H[b1]? = some (.live sz es)) (hes : es.take m = o.map f) (hle : m ≤ es.length) (hv : elemsD H d' = some (v.map f)) (hm : m = o.length)
    (hmm : o.length + v.length = mm) (he : elemT P tx = some (te, sz)) (h0 : 0 < sz) (hz : (zeroD P te).map List.length = some sz) (hby : P.bytesOf te = by') (hf : ∀ a, (f a).length = sz ∧ (f a).all isCell = true) (hl : (o.length + v.length) * by' ≤ 140737488355328) (hl2 : o.length + v.length ≤ 9223372036854775807) :
    Ap P H s n al (.call { callee := .builtin .append, args := #[x, y], argTypes := #[tx, tx] }) mm (some b1) (.live sz ((o ++ v).map f)) := by
  subst hm; subst hmm
  have hu : P.underlying tx = some (.slice te) := by
    unfold elemT at he
    split at he
    · rename_i e hu; simp only [Option.map_eq_some_iff] at he; obtain ⟨_, _, h⟩ := he; cases h; exact hu
    · cases he
  refine f_app hx hy ?_ (by simp)
  have e1 : elemsD H (.ms b1 0 o.length c) = some (o.map f) := by
    simp only [elemsD, hb1, Nat.zero_add, hle, if_true, List.drop_zero, hes]
  have e3 : ∀ l : List α, (l.map f).all (fun e => e.length == sz) = true := fun l => List.all_eq_true.2 fun e he => by
    obtain ⟨a, _, rfl⟩ := List.mem_map.1 he
    simpa using (hf a).1
  have e4 : (v.map f).all (fun e => e.all isCell) = true := List.all_eq_true.2 fun e he => by
    obtain ⟨a, _, rfl⟩ := List.mem_map.1 he
    exact (hf a).2
  simp only [appendD, addedD, he, hu, e1, hv]
  rw [if_pos]
  · simp only [hb1, Blk.hasSz]; simp
  · refine ⟨h0, hz, e3 o, e3 v, e4, ?_, ?_⟩
    · rw [hby, List.length_map, List.length_map]; exact hl
    · rw [List.length_map, List.length_map]; exact hl2
section
variable {P : Program} {H : List Blk} {s n : Nat} {al : AL} {tx ty' : TypeId} {x y : Operand} {a b : Int} {k : Nat}
theorem f_lssF (hx : evA n al x = wI a) (hy : evA n al y = wI b) (h : ¬ a < b) : Val P H s n al (.binOp .lss tx x y ty') (wB false) := by
  have h1 := f_lss (P := P) (H := H) (s := s) (tx := tx) (ty' := ty') hx hy
  rwa [decide_eq_false h] at h1
theorem f_remE (hx : evA n al x = wI a) (hy : evA n al y = wI b) (h0 : 0 ≤ a) (hb : 0 < b) (he : a % b = (k : Int)) : Val P H s n al (.binOp .rem tx x y ty') (wI k) := he ▸ f_rem hx hy h0 (by omega)
end
theorem elems_sl (H : List Blk) (v : List Int) : elemsD H (.sl (v.map eI)) = some (v.map eI) := by
  simp only [elemsD]; exact congrArg some (eI_map _ _ fun x => rfl)
theorem getD_q {α : Type} {l : List α} {i : Nat} {x d : α} (h : l[i]? = some x) : l.getD i d = x := by rw [List.getD_eq_getElem?_getD, h]; rfl
section
variable {P : Program} {H : List Blk} {s n : Nat} {al : AL} {tx ty' : TypeId} {x y : Operand} {a b : Int}
theorem f_leqT (hx : evA n al x = wI a) (hy : evA n al y = wI b) (h : a ≤ b) : Val P H s n al (.binOp .leq tx x y ty') (wB true) := by
  have h1 := f_leq (P := P) (H := H) (s := s) (tx := tx) (ty' := ty') hx hy
  rwa [decide_eq_true h] at h1
theorem f_leqF (hx : evA n al x = wI a) (hy : evA n al y = wI b) (h : ¬ a ≤ b) : Val P H s n al (.binOp .leq tx x y ty') (wB false) := by
  have h1 := f_leq (P := P) (H := H) (s := s) (tx := tx) (ty' := ty') hx hy
  rwa [decide_eq_false h] at h1
end
section
variable {P : Program} {H : List Blk} {s n : Nat} {al : AL} {tx : TypeId} {x y : Operand} {a b : Int}
end
end Go.DL

/- Engine: parts of an own slice; rows of words, each in a block of its own. -/
set_option maxRecDepth 100000
set_option maxHeartbeats 4000000
namespace Go.DL
open Go.Proofs Go
section
variable {P : Program} {H : List Blk} {s n : Nat} {al : AL} {tx te : TypeId} {x y z : Operand} {a b : Int}
theorem f_bslC1 {d z : D} (hx : evA n al x = d) (hc : cellsD d = [d]) (hi : isCell d = true) (he : elemT P tx = some (te, 1)) (hz : zeroD P te = some [z]) : Mk P H s n al (.buildSlice tx 1 #[(0, x)]) (.ms s 0 1 1) (.live 1 [[d]]) := by
  refine f_bsl (ps := [(0, x)]) ?_
  simp [buildSliceD, he, hz, rowsD, hx, hc, hi, List.replicate]
end
section
variable {P : Program} {H : List Blk} {s n : Nat} {al : AL} {tx te : TypeId} {x0 x1 x2 x3 x4 x5 x6 : Operand} {a0 a1 a2 a3 a4 a5 a6 : Int}
end
end Go.DL

/- Engine: the capacity of nil; the start of an own slice. -/
set_option maxRecDepth 100000
set_option maxHeartbeats 4000000
namespace Go.DL
open Go.Proofs Go
section
variable {E : Ev} {ops r : List Oper} {n : Nat} {a : AL} {H : List Blk} {g : Gst} {K : KA} {i : Tmp} {x : Operand} {t te ty : TypeId} {pos : String} {aft : Array Edge}
end
section
variable {P : Program} {H : List Blk} {s n : Nat} {al : AL} {tx te : TypeId} {x y : Operand} {a : Int}
/-- The first elements of an own slice. -/
theorem f_slHiO {bk len cap sz hi : Nat} {es : List (List D)} (hx : evA n al x = .ms bk 0 len cap) (hy : evA n al y = wI a) (ha : a = hi) (h2 : hi ≤ cap)
    (he : elemT P tx = some (te, sz)) (hb : H[bk]? = some (.live sz es)) : Val P H s n al (.slice tx x none (some y) none) (.ms bk 0 hi cap) := by
  subst ha
  refine ⟨?_⟩
  simp only [stepD, ev_T, sliceD, he, hx, unfl, Option.map_none, Option.map_some, hy, bndD, intD, Option.isSome_none, Option.isSome_some, reduceCtorEq, false_and, and_false, if_false, Bool.false_eq_true]
  rw [if_pos ⟨by simp [Blk.hasSz, hb], by omega, by omega, by omega⟩]
  simp [keepD]
end
end Go.DL

/- slices.SortFunc over a block of one's own, at whatever length: out of the library's contract, for any comparison that has a plain contract. -/
namespace Go.DL
open Go.RowKit Go.Proofs Go.Shelf

noncomputable section

theorem Ext.grown {w w' : World} (h : Ext w (fun _ => False) w' (fun _ => False)) : ∃ q os, w' = Go.Sort.grow (w.drewN q) os := by
  refine ⟨w'.drawn - w.drawn, w'.heap.extract w.heap.size w'.heap.size, ?_⟩
  have h1 := h.os
  have h2 := h.tape
  have h3 := h.output
  have h4 := h.drawn
  have hh : w'.heap = w.heap ++ w'.heap.extract w.heap.size w'.heap.size := by
    apply Array.ext_getElem?
    intro k
    have h5 := h.size
    by_cases hk : k < w.heap.size
    · rw [Array.getElem?_append_left hk, h.same k hk fun x => x]
    · rw [Array.getElem?_append_right (by omega), Array.getElem?_extract]
      by_cases h6 : k < w'.heap.size
      · rw [if_pos (by rw [Nat.min_self]; omega)]; congr 1; omega
      · rw [if_neg (by rw [Nat.min_self]; omega)]; exact Array.getElem?_eq_none (by omega)
  obtain ⟨hp, tp, dr, os, ou⟩ := w
  obtain ⟨hp', tp', dr', os', ou'⟩ := w'
  simp only [Go.Sort.grow, World.drewN] at *
  subst h1 h2 h3
  rw [← hh]
  congr 1
  omega

/-- How a comparison may look at a cell: as it is, or not at all. -/
def SeeV (d : D) (u : Value) : Prop := d = .any ∨ d = .v u

theorem SeeV.v {A : Rd} {w : World} {φ : Nat → Loc} {d : D} {u : Value} (h : SeeV d u) : V A w φ d u := by
  rcases h with h | h
  · rw [h]; exact .any _ _
  · rw [h]; exact .v _ _

/-- The cells of an element: sz of them, each of one cell, as the comparison sees them. -/
structure CE (sz : Nat) (kd : List D) (us : List Value) : Prop where
  len : us.length = sz
  one : ∀ v ∈ us, v.oneCell' = true
  see : ∀ (j : Nat) (d : D) (u : Value), kd[j]? = some d → us[j]? = some u → SeeV d u

section
variable {P : Program} {T : Type}

theorem enc_get {α : Type} [Inhabited α] (enc : α → List Value) (sz : Nat) (d : Array α) {i j : Nat} (hi : i < d.size) (hj : j < sz) :
    (Go.Sort.flatK enc sz d)[i * sz + j]! = (enc d[i]!)[j]! ∧ i * sz + j < d.size * sz := by
  have lt : i * sz + j < d.size * sz := by
    have := Nat.mul_le_mul_right sz (show i + 1 ≤ d.size from hi); rw [Nat.add_mul, Nat.one_mul] at this; omega
  have e1 : (i * sz + j) / sz = i := (Go.Sort.blk_iff sz i _ (by omega)).1 ⟨by omega, by omega⟩
  have e2 : (i * sz + j) % sz = j := by rw [Nat.mod_eq_sub_div_mul, e1]; omega
  exact ⟨by rw [Go.Sort.get_flatK _ _ _ _ lt, e1, e2], lt⟩

/-- What the sort leaves of a list. -/
structure Sorts (cf : T → T → Int) (l l' : List T) : Prop where
  perm : l'.Perm l
  srt : l'.Pairwise fun a b => ¬ cf b a < 0

theorem sortFunc_ok {ρ : Ren} (L : SlLaysF0.n6 P ρ) {sz : Nat} (ha : isAggD P (ρ.t 24) = some true) (hs : tsz P (ρ.t 24) = some sz) (eD kD : T → List D) (cf : T → T → Int)
    (hO : Go.Sort.SWO (Go.Proofs.ltOf cf)) {g : FuncId} (hg : ∀ x y us vs, CE sz (kD x) us → CE sz (kD y) vs → Maps P g [.agg (us.map .v), .agg (vs.map .v)] (.v (.int .i64 (cf x y))))
    {H : List Blk} {b cap : Nat} {l : List T} (hb : H[b]? = some (.live sz (l.map eD))) (hlen : l.length < 4611686018427387904)
    (hk : ∀ x ∈ l, (kD x).length = sz) (hc : ∀ x ∈ l, (eD x).all isCell = true)
    (he : ∀ x ∈ l, ∀ (j : Nat) (d d' : D), (eD x)[j]? = some d → (kD x)[j]? = some d' → d' = .any ∨ ∃ u, d' = .v u ∧ d = .v u) :
    CallSp P (ρ.f 6) [.ms b 0 l.length cap, .fn (.func g) [] []] H fun d H' => d = .tup [] ∧ ∃ l', Sorts cf l l' ∧ H' = H.set b (.live sz (l'.map eD)) := by
  refine ⟨L.f6.enters rfl, fun w A φ vs hr hv => ?_⟩
  rw [callsIn_wide]
  obtain ⟨hvs, hvv⟩ := hv
  obtain ⟨v1, v2, rfl⟩ : ∃ v1 v2, vs = #[v1, v2] := by
    obtain ⟨l⟩ := vs
    match l, hvs with
    | [a, b], _ => exact ⟨a, b, rfl⟩
  have q1 := hvv 0 _ v1 rfl rfl
  have q2 := hvv 1 _ v2 rfl rfl
  cases q1 with
  | ms _ _ _ _ _ cap' a hle hcap hp =>
  cases q2 with
  | fn _ _ _ _ vs us hl1 hl2 _ _ =>
  have e1 : vs = #[] := Array.eq_empty_of_size_eq_zero (by simpa using hl1)
  have e2 : us = #[] := Array.eq_empty_of_size_eq_zero (by simpa using hl2)
  subst e1 e2
  have hset : ∀ (φ : Nat → Loc), H.set b (.live sz (l.map eD)) = H := fun _ => by
    refine List.ext_getElem? fun i => ?_
    rw [List.getElem?_set]
    split
    · rename_i e; subst e; rw [if_pos (List.getElem?_eq_some_iff.1 hb).1, hb]
    · rfl
  by_cases h0 : l.length = 0
  · have hl0 := List.eq_nil_of_length_eq_zero h0
    rw [h0]
    refine (AnyF.slices_SortFunc_none L a cap' _ w).mono ?_
    rintro e w' ⟨rfl, rfl⟩
    refine ⟨_, _, H, A, φ, rfl, ⟨rfl, l, ⟨.refl _, by rw [hl0]; exact .nil⟩, (hset φ).symm⟩, hr, .tup _ _ _ rfl fun i d u h => by simp at h, ⟨Ext.refl _ _, fun _ x => x, fun _ => .inl, fun _ => Loc.le_refl _, rfl⟩⟩
  · rcases hr.live b sz _ hb with ⟨e0, _⟩ | ⟨n, base, room, c, ty, hφ, hL⟩
    · exact absurd (by simpa using congrArg List.length e0) h0
    rw [hφ] at hp
    obtain ⟨hroom, hadr⟩ := hp
    have hat : a = some ⟨n, base, none⟩ := by
      rcases hadr with h | h
      · omega
      · simpa using h
    subst hat
    have hfits := hL.fits
    rw [List.length_map] at hfits
    have hsize := hL.size
    -- the elements, with their cells
    let α := { p : T × List Value // p.1 ∈ l ∧ CE sz (kD p.1) p.2 }
    have mk : ∀ i : Fin l.length, ∃ a : α, a.1.1 = l[i] ∧ ∀ j, j < sz → c[base + i * sz + j]? = a.1.2[j]? ∧ ∀ d, (eD l[i])[j]? = some d → ∃ u, a.1.2[j]? = some u ∧ V A w φ d u := fun i => by
      have hmem : l[i] ∈ l := List.getElem_mem _
      have hie : (l.map eD)[i.1]? = some (eD l[i]) := by simp
      have hel := hL.len _ _ hie
      have hsz : base + i.1 * sz + sz ≤ c.size := by
        have := Nat.mul_le_mul_right sz (show i.1 + 1 ≤ room by have := i.2; omega)
        rw [Nat.add_mul, Nat.one_mul] at this; omega
      have hget : ∀ j, j < sz → ((List.range sz).map fun j => (c[base + i.1 * sz + j]?).getD default)[j]? = c[base + i.1 * sz + j]? := fun j hj => by
        simp [hj, show base + i.1 * sz + j < c.size by omega]
      have hu : ∀ (j : Nat) (d : D), (eD l[i])[j]? = some d → ∃ u, ((List.range sz).map fun j => (c[base + i.1 * sz + j]?).getD default)[j]? = some u ∧ V A w φ d u := fun j d hd => by
        obtain ⟨u, h1, h2⟩ := hL.val _ _ _ _ hie hd
        have hj : j < sz := by rw [← hel]; exact (List.getElem?_eq_some_iff.1 hd).1
        exact ⟨u, (hget j hj).trans h1, h2⟩
      refine ⟨⟨(l[i], (List.range sz).map fun j => (c[base + i.1 * sz + j]?).getD default), hmem, by simp, fun v hv => ?_, fun j d u h1 h2 => ?_⟩, rfl, fun j hj => ⟨(hget j hj).symm, fun d hd => hu j d hd⟩⟩
      · obtain ⟨j, hj, rfl⟩ := List.getElem_of_mem hv
        have hj' : j < sz := by simpa using hj
        have hj2 : j < (eD l[i]).length := by rw [hel]; exact hj'
        obtain ⟨u, h1, h2⟩ := hu j _ (List.getElem?_eq_getElem hj2)
        rw [List.getElem?_eq_getElem hj] at h1
        cases h1
        have := hc _ hmem
        rw [List.all_eq_true] at this
        exact h2.isCell (this _ (List.getElem_mem hj2))
      · have hj' : j < sz := by simpa using (List.getElem?_eq_some_iff.1 h2).1
        have hj2 : j < (eD l[i]).length := by rw [hel]; exact hj'
        obtain ⟨u', h3, h4⟩ := hu j _ (List.getElem?_eq_getElem hj2)
        rw [h2] at h3; cases h3
        rcases he _ hmem j _ d (List.getElem?_eq_getElem hj2) h1 with e | ⟨u', e, e'⟩
        · exact .inl e
        · rw [e'] at h4; cases h4; exact .inr e
    have hpos : 0 < l.length := Nat.pos_of_ne_zero h0
    obtain ⟨f, hf⟩ := Classical.axiomOfChoice mk
    letI : Inhabited α := ⟨f ⟨0, hpos⟩⟩
    let enc : α → List Value := fun x => x.1.2
    let cfa : α → α → Int := fun x y => cf x.1.1 y.1.1
    let d : Array α := Array.ofFn f
    have hds : d.size = l.length := by simp [d]
    have hdg : ∀ (i : Nat) (hi : i < l.length), d[i]! = f ⟨i, hi⟩ := fun i hi => by
      rw [getElem!_pos d i (by omega)]; simp [d]
    have hkenc : ∀ x : α, (enc x).length = sz := fun x => x.2.2.len
    have hOa : Go.Sort.SWO (ltOf cfa) := ⟨fun x => hO.irrefl x.1.1, fun x y z => hO.trans x.1.1 y.1.1 z.1.1, fun x y z => hO.ntrans x.1.1 y.1.1 z.1.1⟩
    have hnlt : n < w.heap.size := hr.olt n ⟨b, _, _, _, hφ⟩
    have hsz0 : ∀ i, i < l.length → ∀ j, j < sz → base + i * sz + j < c.size := fun i hi j hj => by
      have := Nat.mul_le_mul_right sz (show i + 1 ≤ room by omega)
      rw [Nat.add_mul, Nat.one_mul] at this; omega
    have hH : Go.Sort.HoldsK enc sz w n base d := fun t ht => by
      rw [Go.Sort.size_flatK] at ht
      have hs0 : 0 < sz := by rcases Nat.eq_zero_or_pos sz with h | h; · rw [h] at ht; omega
                              · exact h
      have hi : t / sz < l.length := by rw [← hds]; exact Nat.div_lt_of_lt_mul (by rw [Nat.mul_comm]; exact ht)
      have hj := Nat.mod_lt t hs0
      have hte : t = t / sz * sz + t % sz := by rw [Nat.mul_comm]; exact (Nat.div_add_mod t sz).symm
      have h1 := (hf ⟨t / sz, hi⟩).2 (t % sz) hj
      have hlt := hsz0 _ hi _ hj
      refine ⟨?_, by simp [World.frozen?, hL.blk]⟩
      rw [cell_of_blk hL.blk]
      conv => lhs; rw [hte, ← Nat.add_assoc, h1.1]
      conv => rhs; rw [hte, (enc_get enc sz d (by omega) hj).1, hdg _ hi]
      have : t % sz < (enc (f ⟨t / sz, hi⟩)).length := by rw [hkenc]; exact hj
      show (enc (f ⟨t / sz, hi⟩))[t % sz]? = _
      rw [List.getElem?_eq_getElem this]
      exact congrArg some (getElem!_pos (enc (f ⟨t / sz, hi⟩)) (t % sz) this).symm
    have hcmp : CmpLays P g #[] enc sz cfa n base d.size w := fun m os dk _ x y => by
      generalize sortWorldK enc sz w n base m dk os = W
      have h := (hg x.1.1 y.1.1 x.1.2 y.1.2 x.2.2 y.2.2).2 W (fun _ => False) #[.agg (enc x).toArray, .agg (enc y).toArray] (fun _ h => h.elim) ⟨rfl, fun i dd u h1 h2 => by
        have go : ∀ z : α, V ⟨fun _ => False, W.heap.size⟩ W nowhere (.agg (z.1.2.map D.v)) (.agg (enc z).toArray) := fun z =>
          .agg _ _ _ (by simp [enc]) fun j d u h1 h2 => by
            have h3 : z.1.2[j]? = some u := by simpa [enc] using h2
            rw [List.getElem?_map, h3] at h1
            cases h1; exact .v _ _
        match i, h1, h2 with
        | 0, h1, h2 => cases h1; cases h2; exact go x
        | 1, h1, h2 => cases h1; cases h2; exact go y
        | i + 2, h1, _ => simp at h1⟩
      rw [callsIn_wide] at h
      refine h.mono ?_
      rintro e w' ⟨v, A', rfl, hv, _, _, _, hx⟩
      exact ⟨by rw [hv.v_inv], hx.grown⟩
    have key := AnyQ.slices_SortFunc L sz (fun w => run_isAgg ha w) (fun w => run_sizeOf hs w) enc hkenc (fun x v hv => x.2.2.one v hv) cfa hOa g #[] n base cap' d w (hg _ _ _ _ (f ⟨0, hpos⟩).2.2 (f ⟨0, hpos⟩).2.2).1 hcmp hH hnlt (by omega)
    rw [hds] at key
    refine key.mono ?_
    rintro e w' ⟨rfl, d', nd, os, hP, hS, rfl⟩
    obtain ⟨hP1, _, hP2⟩ := hP
    have hperm : d'.toList.Perm d.toList := by
      have e1 : (d'.extract 0 l.length).toList = d'.toList := by rw [← hds, ← hP1]; simp
      have e2 : (d.extract 0 l.length).toList = d.toList := by rw [← hds]; simp
      rw [e1, e2] at hP2; exact hP2
    have hd's : d'.size = l.length := by omega
    have hmap : d.toList.map (fun x => x.1.1) = l := by
      refine List.ext_getElem? fun i => ?_
      by_cases hi : i < l.length
      · simp only [List.getElem?_map, d, Array.toList_ofFn, List.getElem?_ofFn, hi, dite_true, Option.map_some]
        rw [List.getElem?_eq_getElem hi, (hf ⟨i, hi⟩).1]; rfl
      · rw [List.getElem?_eq_none (by simp [d]; omega), List.getElem?_eq_none (by omega)]
    -- the row behind the sort
    have hrow : ∀ x ∈ d'.toList, ∀ (j : Nat) (dd : D), (eD x.1.1)[j]? = some dd → ∃ u, (enc x)[j]? = some u ∧ V A w φ dd u := fun x hx j dd hd => by
      have hx' := hperm.subset hx
      obtain ⟨i, hi, rfl⟩ := List.getElem_of_mem hx'
      have hi' : i < l.length := by simpa [d] using hi
      have e : d.toList[i] = f ⟨i, hi'⟩ := by simp [d]
      rw [e] at hd ⊢
      rw [(hf ⟨i, hi'⟩).1] at hd
      have hj : j < sz := by
        have := hL.len i (eD l[i]) (by simp [hi'])
        rw [← this]; exact (List.getElem?_eq_some_iff.1 hd).1
      obtain ⟨_, h⟩ := (hf ⟨i, hi'⟩).2 j hj
      obtain ⟨u, h1, h2⟩ := h dd hd
      exact ⟨u, h1, h2⟩
    refine ⟨_, _, H.set b (.live sz ((d'.toList.map fun x => x.1.1).map eD)), A, φ, rfl, ⟨rfl, d'.toList.map (fun x => x.1.1), ⟨?_, ?_⟩, rfl⟩, ?_, .tup _ _ _ rfl fun i d u h => by simp at h, ?_⟩
    · have := hperm.map (fun x => x.1.1); rwa [hmap] at this
    · rw [List.pairwise_map, List.pairwise_iff_getElem]
      intro i j hi hj hij
      have h := hS i j (Nat.zero_le _) hij (by simpa [hd's] using hj)
      have e1 : d'[i]! = d'.toList[i] := by rw [getElem!_pos d' i (by simpa using hi)]; simp
      have e2 : d'[j]! = d'.toList[j] := by rw [getElem!_pos d' j (by simpa using hj)]; simp
      rw [e1, e2] at h
      simpa [ltOf, cfa] using h
    · -- the frame's blocks
      have hW : (sortWorldK enc sz w n base nd d' os).heap = (Go.Sort.putRowK enc sz (Go.Sort.ahead w nd) n base d').heap ++ os := rfl
      have hps : (Go.Sort.putRowK enc sz (Go.Sort.ahead w nd) n base d').heap.size = w.heap.size := by simp [Go.Sort.putRowK, Go.Sort.putRow, Go.Sort.mapBlock]
      have hpo : ∀ m, m ≠ n → m < w.heap.size → (sortWorldK enc sz w n base nd d' os).heap[m]? = w.heap[m]? := fun m hm hlt => by
        rw [hW, Array.getElem?_append_left (by omega)]
        simp only [Go.Sort.putRowK, Go.Sort.putRow, Go.Sort.mapBlock, Array.getElem?_modify, Go.Sort.heap_ahead]
        rw [if_neg (Ne.symm hm)]
      have hpn : (sortWorldK enc sz w n base nd d' os).heap[n]? = some (.cells (Go.Sort.putCells id base (Go.Sort.flatK enc sz d') c) ty (0, 0)) := by
        rw [hW, Array.getElem?_append_left (by omega)]
        simp only [Go.Sort.putRowK, Go.Sort.putRow, Go.Sort.mapBlock, Array.getElem?_modify, Go.Sort.heap_ahead, if_true, hL.blk, Option.map_some, Go.Sort.onCells]
      have hdis := hr.dis n ⟨b, _, _, _, hφ⟩
      have hsame : ∀ m, A m → (sortWorldK enc sz w n base nd d' os).heap[m]? = w.heap[m]? := fun m hm => hpo m (fun e => hdis (e ▸ hm)) (hr.lt m hm)
      have hup : upd φ b (.loc n base sz room) = φ := by funext x; by_cases e : x = b <;> simp [upd, e, hφ]
      have hsz' : w.heap.size ≤ (sortWorldK enc sz w n base nd d' os).heap.size := by rw [hW, Array.size_append]; omega
      have hlay := hr.lay (A' := A) (w' := sortWorldK enc sz w n base nd d' os) (List.getElem?_eq_some_iff.1 hb).1 (l := .loc n base sz room) (x := .live sz ((d'.toList.map fun x => x.1.1).map eD)) (by rw [hφ]; exact Loc.le_refl _) hsame (fun _ x => x) (fun _ x => .inl x)
        (fun b' m base' sz' room' hne e => hpo m (fun e' => hne (hr.inj b' b n base' sz' room' base sz room (e' ▸ e) hφ)) (hr.olt m ⟨b', _, _, _, e⟩)) hsz'
        ⟨by simp, by simp, fun sz' es'' e => by
          cases e
          refine .inr ⟨n, base, room, _, ty, rfl, hpn, by simp; omega, by simpa [Go.Sort.putCells] using hsize, fun i e he => ?_, fun i e j dd h1 h2 => ?_⟩
          · simp only [List.getElem?_map, Option.map_eq_some_iff] at he
            obtain ⟨t, ⟨x, hx, rfl⟩, rfl⟩ := he
            have hm : x.1.1 ∈ l := x.2.1
            obtain ⟨i', hi', hie⟩ := List.getElem_of_mem hm
            exact hL.len i' _ (by rw [List.getElem?_map, List.getElem?_eq_getElem hi', hie]; rfl)
          · simp only [List.getElem?_map, Option.map_eq_some_iff] at h1
            obtain ⟨t, ⟨x, hx, rfl⟩, rfl⟩ := h1
            obtain ⟨u, hu, hv⟩ := hrow x (List.mem_of_getElem? hx) j dd h2
            have hi : i < d'.size := by simpa using (List.getElem?_eq_some_iff.1 hx).1
            have hj : j < sz := by rw [← hkenc x]; exact (List.getElem?_eq_some_iff.1 hu).1
            have hxg : d'[i]! = x := by
              rw [getElem!_pos d' i hi]
              have := (List.getElem?_eq_some_iff.1 hx).2
              simpa using this
            have hcs := hsz0 i (by omega) j hj
            have hg2 := enc_get enc sz d' hi hj
            refine ⟨u, ?_, hv.mono (fun _ x => x) hsame (by rw [hup]; exact fun _ => Loc.le_refl _)⟩
            simp only [Go.Sort.putCells, Array.getElem?_mapIdx, Array.getElem?_eq_getElem hcs, Option.map_some, Go.Sort.size_flatK, id]
            rw [if_pos ⟨by omega, by omega⟩, show base + i * sz + j - base = i * sz + j by omega, hg2.1, hxg]
            rw [List.getElem?_eq_some_iff] at hu
            obtain ⟨h5, h6⟩ := hu
            rw [getElem!_pos (enc x) j h5, h6]⟩
        (fun _ _ e => by cases e)
        (fun m base' sz' room' e => by
          cases e
          exact ⟨Nat.lt_of_lt_of_le hnlt hsz', hdis, fun b' base' sz' room' hne e => hne (hr.inj b' b n base' sz' room' base sz room e hφ), hr.ofr n ⟨b, _, _, _, hφ⟩⟩)
      rw [hup] at hlay
      exact hlay
    · have hW : (sortWorldK enc sz w n base nd d' os).heap = (Go.Sort.putRowK enc sz (Go.Sort.ahead w nd) n base d').heap ++ os := rfl
      have hps : (Go.Sort.putRowK enc sz (Go.Sort.ahead w nd) n base d').heap.size = w.heap.size := by simp [Go.Sort.putRowK, Go.Sort.putRow, Go.Sort.mapBlock]
      refine ⟨⟨rfl, rfl, rfl, Nat.le_add_right _ _, by rw [hW, Array.size_append]; omega, fun m hm ho => ?_, fun m hm => .inl hm⟩, fun _ x => x, fun _ => .inl, fun _ => Loc.le_refl _, rfl⟩
      rw [hW, Array.getElem?_append_left (by omega)]
      simp only [Go.Sort.putRowK, Go.Sort.putRow, Go.Sort.mapBlock, Array.getElem?_modify, Go.Sort.heap_ahead]
      rw [if_neg (fun e : n = m => ho (e ▸ (⟨b, _, _, _, hφ⟩ : own φ n)))]
/-- A comparison that sees all cells as they are. -/
theorem CE.exact {sz : Nat} {kd : List D} {us : List Value} (h : CE sz kd us) (hl : kd.length = sz) (hk : ∀ d ∈ kd, ∃ u, d = .v u) : us.map D.v = kd := by
  refine List.ext_getElem? fun j => ?_
  rw [List.getElem?_map]
  by_cases hj : j < sz
  · have h1 : j < us.length := by rw [h.len]; exact hj
    have h2 : j < kd.length := by rw [hl]; exact hj
    rw [List.getElem?_eq_getElem h1, List.getElem?_eq_getElem h2]
    have h3 := h.see j _ _ (List.getElem?_eq_getElem h2) (List.getElem?_eq_getElem h1)
    obtain ⟨u, hu⟩ := hk _ (List.getElem_mem h2)
    rcases h3 with h3 | h3
    · rw [hu] at h3; cases h3
    · rw [h3]; rfl
  · rw [List.getElem?_eq_none (by rw [h.len]; omega), List.getElem?_eq_none (by omega)]; rfl
end
end
end Go.DL

/- What stays ahead of new blocks; results of a cell and a temporary; how arguments read. -/
namespace Go.DL
open Go.RowKit Go.Proofs

noncomputable section
/-- The blocks H are as they were; others lie behind them. -/
structure Pre (H H2 : List Blk) : Prop where
  ex : ∃ T, H2 = H ++ T
section
variable {H H2 H3 : List Blk} {b : Nat} {x : Blk}
theorem Pre.refl (H : List Blk) : Pre H H := ⟨[], (List.append_nil _).symm⟩
theorem Pre.app (h : Pre H H2) (T : List Blk) : Pre H (H2 ++ T) := by
  obtain ⟨T1, rfl⟩ := h.ex
  exact ⟨T1 ++ T, List.append_assoc _ _ _⟩
theorem Pre.set (h : Pre H H2) (hb : H.length ≤ b) (x : Blk) : Pre H (H2.set b x) := by
  obtain ⟨T1, rfl⟩ := h.ex
  exact ⟨T1.set (b - H.length) x, List.set_append_right _ _ hb⟩
theorem Pre.trans (h : Pre H H2) (k : Pre H2 H3) : Pre H H3 := by
  obtain ⟨T1, rfl⟩ := h.ex
  obtain ⟨T2, rfl⟩ := k.ex
  exact ⟨T1 ++ T2, List.append_assoc _ _ _⟩
theorem Pre.len (h : Pre H H2) : H.length ≤ H2.length := by
  obtain ⟨T1, rfl⟩ := h.ex
  simp
theorem Pre.get (h : Pre H H2) (k : H[b]? = some x) : H2[b]? = some x := by
  obtain ⟨T1, rfl⟩ := h.ex
  exact hg_app _ k
end
theorem resA_ct {P : Program} {n j b x sz m : Nat} {t : TypeId} {a : AL} {H : List Blk} {e : List D} {d : D} (h1 : lkN n a b = .mp x 0 0) (h2 : H[x]? = some (.live sz [e])) (ht : isAggD P t = some true) (hs : tsz P t = some m) (hn : e.length = m) (hj : lkN n a j = d) : resA P [.cell b t, .tmp j] n a H = some (.tup [.agg e, d]) := by
  subst hn
  have h3 : loadD P H t (.mp x 0 0) = some (.agg e) := by
    simp [loadD, peek, takeD, ht, hs, h2]
  simp [resA, resAL, resA1, h1, h3, hj]
theorem castMax (a b : Nat) : ((max a b : Nat) : Int) = max (a : Int) b := by
  rcases Nat.le_total a b with h | h
  · rw [Nat.max_eq_right h, Int.max_eq_right (by omega)]
  · rw [Nat.max_eq_left h, Int.max_eq_left (by omega)]
/-- How part of an own slice reads. -/
theorem snap_take {α : Type} {f : α → List D} {lk : Nat → Option Blk} {b sz i cap k : Nat} {l : List α} (h : lk b = some (.live sz (l.map f))) (hi : i ≤ l.length) (hf : ∀ x, (f x).map (snap lk k) = f x) : snap lk (k + 1) (.ms b 0 i cap) = .sl ((l.take i).map f) := by
  simp only [snap, h, Nat.zero_add, List.length_map, hi, if_true, List.drop_zero]
  rw [← List.map_take, List.map_map]
  exact congrArg D.sl (List.map_congr_left fun x _ => hf x)
theorem snap_all {α : Type} {f : α → List D} {lk : Nat → Option Blk} {b sz m cap k : Nat} {l : List α} (h : lk b = some (.live sz (l.map f))) (hm : m = l.length) (hf : ∀ x, (f x).map (snap lk k) = f x) : snap lk (k + 1) (.ms b 0 m cap) = .sl (l.map f) := by
  subst hm
  rw [snap_take h (Nat.le_refl _) hf, List.take_length]
theorem snap_mp {lk : Nat → Option Blk} {b sz i f k : Nat} {es : List (List D)} {e e' : List D} (h : lk b = some (.live sz es)) (he : es[i]? = some e) (hf : (e.drop f).map (snap lk k) = e') : snap lk (k + 1) (.mp b i f) = .rp e' := by
  subst hf
  simp only [snap, h, he]
end
end Go.DL

/- Parts of own slices, as elements. -/
namespace Go.DL
open Go.RowKit Go.Proofs

noncomputable section
theorem elems_drop {α : Type} {f : α → List D} {H : List Blk} {b sz k len c : Nat} {l : List α} (hb : H[b]? = some (.live sz (l.map f))) (hl : k + len = l.length) : elemsD H (.ms b k len c) = some ((l.drop k).map f) := by
  simp only [elemsD, hb]
  rw [if_pos (by rw [List.length_map]; omega), List.take_of_length_le (by rw [List.length_map]; omega), List.map_drop]
theorem elems_take {α : Type} {f : α → List D} {H : List Blk} {b sz k c : Nat} {l : List α} (hb : H[b]? = some (.live sz (l.map f))) (hl : k ≤ l.length) : elemsD H (.ms b 0 k c) = some ((l.take k).map f) := by
  simp only [elemsD, hb]
  rw [if_pos (by rw [List.length_map]; omega), List.drop_zero, Nat.zero_add, List.map_take]
end
end Go.DL
