/- Giving an own block up, appending, sealing an own block (it is read-only from then on), and how own blocks read (snap). -/
import Derived.Test.YtmbbepdbjeciaaaGreatDl2
set_option linter.all false
namespace Go.DL
open Go.RowKit

noncomputable section

section
variable {G : Gh} (hG : Stab G) {st : St} {a : Act} {w w' : World} {A : Rd} {φ : Nat → Loc}

theorem RH.kill {H : List Blk} (h : RH A φ w H) {b : Nat} (hb : b < H.length) : RH A (upd φ b .dead) w (H.set b .dead) :=
  h.lay hb (l := .dead) (x := .dead) (.inr (.inl rfl)) (fun _ _ => rfl) (fun _ x => x) (fun _ x => .inl x) (fun _ _ _ _ _ _ _ => rfl) (Nat.le_refl _)
    ⟨by simp, by simp, by simp⟩ (fun _ _ _ _ e => by cases e)

theorem FRc.kill (hG : Stab G) (h : FRc G st a w A φ) {b : Nat} (hb : b < st.H.length) : FRc G { st with H := st.H.set b .dead } a w A (upd φ b .dead) :=
  h.step hG (h.rh.kill hb) ⟨rfl, rfl, rfl, Nat.le_refl _, fun _ _ _ => rfl, fun n hn => by
    rcases own_upd hn with ⟨_, _, _, e⟩ | ⟨b, _, _, _, _, e⟩
    · cases e
    · exact .inl ⟨b, _, _, _, e⟩⟩ (fun _ x => x) (fun _ x => .inl x) (upd_le (.inr (.inl rfl)))

/-- Own block b is given up, its memory goes to s, which holds other elements. -/
theorem FRc.renew (hG : Stab G) (h : FRc G st a w A φ) {b s n base sz sz' room : Nat} (hb : φ b = .loc n base sz room) (hs : st.H[s]? = some .free) {c' : Array Value} {ty : TypeId} (hr : Rewr w w' n c' ty)
    (base' room' : Nat) (es' : List (List D)) (hfit : es'.length ≤ room') (hsize : base' + room' * sz' ≤ c'.size)
    (hlen : ∀ (i : Nat) (e : List D), es'[i]? = some e → e.length = sz')
    (hv : ∀ (i : Nat) (e : List D) (j : Nat) (d : D), es'[i]? = some e → e[j]? = some d → ∃ u, c'[base' + i * sz' + j]? = some u ∧ V A w φ d u) :
    FRc G { st with H := (st.H.set b .dead).set s (.live sz' es') } a w' A (upd (upd φ b .dead) s (.loc n base' sz' room')) := by
  have hf : φ s = .free := h.rh.free s hs
  have hslt : s < st.H.length := (List.getElem?_eq_some_iff.1 hs).1
  have hblt : b < st.H.length := by
    rcases Nat.lt_or_ge b st.H.length with x | x
    · exact x
    · rw [h.rh.out b (List.getElem?_eq_none x)] at hb; cases hb
  have hne : s ≠ b := fun e => by rw [e, hb] at hf; cases hf
  have hown : own φ n := ⟨b, _, _, _, hb⟩
  have hsame : ∀ m, A m → w'.heap[m]? = w.heap[m]? := fun m hm => hr.same m fun e => h.rh.dis n hown (e ▸ hm)
  have hk := h.rh.kill hblt
  have hle : ∀ x, (φ x).le (upd (upd φ b .dead) s (.loc n base' sz' room') x) := fun x =>
    Loc.le_trans (upd_le (φ := φ) (s := b) (.inr (.inl rfl)) x) (upd_le (by rw [upd_other hne]; exact .inl hf) x)
  have key : ∀ b' base'' sz'' room'', b' ≠ s → upd φ b .dead b' ≠ .loc n base'' sz'' room'' := fun b' base'' sz'' room'' _ e => by
    by_cases hbb : b' = b
    · subst hbb; rw [upd_same] at e; cases e
    · rw [upd_other hbb] at e; exact hbb (h.rh.inj b' b n _ _ _ _ _ _ e hb)
  refine h.step hG (hk.lay (s := s) (by simpa using hslt) (l := .loc n base' sz' room') (x := .live sz' es') (by rw [upd_other hne]; exact .inl hf) hsame (fun _ x => x) (fun _ x => .inl x)
    (fun b' m base'' sz'' room'' hb' e => hr.same m fun e' => key b' base'' sz'' room'' hb' (e' ▸ e)) (by rw [hr.size]; exact Nat.le_refl _) ⟨by simp, by simp, fun sz'' es'' e => ?_⟩ ?_) ?_
    (fun _ x => x) (fun _ x => .inl x) hle
  · cases e
    exact .inr ⟨n, base', room', c', ty, rfl, hr.blk, hfit, hsize, hlen, fun i e j d h1 h2 => let ⟨u, hu, hv'⟩ := hv i e j d h1 h2; ⟨u, hu, hv'.mono (fun _ x => x) hsame hle⟩⟩
  · intro m base'' sz'' room'' e
    cases e
    exact ⟨by rw [hr.size]; exact h.rh.olt n hown, h.rh.dis n hown, key, h.rh.ofr n hown⟩
  · refine ⟨hr.os, hr.tape, hr.output, by rw [hr.size]; exact Nat.le_refl _, fun m _ hm => hr.same m fun e => hm (e ▸ hown), fun m hm => ?_⟩
    rcases own_upd hm with ⟨_, _, _, e⟩ | ⟨b', _, _, _, _, e⟩
    · cases e; exact .inl hown
    · by_cases hbb : b' = b
      · subst hbb; rw [upd_same] at e; cases e
      · rw [upd_other hbb] at e; exact .inl ⟨b', _, _, _, e⟩
end

/-- Values that speak of no own block. -/
def flat1 : D → Bool
  | .v _ | .any | .nil | .sl _ | .rp _ => true
  | .fn _ [] [] => true
  | _ => false
def flat : D → Bool
  | .fn _ a b => a.all flat1 && b.all flat1
  | d => flat1 d

theorem V.flat1 {A A' : Rd} {w : World} {φ φ' : Nat → Loc} {d : D} {u : Value} (h : V A w φ d u) (hd : flat1 d = true) (hA : ∀ n, A n → A' n) : V A' w φ' d u := by
  cases h with
  | v => exact .v _ _
  | any => exact .any _ _
  | nil => exact .nil _ _
  | agg => cases hd
  | tup => cases hd
  | sl0 => exact .sl0 _ _ _
  | sl _ es n off sz cap u ha hcap hsz hc h => exact .sl _ _ n off sz cap u (hA n ha) hcap hsz hc fun i e j d h1 h2 => V.mono (A := A.all) (A' := A'.all) hA (fun _ _ => rfl) (fun _ => Loc.le_refl _) (h i e j d h1 h2)
  | fl0 => cases hd
  | fl => cases hd
  | rp _ cs n off u ha hc h => exact .rp _ _ n off u (hA n ha) hc fun j d h1 => V.mono (A := A.all) (A' := A'.all) hA (fun _ _ => rfl) (fun _ => Loc.le_refl _) (h j d h1)
  | ms => cases hd
  | mp => cases hd
  | fn _ f first caps vs us hl hl' h h' =>
    cases first with
    | nil => cases caps with
      | nil => exact .fn _ _ _ _ _ _ hl hl' (by simp) (by simp)
      | cons => cases hd
    | cons => cases caps <;> cases hd
theorem V.flat {A A' : Rd} {w : World} {φ φ' : Nat → Loc} {d : D} {u : Value} (h : V A w φ d u) (hd : flat d = true) (hA : ∀ n, A n → A' n) : V A' w φ' d u := by
  unfold DL.flat at hd
  split at hd
  · rename_i f a b
    simp only [Bool.and_eq_true, List.all_eq_true] at hd
    cases h with
    | fn _ f first caps vs us hl hl' h h' =>
      exact .fn _ _ _ _ _ _ hl hl' (fun i d u h1 h2 => (h i d u h1 h2).flat1 (hd.1 d (List.mem_of_getElem? h1)) hA) fun i d u h1 h2 => (h' i d u h1 h2).flat1 (hd.2 d (List.mem_of_getElem? h1)) hA
  · exact h.flat1 hd hA

/-- A cell of read-only memory, taken out. -/
def lowD : D → D
  | .fl es => .sl es
  | d => if flat d then d else .any

theorem V.low {A : Rd} {w : World} {φ : Nat → Loc} {d : D} {u : Value} (h : V A.all w nowhere d u) : V A w φ (lowD d) u := by
  unfold lowD
  split
  · exact h.of_fl.flat rfl fun _ x => x
  · split
    · rename_i hd; exact h.flat hd fun _ x => x
    · exact .any _ _

/-- How a value reads, own blocks as what they hold (lk: those that may be looked at). -/
def snap (lk : Nat → Option Blk) : Nat → D → D
  | 0, d => match d with
    | .nil => .sl []
    | .fl es => .sl es
    | d => if flat d then d else .any
  | _ + 1, .v x => .v x
  | _ + 1, .any => .any
  | _ + 1, .nil => .sl []
  | _ + 1, .sl es => .sl es
  | _ + 1, .fl es => .sl es
  | _ + 1, .rp cs => .rp cs
  | k + 1, .agg cs => .agg (cs.map (snap lk k))
  | k + 1, .tup cs => .tup (cs.map (snap lk k))
  | k + 1, .fn f first caps => .fn f (first.map (snap lk k)) (caps.map (snap lk k))
  | k + 1, .ms b off len _ => match lk b with
    | some (.live _ es) => if off + len ≤ es.length then .sl (((es.take (off + len)).drop off).map (List.map (snap lk k))) else .any
    | _ => .any
  | k + 1, .mp b i f => match lk b with
    | some (.live _ es) => match es[i]? with
      | some e => .rp ((e.drop f).map (snap lk k))
      | none => .any
    | _ => .any

def both (A : Rd) (φ : Nat → Loc) : Rd := ⟨fun n => A n ∨ own φ n, A.b0⟩

theorem cell_of_blk {w : World} {n o : Nat} {c : Array Value} {ty : TypeId} (h : w.heap[n]? = some (.cells c ty (0, 0))) : w.cell? ⟨n, o, none⟩ = c[o]? := by
  simp [World.cell?, h]

theorem V.snap {A B : Rd} {w : World} {φ : Nat → Loc} {H : List Blk} (hr : RH A φ w H) {lk : Nat → Option Blk} (hlk : ∀ b sz es, lk b = some (.live sz es) → H[b]? = some (.live sz es))
    (hA : ∀ n, A n → B n) (hB : ∀ b sz es n base sz' room, lk b = some (.live sz es) → φ b = .loc n base sz' room → B n) :
    ∀ (k : Nat) {d : D} {u : Value}, V A w φ d u → V B w nowhere (snap lk k d) u
  | 0, d, u, h => by
    simp only [DL.snap]
    split
    · cases h; exact .sl0 _ _ _
    · exact h.of_fl.flat rfl hA
    · split
      · rename_i hd; exact h.flat hd hA
      · exact .any _ _
  | k + 1, d, u, h => by
    have ih := fun {d u} => V.snap hr hlk hA hB k (d := d) (u := u)
    cases h with
    | v => exact .v _ _
    | any => exact .any _ _
    | nil => exact .sl0 _ _ _
    | agg _ cs vs hl h =>
      refine .agg _ _ _ (by simpa using hl) fun i d u h1 h2 => ?_
      simp only [List.getElem?_map, Option.map_eq_some_iff] at h1
      obtain ⟨d0, h1, rfl⟩ := h1
      exact ih (h i d0 u h1 h2)
    | tup _ cs vs hl h =>
      refine .tup _ _ _ (by simpa using hl) fun i d u h1 h2 => ?_
      simp only [List.getElem?_map, Option.map_eq_some_iff] at h1
      obtain ⟨d0, h1, rfl⟩ := h1
      exact ih (h i d0 u h1 h2)
    | sl0 => exact .sl0 _ _ _
    | sl _ es n off sz cap u ha hcap hsz hc h => exact (V.sl φ es n off sz cap u ha hcap hsz hc h).flat rfl hA
    | fl0 => exact .sl0 _ _ _
    | fl _ es n off sz cap u ha hcap hsz hc h => exact (V.fl φ es n off sz cap u ha hcap hsz hc h).of_fl.flat rfl hA
    | rp _ cs n off u ha hc h => exact (V.rp φ cs n off u ha hc h).flat rfl hA
    | ms _ b off len cap cap' a hlen hcap h =>
      simp only [DL.snap]
      split
      · rename_i sz es hb0
        have hb := hlk _ _ _ hb0
        split
        · rename_i hol
          rcases hr.live b sz es hb with ⟨rfl, hp⟩ | ⟨n, base, room, c, ty, hp, hl⟩
          · simp at hol; obtain ⟨rfl, rfl⟩ := hol
            simp; exact .sl0 _ _ _
          · rw [hp] at h
            obtain ⟨h1, h2⟩ := h
            rcases Nat.eq_zero_or_pos len with hz | hz
            · subst hz; simp; exact .sl0 _ _ _
            have ha : a = some ⟨n, base + off * sz, none⟩ := h2.resolve_left (by omega)
            subst ha
            have hlen2 : (((es.take (off + len)).drop off).map (List.map (DL.snap lk k))).length = len := by simp; omega
            have hex : ∀ (i : Nat) (e : List D), (((es.take (off + len)).drop off).map (List.map (DL.snap lk k)))[i]? = some e → ∃ e0, es[off + i]? = some e0 ∧ e = e0.map (DL.snap lk k) := fun i e he => by
              simp only [List.getElem?_map, Option.map_eq_some_iff, List.getElem?_drop, List.getElem?_take] at he
              obtain ⟨e0, he, rfl⟩ := he
              split at he
              · exact ⟨e0, he, rfl⟩
              · cases he
            have hcell : ∀ (i : Nat) (e : List D) (j : Nat) (d : D), es[i]? = some e → e[j]? = some d → c[base + i * sz + j]? = some ((c[base + i * sz + j]?).getD default) := fun i e j d h3 h4 => by
              obtain ⟨u, hu, _⟩ := hl.val i e j d h3 h4; rw [hu]; rfl
            have := V.sl (A := B) (w := w) nowhere (((es.take (off + len)).drop off).map (List.map (DL.snap lk k))) n (base + off * sz) sz cap' (fun i j => (c[base + (off + i) * sz + j]?).getD default)
              (hB _ _ _ _ _ _ _ hb0 hp) (by omega)
              (fun i e he => by obtain ⟨e0, h3, rfl⟩ := hex i e he; simpa using hl.len _ _ h3)
              (fun i e j d he hd => by
                obtain ⟨e0, h3, rfl⟩ := hex i e he
                simp only [List.getElem?_map, Option.map_eq_some_iff] at hd
                obtain ⟨d0, h4, rfl⟩ := hd
                rw [cell_of_blk hl.blk, show base + off * sz + i * sz + j = base + (off + i) * sz + j by rw [Nat.add_mul]; omega]
                exact hcell _ _ _ _ h3 h4)
              (fun i e j d he hd => by
                obtain ⟨e0, h3, rfl⟩ := hex i e he
                simp only [List.getElem?_map, Option.map_eq_some_iff] at hd
                obtain ⟨d0, h4, rfl⟩ := hd
                obtain ⟨u, hu, hv⟩ := hl.val _ _ _ _ h3 h4
                simp only [hu, Option.getD_some]
                exact (V.mono (A := B) (A' := B.all) (fun _ x => x) (fun _ _ => rfl) (fun _ => Loc.le_refl _) (ih hv) (Nat.zero_le _)))
            rw [hlen2] at this
            exact this
        · exact .any _ _
      · exact .any _ _
    | mp _ b i f x h =>
      simp only [DL.snap]
      split
      · rename_i sz es hb0
        have hb := hlk _ _ _ hb0
        split
        · rename_i e he
          rcases hr.live b sz es hb with ⟨rfl, hp⟩ | ⟨n, base, room, c, ty, hp, hl⟩
          · simp at he
          · rw [hp] at h
            have hx : x = ⟨n, base + i * sz + f, none⟩ := h
            subst hx
            refine .rp _ _ n _ (fun j => (c[base + i * sz + f + j]?).getD default) (hB _ _ _ _ _ _ _ hb0 hp) (fun j d hd => ?_) (fun j d hd => ?_)
            all_goals
              simp only [List.getElem?_map, Option.map_eq_some_iff, List.getElem?_drop] at hd
              obtain ⟨d0, h4, rfl⟩ := hd
              obtain ⟨u, hu, hv⟩ := hl.val _ _ _ _ he h4
              rw [← Nat.add_assoc] at hu
            · rw [cell_of_blk hl.blk, hu]; rfl
            · simp only [hu, Option.getD_some]; exact V.mono (A := B) (A' := B.all) (fun _ x => x) (fun _ _ => rfl) (fun _ => Loc.le_refl _) (ih hv) (Nat.zero_le _)
        · exact .any _ _
      · exact .any _ _
    | fn _ f first caps vs us hl hl' h h' =>
      refine .fn _ f _ _ _ _ (by simpa using hl) (by simpa using hl') (fun i d u h1 h2 => ?_) (fun i d u h1 h2 => ?_)
      all_goals
        simp only [List.getElem?_map, Option.map_eq_some_iff] at h1
        obtain ⟨d0, h1, rfl⟩ := h1
      · exact ih (h i d0 u h1 h2)
      · exact ih (h' i d0 u h1 h2)

/-- Cells of which a read-only block may be made; those that speak of no memory that came in. -/
def pur (d : D) : Bool := flat d || match d with | .fl _ => true | _ => false
def frs : D → Bool
  | .v _ | .any | .nil | .fl _ => true
  | _ => false
def unfl : D → D
  | .fl es => .sl es
  | d => d

theorem V.unfl {A A' : Rd} {w : World} {φ φ' : Nat → Loc} {d : D} {u : Value} (h : V A w φ d u) (hd : pur d = true) (hA : ∀ n, A n → A' n) : V A' w φ' (unfl d) u := by
  cases d with
  | fl es => exact h.of_fl.flat rfl hA
  | _ => exact h.flat (by simpa [pur] using hd) hA

theorem V.frs {A A' : Rd} {w : World} {φ φ' : Nat → Loc} {d : D} {u : Value} (h : V A w φ d u) (hd : frs d = true) (hA : ∀ n, A n → A.b0 ≤ n → A' n) : V A' w φ' (DL.unfl d) u := by
  cases h with
  | v => exact .v _ _
  | any => exact .any _ _
  | nil => exact .nil _ _
  | fl0 => exact .sl0 _ _ _
  | fl _ es n off sz cap u ha hcap hsz hc h =>
    exact .sl _ _ n off sz cap u (hA n ha.1 ha.2) hcap hsz hc fun i e j d h1 h2 => V.mono (A := A.fresh) (A' := A'.all) (fun m hm => hA m hm.1 hm.2) (fun _ _ => rfl) (fun _ => Loc.le_refl _) (h i e j d h1 h2)
  | _ => cases hd

/-- A sealed slice. -/
def sealS (es : List (List D)) (off len : Nat) : D :=
  if off + len ≤ es.length then
    if es.all (fun e => e.all frs) = true then .fl (((es.take (off + len)).drop off).map (List.map unfl)) else .sl (((es.take (off + len)).drop off).map (List.map unfl))
  else .any

/-- Own block b is read-only from now on: whatever pointed to it reads as what it held. -/
def sealD (b : Nat) (es : List (List D)) : D → D
  | .ms b' off len cap => if b' = b then sealS es off len else .ms b' off len cap
  | .mp b' i f => if b' = b then (match es[i]? with | some e => .rp ((e.drop f).map unfl) | none => .any) else .mp b' i f
  | d => d

def sealB (b : Nat) (es : List (List D)) : Blk → Blk
  | .live sz fs => .live sz (fs.map (List.map (sealD b es)))
  | x => x

def oneMore (A : Rd) (l : Loc) : Rd := ⟨fun n => A n ∨ ∃ base sz room, l = .loc n base sz room, A.b0⟩

theorem V.sealS {A : Rd} {w : World} {φ φ' : Nat → Loc} {H : List Blk} (hr : RH A φ w H) {b sz : Nat} {es : List (List D)} (hb : H[b]? = some (.live sz es))
    (hf : ∀ (i : Nat) (e : List D) (j : Nat) (d : D), es[i]? = some e → e[j]? = some d → pur d = true) {off len cap : Nat} {u : Value} (h : V A w φ (.ms b off len cap) u) :
    V (oneMore A (φ b)) w φ' (DL.sealS es off len) u := by
  cases h with
  | ms _ _ off len cap cap' a hlen hcap h =>
    unfold DL.sealS
    split
    · rename_i hol
      rcases hr.live b sz es hb with ⟨rfl, hp⟩ | ⟨n, base, room, c, ty, hp, hl⟩
      · simp at hol; obtain ⟨rfl, rfl⟩ := hol
        simp; exact .fl0 _ _ _
      · have hown : own φ n := ⟨b, _, _, _, hp⟩
        rw [hp] at h
        obtain ⟨h1, h2⟩ := h
        have hlen2 : (((es.take (off + len)).drop off).map (List.map DL.unfl)).length = len := by simp; omega
        rcases Nat.eq_zero_or_pos len with hz | hz
        · subst hz
          rw [List.eq_nil_of_length_eq_zero hlen2]
          split
          · exact .fl0 _ _ _
          · exact .sl0 _ _ _
        have ha : a = some ⟨n, base + off * sz, none⟩ := h2.resolve_left (by omega)
        subst ha
        have hex : ∀ (i : Nat) (e : List D), (((es.take (off + len)).drop off).map (List.map DL.unfl))[i]? = some e → ∃ e0, es[off + i]? = some e0 ∧ e = e0.map DL.unfl := fun i e he => by
          simp only [List.getElem?_map, Option.map_eq_some_iff, List.getElem?_drop, List.getElem?_take] at he
          obtain ⟨e0, he, rfl⟩ := he
          split at he
          · exact ⟨e0, he, rfl⟩
          · cases he
        have hcell : ∀ (i : Nat) (e : List D) (j : Nat) (d : D), (((es.take (off + len)).drop off).map (List.map DL.unfl))[i]? = some e → e[j]? = some d →
            w.cell? ⟨n, base + off * sz + i * sz + j, none⟩ = some ((c[base + (off + i) * sz + j]?).getD default) ∧
            ∃ d0, es[off + i]? = some (e.map id |> fun _ => (es[off + i]?).getD []) ∧ d = DL.unfl d0 ∧ ((es[off + i]?).getD [])[j]? = some d0 ∧ V A w φ d0 ((c[base + (off + i) * sz + j]?).getD default) := fun i e j d he hd => by
          obtain ⟨e0, h3, rfl⟩ := hex i e he
          simp only [List.getElem?_map, Option.map_eq_some_iff] at hd
          obtain ⟨d0, h4, rfl⟩ := hd
          obtain ⟨u, hu, hv⟩ := hl.val _ _ _ _ h3 h4
          refine ⟨?_, d0, by simp [h3], rfl, by simpa [h3] using h4, by rw [hu]; exact hv⟩
          rw [cell_of_blk hl.blk, show base + off * sz + i * sz + j = base + (off + i) * sz + j by rw [Nat.add_mul]; omega, hu]; rfl
        have hszz : ∀ (i : Nat) (e : List D), (((es.take (off + len)).drop off).map (List.map DL.unfl))[i]? = some e → e.length = sz := fun i e he => by
          obtain ⟨e0, h3, rfl⟩ := hex i e he; simpa using hl.len _ _ h3
        split
        · rename_i hall
          have hfr : ∀ (i : Nat) (e : List D) (j : Nat) (d : D), es[i]? = some e → e[j]? = some d → DL.frs d = true := fun i e j d h3 h4 => by
            rw [List.all_eq_true] at hall
            have := hall e (List.mem_of_getElem? h3)
            rw [List.all_eq_true] at this
            exact this d (List.mem_of_getElem? h4)
          have := V.fl (A := oneMore A (φ b)) (w := w) φ' (((es.take (off + len)).drop off).map (List.map DL.unfl)) n (base + off * sz) sz cap' (fun i j => (c[base + (off + i) * sz + j]?).getD default)
            ⟨.inr ⟨_, _, _, hp⟩, hr.ofr n hown⟩ (by omega) hszz (fun i e j d he hd => (hcell i e j d he hd).1) (fun i e j d he hd => by
              obtain ⟨_, d0, h5, rfl, h6, hv⟩ := hcell i e j d he hd
              exact hv.frs (hfr _ _ _ _ h5 h6) fun m hm hb => ⟨.inl hm, hb⟩)
          rw [hlen2] at this
          exact this
        · have := V.sl (A := oneMore A (φ b)) (w := w) φ' (((es.take (off + len)).drop off).map (List.map DL.unfl)) n (base + off * sz) sz cap' (fun i j => (c[base + (off + i) * sz + j]?).getD default)
            (.inr ⟨_, _, _, hp⟩) (by omega) hszz (fun i e j d he hd => (hcell i e j d he hd).1) (fun i e j d he hd => by
              obtain ⟨_, d0, h5, rfl, h6, hv⟩ := hcell i e j d he hd
              exact hv.unfl (hf _ _ _ _ h5 h6) fun m hm => .inl hm)
          rw [hlen2] at this
          exact this
    · exact .any _ _

theorem V.sealUp {A : Rd} {w : World} {φ : Nat → Loc} {H : List Blk} (hr : RH A φ w H) {b sz : Nat} {es : List (List D)} (hb : H[b]? = some (.live sz es))
    (hf : ∀ (i : Nat) (e : List D) (j : Nat) (d : D), es[i]? = some e → e[j]? = some d → pur d = true) {d : D} {u : Value} (h : V A w φ d u) :
    V (oneMore A (φ b)) w (upd φ b .dead) (sealD b es d) u := by
  have hm : V (oneMore A (φ b)) w (upd φ b .dead) d u := h.mono (fun _ => .inl) (fun _ _ => rfl) (upd_le (.inr (.inl rfl)))
  cases d with
  | ms b' off len cap =>
    simp only [sealD]
    split
    · rename_i e; subst e; exact h.sealS hr hb hf
    · exact hm
  | mp b' i f =>
    simp only [sealD]
    split
    · rename_i e
      subst e
      cases h with
      | mp _ _ _ _ x h =>
        split
        · rename_i e he
          rcases hr.live b' sz es hb with ⟨rfl, hp⟩ | ⟨n, base, room, c, ty, hp, hl⟩
          · simp at he
          · rw [hp] at h
            have hx : x = ⟨n, base + i * sz + f, none⟩ := h
            subst hx
            refine .rp _ _ n _ (fun j => (c[base + i * sz + f + j]?).getD default) (.inr ⟨_, _, _, hp⟩) (fun j d hd => ?_) (fun j d hd => ?_)
            all_goals
              simp only [List.getElem?_map, Option.map_eq_some_iff, List.getElem?_drop] at hd
              obtain ⟨d0, hd, rfl⟩ := hd
              obtain ⟨u, hu, hv⟩ := hl.val _ _ _ _ he hd
              rw [← Nat.add_assoc] at hu
            · rw [cell_of_blk hl.blk, hu]; rfl
            · simp only [hu, Option.getD_some]; exact hv.unfl (hf _ _ _ _ he hd) fun m hm => .inl hm
        · exact .any _ _
    · exact hm
  | _ => exact hm

theorem RH.sealUp {A : Rd} {w : World} {φ : Nat → Loc} {H : List Blk} (hr : RH A φ w H) {b sz : Nat} {es : List (List D)} (hb : H[b]? = some (.live sz es))
    (hf : ∀ (i : Nat) (e : List D) (j : Nat) (d : D), es[i]? = some e → e[j]? = some d → pur d = true) :
    RH (oneMore A (φ b)) (upd φ b .dead) w ((H.map (sealB b es)).set b .dead) := by
  have hlt : b < H.length := (List.getElem?_eq_some_iff.1 hb).1
  have hget : ∀ (b' : Nat) (x : Blk), b' ≠ b → ((H.map (sealB b es)).set b .dead)[b']? = some x → ∃ y, H[b']? = some y ∧ x = sealB b es y := fun b' x hne h => by
    rw [List.getElem?_set, if_neg (Ne.symm hne), List.getElem?_map, Option.map_eq_some_iff] at h
    obtain ⟨y, h1, h2⟩ := h; exact ⟨y, h1, h2.symm⟩
  refine ⟨fun b' h => ?_, fun b' h => ?_, fun b' h => ?_, fun b' sz' es' h => ?_, fun b1 b2 n base sz room base' sz' room' h1 h2 => ?_, fun n hn ha => ?_, fun n hn => ?_, fun n hn => ?_, fun n hn => ?_, hr.bsz⟩
  · have hne : b' ≠ b := fun e => by subst e; simp [hlt] at h
    rw [upd_other hne]; exact hr.out b' (by simpa [List.getElem?_set, Ne.symm hne] using h)
  · by_cases hne : b' = b
    · subst hne; simp [hlt] at h
    · obtain ⟨y, h1, h2⟩ := hget b' _ hne h
      rw [upd_other hne]; cases y <;> simp [sealB] at h2; exact hr.free b' h1
  · by_cases hne : b' = b
    · subst hne; exact upd_same _ _ _
    · obtain ⟨y, h1, h2⟩ := hget b' _ hne h
      rw [upd_other hne]; cases y <;> simp [sealB] at h2; exact hr.dead b' h1
  · by_cases hne : b' = b
    · subst hne; simp [hlt] at h
    · obtain ⟨y, h1, h2⟩ := hget b' _ hne h
      rw [upd_other hne]
      cases y with
      | free => simp [sealB] at h2
      | dead => simp [sealB] at h2
      | live sz0 fs =>
        simp only [sealB, Blk.live.injEq] at h2
        obtain ⟨rfl, rfl⟩ := h2
        rcases hr.live b' sz' fs h1 with ⟨rfl, h3⟩ | ⟨n, base, room, c, ty, h3, hl⟩
        · exact .inl ⟨rfl, h3⟩
        · refine .inr ⟨n, base, room, c, ty, h3, hl.blk, by simpa using hl.fits, hl.size, fun i e he => ?_, fun i e j d he hd => ?_⟩
          all_goals
            simp only [List.getElem?_map, Option.map_eq_some_iff] at he
            obtain ⟨e0, he, rfl⟩ := he
          · simpa using hl.len i e0 he
          · simp only [List.getElem?_map, Option.map_eq_some_iff] at hd
            obtain ⟨d0, hd, rfl⟩ := hd
            obtain ⟨u, hu, hv⟩ := hl.val i e0 j d0 he hd
            exact ⟨u, hu, hv.sealUp hr hb hf⟩
  · by_cases e1 : b1 = b
    · subst e1; rw [upd_same] at h1; cases h1
    · by_cases e2 : b2 = b
      · subst e2; rw [upd_same] at h2; cases h2
      · rw [upd_other e1] at h1; rw [upd_other e2] at h2; exact hr.inj _ _ _ _ _ _ _ _ _ h1 h2
  · rcases own_upd hn with ⟨_, _, _, e⟩ | ⟨b', base, sz', room, hne, e⟩
    · cases e
    · rcases ha with ha | ⟨_, _, _, ha⟩
      · exact hr.dis n ⟨b', _, _, _, e⟩ ha
      · exact hne (hr.inj _ _ _ _ _ _ _ _ _ e ha)
  · rcases hn with hn | ⟨_, _, _, hn⟩
    · exact hr.lt n hn
    · exact hr.olt n ⟨b, _, _, _, hn⟩
  · rcases own_upd hn with ⟨_, _, _, e⟩ | ⟨b', base, sz', room, hne, e⟩
    · cases e
    · exact hr.olt n ⟨b', _, _, _, e⟩
  · rcases own_upd hn with ⟨_, _, _, e⟩ | ⟨b', base, sz', room, hne, e⟩
    · cases e
    · exact hr.ofr n ⟨b', _, _, _, e⟩

/-- Own block b is read-only from now on; nothing is said of what pointed to it. -/
theorem RH.freeze {A : Rd} {w : World} {φ : Nat → Loc} {H : List Blk} (hr : RH A φ w H) {b : Nat} (hlt : b < H.length) :
    RH (oneMore A (φ b)) (upd φ b .dead) w (H.set b .dead) :=
  hr.lay hlt (l := .dead) (x := .dead) (.inr (.inl rfl)) (fun _ _ => rfl) (fun _ x => .inl x) (fun _ x => x) (fun _ _ _ _ _ _ _ => rfl) (Nat.le_refl _)
    ⟨by simp, by simp, by simp⟩ (fun _ _ _ _ e => by cases e)

theorem FRc.sealUp {G : Gh} (hG : Stab G) {st : St} {a : Act} {w : World} {A : Rd} {φ : Nat → Loc} (h : FRc G st a w A φ) {b sz : Nat} {es : List (List D)}
    (hb : st.H[b]? = some (.live sz es)) (hf : ∀ (i : Nat) (e : List D) (j : Nat) (d : D), es[i]? = some e → e[j]? = some d → pur d = true) :
    FRc G { st with t := st.t.map (sealD b es), H := (st.H.map (sealB b es)).set b .dead } a w (oneMore A (φ b)) (upd φ b .dead) := by
  have h1 := h.step hG (h.rh.sealUp hb hf) ⟨rfl, rfl, rfl, Nat.le_refl _, fun _ _ _ => rfl, fun n hn => by
    rcases own_upd hn with ⟨_, _, _, e⟩ | ⟨b, _, _, _, _, e⟩
    · cases e
    · exact .inl ⟨b, _, _, _, e⟩⟩ (fun _ => .inl) (fun m hm => hm.imp id fun ⟨_, _, _, e⟩ => .inl ⟨b, _, _, _, e⟩) (upd_le (.inr (.inl rfl)))
  refine ⟨h1.rh, ⟨by simpa using h.tr.size, fun i d u hd hu => ?_⟩, h1.gh, h1.df, h1.dk, h1.nd⟩
  simp only [List.getElem?_map, Option.map_eq_some_iff] at hd
  obtain ⟨d0, hd, rfl⟩ := hd
  exact (h.tr.val i d0 u hd hu).sealUp h.rh hb hf

end
end Go.DL
