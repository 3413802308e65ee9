/- The steps of a frame's memory: a new block, a store, an append, a sealing, at the level of what own blocks hold. -/
import Derived.Test.YtmbbepdbjeciaaaGreatDl1
set_option linter.all false
namespace Go.DL
open Go.RowKit

noncomputable section

theorem FRc.value {G : Gh} {st : St} {a : Act} {w : World} {A : Rd} {φ : Nat → Loc} (h : FRc G st a w A φ) (dst : Option Tmp) {d : D} {x : Value}
    (hv : V A w φ d x) : FRc G { st with t := setT st.t dst d } (a.put dst x) w A φ :=
  ⟨h.rh, h.tr.put dst hv, h.gh, by rw [put_defers]; exact h.df, h.dk, h.nd⟩

theorem LiveAt.mono {A A' : Rd} {w w' : World} {φ φ' : Nat → Loc} {n base room sz : Nat} {c : Array Value} {ty : TypeId} {es : List (List D)}
    (h : LiveAt A w φ n base room sz c ty es) (hA : ∀ m, A m → A' m) (hw : ∀ m, A m → w'.heap[m]? = w.heap[m]?) (hφ : ∀ b, (φ b).le (φ' b)) (hn : w'.heap[n]? = w.heap[n]?) (hb : A'.b0 ≤ A.b0 := by exact Nat.le_refl _) :
    LiveAt A' w' φ' n base room sz c ty es :=
  ⟨hn.trans h.blk, h.fits, h.size, h.len, fun i e j d h1 h2 => let ⟨u, hu, hv⟩ := h.val i e j d h1 h2; ⟨u, hu, hv.mono hA hw hφ hb⟩⟩

def upd (φ : Nat → Loc) (s : Nat) (l : Loc) : Nat → Loc := fun b => if b = s then l else φ b
theorem upd_same (φ : Nat → Loc) (s : Nat) (l : Loc) : upd φ s l s = l := by simp [upd]
theorem upd_other {φ : Nat → Loc} {s b : Nat} {l : Loc} (h : b ≠ s) : upd φ s l b = φ b := by simp [upd, h]
theorem upd_le {φ : Nat → Loc} {s : Nat} {l : Loc} (h : (φ s).le l) (b : Nat) : (φ b).le (upd φ s l b) := by
  by_cases e : b = s
  · subst e; rw [upd_same]; exact h
  · rw [upd_other e]; exact Loc.le_refl _
theorem own_upd {φ : Nat → Loc} {s : Nat} {l : Loc} {n : Nat} (h : own (upd φ s l) n) : (∃ base sz room, l = .loc n base sz room) ∨ ∃ b base sz room, b ≠ s ∧ φ b = .loc n base sz room := by
  obtain ⟨b, base, sz, room, e⟩ := h
  by_cases hb : b = s
  · subst hb; rw [upd_same] at e; exact .inl ⟨_, _, _, e⟩
  · rw [upd_other hb] at e; exact .inr ⟨b, _, _, _, hb, e⟩

/-- Own block s is laid at a place that no other block has; the others stay as they are. -/
theorem RH.lay {A A' : Rd} {φ : Nat → Loc} {w w' : World} {H : List Blk} (h : RH A φ w H) {s : Nat} (hs : s < H.length) {l : Loc} {x : Blk} (hle : (φ s).le l)
    (hw : ∀ m, A m → w'.heap[m]? = w.heap[m]?) (hA : ∀ m, A m → A' m) (hA' : ∀ m, A' m → A m ∨ ∃ base sz room, φ s = .loc m base sz room)
    (ho : ∀ b n base sz room, b ≠ s → φ b = .loc n base sz room → w'.heap[n]? = w.heap[n]?) (hsz : w.heap.size ≤ w'.heap.size)
    (hx : (x = .free → l = .free) ∧ (x = .dead → l = .dead) ∧ ∀ sz es, x = .live sz es → (es = [] ∧ l = .ph) ∨ ∃ n base room c ty, l = .loc n base sz room ∧ LiveAt A' w' (upd φ s l) n base room sz c ty es)
    (hl : ∀ n base sz room, l = .loc n base sz room → n < w'.heap.size ∧ ¬ A' n ∧ (∀ b base sz room, b ≠ s → φ b ≠ .loc n base sz room) ∧ A'.b0 ≤ n) (hb0 : A'.b0 ≤ A.b0 := by exact Nat.le_refl _) :
    RH A' (upd φ s l) w' (H.set s x) := by
  have hle' : ∀ b, (φ b).le (upd φ s l b) := upd_le hle
  refine ⟨fun b hb => ?_, fun b hb => ?_, fun b hb => ?_, fun b sz es hb => ?_, ?_, ?_, ?_, ?_, ?_, Nat.le_trans hb0 (Nat.le_trans h.bsz hsz)⟩
  · have hne : b ≠ s := fun e => by subst e; simp [hs] at hb
    rw [upd_other hne]; exact h.out b (by simpa [List.getElem?_set, Ne.symm hne] using hb)
  · by_cases hne : b = s
    · subst hne; simp [hs] at hb; rw [upd_same]; exact hx.1 hb
    · rw [upd_other hne]; exact h.free b (by simpa [List.getElem?_set, Ne.symm hne] using hb)
  · by_cases hne : b = s
    · subst hne; simp [hs] at hb; rw [upd_same]; exact hx.2.1 hb
    · rw [upd_other hne]; exact h.dead b (by simpa [List.getElem?_set, Ne.symm hne] using hb)
  · by_cases hne : b = s
    · subst hne; simp [hs] at hb; rw [upd_same]; exact hx.2.2 sz es hb
    · rw [upd_other hne]
      rcases h.live b sz es (by simpa [List.getElem?_set, Ne.symm hne] using hb) with h1 | ⟨n, base, room, c, ty, h1, h2⟩
      · exact .inl h1
      · exact .inr ⟨n, base, room, c, ty, h1, h2.mono hA hw hle' (ho b n base sz room hne h1) hb0⟩
  · intro b b' n base sz room base' sz' room' e e'
    by_cases hb : b = s <;> by_cases hb' : b' = s
    · rw [hb, hb']
    · subst hb; rw [upd_same] at e; rw [upd_other hb'] at e'; exact absurd e' ((hl n base sz room e).2.2.1 b' base' sz' room' hb')
    · subst hb'; rw [upd_same] at e'; rw [upd_other hb] at e; exact absurd e ((hl n base' sz' room' e').2.2.1 b base sz room hb)
    · rw [upd_other hb] at e; rw [upd_other hb'] at e'; exact h.inj b b' n base sz room base' sz' room' e e'
  · intro n hn ha
    rcases own_upd hn with ⟨base, sz, room, e⟩ | ⟨b, base, sz, room, hne, e⟩
    · exact (hl n base sz room e).2.1 ha
    · rcases hA' n ha with h1 | ⟨base', sz', room', h1⟩
      · exact h.dis n ⟨b, base, sz, room, e⟩ h1
      · exact hne (h.inj b s n base sz room base' sz' room' e h1)
  · intro n hn
    rcases hA' n hn with h1 | ⟨base, sz, room, h1⟩
    · exact Nat.lt_of_lt_of_le (h.lt n h1) hsz
    · exact Nat.lt_of_lt_of_le (h.olt n ⟨s, base, sz, room, h1⟩) hsz
  · intro n hn
    rcases own_upd hn with ⟨base, sz, room, e⟩ | ⟨b, base, sz, room, hne, e⟩
    · exact (hl n base sz room e).1
    · exact Nat.lt_of_lt_of_le (h.olt n ⟨b, base, sz, room, e⟩) hsz
  · intro n hn
    rcases own_upd hn with ⟨base, sz, room, e⟩ | ⟨b, base, sz, room, hne, e⟩
    · exact (hl n base sz room e).2.2.2
    · exact Nat.le_trans hb0 (h.ofr n ⟨b, base, sz, room, e⟩)

/-- One more place for an own block. -/
theorem RH.grow {A : Rd} {φ : Nat → Loc} {w : World} {H : List Blk} (h : RH A φ w H) : RH A φ w (H ++ [.free]) := by
  have key : ∀ b x, (H ++ [Blk.free])[b]? = some x → H[b]? = some x ∨ (x = .free ∧ φ b = .free) := fun b x hb => by
    rcases Nat.lt_trichotomy b H.length with h1 | h1 | h1
    · left; rwa [List.getElem?_append_left h1] at hb
    · subst h1; simp at hb; exact .inr ⟨hb.symm, h.out _ (by simp)⟩
    · rw [List.getElem?_append_right (by omega)] at hb
      rw [List.getElem?_eq_none (by simp; omega)] at hb; cases hb
  refine ⟨fun b hb => h.out b ?_, fun b hb => ?_, fun b hb => ?_, fun b sz es hb => ?_, h.inj, h.dis, h.lt, h.olt, h.ofr, h.bsz⟩
  · rw [List.getElem?_eq_none_iff] at hb ⊢; simp at hb; omega
  · rcases key b _ hb with h1 | ⟨_, h1⟩
    · exact h.free b h1
    · exact h1
  · rcases key b _ hb with h1 | ⟨h1, _⟩
    · exact h.dead b h1
    · cases h1
  · rcases key b _ hb with h1 | ⟨h1, _⟩
    · exact h.live b sz es h1
    · cases h1

/-- What lies elsewhere has changed: read-only and own blocks are as they were. -/
theorem RH.move {A : Rd} {φ : Nat → Loc} {w w' : World} {H : List Blk} (h : RH A φ w H) (hA : ∀ m, A m → w'.heap[m]? = w.heap[m]?)
    (ho : ∀ m, own φ m → w'.heap[m]? = w.heap[m]?) (hsz : w.heap.size ≤ w'.heap.size) : RH A φ w' H :=
  ⟨h.out, h.free, h.dead, fun b sz es hb => (h.live b sz es hb).imp id fun ⟨n, base, room, c, ty, h1, h2⟩ =>
      ⟨n, base, room, c, ty, h1, h2.mono (fun _ x => x) hA (fun _ => Loc.le_refl _) (ho n ⟨b, base, sz, room, h1⟩)⟩,
    h.inj, h.dis, fun n hn => Nat.lt_of_lt_of_le (h.lt n hn) hsz, fun n hn => Nat.lt_of_lt_of_le (h.olt n hn) hsz, h.ofr, Nat.le_trans h.bsz hsz⟩

theorem heap_alloc_lt (w : World) (o : Obj) {m : Nat} (h : m < w.heap.size) : (w.alloc o).heap[m]? = w.heap[m]? := Below.heap_alloc w o m h
theorem heap_alloc_new (w : World) (o : Obj) : (w.alloc o).heap[w.heap.size]? = some o := by show (w.heap.push o)[w.heap.size]? = _; simp

theorem ext_alloc (w : World) (O : Nat → Prop) (o : Obj) {O' : Nat → Prop} (h : ∀ n, O' n → O n ∨ n = w.heap.size) : Ext w O (w.alloc o) O' :=
  ⟨rfl, rfl, rfl, by simp, fun _ hn _ => heap_alloc_lt w o hn, fun n hn => (h n hn).imp id fun e => by omega⟩

/-- A frame in a new world: what is asked. -/
theorem FRc.step {G : Gh} (hG : Stab G) {st : St} {a : Act} {w w' : World} {A A' : Rd} {φ φ' : Nat → Loc} (h : FRc G st a w A φ)
    {H' : List Blk} (hr : RH A' φ' w' H') (he : Ext w (own φ) w' (own φ')) (hA : ∀ m, A m → A' m) (hA' : ∀ m, A' m → A m ∨ own φ m ∨ w.heap.size ≤ m) (hφ : ∀ b, (φ b).le (φ' b)) (hb0 : A'.b0 = A.b0 := by exact rfl) :
    FRc G { st with H := H' } a w' A' φ' := by
  have hsA : ∀ m, A m → w'.heap[m]? = w.heap[m]? := fun m hm => he.same m (h.rh.lt m hm) fun ho => h.rh.dis m ho hm
  refine ⟨hr, h.tr.mono hA hsA hφ (Nat.le_of_eq hb0), hG _ _ _ _ _ h.gh ⟨⟨he.os, he.tape, he.output, he.size, fun n hn ho => he.same n hn fun x => ho (.inl x), fun n hn => ?_⟩, hA, fun n hn => (hA' n hn).imp id (.imp .inl id), fun b _ => hφ b, hb0⟩, h.df, fun r hr => ?_, h.nd⟩
  · rcases hn with hn | hn
    · exact (he.own n hn).imp .inl id
    · exact .inl (.inr hn)
  · obtain ⟨h1, h2, h3⟩ := h.dk r hr
    have hlt : r < w.heap.size := (Array.getElem?_eq_some_iff.1 h1).1
    refine ⟨(he.same r hlt h3).trans h1, fun x => ?_, fun x => ?_⟩
    · rcases hA' r x with y | y | y
      · exact h2 y
      · exact h3 y
      · omega
    · rcases he.own r x with y | y
      · exact h3 y
      · omega

/-- A new block is laid. -/
theorem FRc.newR {G : Gh} (hG : Stab G) {st : St} {a : Act} {w : World} {A : Rd} {φ : Nat → Loc} (h : FRc G st a w A φ) {s : Nat}
    (hs : st.H[s]? = some .free) (c : Array Value) (ty : TypeId) (sz : Nat) (es : List (List D)) (room : Nat) (hroom : es.length ≤ room) (hc : room * sz ≤ c.size)
    (hlen : ∀ (i : Nat) (e : List D), es[i]? = some e → e.length = sz)
    (hv : ∀ (i : Nat) (e : List D) (j : Nat) (d : D), es[i]? = some e → e[j]? = some d → ∃ u, c[i * sz + j]? = some u ∧ V A w φ d u) :
    FRc G { st with H := st.H.set s (.live sz es) } a (w.alloc (.cells c ty)) A (upd φ s (.loc w.heap.size 0 sz room)) := by
  have hlt : s < st.H.length := (List.getElem?_eq_some_iff.1 hs).1
  have hf : φ s = .free := h.rh.free s hs
  have hle : (φ s).le (.loc w.heap.size 0 sz room) := .inl hf
  have hsame : ∀ m, A m → (w.alloc (.cells c ty)).heap[m]? = w.heap[m]? := fun m hm => heap_alloc_lt w _ (h.rh.lt m hm)
  refine h.step hG (h.rh.lay hlt (l := .loc w.heap.size 0 sz room) hle hsame (fun _ x => x) (fun _ x => .inl x)
    (fun b n base sz' room' _ e => heap_alloc_lt w _ (h.rh.olt n ⟨b, _, _, _, e⟩)) (by simp) ⟨by simp, by simp, ?_⟩ ?_) ?_ (fun _ x => x) (fun _ x => .inl x) (upd_le hle)
  · intro sz' es' e
    cases e
    refine .inr ⟨_, _, _, c, ty, rfl, heap_alloc_new w _, hroom, by omega, hlen, fun i e j d h1 h2 => ?_⟩
    obtain ⟨u, hu, hv'⟩ := hv i e j d h1 h2
    exact ⟨u, by simpa using hu, hv'.mono (fun _ x => x) hsame (upd_le hle)⟩
  · intro n base sz' room' e
    cases e
    exact ⟨by simp, fun x => Nat.lt_irrefl _ (h.rh.lt _ x), fun b base sz' room' _ e => Nat.lt_irrefl _ (h.rh.olt _ ⟨b, _, _, _, e⟩), h.rh.bsz⟩
  · refine ext_alloc w _ _ fun n hn => ?_
    rcases own_upd hn with ⟨_, _, _, e⟩ | ⟨b, base, sz', room', _, e⟩
    · cases e; exact .inr rfl
    · exact .inl ⟨b, _, _, _, e⟩

theorem FRc.new {G : Gh} (hG : Stab G) {st : St} {a : Act} {w : World} {A : Rd} {φ : Nat → Loc} (h : FRc G st a w A φ) {s : Nat}
    (hs : st.H[s]? = some .free) (c : Array Value) (ty : TypeId) (sz : Nat) (es : List (List D)) (hc : es.length * sz ≤ c.size)
    (hlen : ∀ (i : Nat) (e : List D), es[i]? = some e → e.length = sz)
    (hv : ∀ (i : Nat) (e : List D) (j : Nat) (d : D), es[i]? = some e → e[j]? = some d → ∃ u, c[i * sz + j]? = some u ∧ V A w φ d u) :
    FRc G { st with H := st.H.set s (.live sz es) } a (w.alloc (.cells c ty)) A (upd φ s (.loc w.heap.size 0 sz es.length)) :=
  h.newR hG hs c ty sz es es.length (Nat.le_refl _) hc hlen hv

/-- A block that nobody looks at. -/
theorem FRc.waste {G : Gh} (hG : Stab G) {st : St} {a : Act} {w : World} {A : Rd} {φ : Nat → Loc} (h : FRc G st a w A φ) (o : Obj) :
    FRc G st a (w.alloc o) A φ :=
  h.step hG (h.rh.move (fun _ hm => heap_alloc_lt w _ (h.rh.lt _ hm)) (fun _ hm => heap_alloc_lt w _ (h.rh.olt _ hm)) (by simp)) (ext_alloc w _ _ fun _ hn => .inl hn)
    (fun _ x => x) (fun _ x => .inl x) fun _ => Loc.le_refl _

theorem FRc.drew {G : Gh} (hG : Stab G) {st : St} {a : Act} {w : World} {A : Rd} {φ : Nat → Loc} (h : FRc G st a w A φ) :
    FRc G st a w.drew A φ :=
  h.step hG (h.rh.move (fun _ _ => rfl) (fun _ _ => rfl) (Nat.le_refl _)) ⟨rfl, rfl, rfl, Nat.le_refl _, fun _ _ _ => rfl, fun _ x => .inl x⟩
    (fun _ x => x) (fun _ x => .inl x) fun _ => Loc.le_refl _

theorem FRc.room {G : Gh} {st : St} {a : Act} {w : World} {A : Rd} {φ : Nat → Loc} (h : FRc G st a w A φ) :
    FRc G { st with H := st.H ++ [.free] } a w A φ := ⟨h.rh.grow, h.tr, h.gh, h.df, h.dk, h.nd⟩

theorem set_room (H : List Blk) (x : Blk) : (H ++ [Blk.free]).set H.length x = H ++ [x] := by simp

/-- A world in which one block of cells reads otherwise. -/
structure Rewr (w w' : World) (n : Nat) (c' : Array Value) (ty : TypeId) : Prop where
  os : w'.os = w.os
  tape : w'.tape = w.tape
  output : w'.output = w.output
  size : w'.heap.size = w.heap.size
  blk : w'.heap[n]? = some (.cells c' ty (0, 0))
  same : ∀ m, m ≠ n → w'.heap[m]? = w.heap[m]?

/-- Own block b is written: it holds other elements, perhaps under another number (s), b being given up. -/
theorem FRc.rewr {G : Gh} (hG : Stab G) {st : St} {a : Act} {w w' : World} {A : Rd} {φ : Nat → Loc} (h : FRc G st a w A φ) {b n base room sz : Nat}
    (hb : φ b = .loc n base sz room) {c' : Array Value} {ty : TypeId} (hr : Rewr w w' n c' ty) (hlt : b < st.H.length) (es' : List (List D)) (hfit : es'.length ≤ room) (hsize : base + room * sz ≤ c'.size)
    (hlen : ∀ (i : Nat) (e : List D), es'[i]? = some e → e.length = sz)
    (hv : ∀ (i : Nat) (e : List D) (j : Nat) (d : D), es'[i]? = some e → e[j]? = some d → ∃ u, c'[base + i * sz + j]? = some u ∧ V A w φ d u) :
    FRc G { st with H := st.H.set b (.live sz es') } a w' A φ := by
  have hown : own φ n := ⟨b, _, _, _, hb⟩
  have hsame : ∀ m, A m → w'.heap[m]? = w.heap[m]? := fun m hm => hr.same m fun e => h.rh.dis n hown (e ▸ hm)
  have hup : upd φ b (.loc n base sz room) = φ := by funext x; by_cases e : x = b <;> simp [upd, e, hb]
  have hlay := h.rh.lay (A' := A) (w' := w') hlt (l := .loc n base sz room) (x := .live sz es') (by rw [hb]; exact Loc.le_refl _) hsame (fun _ x => x) (fun _ x => .inl x)
    (fun b' m base' sz' room' hne e => hr.same m fun e' => hne (h.rh.inj b' b n base' sz' room' base sz room (e' ▸ e) hb)) (by rw [hr.size]; exact Nat.le_refl _)
    ⟨by simp, by simp, fun sz' es'' e => by
      cases e
      exact .inr ⟨n, base, room, c', ty, rfl, hr.blk, hfit, hsize, hlen, fun i e j d h1 h2 =>
        let ⟨u, hu, hv'⟩ := hv i e j d h1 h2; ⟨u, hu, hv'.mono (fun _ x => x) hsame (by rw [hup]; exact fun _ => Loc.le_refl _)⟩⟩⟩
    (fun m base' sz' room' e => by
      cases e
      exact ⟨by rw [hr.size]; exact h.rh.olt n hown, h.rh.dis n hown, fun b' base' sz' room' hne e => hne (h.rh.inj b' b n base' sz' room' base sz room e hb), h.rh.ofr n hown⟩)
  rw [hup] at hlay
  exact h.step hG hlay ⟨hr.os, hr.tape, hr.output, by rw [hr.size]; exact Nat.le_refl _, fun m _ hm => hr.same m fun e => hm (e ▸ hown), fun m hm => .inl hm⟩ (fun _ x => x) (fun _ x => .inl x) fun _ => Loc.le_refl _

end
end Go.DL
