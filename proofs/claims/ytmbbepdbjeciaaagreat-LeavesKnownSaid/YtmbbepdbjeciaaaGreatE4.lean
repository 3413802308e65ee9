/- Maps of one's own: a look, a write, an entry, at the level of what own blocks hold. -/
import Derived.Test.YtmbbepdbjeciaaaGreatE3
namespace Go.DL
open Go.RowKit

noncomputable section

/-- The kinds of keys that are compared at once. -/
def keyKind : TypeDesc → Bool
  | .int _ => true
  | .string => true
  | .bool => true
  | _ => false

/-- A type of maps: how keys are compared, and the type of what they lead to. -/
def mapT (P : Program) (t : TypeId) : Option (TypeDesc × TypeId) := match P.underlying t with
  | some (.map k e) => match P.underlying k with
    | some q => if keyKind q = true then some (q, e) else none
    | none => none
  | _ => none

def tabFind (q : TypeDesc) (k : Value) : List (Value × D × Nat) → Nat → Option (Option (Nat × D))
  | [], _ => some none
  | e :: es, i => match Instr.sameNow q k e.1 with
    | some true => some (some (i, e.2.1))
    | some false => tabFind q k es (i + 1)
    | none => none

/-- A value as an abstract one: no slice reads as an empty one, a struct cell by cell. -/
def ofVA : Value → D
  | .agg vs => .agg (vs.toList.map ofV)
  | x => ofV x
def zvD (P : Program) (e : TypeId) : Option D := ((P.info? e).bind (·.zero)).map ofVA

def lookupD (P : Program) (H : List Blk) (t : TypeId) (x i : D) (ok : Bool) : Option D := match mapT P t, x, i with
  | some (q, e), .mm b, .v k => match H[b]? with
    | some (.tab _ es) => match tabFind q k es 0 with
      | some (some (_, d)) => some (bif ok then .tup [d, .v (.bool true)] else d)
      | some none => (zvD P e).map fun z => bif ok then .tup [z, .v (.bool false)] else z
      | none => none
    | _ => none
  | _, _, _ => none

def mapUpdD (P : Program) (H : List Blk) (t : TypeId) (m k v : D) : Option (Nat × Blk) := match mapT P t, m, k with
  | some (q, _), .mm b, .v k => match H[b]? with
    | some (.tab c es) => match tabFind q k es 0 with
      | some (some (i, _)) => some (b, .tab c (es.modify i fun e => (k, v, e.2.2)))
      | some none => some (b, .tab (c + 1) (es ++ [(k, v, c)]))
      | none => none
    | _ => none
  | _, _, _ => none

def mapEntD (P : Program) (H : List Blk) (t : TypeId) (m k : D) : Option (D × Nat × Blk) := match mapT P t, m, k with
  | some (q, e), .mm b, .v k => match H[b]? with
    | some (.tab c es) => match tabFind q k es 0 with
      | some (some (i, d)) => some (.tup [d, .v (.int .i64 (((es[i]?).map (·.2.2)).getD 0))], b, .tab c (es.modify i fun e => (k, e.2)))
      | some none => (zvD P e).map fun z => (.tup [z, .v (.int .i64 c)], b, .tab (c + 1) (es ++ [(k, z, c)]))
      | none => none
    | _ => none
  | _, _, _ => none

def entStD (H : List Blk) (m s v : D) : Option (Nat × Blk) := match m, s with
  | .mm b, .v (.int _ n) => match H[b]? with
    | some (.tab c es) => match es.findIdx? (fun e => ((e.2.2 : Nat) : Int) == n) with
      | some i => some (b, .tab c (es.modify i fun e => (e.1, v, e.2.2)))
      | none => none
    | _ => none
  | _, _ => none

section
variable {P : Program} {A : Rd} {w : World} {φ : Nat → Loc} {H Hm : List Blk}

/-- The maps among part of the own blocks. -/
def SubT (Hm H : List Blk) : Prop := ∀ (b c : Nat) (es : List (Value × D × Nat)), Hm[b]? = some (.tab c es) → H[b]? = some (.tab c es)
theorem SubT.refl (H : List Blk) : SubT H H := fun _ _ _ h => h

theorem V.ofVA (x : Value) : V A w φ (ofVA x) x := by
  cases x with
  | agg vs =>
    refine .agg _ _ _ (by simp) fun i d u h1 h2 => ?_
    simp only [List.getElem?_map, Option.map_eq_some_iff] at h1
    obtain ⟨y, h1, rfl⟩ := h1
    have : y = u := by
      have h3 : vs[i]? = some y := by simpa using h1
      rw [h3] at h2; exact Option.some.inj h2
    subst this; exact .ofV y
  | _ => unfold DL.ofVA; exact .ofV _

theorem run_zvD {e : TypeId} {z : D} (h : zvD P e = some z) : ∃ x, (∀ w : World, (zeroValue e).run P w = .ok x w) ∧ V A w φ z x := by
  simp only [zvD, Option.map_eq_some_iff, Option.bind_eq_some_iff] at h
  obtain ⟨x, ⟨i, hi, hx⟩, rfl⟩ := h
  exact ⟨x, fun w => by simp [zeroValue, run_typeInfo hi, hx], .ofVA x⟩

theorem mapT_ok {t : TypeId} {q : TypeDesc} {e : TypeId} (h : mapT P t = some (q, e)) : ∃ k, P.underlying t = some (.map k e) ∧ P.underlying k = some q ∧ keyKind q = true := by
  unfold mapT at h
  split at h
  · rename_i k e' hu
    split at h
    · rename_i q' hq
      split at h
      · rename_i hk; cases h; exact ⟨k, hu, hq, hk⟩
      · cases h
    · cases h
  · cases h

theorem run_checkKey {b : Bool} {n : Nat} {k : TypeId} {q : TypeDesc} (h : P.underlying k = some q) (hq : keyKind q = true) (v : Value) : (Instr.checkKey b (n + 1) k v).run P w = .ok () w := by
  unfold Instr.checkKey
  cases q <;> simp only [keyKind, Bool.false_eq_true] at hq <;> simp [run_underlying h]

theorem find_ok {n clk : Nat} {es : List (Value × D × Nat)} {ms : Array MapEntry} (hT : TabAt A w φ n clk es ms) {q : TypeDesc} {k : Value} :
    ∀ (m i : Nat) (r : Option (Nat × D)), i + m = es.length → tabFind q k (es.drop i) i = some r →
      (r = none ∧ Instr.findNow q k (ms.toList.drop i) i = some none) ∨
      (∃ j d e k' b, r = some (j, d) ∧ es[j]? = some (k', d, b) ∧ ms[j]? = some e ∧ Instr.sameNow q k e.key = some true ∧ Instr.findNow q k (ms.toList.drop i) i = some (some (j, e.val))) := by
  intro m
  induction m with
  | zero =>
    intro i r hi h
    rw [List.drop_eq_nil_of_le (by omega)] at h
    cases h
    rw [List.drop_eq_nil_of_le (by simp [hT.len]; omega)]
    exact .inl ⟨rfl, rfl⟩
  | succ m ih =>
    intro i r hi h
    have hlt : i < es.length := by omega
    have hlt' : i < ms.size := by rw [hT.len]; exact hlt
    rw [List.drop_eq_getElem_cons hlt] at h
    have e2 : ms.toList.drop i = ms[i] :: ms.toList.drop (i + 1) := by
      rw [List.drop_eq_getElem_cons (by simpa using hlt')]; simp
    obtain ⟨h1, h2, h3⟩ := hT.ent i es[i].1 es[i].2.1 es[i].2.2 ms[i] (List.getElem?_eq_getElem hlt) (Array.getElem?_eq_getElem hlt')
    rw [e2]
    unfold tabFind at h
    unfold Instr.findNow
    rw [h1]
    cases hs : Instr.sameNow q k es[i].1 with
    | none => rw [hs] at h; cases h
    | some x =>
      rw [hs] at h
      cases x with
      | true =>
        cases h
        exact .inr ⟨i, es[i].2.1, ms[i], es[i].1, es[i].2.2, rfl, List.getElem?_eq_getElem hlt, Array.getElem?_eq_getElem hlt', by rw [h1]; exact hs, rfl⟩
      | false => exact ih (i + 1) r (by omega) h

theorem run_findKey {n clk : Nat} {es : List (Value × D × Nat)} {ms : Array MapEntry} (hT : TabAt A w φ n clk es ms) {kt : TypeId} {q : TypeDesc} (hu : P.underlying kt = some q) {k : Value} {r : Option (Nat × D)}
    (h : tabFind q k es 0 = some r) :
    (r = none ∧ (Instr.findKey kt k ms.toList).run P w = .ok none w) ∨
    (∃ j d e k' b, r = some (j, d) ∧ es[j]? = some (k', d, b) ∧ ms[j]? = some e ∧ Instr.sameNow q k e.key = some true ∧ (Instr.findKey kt k ms.toList).run P w = .ok (some (j, e.val)) w) := by
  rcases find_ok hT es.length 0 r (by omega) (by simpa using h) with ⟨h1, h2⟩ | ⟨j, d, e, k', b, h1, h2, h3, h4, h5⟩
  · refine .inl ⟨h1, ?_⟩
    simp only [List.drop_zero] at h2
    simp [Instr.findKey, run_underlying hu, h2]
  · refine .inr ⟨j, d, e, k', b, h1, h2, h3, h4, ?_⟩
    simp only [List.drop_zero] at h5
    simp [Instr.findKey, run_underlying hu, h5]

theorem mm_at (hr : RH A φ w H) {b r c : Nat} {es : List (Value × D × Nat)} (h : (φ b).mmOk r) (hb : H[b]? = some (.tab c es)) : ∃ ms, φ b = .loc r 0 0 0 ∧ TabAt A w φ r c es ms := by
  obtain ⟨n, ms, h1, h2⟩ := hr.tab b c es hb
  rw [h1] at h
  cases h
  exact ⟨ms, h1, h2⟩

theorem getObj_tab {r c : Nat} {ms : Array MapEntry} (h : w.heap[r]? = some (.map ms c)) : (getObj r).run P w = .ok (.map ms c) w := by simp [getObj, Sem.run, h]

theorem run_lookupD (hr : RH A φ w H) (hs : SubT Hm H) {t : TypeId} {x i d : D} {u v : Value} {ok : Bool} (hx : V A w φ x u) (hi : V A w φ i v) (h : lookupD P Hm t x i ok = some d) :
    ∃ r, (Instr.lookup t u v ok).run P w = .ok r w ∧ V A w φ d r := by
  unfold lookupD at h
  split at h
  · rename_i q e b k hq
    obtain ⟨kt, hu, hk, hkk⟩ := mapT_ok hq
    have hv := hi.v_inv
    subst hv
    cases hx with
    | mm _ _ r hφ =>
      split at h
      · rename_i c es hb
        obtain ⟨ms, h1, hT⟩ := mm_at hr hφ (hs _ _ _ hb)
        have g := getObj_tab (P := P) hT.blk
        split at h
        · rename_i j d' hf
          cases h
          rcases run_findKey (P := P) hT hk hf with ⟨h2, _⟩ | ⟨j', d2, e2, k', b', h2, h3, h4, _, h5⟩
          · cases h2
          · cases h2
            have hv := (hT.ent _ _ _ _ _ h3 h4).2.2
            refine ⟨bif ok then .tuple #[e2.val, .bool true] else e2.val, ?_, ?_⟩
            · simp only [Instr.lookup, Sem.run_bind, run_underlying hu, Result.andThen, g, Sem.run_pure, run_checkKey hk hkk, h5]
              cases ok <;> simp
            · cases ok
              · exact hv
              · refine .tup _ _ _ rfl fun i d u g1 g2 => ?_
                match i, g1, g2 with
                | 0, g1, g2 => cases g1; cases g2; exact hv
                | 1, g1, g2 => cases g1; cases g2; exact .v _ _
        · rename_i hf
          simp only [Option.map_eq_some_iff] at h
          obtain ⟨z, hz, rfl⟩ := h
          obtain ⟨x, hx1, hx2⟩ := run_zvD (A := A) (w := w) (φ := φ) hz
          rcases run_findKey (P := P) hT hk hf with ⟨_, h5⟩ | ⟨j', d2, e2, k', b', h2, _⟩
          · refine ⟨bif ok then .tuple #[x, .bool false] else x, ?_, ?_⟩
            · simp only [Instr.lookup, Sem.run_bind, run_underlying hu, Result.andThen, g, Sem.run_pure, run_checkKey hk hkk, h5, hx1]
              cases ok <;> simp
            · cases ok
              · exact hx2
              · refine .tup _ _ _ rfl fun i d u g1 g2 => ?_
                match i, g1, g2 with
                | 0, g1, g2 => cases g1; cases g2; exact hx2
                | 1, g1, g2 => cases g1; cases g2; exact .v _ _
          · cases h2
        · cases h
      · cases h
  · cases h

/-- A world in which one map reads otherwise. -/
theorem ba_eq {a b : ByteArray} (h : (a == b) = true) : a = b := by
  have h1 : a.data == b.data := h
  cases a; cases b
  simp at h1
  rw [h1]

theorem same_bits {q : TypeDesc} {k k' : Value} (h : Instr.sameNow q k k' = some true) (n : Nat) : Instr.sameBits n k' k = true := by
  unfold Instr.sameNow at h
  split at h
  · split at h
    · rename_i hk
      simp only [Option.some.injEq, beq_iff_eq] at h
      subst hk; subst h
      cases n <;> simp [Instr.sameBits]
    · cases h
  · rename_i a b
    have e : a = b := ba_eq (Option.some.inj h)
    subst e
    cases n <;> exact Option.some.inj h
  all_goals first | (cases h; done) | (simp only [Option.some.injEq, beq_iff_eq] at h; subst h; cases n <;> simp [Instr.sameBits])

end

section
variable {P : Program} {G : Gh} (hG : Stab G) {st : St} {a : Act} {w w' : World} {A : Rd} {φ : Nat → Loc} {Hm : List Blk}

def putO (w : World) (r : Nat) (o : Obj) : World := { w with heap := w.heap.setIfInBounds r o }

/-- A new map. -/
theorem FRc.newT (hG : Stab G) (h : FRc G st a w A φ) {s : Nat} (hs : st.H[s]? = some .free) :
    FRc G { st with H := st.H.set s (.tab 0 []) } a (w.alloc (.map #[] 0)) A (upd φ s (.loc w.heap.size 0 0 0)) := by
  have hlt : s < st.H.length := (List.getElem?_eq_some_iff.1 hs).1
  have hf : φ s = .free := h.rh.free s hs
  have hle : (φ s).le (.loc w.heap.size 0 0 0) := .inl hf
  have hsame : ∀ m, A m → (w.alloc (.map #[] 0)).heap[m]? = w.heap[m]? := fun m hm => heap_alloc_lt w _ (h.rh.lt m hm)
  refine h.step hG (h.rh.lay hlt (l := .loc w.heap.size 0 0 0) hle hsame (fun _ x => x) (fun _ x => .inl x)
    (fun b n base sz' room' _ e => heap_alloc_lt w _ (h.rh.olt n ⟨b, _, _, _, e⟩)) (by simp) ⟨by simp, by simp, fun _ _ e => by cases e⟩ ?_ ?_) ?_ (fun _ x => x) (fun _ x => .inl x) (upd_le hle)
  · intro clk es e
    cases e
    exact ⟨_, #[], rfl, heap_alloc_new w _, rfl, fun i k d b e h1 _ => by simp at h1⟩
  · intro n base sz' room' e
    cases e
    exact ⟨by simp, fun x => Nat.lt_irrefl _ (h.rh.lt _ x), fun b base sz' room' _ e => Nat.lt_irrefl _ (h.rh.olt _ ⟨b, _, _, _, e⟩), h.rh.bsz⟩
  · refine ext_alloc w _ _ fun n hn => ?_
    rcases own_upd hn with ⟨_, _, _, e⟩ | ⟨b, base, sz', room', _, e⟩
    · cases e; exact .inr rfl
    · exact .inl ⟨b, _, _, _, e⟩

/-- An own map is written. -/
theorem FRc.retab (hG : Stab G) (h : FRc G st a w A φ) {b n : Nat} (hb : φ b = .loc n 0 0 0) (hlt : b < st.H.length) {ms' : Array MapEntry} {c' : Nat} (es' : List (Value × D × Nat)) (hl : ms'.size = es'.length)
    (hv : ∀ (i : Nat) (k : Value) (d : D) (b : Nat) (e : MapEntry), es'[i]? = some (k, d, b) → ms'[i]? = some e → e.key = k ∧ e.born = b ∧ V A w φ d e.val) :
    FRc G { st with H := st.H.set b (.tab c' es') } a (putO w n (.map ms' c')) A φ := by
  have hown : own φ n := ⟨b, _, _, _, hb⟩
  have hn : n < w.heap.size := h.rh.olt n hown
  have hne : ∀ m, m ≠ n → (putO w n (.map ms' c')).heap[m]? = w.heap[m]? := fun m hm => by
    simp only [putO, Array.getElem?_setIfInBounds]
    rw [if_neg (Ne.symm hm)]
  have hsz : (putO w n (.map ms' c')).heap.size = w.heap.size := by simp [putO]
  have hat : (putO w n (.map ms' c')).heap[n]? = some (.map ms' c') := by
    simp [putO, hn]
  have hsame : ∀ m, A m → (putO w n (.map ms' c')).heap[m]? = w.heap[m]? := fun m hm => hne m fun e => h.rh.dis n hown (e ▸ hm)
  have hup : upd φ b (.loc n 0 0 0) = φ := by funext x; by_cases e : x = b <;> simp [upd, e, hb]
  have hlay := h.rh.lay (A' := A) (w' := putO w n (.map ms' c')) hlt (l := .loc n 0 0 0) (x := .tab c' es') (by rw [hb]; exact Loc.le_refl _) hsame (fun _ x => x) (fun _ x => .inl x)
    (fun b' m base' sz' room' hne' e => hne m fun e' => hne' (h.rh.inj b' b n base' sz' room' 0 0 0 (e' ▸ e) hb)) (by rw [hsz]; exact Nat.le_refl _)
    ⟨by simp, by simp, fun _ _ e => by cases e⟩
    (fun clk es e => by
      cases e
      exact ⟨n, ms', rfl, hat, hl, fun i k d q e h1 h2 => let ⟨k1, k2, k3⟩ := hv i k d q e h1 h2; ⟨k1, k2, k3.mono (fun _ x => x) hsame (by rw [hup]; exact fun _ => Loc.le_refl _)⟩⟩)
    (fun m base' sz' room' e => by
      cases e
      exact ⟨by rw [hsz]; exact hn, h.rh.dis n hown, fun b' base' sz' room' hne' e => hne' (h.rh.inj b' b n base' sz' room' 0 0 0 e hb), h.rh.ofr n hown⟩)
  rw [hup] at hlay
  exact h.step hG hlay ⟨rfl, rfl, rfl, Nat.le_refl _, by rw [hsz]; exact Nat.le_refl _, fun m _ hm => hne m fun e => hm (e ▸ hown), fun m hm => .inl hm⟩ (fun _ x => x) (fun _ x => .inl x) fun _ => Loc.le_refl _

theorem setObj_tab {r c c' : Nat} {ms ms' : Array MapEntry} (h : w.heap[r]? = some (.map ms c)) : (setObj r (.map ms' c')).run P w = .ok () (putO w r (.map ms' c')) := by
  simp [setObj, Sem.run, h, putO]

theorem ent_modify {n clk : Nat} {es : List (Value × D × Nat)} {ms : Array MapEntry} (hT : TabAt A w φ n clk es ms) {j : Nat} {f : Value × D × Nat → Value × D × Nat} {g : MapEntry → MapEntry}
    (hfg : ∀ x e, es[j]? = some x → ms[j]? = some e → (g e).key = (f x).1 ∧ (g e).born = (f x).2.2 ∧ V A w φ (f x).2.1 (g e).val) :
    (ms.modify j g).size = (es.modify j f).length ∧ ∀ (i : Nat) (k : Value) (d : D) (b : Nat) (e : MapEntry), (es.modify j f)[i]? = some (k, d, b) → (ms.modify j g)[i]? = some e → e.key = k ∧ e.born = b ∧ V A w φ d e.val := by
  refine ⟨by simp [hT.len], fun i k d b e h1 h2 => ?_⟩
  rw [List.getElem?_modify] at h1
  rw [Array.getElem?_modify] at h2
  by_cases hj : j = i
  · subst hj
    simp only [if_true, Option.map_eq_map, Option.map_eq_some_iff] at h1 h2
    obtain ⟨x, h1, hx⟩ := h1
    obtain ⟨e0, h2, rfl⟩ := h2
    have := hfg x e0 h1 h2
    rw [hx] at this
    exact this
  · simp only [hj, if_false, Option.map_eq_map, Option.map_id_fun', id] at h1 h2
    have h1' : es[i]? = some (k, d, b) := by simpa using h1
    have h2' : ms[i]? = some e := by simpa using h2
    exact hT.ent i k d b e h1' h2'

theorem ent_push {n clk : Nat} {es : List (Value × D × Nat)} {ms : Array MapEntry} (hT : TabAt A w φ n clk es ms) {k : Value} {d : D} {v : Value} (hv : V A w φ d v) :
    (ms.push { key := k, val := v, born := clk }).size = (es ++ [(k, d, clk)]).length ∧ ∀ (i : Nat) (k' : Value) (d' : D) (b : Nat) (e : MapEntry), (es ++ [(k, d, clk)])[i]? = some (k', d', b) → (ms.push { key := k, val := v, born := clk })[i]? = some e → e.key = k' ∧ e.born = b ∧ V A w φ d' e.val := by
  refine ⟨by simp [hT.len], fun i k' d' b e h1 h2 => ?_⟩
  rcases Nat.lt_trichotomy i es.length with hi | hi | hi
  · rw [List.getElem?_append_left hi] at h1
    rw [Array.getElem?_push, if_neg (by rw [hT.len]; omega)] at h2
    exact hT.ent i k' d' b e h1 h2
  · subst hi
    rw [List.getElem?_append_right (Nat.le_refl _)] at h1
    rw [Array.getElem?_push, if_pos hT.len.symm] at h2
    simp at h1
    obtain ⟨rfl, rfl, rfl⟩ := h1
    cases h2
    exact ⟨rfl, rfl, hv⟩
  · rw [List.getElem?_eq_none (by simp; omega)] at h1; cases h1

theorem run_keyStays {old new : Value} (h : Instr.sameBits 10000 old new = true) : (Instr.keyThatStays old new).run P w = .ok new w := by
  simp [Instr.keyThatStays, h]

theorem run_mapUpdD (hG : Stab G) (hr : FRc G st a w A φ) (hs : SubT Hm st.H) {t : TypeId} {m k v : D} {um uk uv : Value} {b : Nat} {x : Blk} (hm : V A w φ m um) (hk : V A w φ k uk) (hv : V A w φ v uv) (h : mapUpdD P Hm t m k v = some (b, x)) :
    ∃ w', (Instr.mapUpdate t um uk uv).run P w = .ok () w' ∧ FRc G { st with H := st.H.set b x } a w' A φ := by
  unfold mapUpdD at h
  split at h
  · rename_i q e b' k' hq
    obtain ⟨kt, hu, hkt, hkk⟩ := mapT_ok hq
    have hv1 := hk.v_inv
    subst hv1
    cases hm with
    | mm _ _ r hφ =>
      split at h
      · rename_i c es hb
        have hb' := hs _ _ _ hb
        have hlt : b' < st.H.length := (List.getElem?_eq_some_iff.1 hb').1
        obtain ⟨ms, h1, hT⟩ := mm_at hr.rh hφ hb'
        have g := getObj_tab (P := P) hT.blk
        split at h
        · rename_i j d' hf
          cases h
          rcases run_findKey (P := P) hT hkt hf with ⟨h2, _⟩ | ⟨j', d2, e2, k2, b2, h2, h3, h4, h6, h5⟩
          · cases h2
          · cases h2
            obtain ⟨q1, q2⟩ := ent_modify hT (j := j) (f := fun e => (uk, v, e.2.2)) (g := fun e => { e with key := uk, val := uv }) fun x e hx he => by
              obtain ⟨x1, x2, x3⟩ := x
              exact ⟨rfl, (hT.ent _ _ _ _ _ hx he).2.1, hv⟩
            refine ⟨_, ?_, hr.retab hG h1 hlt _ q1 q2⟩
            simp only [Instr.mapUpdate, Sem.run_bind, run_underlying hu, Result.andThen, g, run_checkKey hkt hkk, h5, h4, Option.map_some, Option.getD_some, run_keyStays (same_bits h6 10000), setObj_tab hT.blk]
        · rename_i hf
          cases h
          rcases run_findKey (P := P) hT hkt hf with ⟨_, h5⟩ | ⟨j', d2, e2, k2, b2, h2, _⟩
          · obtain ⟨q1, q2⟩ := ent_push hT (k := uk) hv
            refine ⟨_, ?_, hr.retab hG h1 hlt _ q1 q2⟩
            simp only [Instr.mapUpdate, Sem.run_bind, run_underlying hu, Result.andThen, g, run_checkKey hkt hkk, h5, setObj_tab hT.blk]
          · cases h2
        · cases h
      · cases h
  · cases h

theorem run_mapEntD (hG : Stab G) (hr : FRc G st a w A φ) (hs : SubT Hm st.H) {t : TypeId} {m k d : D} {um uk : Value} {b : Nat} {x : Blk} (hm : V A w φ m um) (hk : V A w φ k uk) (h : mapEntD P Hm t m k = some (d, b, x)) :
    ∃ r w', (Instr.mapEntry t um uk).run P w = .ok r w' ∧ V A w' φ d r ∧ FRc G { st with H := st.H.set b x } a w' A φ := by
  unfold mapEntD at h
  split at h
  · rename_i q e b' k' hq
    obtain ⟨kt, hu, hkt, hkk⟩ := mapT_ok hq
    have hv1 := hk.v_inv
    subst hv1
    cases hm with
    | mm _ _ r hφ =>
      split at h
      · rename_i c es hb
        have hb' := hs _ _ _ hb
        have hlt : b' < st.H.length := (List.getElem?_eq_some_iff.1 hb').1
        obtain ⟨ms, h1, hT⟩ := mm_at hr.rh hφ hb'
        have g := getObj_tab (P := P) hT.blk
        have hn : ∀ {ms' c'} m, A m → (putO w r (.map ms' c')).heap[m]? = w.heap[m]? := fun {ms' c'} m hm => by
          have hne : m ≠ r := fun e => hr.rh.dis r ⟨b', _, _, _, h1⟩ (e ▸ hm)
          simp only [putO, Array.getElem?_setIfInBounds]
          rw [if_neg (Ne.symm hne)]
        have pair : ∀ {w' : World} {y : D} {u : Value} {n : Int}, V A w' φ y u → V A w' φ (.tup [y, .v (.int .i64 n)]) (.tuple #[u, .int .i64 n]) := fun {w' y u n} hy => by
          refine .tup _ _ _ rfl fun i d u g1 g2 => ?_
          match i, g1, g2 with
          | 0, g1, g2 => cases g1; cases g2; exact hy
          | 1, g1, g2 => cases g1; cases g2; exact .v _ _
        split at h
        · rename_i j d' hf
          cases h
          rcases run_findKey (P := P) hT hkt hf with ⟨h2, _⟩ | ⟨j', d2, e2, k2, b2, h2, h3, h4, h6, h5⟩
          · cases h2
          · cases h2
            obtain ⟨q1, q2⟩ := ent_modify hT (j := j) (f := fun e => (uk, e.2)) (g := fun e => { e with key := uk }) fun x e hx he => by
              obtain ⟨x1, x2, x3⟩ := x
              have := hT.ent _ _ _ _ _ hx he
              exact ⟨rfl, this.2.1, this.2.2⟩
            refine ⟨.tuple #[e2.val, .int .i64 (e2.born : Nat)], _, ?_, ?_, hr.retab hG h1 hlt _ q1 q2⟩
            · simp only [Instr.mapEntry, Sem.run_bind, run_underlying hu, Result.andThen, g, run_checkKey hkt hkk, h5, h4, Option.map_some, Option.getD_some, run_keyStays (same_bits h6 10000), setObj_tab hT.blk, Sem.run_pure, goInt]
            · have h7 := hT.ent _ _ _ _ _ h3 h4
              rw [h3, h7.2.1]
              exact pair (h7.2.2.mono (fun _ x => x) hn fun _ => Loc.le_refl _)
        · rename_i hf
          simp only [Option.map_eq_some_iff, Prod.mk.injEq] at h
          obtain ⟨z, hz, rfl, rfl, rfl⟩ := h
          obtain ⟨zx, hx1, hx2⟩ := run_zvD (A := A) (w := w) (φ := φ) hz
          rcases run_findKey (P := P) hT hkt hf with ⟨_, h5⟩ | ⟨j', d2, e2, k2, b2, h2, _⟩
          · obtain ⟨q1, q2⟩ := ent_push hT (k := uk) hx2
            refine ⟨.tuple #[zx, .int .i64 (c : Nat)], _, ?_, ?_, hr.retab hG h1 hlt _ q1 q2⟩
            · simp only [Instr.mapEntry, Sem.run_bind, run_underlying hu, Result.andThen, g, run_checkKey hkt hkk, h5, hx1, setObj_tab hT.blk, Sem.run_pure, goInt]
            · exact pair (hx2.mono (fun _ x => x) hn fun _ => Loc.le_refl _)
          · cases h2
        · cases h
      · cases h
  · cases h

theorem run_entStD (hG : Stab G) (hr : FRc G st a w A φ) (hs : SubT Hm st.H) {t : TypeId} {m s v : D} {um us uv : Value} {b : Nat} {x : Blk} (hm : V A w φ m um) (hsv : V A w φ s us) (hv : V A w φ v uv) (h : entStD Hm m s v = some (b, x)) :
    ∃ w', (Instr.entryStore t um us uv).run P w = .ok () w' ∧ FRc G { st with H := st.H.set b x } a w' A φ := by
  unfold entStD at h
  split at h
  · rename_i b' kd n
    have hv1 := hsv.v_inv
    subst hv1
    cases hm with
    | mm _ _ r hφ =>
      split at h
      · rename_i c es hb
        have hb' := hs _ _ _ hb
        have hlt : b' < st.H.length := (List.getElem?_eq_some_iff.1 hb').1
        obtain ⟨ms, h1, hT⟩ := mm_at hr.rh hφ hb'
        have g := getObj_tab (P := P) hT.blk
        split at h
        · rename_i i hf
          cases h
          have hf' : ms.findIdx? (fun e => ((e.born : Nat) : Int) == n) = some i := by
            obtain ⟨hi, h2, h3⟩ := List.findIdx?_eq_some_iff_getElem.1 hf
            have hborn : ∀ j (hj : j < es.length), (ms[j]'(by rw [hT.len]; exact hj)).born = es[j].2.2 := fun j hj =>
              (hT.ent j es[j].1 es[j].2.1 es[j].2.2 _ (List.getElem?_eq_getElem hj) (Array.getElem?_eq_getElem (by rw [hT.len]; exact hj))).2.1
            refine Array.findIdx?_eq_some_iff_getElem.2 ⟨by rw [hT.len]; exact hi, ?_, fun j hj => ?_⟩
            · rw [hborn i hi]; exact h2
            · have := h3 j hj
              rw [hborn j (Nat.lt_trans hj hi)]; exact this
          obtain ⟨q1, q2⟩ := ent_modify hT (j := i) (f := fun e => (e.1, v, e.2.2)) (g := fun e => { e with val := uv }) fun x e hx he => by
            obtain ⟨x1, x2, x3⟩ := x
            have := hT.ent _ _ _ _ _ hx he
            exact ⟨this.1, this.2.1, hv⟩
          refine ⟨_, ?_, hr.retab hG h1 hlt _ q1 q2⟩
          simp only [Instr.entryStore, Sem.run_bind, g, Result.andThen, asInt, asIntOf, Sem.run_pure, hf', setObj_tab hT.blk]
        · cases h
      · cases h
  · cases h

/-- How many entries a map has. -/
theorem run_lenTab (hr : FRc G st a w A φ) {t kt et tx : TypeId} (hu : P.underlying t = some (.map kt et)) {b c : Nat} {es : List (Value × D × Nat)} {u : Value} (hm : V A w φ (.mm b) u) (hb : st.H[b]? = some (.tab c es)) :
    (Builtin.len_ #[t] tx #[u]).run P w = .ok (.int .i64 es.length) w := by
  cases hm with
  | mm _ _ r hφ =>
    obtain ⟨ms, h1, hT⟩ := mm_at hr.rh hφ hb
    simp [Builtin.len_, run_underlying hu, goInt, getObj_tab (P := P) hT.blk, hT.len]
end
end
end Go.DL

/- One operation that is no call of a function, over abstract values. -/
namespace Go.DL
open Go.RowKit

noncomputable section

/-- What an operation does to the own blocks; s: a place for a new one. -/
inductive Eff where
  | keep
  | put (x : Blk)
  | upd (b : Nat) (x : Blk)
  | ren (o : Option Nat) (x : Blk)

def Eff.app (H : List Blk) (s : Nat) : Eff → List Blk
  | .keep => H
  | .put x => H.set s x
  | .upd b x => H.set b x
  | .ren o x => (killO H o).set s x

/-- The same with the new block behind all others. -/
def Eff.seq (H : List Blk) : Eff → List Blk
  | .keep => H
  | .put x => H ++ [x]
  | .upd b x => H.set b x
  | .ren o x => killO H o ++ [x]

def maxD (op : BinOp) (x y : D) : Option D :=
  match x, y with
  | .v (.int k a), .v (.int k' b) => if k = k' then match op with
      | .gtr => some (.v (.int k (if b > a then b else a)))
      | .lss => some (.v (.int k (if b < a then b else a)))
      | _ => none
    else none
  | _, _ => none

def builtinD (P : Program) (H : List Blk) (s : Nat) (b : Builtin) (args : List D) (tys : List TypeId) : Option (D × Eff) :=
  match b, args, tys with
  | .len, [x], [t] => match P.underlying t with
    | some (.slice _) => (lenD x).map fun n => (.v (.int .i64 n), .keep)
    | _ => none
  | .append, [x, y], [t, t'] => (appendD P H t t' x y).map fun (o, sz, es) => (.ms s 0 es.length es.length, .ren o (.live sz es))
  | .max, [x, y], _ => (maxD .gtr x y).map fun d => (d, .keep)
  | .min, [x, y], _ => (maxD .lss x y).map fun d => (d, .keep)
  | _, _, _ => none

def keepD (d : Option D) : Option (D × Eff) := d.map fun d => (d, .keep)

def stepD (P : Program) (H : List Blk) (s : Nat) (t : List D) : Op → Option (D × Eff)
  | .move x => some (ev t x, .keep)
  | .assign x => some (ev t x, .keep)
  | .pick c a b => keepD (pickD (ev t c) (ev t a) (ev t b))
  | .binOp op ty x y _ => keepD (binD P op ty (ev t x) (ev t y))
  | .unOp op _ x => keepD (unD op (ev t x))
  | .convert src dst x => keepD (convD P src dst (ev t x))
  | .extract x i => keepD (extractD (ev t x) i)
  | .field ty x f => keepD (fieldD P ty f (ev t x))
  | .index ty x i => keepD (indexD P ty (ev t x) (ev t i))
  | .fieldAddr ty x f => keepD (fieldAddrD P ty f (ev t x))
  | .indexAddr ty x i => keepD (indexAddrD P H ty (ev t x) (ev t i))
  | .slice ty x lo hi mx => if mx.isSome = true ∧ hi.isSome = false then none else keepD (sliceD P H ty (ev t x) (lo.map (ev t)) (hi.map (ev t)) (mx.map (ev t)))
  | .load ty p => keepD (loadD P H ty (ev t p))
  | .nilCheck x => keepD (nilCheckD (ev t x))
  | .sliceToArrayPointer ty x => keepD (arrPtrD P ty (ev t x))
  | .makeFunc f a b => some (.fn f (a.toList.map (ev t)) (b.toList.map (ev t)), .keep)
  | .build ty ps => keepD (buildD P ty (ps.toList.map fun p => (p.1, ev t p.2)))
  | .buildSlice ty len ps => (buildSliceD P ty len (ps.toList.map fun p => (p.1, ev t p.2))).map fun (sz, es) => (.ms s 0 len len, .put (.live sz es))
  | .makeSlice ty l c => (makeSliceD P ty (ev t l) (ev t c)).map fun (ln, cn, sz, es) => (.ms s 0 ln cn, .put (.live sz es))
  | .alloc ty => (zeroD P ty).map fun z => (.mp s 0 0, .put (.live z.length [z]))
  | .box _ x => if (cellsD (ev t x)).all isCell = true then some (.mp s 0 0, .put (.live (cellsD (ev t x)).length [cellsD (ev t x)])) else none
  | .store ty p x => (storeD P H ty (ev t p) (ev t x)).map fun (b, k) => (.any, .upd b k)
  | .makeMap _ none => some (.mm s, .put (.tab 0 []))
  | .lookup ty x i ok => keepD (lookupD P H ty (ev t x) (ev t i) ok)
  | .mapUpdate ty m k x => (mapUpdD P H ty (ev t m) (ev t k) (ev t x)).map fun (b, k) => (.any, .upd b k)
  | .mapEntry ty m k => (mapEntD P H ty (ev t m) (ev t k)).map fun (d, b, k) => (d, .upd b k)
  | .entryStore _ m k x => (entStD H (ev t m) (ev t k) (ev t x)).map fun (b, k) => (.any, .upd b k)
  | .call { callee := .builtin b, args, argTypes } => builtinD P H s b (args.toList.map (ev t)) argTypes.toList
  | _ => none

/-- The run of an operation that goes through. -/
def Ran (P : Program) (a : Act) (o : Oper) (w : World) (x : Value) (w' : World) : Prop :=
  (execOp a.eval o).run P w = .ok (.value x) w' ∨ ((execOp a.eval o).run P w = .ok .skip w' ∧ x = undef)

section
variable {P : Program} {G : Gh} (hG : Stab G) {st : St} {a : Act} {w : World} {A : Rd} {φ : Nat → Loc}

theorem run_maxD {x y d : D} {u v : Value} (hx : V A w φ x u) (hy : V A w φ y v) :
    (maxD .gtr x y = some d → ∃ r, (Builtin.max_ #[] 0 #[u, v]).run P w = .ok r w ∧ V A w φ d r) ∧
    (maxD .lss x y = some d → ∃ r, (Builtin.min_ #[] 0 #[u, v]).run P w = .ok r w ∧ V A w φ d r) := by
  constructor
  all_goals
    intro h
    unfold maxD at h
    split at h
    · have := hx.v_inv; subst this
      have := hy.v_inv; subst this
      split at h
      · rename_i hk; subst hk
        simp only [Option.some.injEq] at h
        subst h
        exact ⟨_, rfl, .v _ _⟩
      · cases h
    · cases h

theorem stepD_ok (hG : Stab G) (hr : FRc G st a w A φ) {s : Nat} (hs : st.H[s]? = some .free) {Hm : List Blk} (hsub : Sub Hm st.H) (hsubT : SubT Hm st.H) {o : Oper} {d : D} {e : Eff} (h : stepD P Hm s st.t o.op = some (d, e)) :
    ∃ x w' A' φ', Ran P a o w x w' ∧ FRc G { t := setT st.t o.dst d, H := e.app st.H s, ds := st.ds, g := st.g } (a.put o.dst x) w' A' φ' := by
  have ve := hr.tr.ev
  have fin : ∀ {m : Sem Value} {r : Value} {d : D}, execOp a.eval o = (do pure (.value (← m))) → m.run P w = .ok r w → V A w φ d r →
      ∃ x w' A' φ', Ran P a o w x w' ∧ FRc G { t := setT st.t o.dst d, H := st.H, ds := st.ds, g := st.g } (a.put o.dst x) w' A' φ' := fun {m r d} h1 h2 h3 =>
    ⟨r, w, A, φ, .inl (by rw [h1]; simp [h2]), hr.value o.dst h3⟩
  have finP : ∀ {m : Sem Value} {r : Value} {w' : World} {φ' : Nat → Loc} {d : D} {H' : List Blk}, execOp a.eval o = (do pure (.value (← m))) → m.run P w = .ok r w' → V A w' φ' d r →
      FRc G { st with H := H' } a w' A φ' → ∃ x w' A' φ', Ran P a o w x w' ∧ FRc G { t := setT st.t o.dst d, H := H', ds := st.ds, g := st.g } (a.put o.dst x) w' A' φ' := fun {m r w' φ' d H'} h1 h2 h3 h4 =>
    ⟨r, w', A, φ', .inl (by rw [h1]; simp [h2]), h4.value o.dst h3⟩
  have kd : ∀ {q : Option D} {d : D} {e : Eff}, keepD q = some (d, e) → q = some d ∧ e = .keep := fun {q d e} h => by
    simp only [keepD, Option.map_eq_some_iff, Prod.mk.injEq] at h
    obtain ⟨_, h1, rfl, rfl⟩ := h; exact ⟨h1, rfl⟩
  cases ho : o.op with
  | move x =>
    rw [ho] at h; simp only [stepD, Option.some.injEq, Prod.mk.injEq] at h; obtain ⟨rfl, rfl⟩ := h
    exact ⟨_, w, A, φ, .inl (by simp only [execOp, ho]; rfl), hr.value o.dst (ve x)⟩
  | assign x =>
    rw [ho] at h; simp only [stepD, Option.some.injEq, Prod.mk.injEq] at h; obtain ⟨rfl, rfl⟩ := h
    exact ⟨_, w, A, φ, .inl (by simp only [execOp, ho]; rfl), hr.value o.dst (ve x)⟩
  | pick c x y =>
    rw [ho] at h; obtain ⟨h1, rfl⟩ := kd h
    have hc := ve c
    unfold pickD at h1
    split at h1
    · rename_i b hb
      rw [hb] at hc
      have hcv := hc.v_inv
      cases h1
      refine ⟨if b then a.eval x else a.eval y, w, A, φ, .inl (by simp [execOp, ho, hcv, asBool]), hr.value o.dst ?_⟩
      cases b <;> simp only [Bool.false_eq_true, if_false, if_true]
      · exact ve y
      · exact ve x
    · cases h1
  | binOp op ty x y ty' =>
    rw [ho] at h; obtain ⟨h1, rfl⟩ := kd h
    obtain ⟨r, h2, h3⟩ := run_binD (P := P) x y (ve x) (ve y) h1
    exact fin (by simp only [execOp, ho]) h2 h3
  | unOp op ty x =>
    rw [ho] at h; obtain ⟨h1, rfl⟩ := kd h
    obtain ⟨r, h2, h3⟩ := run_unD (P := P) (ve x) h1
    exact fin (by simp only [execOp, ho]) h2 h3
  | convert src dst x =>
    rw [ho] at h; obtain ⟨h1, rfl⟩ := kd h
    obtain ⟨r, h2, h3⟩ := run_convD (P := P) (ve x) h1
    exact fin (by simp only [execOp, ho]) h2 h3
  | extract x i =>
    rw [ho] at h; obtain ⟨h1, rfl⟩ := kd h
    obtain ⟨r, h2, h3⟩ := run_extractD (P := P) (ve x) h1
    exact fin (by simp only [execOp, ho]) h2 h3
  | field ty x f =>
    rw [ho] at h; obtain ⟨h1, rfl⟩ := kd h
    obtain ⟨r, h2, h3⟩ := run_fieldD (P := P) (ve x) h1
    exact fin (by simp only [execOp, ho]) h2 h3
  | index ty x i =>
    rw [ho] at h; obtain ⟨h1, rfl⟩ := kd h
    obtain ⟨r, h2, h3⟩ := run_indexD (P := P) (ve x) (ve i) h1
    exact fin (by simp only [execOp, ho]) h2 h3
  | fieldAddr ty x f =>
    rw [ho] at h; obtain ⟨h1, rfl⟩ := kd h
    obtain ⟨r, h2, h3⟩ := run_fieldAddrD (P := P) (ve x) h1
    exact fin (by simp only [execOp, ho]) h2 h3
  | indexAddr ty x i =>
    rw [ho] at h; obtain ⟨h1, rfl⟩ := kd h
    obtain ⟨r, h2, h3⟩ := run_indexAddrD (P := P) (H := Hm) (fun b sz es hb => (hr.rh.live b sz es (hsub _ _ _ hb)).imp (·.2) fun ⟨n, base, room, _, _, h, _⟩ => ⟨n, base, room, h⟩) (ve x) (ve i) h1
    exact fin (by simp only [execOp, ho]) h2 h3
  | slice ty x lo hi mx =>
    rw [ho] at h
    simp only [stepD] at h
    split at h
    · cases h
    · rename_i hc
      obtain ⟨h1, rfl⟩ := kd h
      obtain ⟨r, h2, h3⟩ := run_sliceD (P := P) hr.rh hsub hr.tr x lo hi mx h1 (fun hm => by
        cases hi with
        | some _ => rfl
        | none => exact absurd ⟨hm, rfl⟩ hc)
      exact fin (by simp only [execOp, ho]) h2 h3
  | load ty p =>
    rw [ho] at h; obtain ⟨h1, rfl⟩ := kd h
    obtain ⟨r, h2, h3⟩ := run_loadD (P := P) hr.rh hsub (ve p) h1
    exact fin (by simp only [execOp, ho]) h2 h3
  | sliceToArrayPointer ty x =>
    rw [ho] at h; obtain ⟨h1, rfl⟩ := kd h
    obtain ⟨r, h2, h3⟩ := run_arrPtrD (P := P) (ve x) h1
    exact fin (by simp only [execOp, ho]) h2 h3
  | nilCheck x =>
    rw [ho] at h; obtain ⟨h1, rfl⟩ := kd h
    have hx := ve x
    unfold nilCheckD at h1
    split at h1
    · rename_i cs hcs
      cases h1
      rw [hcs] at hx
      generalize hu : a.eval x = u at hx
      refine ⟨u, w, A, φ, .inl ?_, hr.value o.dst hx⟩
      cases hx with
      | rp _ _ n off v ha hc hh => simp only [execOp, ho, hu]; rfl
    · rename_i b i f hcs
      cases h1
      rw [hcs] at hx
      generalize hu : a.eval x = u at hx
      refine ⟨u, w, A, φ, .inl ?_, hr.value o.dst hx⟩
      cases hx with
      | mp _ _ _ _ y hh => simp only [execOp, ho, hu]; rfl
    · rename_i f p q hcs
      cases h1
      rw [hcs] at hx
      generalize hu : a.eval x = u at hx
      refine ⟨u, w, A, φ, .inl ?_, hr.value o.dst hx⟩
      cases hx with
      | fn _ _ _ _ vs us hl hl' hh hh' => simp only [execOp, ho, hu]; rfl
    · cases h1
  | makeFunc f p q =>
    rw [ho] at h; simp only [stepD, Option.some.injEq, Prod.mk.injEq] at h; obtain ⟨rfl, rfl⟩ := h
    have key : ∀ (p : Array Operand), (∀ (i : Nat) (d : D) (u : Value), (p.toList.map (ev st.t))[i]? = some d → (p.map a.eval)[i]? = some u → V A w φ d u) := fun p i d u h1 h2 => by
      simp only [List.getElem?_map, Option.map_eq_some_iff, Array.getElem?_map, Array.getElem?_toList] at h1 h2
      obtain ⟨x, h1, rfl⟩ := h1
      obtain ⟨y, h2, rfl⟩ := h2
      rw [h1] at h2; cases h2; exact ve x
    exact ⟨.func f (p.map a.eval) (q.map a.eval), w, A, φ, .inl (by simp [execOp, ho, Instr.makeFunc]), hr.value o.dst (.fn _ _ _ _ _ _ (by simp) (by simp) (key p) (key q))⟩
  | build ty ps =>
    rw [ho] at h; obtain ⟨h1, rfl⟩ := kd h
    obtain ⟨r, h2, h3⟩ := run_buildD (P := P) hr.tr ps h1
    exact fin (by simp only [execOp, ho]) h2 h3
  | buildSlice ty len ps =>
    rw [ho] at h
    simp only [stepD, Option.map_eq_some_iff, Prod.mk.injEq, Prod.exists] at h
    obtain ⟨sz, es, h1, rfl, rfl⟩ := h
    obtain ⟨r, w', φ', h2, h3, h4⟩ := run_buildSliceD (P := P) hG hr hs ps h1
    exact finP (by simp only [execOp, ho]) h2 h3 h4
  | makeSlice ty l c =>
    rw [ho] at h
    simp only [stepD, Option.map_eq_some_iff, Prod.mk.injEq, Prod.exists] at h
    obtain ⟨ln, cn, sz, es, h1, rfl, rfl⟩ := h
    obtain ⟨r, w', φ', h2, h3, h4⟩ := run_makeSliceD (P := P) hG hr hs (ve l) (ve c) h1
    exact finP (by simp only [execOp, ho]) h2 h3 h4
  | alloc ty =>
    rw [ho] at h
    simp only [stepD, Option.map_eq_some_iff, Prod.mk.injEq] at h
    obtain ⟨z, h1, rfl, rfl⟩ := h
    obtain ⟨r, w', φ', h2, h3, h4⟩ := run_allocD (P := P) hG hr hs h1
    exact finP (by simp only [execOp, ho]) h2 h3 h4
  | box ty x =>
    rw [ho] at h
    simp only [stepD] at h
    split at h
    · rename_i hc
      simp only [Option.some.injEq, Prod.mk.injEq] at h; obtain ⟨rfl, rfl⟩ := h
      obtain ⟨r, w', φ', h2, h3, h4⟩ := run_box (P := P) hG hr hs (t := ty) (ve x) hc
      exact finP (by simp only [execOp, ho]) h2 h3 h4
    · cases h
  | store ty p x =>
    rw [ho] at h
    simp only [stepD, Option.map_eq_some_iff, Prod.mk.injEq, Prod.exists] at h
    obtain ⟨b, k, h1, rfl, rfl⟩ := h
    obtain ⟨w', h2, h3⟩ := run_storeD (P := P) hG hr hsub (ve p) (ve x) h1
    exact ⟨undef, w', A, φ, .inr ⟨by simp [execOp, ho, h2], rfl⟩, h3.value o.dst (.any _ _)⟩
  | makeMap ty r =>
    rw [ho] at h
    cases r with
    | some _ => cases h
    | none =>
      simp only [stepD, Option.some.injEq, Prod.mk.injEq] at h; obtain ⟨rfl, rfl⟩ := h
      refine finP (m := Instr.makeMap ty none) (r := .map (some w.heap.size)) (by simp only [execOp, ho]; rfl) ?_ (.mm _ _ _ (by rw [upd_same]; rfl)) (hr.newT hG hs)
      simp [Instr.makeMap, newObj, Sem.run]
  | lookup ty x i ok =>
    rw [ho] at h; obtain ⟨h1, rfl⟩ := kd h
    obtain ⟨r, h2, h3⟩ := run_lookupD (P := P) hr.rh hsubT (ve x) (ve i) h1
    exact fin (by simp only [execOp, ho]) h2 h3
  | mapUpdate ty m k x =>
    rw [ho] at h
    simp only [stepD, Option.map_eq_some_iff, Prod.mk.injEq, Prod.exists] at h
    obtain ⟨b, y, h1, rfl, rfl⟩ := h
    obtain ⟨w', h2, h3⟩ := run_mapUpdD (P := P) hG hr hsubT (ve m) (ve k) (ve x) h1
    exact ⟨undef, w', A, φ, .inr ⟨by simp [execOp, ho, h2], rfl⟩, h3.value o.dst (.any _ _)⟩
  | mapEntry ty m k =>
    rw [ho] at h
    simp only [stepD, Option.map_eq_some_iff, Prod.mk.injEq, Prod.exists] at h
    obtain ⟨d', b, y, h1, rfl, rfl⟩ := h
    obtain ⟨r, w', h2, h3, h4⟩ := run_mapEntD (P := P) hG hr hsubT (ve m) (ve k) h1
    exact finP (by simp only [execOp, ho]) h2 h3 h4
  | entryStore ty m k x =>
    rw [ho] at h
    simp only [stepD, Option.map_eq_some_iff, Prod.mk.injEq, Prod.exists] at h
    obtain ⟨b, y, h1, rfl, rfl⟩ := h
    obtain ⟨w', h2, h3⟩ := run_entStD (P := P) (t := ty) hG hr hsubT (ve m) (ve k) (ve x) h1
    exact ⟨undef, w', A, φ, .inr ⟨by simp [execOp, ho, h2], rfl⟩, h3.value o.dst (.any _ _)⟩
  | call c =>
    obtain ⟨cal, args, tys⟩ := c
    cases cal with
    | builtin b =>
      rw [ho] at h
      simp only [stepD] at h
      have hex : ∀ (m : Array Value → Sem Value), (∀ q, builtin b tys o.type q (args.map a.eval) = (do pure (.value (← m (args.map a.eval))))) →
          execOp a.eval o = (do pure (.value (← m (args.map a.eval)))) := fun m hm => by
        simp only [execOp, ho, resolve, invoke]
        exact hm _
      obtain ⟨args, rfl⟩ : ∃ l : List Operand, l.toArray = args := ⟨args.toList, by simp⟩
      obtain ⟨tys, rfl⟩ : ∃ l : List TypeId, l.toArray = tys := ⟨tys.toList, by simp⟩
      simp only at h
      unfold builtinD at h
      split at h
      · rename_i x t ha
        obtain ⟨x', rfl, rfl⟩ : ∃ x', args = [x'] ∧ ev st.t x' = x := by
          cases args with
          | nil => simp at ha
          | cons y r => cases r with
            | nil => simp at ha; exact ⟨y, rfl, ha⟩
            | cons _ _ => simp at ha
        split at h
        · rename_i et hu
          simp only [Option.map_eq_some_iff, Prod.mk.injEq] at h
          obtain ⟨n, h1, rfl, rfl⟩ := h
          obtain ⟨u, m, c, h2, h3⟩ := (ve x').lenD h1
          refine fin (m := Builtin.len_ #[t] o.type #[a.eval x']) (by simpa using hex (fun v => Builtin.len_ #[t] o.type v) fun q => by simp [builtin]) (r := .int .i64 n) ?_ (.v _ _)
          rw [h2]
          simp [Builtin.len_, run_underlying hu, goInt, h3]
        · cases h
      · rename_i x y t t' ha
        obtain ⟨x', y', rfl, rfl, rfl⟩ : ∃ x' y', args = [x', y'] ∧ ev st.t x' = x ∧ ev st.t y' = y := by
          match args, ha with
          | [p, q], ha => simp at ha; exact ⟨p, q, rfl, ha⟩
        simp only [Option.map_eq_some_iff, Prod.mk.injEq, Prod.exists] at h
        obtain ⟨ob, sz, es, h1, rfl, rfl⟩ := h
        obtain ⟨r, w', φ', h2, h3, h4⟩ := run_appendD (P := P) hG hr hs hsub (ty := o.type) (ve x') (ve y') h1
        exact finP (m := Builtin.append_ #[t, t'] o.type #[a.eval x', a.eval y']) (by simpa using hex (fun v => Builtin.append_ #[t, t'] o.type v) fun q => by simp [builtin]) h2 h3 h4
      · rename_i x y ha
        obtain ⟨x', y', rfl, rfl, rfl⟩ : ∃ x' y', args = [x', y'] ∧ ev st.t x' = x ∧ ev st.t y' = y := by
          match args, ha with
          | [p, q], ha => simp at ha; exact ⟨p, q, rfl, ha⟩
        simp only [Option.map_eq_some_iff, Prod.mk.injEq] at h
        obtain ⟨d', h1, rfl, rfl⟩ := h
        obtain ⟨r, h2, h3⟩ := (run_maxD (P := P) (ve x') (ve y')).1 h1
        exact fin (m := Builtin.max_ #[] 0 #[a.eval x', a.eval y']) (by simpa using hex (fun v => Builtin.max_ #[] 0 v) fun q => by simp [builtin]; rfl) h2 h3
      · rename_i x y ha
        obtain ⟨x', y', rfl, rfl, rfl⟩ : ∃ x' y', args = [x', y'] ∧ ev st.t x' = x ∧ ev st.t y' = y := by
          match args, ha with
          | [p, q], ha => simp at ha; exact ⟨p, q, rfl, ha⟩
        simp only [Option.map_eq_some_iff, Prod.mk.injEq] at h
        obtain ⟨d', h1, rfl, rfl⟩ := h
        obtain ⟨r, h2, h3⟩ := (run_maxD (P := P) (ve x') (ve y')).2 h1
        exact fin (m := Builtin.min_ #[] 0 #[a.eval x', a.eval y']) (by simpa using hex (fun v => Builtin.min_ #[] 0 v) fun q => by simp [builtin]; rfl) h2 h3
      · cases h
    | value f => rw [ho] at h; cases h
    | invoke r m => rw [ho] at h; cases h
  | _ => rw [ho] at h; cases h
end
end
end Go.DL
