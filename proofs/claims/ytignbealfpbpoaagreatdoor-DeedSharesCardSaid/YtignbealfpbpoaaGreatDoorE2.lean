/- Slicing, append and copy over abstract values. -/
import Derived.Test.YtignbealfpbpoaaGreatDoorE1
import Derived.Laws.AppendOwn
import Derived.Laws.BytesString
import Derived.Laws.IdiomStrings
set_option linter.all false
namespace Go.DL
open Go.RowKit

noncomputable section
set_option linter.unusedSectionVars false
variable [Tabs]

/-- An optional bound as a number. -/
def bndD (d : Option D) (dflt : Int) : Option Int :=
  match d with
  | none => some dflt
  | some x => intD x

/-- The result of slicing: of a read-only slice, of an own block's, of an empty one. -/
def sliceM (P : Program) (H : List Blk) (t : TypeId) (x : D) (lo hi mx : Option D) : Option D :=
  match elemT P t with
  | none => none
  | some (_, s) => match unfl x with
    | .sl es => match bndD lo 0, bndD hi es.length with
      | some l, some h => match mx with
        | none => if 0 ≤ l ∧ l ≤ h ∧ h ≤ (es.length : Int) ∧ (l = 0 ∨ es.all (fun e => e.length == s) = true) then some (.sl ((es.take h.toNat).drop l.toNat)) else none
        | some m => match intD m with
          | some m => if 0 ≤ l ∧ l = h ∧ l = m ∧ m ≤ (es.length : Int) then some .nil else if 0 ≤ l ∧ l ≤ h ∧ h ≤ m ∧ m ≤ (es.length : Int) ∧ es.all (fun e => e.length == s) = true then some (.sl ((es.take h.toNat).drop l.toNat)) else none
          | none => none
      | _, _ => none
    | .nil => match bndD lo 0, bndD hi 0, bndD mx 0 with
      | some l, some h, some m => if l = 0 ∧ h = 0 ∧ m = 0 then some .nil else none
      | _, _, _ => none
    | .ms b off len cap => match bndD lo 0, bndD hi len, mx with
      | some l, some h, none => if Blk.hasSz s H[b]? = true ∧ 0 ≤ l ∧ l ≤ h ∧ h ≤ (cap : Int) then some (.ms b (off + l.toNat) (h.toNat - l.toNat) (cap - l.toNat)) else none
      | some l, some h, some m => match intD m with
        | some m => if Blk.hasSz s H[b]? = true ∧ 0 ≤ l ∧ l ≤ h ∧ h ≤ m ∧ m ≤ (cap : Int) then some (.ms b (off + l.toNat) (h.toNat - l.toNat) (m.toNat - l.toNat)) else none
        | none => none
      | _, _, _ => none
    | _ => none

/-- The same, and of a string. -/
def sliceD (P : Program) (H : List Blk) (t : TypeId) (x : D) (lo hi mx : Option D) : Option D :=
  match x with
  | .v (.string s) => match P.underlying t, bndD lo 0, bndD hi s.data.toList.length, mx with
    | some .string, some l, some h, none => if 0 ≤ l ∧ l ≤ h ∧ h ≤ (s.data.toList.length : Int) then some (.v (.string ⟨((s.data.toList.drop l.toNat).take (h.toNat - l.toNat)).toArray⟩)) else none
    | _, _, _, _ => none
  | x => sliceM P H t x lo hi mx

theorem sliceD_m {P : Program} {H : List Blk} {t : TypeId} {x : D} {lo hi mx : Option D} {q : TypeId × Nat} (he : elemT P t = some q) : sliceD P H t x lo hi mx = sliceM P H t x lo hi mx := by
  unfold sliceD
  split
  · rename_i s
    have h1 : sliceM P H t (.v (.string s)) lo hi mx = none := by simp [sliceM, he, unfl]
    rw [h1]
    split
    · rename_i l h hu _ _
      simp [elemT, hu] at he
    · rfl
  · rfl

/-- The elements that a slice has. -/
def elemsD (H : List Blk) : D → Option (List (List D))
  | .sl es => some (es.map (List.map lowD))
  | .fl es => some (es.map (List.map lowD))
  | .nil => some []
  | .ms b off len _ => match H[b]? with
    | some (.live _ es) => if off + len ≤ es.length then some ((es.take (off + len)).drop off) else none
    | _ => none
  | _ => none

section
variable {A : Rd} {w : World} {φ : Nat → Loc} {P : Program} {H Hm : List Blk}

theorem run_bound {d : D} {u : Value} {n : Int} {y : Nat} {code : BoundsCode} (h : V A w φ d u) (hd : intD d = some n) (h0 : 0 ≤ n) (h1 : n ≤ y) :
    (Instr.sliceBound u y code).run P w = .ok n.toNat w := by
  obtain ⟨k, rfl⟩ := h.int hd
  simp [Instr.sliceBound, asIntOf, h0, h1]

theorem run_bounds {lo hi mx : Option Operand} {t : List D} {a : Act} (ht : TR A w φ t a.tmps) {isS : Bool} {len cap : Nat} {l h m : Int}
    (hl : bndD (lo.map (ev t)) 0 = some l) (hh : bndD (hi.map (ev t)) len = some h) (hm : bndD (mx.map (ev t)) cap = some m)
    (h0 : 0 ≤ l) (h1 : l ≤ h) (h2 : h ≤ m) (h3 : m ≤ cap) (hx : mx.isSome = true → hi.isSome = true) :
    (Instr.sliceBounds isS len cap (lo.map a.eval) (hi.map a.eval) (mx.map a.eval)).run P w = .ok (l.toNat, h.toNat, m.toNat) w := by
  have e1 : ∀ {x : Option Operand} {d : Nat} {n : Int}, bndD (x.map (ev t)) d = some n → (x = none ∧ n = d) ∨ ∃ o, x = some o ∧ intD (ev t o) = some n := fun {x d n} h => by
    cases x with
    | none => simp [bndD] at h; exact .inl ⟨rfl, h.symm⟩
    | some o => exact .inr ⟨o, rfl, h⟩
  have e1' : (lo = none ∧ l = 0) ∨ ∃ o, lo = some o ∧ intD (ev t o) = some l := by
    cases lo with
    | none => simp [bndD] at hl; exact .inl ⟨rfl, hl.symm⟩
    | some o => exact .inr ⟨o, rfl, hl⟩
  have hmn : (m.toNat : Int) = m := by omega
  have hhn : (h.toNat : Int) = h := by omega
  rcases e1 hm with ⟨rfl, em⟩ | ⟨om, rfl, hm'⟩
  · rcases e1 hh with ⟨rfl, eh⟩ | ⟨oh, rfl, hh'⟩
    · rcases e1' with ⟨rfl, el⟩ | ⟨ol, rfl, hl'⟩
      · subst em; subst eh; subst el; simp [Instr.sliceBounds]
      · subst em; subst eh
        have := run_bound (P := P) (y := len) (code := .sliceB) (ht.ev ol) hl' h0 (by omega)
        simp [Instr.sliceBounds, this]
    · have hb := run_bound (P := P) (y := cap) (code := if isS then .sliceAcap else .sliceAlen) (ht.ev oh) hh' (by omega) (by omega)
      rcases e1' with ⟨rfl, el⟩ | ⟨ol, rfl, hl'⟩
      · subst em; subst el; simp [Instr.sliceBounds, hb]
      · subst em
        have := run_bound (P := P) (y := h.toNat) (code := .sliceB) (ht.ev ol) hl' h0 (by omega)
        simp [Instr.sliceBounds, hb, this]
  · have hb0 := run_bound (P := P) (y := cap) (code := if isS then .slice3Acap else .slice3Alen) (ht.ev om) hm' (by omega) (by omega)
    rcases e1 hh with ⟨rfl, eh⟩ | ⟨oh, rfl, hh'⟩
    · simp at hx
    · have hb := run_bound (P := P) (y := m.toNat) (code := .slice3B) (ht.ev oh) hh' (by omega) (by omega)
      rcases e1' with ⟨rfl, el⟩ | ⟨ol, rfl, hl'⟩
      · subst el; simp [Instr.sliceBounds, hb0, hb]
      · have := run_bound (P := P) (y := h.toNat) (code := .slice3C) (ht.ev ol) hl' h0 (by omega)
        simp [Instr.sliceBounds, hb0, hb, this]

theorem run_sliceAt {ty e : TypeId} {s : Nat} (hu : P.underlying ty = some (.slice e)) (hs : tsz P e = some s) {x : Option Addr} {len cap l h m : Nat} {lo hi mx : Option Value}
    (hb : (Instr.sliceBounds true len cap lo hi mx).run P w = .ok (l, h, m) w) :
    (Instr.sliceAt ty (.slice x len cap) lo hi mx).run P w = .ok (.slice (if m = l then x else x.map (·.add (l * s))) (h - l) (m - l)) w := by
  simp [Instr.sliceAt, run_underlying hu, Instr.slice, hb, run_sizeOf hs]

theorem run_sliceM (hr : RH A φ w H) (hsub : Sub Hm H) {ty : TypeId} {t : List D} {a : Act} (ht : TR A w φ t a.tmps) (x : Operand) (lo hi mx : Option Operand) {d : D}
    (h : sliceM P Hm ty (ev t x) (lo.map (ev t)) (hi.map (ev t)) (mx.map (ev t)) = some d) (hx : mx.isSome = true → hi.isSome = true) :
    ∃ r, (Instr.sliceAt ty (a.eval x) (lo.map a.eval) (hi.map a.eval) (mx.map a.eval)).run P w = .ok r w ∧ V A w φ d r := by
  have hv := (ht.ev x).unfl'
  unfold sliceM at h
  split at h
  · cases h
  · rename_i et s he
    obtain ⟨hu, hs⟩ := elemT_ok he
    split at h
    · rename_i es hes
      rw [hes] at hv
      split at h
      · rename_i l hh hl hhi
        split at h
        · rename_i hmx
          split at h
          · rename_i hc
            obtain ⟨c1, c2, c3, c4⟩ := hc
            cases h
            have hmn : mx = none := by cases mx <;> simp at hmx; rfl
            subst hmn
            obtain ⟨u, hue, hlen, hcap⟩ : ∃ u cap, a.eval x = .slice u es.length cap ∧ es.length ≤ cap := by
              generalize a.eval x = y at hv
              cases hv with
              | sl0 _ a cap => exact ⟨a, cap, rfl, Nat.zero_le _⟩
              | sl _ es n off sz cap u ha hcap hsz hc h => exact ⟨_, cap, rfl, hcap⟩
            rw [hlen] at hv ⊢
            have hb := run_bounds (P := P) (w := w) ht (isS := true) (len := es.length) (cap := hue) (l := l) (h := hh) (m := hue) (mx := none) hl hhi rfl c1 c2 (by omega) (by omega) hx
            refine ⟨_, run_sliceAt hu hs hb, ?_⟩
            simp only [Int.toNat_natCast]
            have hlen2 : ((es.take hh.toNat).drop l.toNat).length = hh.toNat - l.toNat := by simp; omega
            have hget : ∀ (i : Nat) (e : List D), ((es.take hh.toNat).drop l.toNat)[i]? = some e → es[l.toNat + i]? = some e := fun i e he => by
              rw [List.getElem?_drop, List.getElem?_take] at he
              split at he
              · exact he
              · cases he
            cases hv with
            | sl0 =>
              have hn : (List.drop l.toNat (List.take hh.toNat ([] : List (List D)))) = [] := by simp
              rw [hn] at hlen2 ⊢
              rw [← hlen2]; exact .sl0 _ _ _
            | sl _ _ n off sz _ v ha hcp hsz hcc hhh =>
              rcases Nat.eq_zero_or_pos (hh.toNat - l.toNat) with hz | hz
              · rw [hz] at hlen2 ⊢
                rw [List.eq_nil_of_length_eq_zero hlen2]; exact .sl0 _ _ _
              · have hne : ¬ (hue = l.toNat) := by omega
                rw [if_neg hne, ← hlen2]
                simp only [Option.map_some, add_none]
                have hzs : l.toNat * s = l.toNat * sz := by
                  rcases c4 with c4 | c4
                  · subst c4; simp
                  · congr 1
                    have h0 : 0 < es.length := by omega
                    have h1 := hsz 0 es[0] (List.getElem?_eq_getElem h0)
                    rw [List.all_eq_true] at c4
                    have h2 := c4 es[0] (List.getElem_mem h0)
                    simp only [beq_iff_eq] at h2
                    omega
                rw [hzs]
                refine .sl _ _ n _ sz _ (fun i j => v (l.toNat + i) j) ha (by rw [hlen2]; omega) (fun i e he => hsz _ _ (hget i e he)) (fun i e j d he hd => ?_) (fun i e j d he hd => hhh _ _ _ _ (hget i e he) hd)
                rw [show off + l.toNat * sz + i * sz + j = off + (l.toNat + i) * sz + j by rw [Nat.add_mul]; omega]
                exact hcc _ _ _ _ (hget i e he) hd
          · cases h
        · rename_i om hmx
          split at h
          · rename_i m hm
            split at h
            · rename_i hc
              obtain ⟨c1, c2, c3, c4⟩ := hc
              cases h
              obtain ⟨ox, rfl⟩ : ∃ ox, mx = some ox := by cases mx <;> simp at hmx; exact ⟨_, rfl⟩
              simp only [Option.map_some, Option.some.injEq] at hmx
              obtain ⟨u, cap, hlen, hcap⟩ : ∃ u cap, a.eval x = .slice u es.length cap ∧ es.length ≤ cap := by
                generalize a.eval x = y at hv
                cases hv with
                | sl0 _ a cap => exact ⟨a, cap, rfl, Nat.zero_le _⟩
                | sl _ es n off sz cap u ha hcap hsz hc h => exact ⟨_, cap, rfl, hcap⟩
              rw [hlen]
              have hb := run_bounds (P := P) (w := w) ht (isS := true) (len := es.length) (cap := cap) (l := l) (h := hh) (m := m) (mx := some ox) hl hhi (by simp only [Option.map_some, bndD]; rw [hmx]; exact hm) c1 (by omega) (by omega) (by omega) hx
              refine ⟨_, run_sliceAt hu hs hb, ?_⟩
              have e1 : hh.toNat - l.toNat = 0 := by omega
              have e2 : m.toNat - l.toNat = 0 := by omega
              rw [e1, e2]; exact .nil _ _
            · split at h
              · rename_i hc
                obtain ⟨c1, c2, c3, c5, c4⟩ := hc
                cases h
                obtain ⟨ox, rfl⟩ : ∃ ox, mx = some ox := by cases mx <;> simp at hmx; exact ⟨_, rfl⟩
                simp only [Option.map_some, Option.some.injEq] at hmx
                obtain ⟨u, cap, hlen, hcap⟩ : ∃ u cap, a.eval x = .slice u es.length cap ∧ es.length ≤ cap := by
                  generalize a.eval x = y at hv
                  cases hv with
                  | sl0 _ a cap => exact ⟨a, cap, rfl, Nat.zero_le _⟩
                  | sl _ es n off sz cap u ha hcap hsz hc h => exact ⟨_, cap, rfl, hcap⟩
                rw [hlen] at hv ⊢
                have hb := run_bounds (P := P) (w := w) ht (isS := true) (len := es.length) (cap := cap) (l := l) (h := hh) (m := m) (mx := some ox) hl hhi (by simp only [Option.map_some, bndD]; rw [hmx]; exact hm) c1 c2 c3 (by omega) hx
                refine ⟨_, run_sliceAt hu hs hb, ?_⟩
                have hlen2 : ((es.take hh.toNat).drop l.toNat).length = hh.toNat - l.toNat := by simp; omega
                have hget : ∀ (i : Nat) (e : List D), ((es.take hh.toNat).drop l.toNat)[i]? = some e → es[l.toNat + i]? = some e := fun i e he => by
                  rw [List.getElem?_drop, List.getElem?_take] at he
                  split at he
                  · exact he
                  · cases he
                cases hv with
                | sl0 =>
                  have hn : (List.drop l.toNat (List.take hh.toNat ([] : List (List D)))) = [] := by simp
                  rw [hn] at hlen2 ⊢
                  rw [← hlen2]; exact .sl0 _ _ _
                | sl _ _ n off sz _ v ha hcp hsz hcc hhh =>
                  rcases Nat.eq_zero_or_pos (hh.toNat - l.toNat) with hz | hz
                  · rw [hz] at hlen2 ⊢
                    rw [List.eq_nil_of_length_eq_zero hlen2]; exact .sl0 _ _ _
                  · have hne : ¬ (m.toNat = l.toNat) := by omega
                    rw [if_neg hne, ← hlen2]
                    simp only [Option.map_some, add_none]
                    have hzs : l.toNat * s = l.toNat * sz := by
                      congr 1
                      have h0 : 0 < es.length := by omega
                      have h1 := hsz 0 es[0] (List.getElem?_eq_getElem h0)
                      rw [List.all_eq_true] at c4
                      have h2 := c4 es[0] (List.getElem_mem h0)
                      simp only [beq_iff_eq] at h2
                      omega
                    rw [hzs]
                    refine .sl _ _ n _ sz _ (fun i j => v (l.toNat + i) j) ha (by rw [hlen2]; omega) (fun i e he => hsz _ _ (hget i e he)) (fun i e j d he hd => ?_) (fun i e j d he hd => hhh _ _ _ _ (hget i e he) hd)
                    rw [show off + l.toNat * sz + i * sz + j = off + (l.toNat + i) * sz + j by rw [Nat.add_mul]; omega]
                    exact hcc _ _ _ _ (hget i e he) hd
              · cases h
          · cases h
      · cases h
    · rename_i hes
      rw [hes] at hv
      split at h
      · rename_i l hh m hl hhi hm
        split at h
        · rename_i hc
          obtain ⟨rfl, rfl, rfl⟩ := hc
          cases h
          generalize hy : a.eval x = y at hv
          cases hv with
          | nil _ u =>
            have hb := run_bounds (P := P) (w := w) ht (isS := true) (len := 0) (cap := 0) (l := 0) (h := 0) (m := 0) hl hhi hm (by omega) (by omega) (by omega) (by omega) hx
            refine ⟨_, run_sliceAt hu hs hb, ?_⟩
            simp; exact .nil _ _
        · cases h
      · cases h
    · rename_i b off len cap hes
      rw [hes] at hv
      have key : ∀ {l hh : Int} {m cap' : Nat} {u : Option Addr}, Blk.hasSz s Hm[b]? = true → 0 ≤ l → l ≤ hh → hh ≤ m → m ≤ cap' → (φ b).msOk off cap' u → ∀ capm, hh.toNat - l.toNat ≤ capm → capm ≤ m - l.toNat →
          V A w φ (.ms b (off + l.toNat) (hh.toNat - l.toNat) capm) (.slice (if m = l.toNat then u else u.map (·.add (l.toNat * s))) (hh.toNat - l.toNat) (m - l.toNat)) :=
        fun {l hh m cap' u} hb h0 h1 h2 h3 hms capm h4 h5 => by
          refine .ms _ _ _ _ _ _ _ h4 h5 ?_
          unfold Blk.hasSz at hb
          split at hb
          · rename_i sz es hbl
            simp only [beq_iff_eq] at hb
            subst hb
            rcases hr.live b sz es (hsub _ _ _ hbl) with ⟨rfl, hp⟩ | ⟨n, base, room, c, ty', hp, hl⟩
            · rw [hp] at hms ⊢
              have : cap' = 0 := hms
              show m - l.toNat = 0
              omega
            · rw [hp] at hms ⊢
              obtain ⟨k1, k2⟩ := hms
              refine ⟨by omega, ?_⟩
              rcases Nat.eq_or_lt_of_le (show l.toNat ≤ m by omega) with e | e
              · left; omega
              · right
                have hu : u = some ⟨n, base + off * sz, none⟩ := k2.resolve_left (by omega)
                rw [if_neg (by omega), hu]
                simp only [Option.map_some, add_none, Nat.add_mul, Nat.add_assoc]
          · cases hb
      generalize hy : a.eval x = y at hv
      cases hv with
      | ms _ _ _ _ _ cap' u hlen hcap hms =>
        split at h
        · rename_i l hh hl hhi hmx
          split at h
          · rename_i hc
            obtain ⟨c0, c1, c2, c3⟩ := hc
            cases h
            have hmn : mx = none := by cases mx <;> simp at hmx; rfl
            subst hmn
            have hb := run_bounds (P := P) (w := w) ht (isS := true) (len := len) (cap := cap') (l := l) (h := hh) (m := cap') (mx := none) hl hhi rfl c1 c2 (by omega) (by omega) hx
            refine ⟨_, run_sliceAt hu hs hb, ?_⟩
            simp only [Int.toNat_natCast]
            exact key c0 c1 c2 (by omega) (Nat.le_refl _) hms _ (by omega) (by omega)
          · cases h
        · rename_i l hh om hl hhi hmx
          split at h
          · rename_i m hm
            split at h
            · rename_i hc
              obtain ⟨c0, c1, c2, c3, c4⟩ := hc
              cases h
              obtain ⟨ox, rfl⟩ : ∃ ox, mx = some ox := by cases mx <;> simp at hmx; exact ⟨_, rfl⟩
              simp only [Option.map_some, Option.some.injEq] at hmx
              have hb := run_bounds (P := P) (w := w) ht (isS := true) (len := len) (cap := cap') (l := l) (h := hh) (m := m) (mx := some ox) hl hhi (by simp only [Option.map_some, bndD]; rw [hmx]; exact hm) c1 c2 c3 (by omega) hx
              refine ⟨_, run_sliceAt hu hs hb, ?_⟩
              exact key c0 c1 c2 (by omega) (by omega) hms _ (by omega) (Nat.le_refl _)
            · cases h
          · cases h
        · cases h
    · cases h
theorem run_sliceD (hr : RH A φ w H) (hsub : Sub Hm H) {ty : TypeId} {t : List D} {a : Act} (ht : TR A w φ t a.tmps) (x : Operand) (lo hi mx : Option Operand) {d : D}
    (h : sliceD P Hm ty (ev t x) (lo.map (ev t)) (hi.map (ev t)) (mx.map (ev t)) = some d) (hx : mx.isSome = true → hi.isSome = true) :
    ∃ r, (Instr.sliceAt ty (a.eval x) (lo.map a.eval) (hi.map a.eval) (mx.map a.eval)).run P w = .ok r w ∧ V A w φ d r := by
  unfold sliceD at h
  split at h
  · rename_i s hs
    have hv := ht.ev x
    rw [hs] at hv
    have hv := hv.v_inv
    split at h
    · rename_i l hh hu hl hhi hm
      split at h
      · rename_i hc
        obtain ⟨c1, c2, c3⟩ := hc
        cases h
        have hmn : mx = none := by cases mx <;> simp at hm; rfl
        subst hmn
        have hsz : s.data.toList.length = s.size := by rw [Array.length_toList]; rfl
        rw [hsz] at hhi c3
        have hb := run_bounds (P := P) (w := w) ht (isS := false) (len := s.size) (cap := s.size) (l := l) (h := hh) (m := s.size) (mx := none) hl hhi rfl c1 c2 c3 (by omega) hx
        refine ⟨_, ?_, .v _ _⟩
        have he : (⟨((s.data.toList.drop l.toNat).take (hh.toNat - l.toNat)).toArray⟩ : ByteArray) = s.extract l.toNat hh.toNat := by
          rw [← ByteArray.extract_mk]
        rw [he, hv]
        simp only [Option.map_none] at hb ⊢
        simp [Instr.sliceAt, run_underlying hu, Instr.slice, hb]
      · cases h
    · cases h
  · exact run_sliceM hr hsub ht x lo hi mx h hx
end
end
end Go.DL

/- Append over abstract values: the old block is given up, a new one holds the old elements and the new ones. -/
namespace Go.DL
open Go.RowKit

noncomputable section
set_option linter.unusedSectionVars false
variable [Tabs]

section
variable {A : Rd} {w : World} {φ : Nat → Loc} {P : Program} {H Hm : List Blk}

theorem cell_heap {w W : World} (h : W.heap = w.heap) (a : Addr) : W.cell? a = w.cell? a := by simp [World.cell?, h]

theorem cells_ok {n off s : Nat} {es : List (List D)} (hlen : ∀ (i : Nat) (e : List D), es[i]? = some e → e.length = s)
    (hc : ∀ (i : Nat) (e : List D) (j : Nat) (d : D), es[i]? = some e → e[j]? = some d → ∃ y, w.cell? ⟨n, off + i * s + j, none⟩ = some y ∧ V A w φ d y) :
    ∃ vs, RR A w φ s es vs ∧ ∀ W : World, W.heap = w.heap → (loadCells ⟨n, off, none⟩ (es.length * s)).run P W = .ok vs W := by
  refine ⟨((List.range (es.length * s)).map fun k => (w.cell? ⟨n, off + k, none⟩).getD default).toArray, ⟨by simp, hlen, fun i e j d he hd => ?_⟩, fun W hW => ?_⟩
  · obtain ⟨y, hy, hv⟩ := hc i e j d he hd
    refine ⟨y, ?_, hv⟩
    have hi : i < es.length := (List.getElem?_eq_some_iff.1 he).1
    have hj : j < s := by rw [← hlen i e he]; exact (List.getElem?_eq_some_iff.1 hd).1
    have hlt : i * s + j < es.length * s := by
      have : i * s + s ≤ es.length * s := by rw [← Nat.succ_mul]; exact Nat.mul_le_mul_right _ hi
      omega
    simp only [List.getElem?_toArray, List.getElem?_map, List.getElem?_range hlt, Option.map_some]
    rw [← Nat.add_assoc, hy]; rfl
  · refine run_loadCells W ⟨n, off, none⟩ (es.length * s) _ fun k hk => ?_
    rw [add_none, cell_heap hW]
    have hs : 0 < s := by
      rcases Nat.eq_zero_or_pos s with h | h
      · subst h; simp at hk
      · exact h
    have hi : k / s < es.length := by rw [Nat.div_lt_iff_lt_mul hs]; exact hk
    have hj : k % s < s := Nat.mod_lt _ hs
    have he := List.getElem?_eq_getElem hi
    have hj' : k % s < (es[k / s]).length := by rw [hlen _ _ he]; exact hj
    obtain ⟨y, hy, _⟩ := hc (k / s) _ (k % s) _ he (List.getElem?_eq_getElem hj')
    rw [Nat.add_assoc, Nat.mul_comm, Nat.div_add_mod] at hy
    rw [hy]; rfl

theorem elems_ok (hr : RH A φ w H) (hsub : Sub Hm H) {d : D} {u : Value} {es : List (List D)} {s : Nat} (h : V A w φ d u) (he : elemsD Hm d = some es)
    (hlen : ∀ (i : Nat) (e : List D), es[i]? = some e → e.length = s) :
    ∃ a cap vs, u = .slice a es.length cap ∧ RR A w φ s es vs ∧ ∀ W : World, W.heap = w.heap → (Builtin.firstCells s es.length u).run P W = .ok vs W := by
  have empty : ∀ {a : Option Addr} {cap : Nat}, es = [] → u = .slice a 0 cap → ∃ a cap vs, u = .slice a es.length cap ∧ RR A w φ s es vs ∧
      ∀ W : World, W.heap = w.heap → (Builtin.firstCells s es.length u).run P W = .ok vs W := fun {a cap} h1 h2 => by
    subst h1; subst h2
    refine ⟨a, cap, #[], rfl, ⟨by simp, by simp, by simp⟩, fun W _ => ?_⟩
    cases a with
    | none => simp [Builtin.firstCells]
    | some a => simp [Builtin.firstCells, loadCells, loadCellsFrom]
  have hfl : ∀ {fs : List (List D)}, d = .fl fs → V A w φ (.sl fs) u := fun {fs} e => by subst e; exact h.of_fl
  have hsl : ∀ {fs : List (List D)}, fs.map (List.map lowD) = es → V A w φ (.sl fs) u → ∃ a cap vs, u = .slice a es.length cap ∧ RR A w φ s es vs ∧
      ∀ W : World, W.heap = w.heap → (Builtin.firstCells s es.length u).run P W = .ok vs W := fun {fs} e h => by
    cases h with
    | sl0 _ a cap => exact empty (by simpa using e.symm) rfl
    | sl _ fs n off sz cap v ha hcap hsz hc hh =>
      have hlf : es.length = fs.length := by rw [← e]; simp
      rcases Nat.eq_zero_or_pos fs.length with hz | hz
      · have hn : fs = [] := List.eq_nil_of_length_eq_zero hz
        exact empty (by subst hn; simpa using e.symm) (by rw [hn]; rfl)
      · have hsz' : sz = s := by
          have h0 := List.getElem?_eq_getElem hz
          have h1 : es[0]? = some (fs[0].map lowD) := by rw [← e]; simp [hz]
          have := hlen 0 _ h1
          rw [← hsz 0 _ h0, ← this]; simp
        subst hsz'
        obtain ⟨vs, h1, h2⟩ := cells_ok (P := P) (A := A) (w := w) (φ := φ) (n := n) (off := off) hlen fun i e' j d he hd => by
          rw [← e] at he
          simp only [List.getElem?_map, Option.map_eq_some_iff] at he
          obtain ⟨e0, he, rfl⟩ := he
          simp only [List.getElem?_map, Option.map_eq_some_iff] at hd
          obtain ⟨d0, hd, rfl⟩ := hd
          exact ⟨_, hc i e0 j d0 he hd, (hh i e0 j d0 he hd).low⟩
        rw [hlf] at h2 ⊢
        exact ⟨_, _, vs, rfl, h1, h2⟩
  unfold elemsD at he
  split at he
  · cases he; exact hsl rfl h
  · cases he; exact hsl rfl (hfl rfl)
  · cases he
    cases h with
    | nil _ a => exact empty rfl rfl
  · rename_i b off len cap0
    split at he
    · rename_i sz fs hb
      split at he
      · rename_i hol
        cases he
        have hl : ((fs.take (off + len)).drop off).length = len := by simp; omega
        cases h with
        | ms _ _ _ _ _ cap' a h1 h2 h3 =>
          rcases hr.live b sz fs (hsub _ _ _ hb) with ⟨rfl, hp⟩ | ⟨n, base, room, c, ty, hp, hlive⟩
          · simp at hol; obtain ⟨rfl, rfl⟩ := hol
            exact empty (by simp) rfl
          · rw [hp] at h3
            obtain ⟨h4, h5⟩ := h3
            rcases Nat.eq_zero_or_pos len with hz | hz
            · subst hz
              exact empty (List.eq_nil_of_length_eq_zero hl) rfl
            · have ha : a = some ⟨n, base + off * sz, none⟩ := h5.resolve_left (by omega)
              subst ha
              have hget : ∀ (i : Nat) (e : List D), ((fs.take (off + len)).drop off)[i]? = some e → fs[off + i]? = some e := fun i e he => by
                rw [List.getElem?_drop, List.getElem?_take] at he
                split at he
                · exact he
                · cases he
              have hsz' : sz = s := by
                have h0 : 0 < ((fs.take (off + len)).drop off).length := by omega
                have h6 := List.getElem?_eq_getElem h0
                rw [← hlive.len _ _ (hget 0 _ h6), hlen 0 _ h6]
              subst hsz'
              obtain ⟨vs, k1, k2⟩ := cells_ok (P := P) (A := A) (φ := φ) (w := w) (n := n) (off := base + off * sz) hlen fun i e j d he hd => by
                obtain ⟨y, hy, hv⟩ := hlive.val _ _ _ _ (hget i e he) hd
                refine ⟨y, ?_, hv⟩
                rw [cell_of_blk hlive.blk, show base + off * sz + i * sz + j = base + (off + i) * sz + j by rw [Nat.add_mul]; omega]
                exact hy
              rw [hl] at k2 ⊢
              exact ⟨_, _, vs, rfl, k1, k2⟩
      · cases he
    · cases he
  · cases he

/-! ### the model's append -/
theorem zeroCells_zero (z : Array Value) : Builtin.zeroCells z 0 = #[] := by simp [Builtin.zeroCells]
theorem wrap0 : IntKind.i64.wrap 0 = 0 := by decide

/-- What an append is given: a slice, or a number of zeros. -/
inductive Added (P : Program) (t' : TypeId) (i : TypeInfo) (zv : Value) (m : Nat) (v : Value) (vs : Array Value) (w : World) : Prop
  | sl {e' : TypeId} {vb : Option Addr} {vcap : Nat} (hu : P.underlying t' = some (.slice e')) (hv : v = .slice vb m vcap) (h : ∀ W : World, W.heap = w.heap → (Builtin.firstCells i.size m v).run P W = .ok vs W)
  | mk {k : IntKind} (hu : P.underlying t' = some (.int k)) (hv : v = .int .i64 m) (h : vs = Builtin.zeroCells zv.cells m)
  | str {s : ByteArray} (hu : P.underlying t' = some .string) (hv : v = .string s) (hm : s.size = m) (h : vs = s.data.map fun b => .int .u8 b.toNat)

theorem all_of (s : ByteArray) : (s.extract 0 s.size).data = s.data := by
  rw [ByteArray.data_extract]; simp
theorem size_of (s : ByteArray) : s.data.size = s.size := rfl
theorem len_of (s : ByteArray) : s.data.toList.length = s.size := by simp
theorem take_of {α : Type} (s : ByteArray) (f : UInt8 → α) : List.take s.size (List.map f s.data.toList) = List.map f s.data.toList :=
  List.take_of_length_le (by rw [List.length_map, len_of]; exact Nat.le_refl _)

section
variable {t t' ty e : TypeId} {i : TypeInfo} {zv v : Value} {ub : Option Addr} {n m ucap : Nat} {us vs : Array Value}
  (ht : P.underlying t = some (.slice e)) (hi : P.info? e = some i) (hzv : i.zero = some zv) (ha : Added P t' i zv m v vs w)

theorem app_fit (ht : P.underlying t = some (.slice e)) (hi : P.info? e = some i) (hzv : i.zero = some zv) (ha : Added P t' i zv m v vs w) (hroom : n + m ≤ ucap) (hs : 0 < i.size) (h63 : n + m ≤ 9223372036854775807) (hby : (n + m) * i.bytes ≤ 140737488355328) :
    (Builtin.append_ #[t, t'] ty #[.slice ub n ucap, v]).run P w =
      match ub with
      | some a => ((storeCells (a.add (n * i.size)) vs.toList).run P w).andThen fun _ w' => .ok (.slice ub (n + m) ucap) w'
      | none => .ok (.slice ub (n + m) ucap) w := by
  cases ha with
  | sl hu hv h =>
    subst hv
    have hvl := h w rfl
    cases ub <;> simp [Builtin.append_, run_underlying ht, run_underlying hu, sizeOf, typeInfo, hi, Builtin.lenOf, hroom, hvl]
  | mk hu hv h =>
    subst hv; subst h
    have h1 : IntKind.i64.wrap (m : Int) = m := by rw [IntKind.wrap_i64]; omega
    have h2 : ¬ ((m : Int) < 0) := by omega
    have h3 : ¬ ((281474976710656 : Int) < (m : Int) * (i.bytes : Int)) := by
      have : m * i.bytes ≤ (n + m) * i.bytes := Nat.mul_le_mul_right _ (by omega)
      have h4 : (m : Int) * (i.bytes : Int) = ((m * i.bytes : Nat) : Int) := by simp
      rw [h4]; omega
    rcases Nat.eq_zero_or_pos m with rfl | hm
    · have hroom' : n ≤ ucap := hroom
      cases ub <;> simp [Builtin.append_, run_underlying ht, run_underlying hu, sizeOf, typeInfo, hi, asInt, asIntOf, wrap0, h1, hroom', zeroValue, hzv, zeroCells_zero]
    · have h5 : ¬ (m * i.size = 0) := Nat.ne_of_gt (Nat.mul_pos hm hs)
      cases ub <;> simp [Builtin.append_, run_underlying ht, run_underlying hu, sizeOf, typeInfo, hi, asInt, asIntOf, wrap0, h1, h2, h3, h5, hroom, zeroValue, hzv]
  | str hu hv hm h =>
    rename_i s
    subst hv; subst hm; subst h
    cases ub <;> simp [Builtin.append_, run_underlying ht, run_underlying hu, sizeOf, typeInfo, hi, Builtin.lenOf, Builtin.firstCells, hroom, all_of, take_of]

theorem app_grow (ht : P.underlying t = some (.slice e)) (hi : P.info? e = some i) (hzv : i.zero = some zv) (ha : Added P t' i zv m v vs w) (hg : ucap < n + m) (hs : 0 < i.size) (h63 : n + m ≤ 9223372036854775807) (hby : (n + m) * i.bytes ≤ 140737488355328)
    (hul : (Builtin.firstCells i.size n (.slice ub n ucap)).run P w.drew = .ok us w.drew) :
    (Builtin.append_ #[t, t'] ty #[.slice ub n ucap, v]).run P w =
      .ok (.slice (some ⟨w.heap.size, 0, none⟩) (n + m) (grownCap w (n + m) ucap e))
        (w.drew.alloc (.cells (us ++ vs ++ Builtin.zeroCells zv.cells (grownCap w (n + m) ucap e - (n + m))) e)) := by
  have hn : ¬ (n + m ≤ ucap) := by omega
  have h63' : ¬ (9223372036854775807 < ((n : Int) + (m : Int))) := by omega
  have hfit := growslice_fits hg hby
  have h48' : ¬ (281474976710656 < Builtin.nextslicecap (n + m) ucap * i.bytes) := by omega
  cases ha with
  | sl hu hv h =>
    subst hv
    have hvl := h w.drew rfl
    simp [Builtin.append_, run_underlying ht, run_underlying hu, sizeOf, typeInfo, zeroValue, hi, hzv, Builtin.lenOf, hn, h63', h48', Question.forced, hvl, hul, newRow, grownCap]
  | mk hu hv h =>
    subst hv; subst h
    have h1 : IntKind.i64.wrap (m : Int) = m := by rw [IntKind.wrap_i64]; omega
    have h2 : ¬ ((m : Int) < 0) := by omega
    have h3 : ¬ ((281474976710656 : Int) < (m : Int) * (i.bytes : Int)) := by
      have : m * i.bytes ≤ (n + m) * i.bytes := Nat.mul_le_mul_right _ (by omega)
      have h4 : (m : Int) * (i.bytes : Int) = ((m * i.bytes : Nat) : Int) := by simp
      rw [h4]; omega
    rcases Nat.eq_zero_or_pos m with rfl | hm
    · simp only [Nat.add_zero] at *
      have h6 : ¬ (9223372036854775807 < (n : Int)) := by omega
      simp [Builtin.append_, run_underlying ht, run_underlying hu, sizeOf, typeInfo, zeroValue, hi, hzv, asInt, asIntOf, wrap0, h1, h6, hn, h63', h48', Question.forced, hul, newRow, grownCap, zeroCells_zero]
    · have h5 : ¬ (m * i.size = 0) := Nat.ne_of_gt (Nat.mul_pos hm hs)
      simp [Builtin.append_, run_underlying ht, run_underlying hu, sizeOf, typeInfo, zeroValue, hi, hzv, asInt, asIntOf, wrap0, h1, h2, h3, h5, hn, h63', h48', Question.forced, hul, newRow, grownCap]
  | str hu hv hm h =>
    rename_i s
    subst hv; subst hm; subst h
    have hvl : (Builtin.firstCells i.size s.size (.string s)).run P w.drew = .ok (s.data.map fun b => .int .u8 b.toNat) w.drew := by simp [Builtin.firstCells, all_of]
    simp [Builtin.append_, run_underlying ht, run_underlying hu, sizeOf, typeInfo, zeroValue, hi, hzv, Builtin.lenOf, hn, h63', h48', Question.forced, hvl, hul, newRow, grownCap]
end

theorem RR.append {sz : Nat} {es xs : List (List D)} {us vs : Array Value} (h : RR A w φ sz es us) (k : RR A w φ sz xs vs) : RR A w φ sz (es ++ xs) (us ++ vs) := by
  refine ⟨by simp [h.size, k.size, Nat.add_mul], fun i e he => ?_, fun i e j d he hd => ?_⟩
  · rw [List.getElem?_append] at he
    split at he
    · exact h.len i e he
    · exact k.len _ e he
  · rw [List.getElem?_append] at he
    split at he
    · rename_i hi
      obtain ⟨y, hy, hv⟩ := h.val i e j d he hd
      have hj : j < sz := by rw [← h.len i e he]; exact (List.getElem?_eq_some_iff.1 hd).1
      have : i * sz + j < us.size := (Array.getElem?_eq_some_iff.1 hy).1
      exact ⟨y, by rw [Array.getElem?_append_left this]; exact hy, hv⟩
    · rename_i hi
      obtain ⟨y, hy, hv⟩ := k.val _ e j d he hd
      refine ⟨y, ?_, hv⟩
      have hmul : (i - es.length) * sz + es.length * sz = i * sz := by rw [← Nat.add_mul]; congr 1; omega
      rw [Array.getElem?_append_right (by rw [h.size]; omega), h.size, ← hy]
      congr 1; omega

theorem RR.one {sz : Nat} {xs : List (List D)} {vs : Array Value} (h : RR A w φ sz xs vs) (hsz : 0 < sz) (hc : xs.all (fun e => e.all isCell) = true) : ∀ y ∈ vs.toList, y.oneCell' = true := fun y hy => by
  obtain ⟨k, hk, rfl⟩ := List.mem_iff_getElem.1 hy
  simp only [Array.length_toList, h.size] at hk
  have hi : k / sz < xs.length := by rw [Nat.div_lt_iff_lt_mul hsz]; exact hk
  have hg := List.getElem?_eq_getElem hi
  have hj : k % sz < (xs[k / sz]).length := by rw [h.len _ _ hg]; exact Nat.mod_lt _ hsz
  have hd := List.getElem?_eq_getElem hj
  obtain ⟨y, hy1, hy2⟩ := h.val _ _ _ _ hg hd
  rw [Nat.mul_comm, Nat.div_add_mod] at hy1
  rw [List.all_eq_true] at hc
  have hcell := hc _ (List.getElem_mem hi)
  rw [List.all_eq_true] at hcell
  have := hy2.isCell (hcell _ (List.getElem_mem hj))
  have hk' : k < vs.size := by rw [h.size]; exact hk
  rw [Array.getElem?_eq_getElem hk', Option.some.injEq] at hy1
  simpa [hy1] using this

theorem RR.nil {sz : Nat} {vs : Array Value} (h : RR A w φ sz [] vs) : vs = #[] := by
  apply Array.eq_empty_of_size_eq_zero; rw [h.size]; simp

/-- What is appended: the elements of a slice, or a number of zeros. -/
def addedD (P : Program) (H : List Blk) (e t' : TypeId) (x : D) : Option (List (List D)) :=
  match P.underlying t' with
  | some (.slice _) => elemsD H x
  | some (.int _) => match x with
    | .v (.int .i64 m) => if 0 ≤ m then (zeroD P e).map fun z => List.replicate m.toNat z else none
    | _ => none
  | some .string => match x with
    | .v (.string s) => some (s.data.toList.map fun b => [.v (.int .u8 b.toNat)])
    | _ => none
  | _ => none

/-- The old block to be given up, the size, and what the result holds. -/
def appendD (P : Program) (H : List Blk) (t t' : TypeId) (s x : D) : Option (Option Nat × Nat × List (List D)) :=
  match elemT P t, elemsD H s with
  | some (e, sz), some es =>
    match addedD P H e t' x with
    | some xs =>
      if 0 < sz ∧ (zeroD P e).map List.length = some sz ∧ es.all (fun e => e.length == sz) = true ∧ xs.all (fun e => e.length == sz) = true ∧ xs.all (fun e => e.all isCell) = true ∧
        (es.length + xs.length) * P.bytesOf e ≤ 140737488355328 ∧ es.length + xs.length ≤ 9223372036854775807 then
        match s with
        | .nil => some (none, sz, xs)
        | .ms b off _ _ => if off = 0 ∧ Blk.hasSz sz H[b]? = true then some (some b, sz, es ++ xs) else none
        | _ => none
      else none
    | none => none
  | _, _ => none

/-- Are both slices of one own block, and is there room behind the first? -/
def sameB : D → D → Bool
  | .ms b _ l c, .ms b' _ _ _ => if Nat.beq b b' = true then Nat.blt l c else false
  | _, _ => false
theorem sameB_full {b o l c : Nat} {d : D} (h : c ≤ l) : sameB (.ms b o l c) d = false := by
  cases d with
  | ms b' o' l' c' =>
    show (if Nat.beq b b' = true then Nat.blt l c else _) = _
    split
    · cases hh : Nat.blt l c with
      | false => rfl
      | true =>
        have : l + 1 ≤ c := Nat.le_of_ble_eq_true hh
        omega
    · rfl
  | _ => rfl
/-- An append of a slice of one's own to a slice of the same block, where the capacity is known to be enough: the old block, the size, the new length, the capacity, and what the block holds then. -/
def appendC (P : Program) (H : List Blk) (t t' : TypeId) (s x : D) : Option (Nat × Nat × Nat × Nat × List (List D)) :=
  match elemT P t, P.underlying t', s with
  | some (e, sz), some (.slice _), .ms b off len cap =>
    match elemsD H s, elemsD H x, H[b]? with
    | some es, some xs, some (.live sz' fs) =>
      if sz' = sz ∧ 0 < sz ∧ (zeroD P e).map List.length = some sz ∧ es.all (fun e => e.length == sz) = true ∧ xs.all (fun e => e.length == sz) = true ∧ xs.all (fun e => e.all isCell) = true ∧
        (es.length + xs.length) * P.bytesOf e ≤ 140737488355328 ∧ es.length + xs.length ≤ 9223372036854775807 ∧ es.length + xs.length ≤ cap ∧ 0 < cap ∧ off = 0 then
        some (b, sz, es.length + xs.length, cap, es ++ xs ++ (fs.take (off + cap)).drop (off + (es.length + xs.length)))
      else none
    | _, _, _ => none
  | _, _, _ => none

def killO (H : List Blk) : Option Nat → List Blk
  | some b => H.set b .dead
  | none => H

theorem killO_free (H : List Blk) {s : Nat} {o : Option Nat} (hs : H[s]? = some .free) (ho : ∀ b, o = some b → b ≠ s) : (DL.killO H o)[s]? = some .free := by
  cases o with
  | none => exact hs
  | some b => rw [DL.killO, List.getElem?_set, if_neg (ho b rfl)]; exact hs


section
variable {G : Gh} (hG : Stab G) {st : St} {a : Act} {s : Nat}
/-- An own block without memory. -/
theorem FRc.phantom (hG : Stab G) (h : FRc G st a w A φ) (hs : st.H[s]? = some .free) (sz : Nat) : FRc G { st with H := st.H.set s (.live sz []) } a w A (upd φ s .ph) := by
  have hlt : s < st.H.length := (List.getElem?_eq_some_iff.1 hs).1
  have hf : φ s = .free := h.rh.free s hs
  exact h.step hG (h.rh.lay hlt (l := .ph) (.inl hf) (fun _ _ => rfl) (fun _ x => x) (fun _ x => .inl x) (fun _ _ _ _ _ _ _ => rfl) (Nat.le_refl _)
      ⟨by simp, by simp, fun sz' es' e => by cases e; exact .inl ⟨rfl, rfl⟩⟩ (fun _ _ e => by cases e) (fun _ _ _ _ e => by cases e))
    ⟨rfl, rfl, rfl, Nat.le_refl _, fun _ _ _ => rfl, fun n hn => by
      rcases own_upd hn with ⟨_, _, _, e⟩ | ⟨b, _, _, _, _, e⟩
      · cases e
      · exact .inl ⟨b, _, _, _, e⟩⟩ (fun _ x => x) (fun _ x => .inl x) (upd_le (.inl hf))

theorem FRc.killO (hG : Stab G) (h : FRc G st a w A φ) {o : Option Nat} (ho : ∀ b, o = some b → b < st.H.length) :
    ∃ φ', FRc G { st with H := DL.killO st.H o } a w A φ' ∧ ∀ b, (φ b).le (φ' b) := by
  cases o with
  | none => exact ⟨φ, h, fun _ => Loc.le_refl _⟩
  | some b => exact ⟨_, h.kill hG (ho b rfl), upd_le (.inr (.inl rfl))⟩

/-- It grows. -/
theorem grow_ok (hG : Stab G) (hr : FRc G st a w A φ) (hs : st.H[s]? = some .free) {t t' ty e : TypeId} {i : TypeInfo} {zv v : Value} {ub : Option Addr} {ucap sz : Nat} {us vs : Array Value} {es xs : List (List D)}
    (ht : P.underlying t = some (.slice e)) (hi : P.info? e = some i) (hzv : i.zero = some zv) (hisz : i.size = sz) (hzs : zv.cells.size = sz) (hsz : 0 < sz)
    (hus : RR A w φ sz es us) (hvs : RR A w φ sz xs vs)
    (hul : ∀ W : World, W.heap = w.heap → (Builtin.firstCells sz es.length (.slice ub es.length ucap)).run P W = .ok us W)
    (ha : Added P t' i zv xs.length v vs w)
    (hby : (es.length + xs.length) * i.bytes ≤ 140737488355328) (h63 : es.length + xs.length ≤ 9223372036854775807)
    {o : Option Nat} (ho : ∀ b, o = some b → b < st.H.length ∧ b ≠ s) (hg : ucap < es.length + xs.length) :
    ∃ r w' φ', (Builtin.append_ #[t, t'] ty #[.slice ub es.length ucap, v]).run P w = .ok r w' ∧ V A w' φ' (.ms s 0 (es ++ xs).length (es ++ xs).length) r ∧
      FRc G { st with H := (DL.killO st.H o).set s (.live sz (es ++ xs)) } a w' A φ' := by
  have hge := grownCap_ge w (es.length + xs.length) ucap e
  obtain ⟨φ1, hk, hle⟩ := hr.killO hG (o := o) fun b hb => (ho b hb).1
  have hk' := hk.drew hG
  have hfree : (DL.killO st.H o)[s]? = some .free := killO_free st.H hs fun b hb => (ho b hb).2
  have hrr := hus.append hvs
  have hfo := hul w.drew rfl
  rw [← hisz] at hfo
  have hrun := app_grow (P := P) (w := w) (ty := ty) ht hi hzv ha hg (by omega) h63 hby hfo
  have hnew := hk'.newR hG (s := s) hfree (us ++ vs ++ Builtin.zeroCells zv.cells (grownCap w (es.length + xs.length) ucap e - (es.length + xs.length))) e sz (es ++ xs)
    (grownCap w (es.length + xs.length) ucap e) (by simpa using hge)
    (by
      rw [Array.size_append, hrr.size, size_zeroCells, hzs, ← Nat.add_mul]
      refine Nat.mul_le_mul_right _ ?_
      rw [List.length_append]; omega) hrr.len (fun i e j d he hd => by
      obtain ⟨y, hy, hv⟩ := hrr.val i e j d he hd
      refine ⟨y, ?_, V.mono (w := w) (fun _ x => x) (fun _ _ => rfl) hle hv⟩
      rw [Array.getElem?_append_left (Array.getElem?_eq_some_iff.1 hy).1]; exact hy)
  refine ⟨_, _, _, hrun, ?_, hnew⟩
  rw [List.length_append]
  refine .ms _ _ _ _ _ _ _ (Nat.le_refl _) hge ?_
  rw [upd_same]
  exact ⟨by omega, .inr (by simp)⟩

/-- Nothing is there, nothing is added. -/
theorem none_ok (hG : Stab G) (hr : FRc G st a w A φ) (hs : st.H[s]? = some .free) {t t' ty e : TypeId} {i : TypeInfo} {zv v : Value} {ub : Option Addr} {sz : Nat} {vs : Array Value}
    (ht : P.underlying t = some (.slice e)) (hi : P.info? e = some i) (hzv : i.zero = some zv) (hisz : i.size = sz) (hsz : 0 < sz) (hvs : RR A w φ sz [] vs)
    (ha : Added P t' i zv 0 v vs w)
    {o : Option Nat} (ho : ∀ b, o = some b → b < st.H.length ∧ b ≠ s) :
    ∃ r w' φ', (Builtin.append_ #[t, t'] ty #[.slice ub 0 0, v]).run P w = .ok r w' ∧ V A w' φ' (.ms s 0 0 0) r ∧
      FRc G { st with H := (DL.killO st.H o).set s (.live sz []) } a w' A φ' := by
  obtain ⟨φ1, hk, hle⟩ := hr.killO hG (o := o) fun b hb => (ho b hb).1
  have hfree : (DL.killO st.H o)[s]? = some .free := killO_free st.H hs fun b hb => (ho b hb).2
  have hv0 := hvs.nil
  subst hv0
  refine ⟨.slice ub 0 0, w, _, ?_, ?_, hk.phantom hG (s := s) hfree sz⟩
  · rw [app_fit (P := P) (w := w) (ty := ty) (ucap := 0) (n := 0) (m := 0) ht hi hzv ha (Nat.le_refl _) (by omega) (by omega) (by simp)]
    cases ub <;> simp [storeCells]
  · refine .ms _ _ _ _ _ _ _ (Nat.le_refl _) (Nat.le_refl _) ?_
    rw [upd_same]; rfl

/-- It fits. -/
theorem fit_ok (hG : Stab G) (hr : FRc G st a w A φ) (hs : st.H[s]? = some .free) {t t' ty e : TypeId} {i : TypeInfo} {zv v : Value} {ucap sz : Nat} {vs : Array Value} {es fs xs : List (List D)}
    (ht : P.underlying t = some (.slice e)) (hi : P.info? e = some i) (hzv : i.zero = some zv) (hisz : i.size = sz) (hsz : 0 < sz)
    (hvs : RR A w φ sz xs vs) (hone : ∀ y ∈ vs.toList, y.oneCell' = true)
    (ha : Added P t' i zv xs.length v vs w) (h63 : es.length + xs.length ≤ 9223372036854775807) (hby : (es.length + xs.length) * i.bytes ≤ 140737488355328)
    {b off n base room : Nat} {c : Array Value} {tyc : TypeId} (hp : φ b = .loc n base sz room) (hlive : LiveAt A w φ n base room sz c tyc fs)
    (hget : ∀ (i : Nat) (e : List D), es[i]? = some e → fs[off + i]? = some e) (h4 : off + ucap ≤ room) (hroom : es.length + xs.length ≤ ucap) (hoff : off = 0) :
    ∃ r w' φ', (Builtin.append_ #[t, t'] ty #[.slice (some ⟨n, base + off * sz, none⟩) es.length ucap, v]).run P w = .ok r w' ∧ V A w' φ' (.ms s 0 (es ++ xs).length (es ++ xs).length) r ∧
      FRc G { st with H := (DL.killO st.H (some b)).set s (.live sz (es ++ xs)) } a w' A φ' := by
  have hm1 : off * sz + es.length * sz + xs.length * sz ≤ room * sz := by
    rw [← Nat.add_mul, ← Nat.add_mul]; exact Nat.mul_le_mul_right _ (by omega)
  have hcs := hlive.size
  have hvz := hvs.size
  obtain ⟨w', c', k1, k2, k3⟩ := run_storeCells (P := P) (n := n) (ty := tyc) vs.toList w c (base + off * sz + es.length * sz) 0 hlive.blk
    (by simp only [Array.length_toList]; omega) hone
  have l1 : ∀ (i : Nat) (e : List D), es[i]? = some e → e.length = sz := fun i e he => hlive.len _ _ (hget i e he)
  refine ⟨.slice (some ⟨n, base + off * sz, none⟩) (es.length + xs.length) ucap, w', _, ?_, ?_, hr.renew hG hp hs k2 (base + off * sz) ucap (es ++ xs) (by simpa using hroom) ?_ ?_ ?_ (by rw [hoff, hlive.b0]; simp)⟩
  · rw [app_fit (P := P) (w := w) (ty := ty) ht hi hzv ha hroom (by omega) h63 hby]
    simp only [add_none, hisz, k1, Result.andThen]
  · rw [List.length_append]
    refine .ms _ _ _ _ _ _ _ (Nat.le_refl _) hroom ?_
    rw [upd_same]
    exact ⟨by omega, .inr (by simp)⟩
  · rw [k3.size]
    have : off * sz + ucap * sz ≤ room * sz := by rw [← Nat.add_mul]; exact Nat.mul_le_mul_right _ h4
    omega
  · intro i e he
    rw [List.getElem?_append] at he
    split at he
    · exact l1 i e he
    · exact hvs.len _ e he
  · intro i e j d he hd
    rw [List.getElem?_append] at he
    split at he
    · rename_i hi'
      obtain ⟨y, hy, hv⟩ := hlive.val _ _ _ _ (hget i e he) hd
      refine ⟨y, ?_, hv⟩
      have hj : j < sz := by rw [← l1 i e he]; exact (List.getElem?_eq_some_iff.1 hd).1
      have hm2 : i * sz + sz ≤ es.length * sz := by rw [← Nat.succ_mul]; exact Nat.mul_le_mul_right _ hi'
      rw [k3.old _ (by omega), ← hy, Nat.add_mul]
      congr 1; omega
    · rename_i hi'
      obtain ⟨y, hy, hv⟩ := hvs.val _ e j d he hd
      refine ⟨y, ?_, hv⟩
      have hm3 : (i - es.length) * sz + es.length * sz = i * sz := by rw [← Nat.add_mul]; congr 1; omega
      have hlt : (i - es.length) * sz + j < vs.toList.length := by simpa using (Array.getElem?_eq_some_iff.1 hy).1
      have := k3.new _ hlt
      rw [show base + off * sz + es.length * sz + 0 + ((i - es.length) * sz + j) = base + off * sz + i * sz + j by omega] at this
      rw [this]; simpa using hy

theorem run_appendD (hG : Stab G) (hr : FRc G st a w A φ) (hs : st.H[s]? = some .free) (hsub : Sub Hm st.H) {t t' ty : TypeId} {x y : D} {u v : Value} (hx : V A w φ x u) (hy : V A w φ y v)
    {o : Option Nat} {sz : Nat} {es : List (List D)} (h : appendD P Hm t t' x y = some (o, sz, es)) :
    ∃ r w' φ', (Builtin.append_ #[t, t'] ty #[u, v]).run P w = .ok r w' ∧ V A w' φ' (.ms s 0 es.length es.length) r ∧
      FRc G { st with H := (DL.killO st.H o).set s (.live sz es) } a w' A φ' := by
  unfold appendD at h
  split at h
  · rename_i e sz' es0 he hes
    obtain ⟨ht, hts⟩ := elemT_ok he
    split at h
    · rename_i xs hxs
      split at h
      rotate_left
      · cases h
      rename_i hc
      obtain ⟨c1, c2, c3, c4, c5, c6, c7⟩ := hc
      obtain ⟨z, hz, hzl⟩ : ∃ z, zeroD P e = some z ∧ z.length = sz' := by
        cases hz : zeroD P e with
        | none => rw [hz] at c2; cases c2
        | some z => rw [hz] at c2; simp at c2; exact ⟨z, rfl, c2⟩
      simp only [zeroD, Option.map_eq_some_iff, Option.bind_eq_some_iff] at hz
      obtain ⟨zv, ⟨i, hi, hzv⟩, rfl⟩ := hz
      have hisz : i.size = sz' := by simp only [tsz, hi, Option.map_some, Option.some.injEq] at hts; exact hts
      have hby : P.bytesOf e = i.bytes := by simp [Program.bytesOf, hi]
      have hzs : zv.cells.size = sz' := by simpa using hzl
      rw [hby] at c6
      have l1 : ∀ (i : Nat) (e : List D), es0[i]? = some e → e.length = sz' := fun i e he => by
        rw [List.all_eq_true] at c3; simpa using c3 e (List.mem_of_getElem? he)
      have l2 : ∀ (i : Nat) (e : List D), xs[i]? = some e → e.length = sz' := fun i e he => by
        rw [List.all_eq_true] at c4; simpa using c4 e (List.mem_of_getElem? he)
      obtain ⟨ub, ucap, us, hu, hus, hul⟩ := elems_ok (P := P) hr.rh hsub hx hes l1
      obtain ⟨vs, hvs, ha⟩ : ∃ vs, RR A w φ sz' xs vs ∧ Added P t' i zv xs.length v vs w := by
        unfold addedD at hxs
        split at hxs
        · rename_i hu'
          obtain ⟨vb, vcap, vs, hv, hvs, hvl⟩ := elems_ok (P := P) hr.rh hsub hy hxs l2
          exact ⟨vs, hvs, .sl hu' hv (by rw [hisz]; exact hvl)⟩
        · rename_i hu'
          split at hxs
          · rename_i m
            split at hxs
            · rename_i hm
              simp only [zeroD, hi, hzv, Option.bind_some, Option.map_some, Option.some.injEq] at hxs
              subst hxs
              have hzr := zero_rows (A := A) (w := w) (φ := φ) (z := zv.cells.toList.map ofV) (x := zv) (by simp) (fun j d hd => by
                simp only [List.getElem?_map, Option.map_eq_some_iff] at hd
                obtain ⟨y, hy, rfl⟩ := hd
                exact ⟨y, by simpa using hy, .ofV y⟩) m.toNat
              refine ⟨_, by simpa [hzs] using hzr, .mk hu' (by rw [hy.v_inv]; simp; omega) ?_⟩
              simp [Builtin.zeroCells, hzs]
            · cases hxs
          · cases hxs
        · rename_i hu'
          split at hxs
          · rename_i s
            cases hxs
            have hsz1 : s.data.toList ≠ [] → sz' = 1 := fun hne => by
              cases hl : s.data.toList with
              | nil => exact absurd hl hne
              | cons b r => rw [hl] at l2; exact (l2 0 _ rfl).symm
            refine ⟨s.data.map fun b => .int .u8 b.toNat, ⟨?_, l2, fun i e j d he hd => ?_⟩, .str hu' hy.v_inv (by simp) rfl⟩
            · rw [Array.size_map, size_of, List.length_map, len_of]
              rcases Nat.eq_zero_or_pos s.size with h0 | h0
              · rw [h0, Nat.zero_mul]
              · rw [hsz1 (fun e => by have := len_of s; rw [e] at this; simp at this; omega), Nat.mul_one]
            · simp only [List.getElem?_map, Option.map_eq_some_iff] at he
              obtain ⟨b, hb, rfl⟩ := he
              have h1 := hsz1 (fun e => by rw [e] at hb; simp at hb)
              subst h1
              cases j with
              | succ j => simp at hd
              | zero =>
                simp only [List.getElem?_cons_zero, Option.some.injEq] at hd
                subst hd
                exact ⟨_, by rw [Nat.mul_one, Nat.add_zero, ← Array.getElem?_toList, Array.toList_map, List.getElem?_map, hb]; rfl, .v _ _⟩
          · cases hxs
        · cases hxs
      have hone := hvs.one c1 c5
      clear c3 c4 c5
      split at h
      · simp only [Option.some.injEq, Prod.mk.injEq] at h
        obtain ⟨rfl, rfl, rfl⟩ := h
        have he0 : es0 = [] := by simpa [elemsD] using hes.symm
        subst he0
        have hu0 : ucap = 0 := by
          cases hx with
          | nil _ a => simp only [Value.slice.injEq] at hu; exact hu.2.2.symm
        subst hu0
        subst hu
        rcases Nat.eq_zero_or_pos xs.length with hz | hz
        · have hx0 : xs = [] := List.eq_nil_of_length_eq_zero hz
          subst hx0
          exact none_ok hG hr hs ht hi hzv hisz c1 hvs ha (o := none) fun b hb => by cases hb
        · exact grow_ok hG hr hs ht hi hzv hisz hzs c1 hus hvs hul ha c6 c7 (o := none) (fun b hb => by cases hb) (by simpa using hz)
      · rename_i b off len cap
        split at h
        · rename_i hsz
          obtain ⟨hoff, hsz⟩ := hsz
          simp only [Option.some.injEq, Prod.mk.injEq] at h
          obtain ⟨rfl, rfl, rfl⟩ := h
          obtain ⟨fs, hbm⟩ : ∃ fs, Hm[b]? = some (.live sz' fs) := by
            unfold Blk.hasSz at hsz
            split at hsz
            · rename_i sz0 fs hb; simp only [beq_iff_eq] at hsz; subst hsz; exact ⟨fs, hb⟩
            · cases hsz
          have hbH := hsub _ _ _ hbm
          have hbl : b < st.H.length := (List.getElem?_eq_some_iff.1 hbH).1
          have hbs : b ≠ s := fun e => by subst e; rw [hbH] at hs; cases hs
          have ho : ∀ b', some b = some b' → b' < st.H.length ∧ b' ≠ s := fun b' hb' => by cases hb'; exact ⟨hbl, hbs⟩
          simp only [elemsD, hbm] at hes
          split at hes
          · have hes' : (fs.take (off + len)).drop off = es0 := by simpa using hes
            have hget : ∀ (i : Nat) (e : List D), es0[i]? = some e → fs[off + i]? = some e := fun i e he => by
              rw [← hes', List.getElem?_drop, List.getElem?_take] at he
              split at he
              · exact he
              · cases he
            have h3 : (φ b).msOk off ucap ub := by
              cases hx with
              | ms _ _ _ _ _ cap' a' h1 h2 h3 =>
                simp only [Value.slice.injEq] at hu
                obtain ⟨rfl, _, rfl⟩ := hu
                exact h3
            subst hu
            rcases Nat.lt_or_ge ucap (es0.length + xs.length) with hg | hroom
            · exact grow_ok hG hr hs ht hi hzv hisz hzs c1 hus hvs hul ha c6 c7 ho hg
            · rcases Nat.eq_zero_or_pos ucap with hz | hz
              · have hx0 : xs = [] := List.eq_nil_of_length_eq_zero (by omega)
                have he0 : es0 = [] := List.eq_nil_of_length_eq_zero (by omega)
                subst hx0; subst he0; subst hz
                exact none_ok hG hr hs ht hi hzv hisz c1 hvs ha ho
              · rcases hr.rh.live b sz' fs hbH with ⟨rfl, hp⟩ | ⟨n, base, room, c, tyc, hp, hlive⟩
                · rw [hp] at h3; exact absurd (show ucap = 0 from h3) (by omega)
                · rw [hp] at h3
                  obtain ⟨h4, h5⟩ := h3
                  have hub : ub = some ⟨n, base + off * sz', none⟩ := h5.resolve_left (by omega)
                  subst hub
                  exact fit_ok hG hr hs ht hi hzv hisz c1 hvs hone ha c7 c6 hp hlive hget h4 hroom hoff
          · cases hes
        · cases h
      · cases h
    · cases h
  · cases h
/-- It fits, and what lies behind stays. -/
theorem fitC_ok (hG : Stab G) (hr : FRc G st a w A φ) (hs : st.H[s]? = some .free) {t t' ty e : TypeId} {i : TypeInfo} {zv v : Value} {ucap sz cap : Nat} {vs : Array Value} {es fs xs ys : List (List D)}
    (ht : P.underlying t = some (.slice e)) (hi : P.info? e = some i) (hzv : i.zero = some zv) (hisz : i.size = sz) (hsz : 0 < sz)
    (hvs : RR A w φ sz xs vs) (hone : ∀ y ∈ vs.toList, y.oneCell' = true)
    (ha : Added P t' i zv xs.length v vs w) (h63 : es.length + xs.length ≤ 9223372036854775807) (hby : (es.length + xs.length) * i.bytes ≤ 140737488355328)
    {b off n base room : Nat} {c : Array Value} {tyc : TypeId} (hp : φ b = .loc n base sz room) (hlive : LiveAt A w φ n base room sz c tyc fs)
    (hget : ∀ (i : Nat) (e : List D), es[i]? = some e → fs[off + i]? = some e) (h4 : off + ucap ≤ room) (hroom : es.length + xs.length ≤ cap) (hcap : cap ≤ ucap)
    (hys : ∀ (i : Nat) (e : List D), ys[i]? = some e → fs[off + (es.length + xs.length) + i]? = some e) (hyl : es.length + xs.length + ys.length ≤ cap) (hoff : off = 0) :
    ∃ r w' φ', (Builtin.append_ #[t, t'] ty #[.slice (some ⟨n, base + off * sz, none⟩) es.length ucap, v]).run P w = .ok r w' ∧ V A w' φ' (.ms s 0 (es.length + xs.length) cap) r ∧
      FRc G { st with H := (DL.killO st.H (some b)).set s (.live sz (es ++ xs ++ ys)) } a w' A φ' := by
  have hm1 : off * sz + es.length * sz + xs.length * sz ≤ room * sz := by
    rw [← Nat.add_mul, ← Nat.add_mul]; exact Nat.mul_le_mul_right _ (by omega)
  have hcs := hlive.size
  have hvz := hvs.size
  obtain ⟨w', c', k1, k2, k3⟩ := run_storeCells (P := P) (n := n) (ty := tyc) vs.toList w c (base + off * sz + es.length * sz) 0 hlive.blk
    (by simp only [Array.length_toList]; omega) hone
  have l1 : ∀ (i : Nat) (e : List D), es[i]? = some e → e.length = sz := fun i e he => hlive.len _ _ (hget i e he)
  refine ⟨.slice (some ⟨n, base + off * sz, none⟩) (es.length + xs.length) ucap, w', _, ?_, ?_, hr.renew hG hp hs k2 (base + off * sz) ucap (es ++ xs ++ ys) (by simp only [List.length_append]; omega) ?_ ?_ ?_ (by rw [hoff, hlive.b0]; simp)⟩
  · rw [app_fit (P := P) (w := w) (ty := ty) ht hi hzv ha (by omega) (by omega) h63 hby]
    simp only [add_none, hisz, k1, Result.andThen]
  · refine .ms _ _ _ _ _ _ _ hroom hcap ?_
    rw [upd_same]
    exact ⟨by omega, .inr (by simp)⟩
  · rw [k3.size]
    have : off * sz + ucap * sz ≤ room * sz := by rw [← Nat.add_mul]; exact Nat.mul_le_mul_right _ h4
    omega
  · intro i e he
    rw [List.getElem?_append] at he
    split at he
    · rw [List.getElem?_append] at he
      split at he
      · exact l1 i e he
      · exact hvs.len _ e he
    · exact hlive.len _ _ (hys _ e he)
  · intro i e j d he hd
    rw [List.getElem?_append] at he
    split at he
    · rw [List.getElem?_append] at he
      split at he
      · rename_i hi'
        obtain ⟨y, hy, hv⟩ := hlive.val _ _ _ _ (hget i e he) hd
        refine ⟨y, ?_, hv⟩
        have hj : j < sz := by rw [← l1 i e he]; exact (List.getElem?_eq_some_iff.1 hd).1
        have hm2 : i * sz + sz ≤ es.length * sz := by rw [← Nat.succ_mul]; exact Nat.mul_le_mul_right _ hi'
        rw [k3.old _ (by omega), ← hy, Nat.add_mul]
        congr 1; omega
      · rename_i hi'
        obtain ⟨y, hy, hv⟩ := hvs.val _ e j d he hd
        refine ⟨y, ?_, hv⟩
        have hm3 : (i - es.length) * sz + es.length * sz = i * sz := by rw [← Nat.add_mul]; congr 1; omega
        have hlt : (i - es.length) * sz + j < vs.toList.length := by simpa using (Array.getElem?_eq_some_iff.1 hy).1
        have := k3.new _ hlt
        rw [show base + off * sz + es.length * sz + 0 + ((i - es.length) * sz + j) = base + off * sz + i * sz + j by omega] at this
        rw [this]; simpa using hy
    · rename_i hi'
      simp only [List.length_append] at hi' he
      have hyi := hys _ e he
      obtain ⟨y, hy, hv⟩ := hlive.val _ _ _ _ hyi hd
      refine ⟨y, ?_, hv⟩
      have e1 : off + (es.length + xs.length) + (i - (es.length + xs.length)) = off + i := by omega
      rw [e1] at hy
      have hm4 : es.length * sz + xs.length * sz ≤ i * sz := by rw [← Nat.add_mul]; exact Nat.mul_le_mul_right _ (by omega)
      rw [k3.old _ (.inr (by simp only [Array.length_toList]; omega)), ← hy, Nat.add_mul]
      congr 1; omega

theorem run_appendC (hG : Stab G) (hr : FRc G st a w A φ) (hs : st.H[s]? = some .free) (hsub : Sub Hm st.H) {t t' ty : TypeId} {x y : D} {u v : Value} (hx : V A w φ x u) (hy : V A w φ y v)
    {b sz m cap : Nat} {es : List (List D)} (h : appendC P Hm t t' x y = some (b, sz, m, cap, es)) :
    ∃ r w' φ', (Builtin.append_ #[t, t'] ty #[u, v]).run P w = .ok r w' ∧ V A w' φ' (.ms s 0 m cap) r ∧
      FRc G { st with H := (DL.killO st.H (some b)).set s (.live sz es) } a w' A φ' := by
  unfold appendC at h
  split at h
  rotate_left
  · cases h
  rename_i e sz' e' b' off len cap' he hu'
  obtain ⟨ht, hts⟩ := elemT_ok he
  split at h
  rotate_left
  · cases h
  rename_i es0 xs szb fs hes hxs hbm
  split at h
  rotate_left
  · cases h
  rename_i hc
  obtain ⟨c0, c1, c2, c3, c4, c5, c6, c7, c8, c9, hoff⟩ := hc
  simp only [Option.some.injEq, Prod.mk.injEq] at h
  obtain ⟨rfl, rfl, rfl, rfl, rfl⟩ := h
  subst c0
  obtain ⟨z, hz, hzl⟩ : ∃ z, zeroD P e = some z ∧ z.length = szb := by
    cases hz : zeroD P e with
    | none => rw [hz] at c2; cases c2
    | some z => rw [hz] at c2; simp at c2; exact ⟨z, rfl, c2⟩
  simp only [zeroD, Option.map_eq_some_iff, Option.bind_eq_some_iff] at hz
  obtain ⟨zv, ⟨i, hi, hzv⟩, rfl⟩ := hz
  have hisz : i.size = szb := by simp only [tsz, hi, Option.map_some, Option.some.injEq] at hts; exact hts
  have hby : P.bytesOf e = i.bytes := by simp [Program.bytesOf, hi]
  rw [hby] at c6
  have l1 : ∀ (i : Nat) (e : List D), es0[i]? = some e → e.length = szb := fun i e he => by
    rw [List.all_eq_true] at c3; simpa using c3 e (List.mem_of_getElem? he)
  have l2 : ∀ (i : Nat) (e : List D), xs[i]? = some e → e.length = szb := fun i e he => by
    rw [List.all_eq_true] at c4; simpa using c4 e (List.mem_of_getElem? he)
  obtain ⟨ub, ucap, us, hu, hus, hul⟩ := elems_ok (P := P) hr.rh hsub hx hes l1
  obtain ⟨vb, vcap, vs, hv, hvs, hvl⟩ := elems_ok (P := P) hr.rh hsub hy hxs l2
  have ha : Added P t' i zv xs.length v vs w := .sl hu' hv (by rw [hisz]; exact hvl)
  have hone := hvs.one c1 c5
  have hbH := hsub _ _ _ hbm
  simp only [elemsD, hbm] at hes
  split at hes
  rotate_left
  · cases hes
  have hes' : (fs.take (off + len)).drop off = es0 := by simpa using hes
  have hget : ∀ (i : Nat) (e : List D), es0[i]? = some e → fs[off + i]? = some e := fun i e he => by
    rw [← hes', List.getElem?_drop, List.getElem?_take] at he
    split at he
    · exact he
    · cases he
  have h3 : (φ b').msOk off ucap ub ∧ cap' ≤ ucap := by
    cases hx with
    | ms _ _ _ _ _ cap' a' h1 h2 h3 =>
      simp only [Value.slice.injEq] at hu
      obtain ⟨rfl, _, rfl⟩ := hu
      exact ⟨h3, h2⟩
  subst hu
  obtain ⟨h3, hcc⟩ := h3
  rcases hr.rh.live b' szb fs hbH with ⟨rfl, hp⟩ | ⟨n, base, room, c, tyc, hp, hlive⟩
  · rw [hp] at h3; exact absurd (show ucap = 0 from h3) (by omega)
  · rw [hp] at h3
    obtain ⟨h4, h5⟩ := h3
    have hub : ub = some ⟨n, base + off * szb, none⟩ := h5.resolve_left (by omega)
    subst hub
    exact fitC_ok hG hr hs ht hi hzv hisz c1 hvs hone ha c7 c6 hp hlive hget h4 c8 hcc (fun i e he => by
      rw [List.getElem?_drop, List.getElem?_take] at he
      split at he
      · exact he
      · cases he) (by simp only [List.length_drop, List.length_take]; omega) hoff
end
end
end
end Go.DL

/- Maps of one's own: a look, a write, an entry, at the level of what own blocks hold. -/
namespace Go.DL
open Go.RowKit

noncomputable section
set_option linter.unusedSectionVars false
variable [Tabs]

/-- The kinds of keys that are compared at once. -/
def keyKind : TypeDesc → Bool
  | .int _ => true
  | .string => true
  | .bool => true
  | _ => false

/-- A type of maps: how keys are compared, and the type of what they lead to. -/
def mapT (P : Program) (t : TypeId) : Option (TypeDesc × TypeId) := match P.underlying t with
  | some (.map k e) => match P.underlying k with
    | some q => if keyKind q = true then some (q, e) else none
    | none => none
  | _ => none

def tabFind (q : TypeDesc) (k : Value) : List (Value × D × Nat) → Nat → Option (Option (Nat × D))
  | [], _ => some none
  | e :: es, i => match Instr.sameNow q k e.1 with
    | some true => some (some (i, e.2.1))
    | some false => tabFind q k es (i + 1)
    | none => none

/-- A value as an abstract one: no slice reads as an empty one, a struct cell by cell. -/
def ofVA : Value → D
  | .agg vs => .agg (vs.toList.map ofV)
  | x => ofV x
def zvD (P : Program) (e : TypeId) : Option D := ((P.info? e).bind (·.zero)).map ofVA

def lookupD (P : Program) (H : List Blk) (t : TypeId) (x i : D) (ok : Bool) : Option D := match mapT P t, x, i with
  | some (q, e), .mm b, .v k => match H[b]? with
    | some (.tab _ es) => match tabFind q k es 0 with
      | some (some (_, d)) => some (bif ok then .tup [d, .v (.bool true)] else d)
      | some none => (zvD P e).map fun z => bif ok then .tup [z, .v (.bool false)] else z
      | none => none
    | _ => none
  | _, _, _ => none

def mapUpdD (P : Program) (H : List Blk) (t : TypeId) (m k v : D) : Option (Nat × Blk) := match mapT P t, m, k with
  | some (q, _), .mm b, .v k => match H[b]? with
    | some (.tab c es) => match tabFind q k es 0 with
      | some (some (i, _)) => some (b, .tab c (es.modify i fun e => (k, v, e.2.2)))
      | some none => some (b, .tab (c + 1) (es ++ [(k, v, c)]))
      | none => none
    | _ => none
  | _, _, _ => none

def mapEntD (P : Program) (H : List Blk) (t : TypeId) (m k : D) : Option (D × Nat × Blk) := match mapT P t, m, k with
  | some (q, e), .mm b, .v k => match H[b]? with
    | some (.tab c es) => match tabFind q k es 0 with
      | some (some (i, d)) => some (.tup [d, .v (.int .i64 (((es[i]?).map (·.2.2)).getD 0))], b, .tab c (es.modify i fun e => (k, e.2)))
      | some none => (zvD P e).map fun z => (.tup [z, .v (.int .i64 c)], b, .tab (c + 1) (es ++ [(k, z, c)]))
      | none => none
    | _ => none
  | _, _, _ => none

def entStD (H : List Blk) (m s v : D) : Option (Nat × Blk) := match m, s with
  | .mm b, .v (.int _ n) => match H[b]? with
    | some (.tab c es) => match es.findIdx? (fun e => ((e.2.2 : Nat) : Int) == n) with
      | some i => some (b, .tab c (es.modify i fun e => (e.1, v, e.2.2)))
      | none => none
    | _ => none
  | _, _ => none

section
variable {P : Program} {A : Rd} {w : World} {φ : Nat → Loc} {H Hm : List Blk}

/-- The maps among part of the own blocks. -/
def SubT (Hm H : List Blk) : Prop := ∀ (b c : Nat) (es : List (Value × D × Nat)), Hm[b]? = some (.tab c es) → H[b]? = some (.tab c es)
theorem SubT.refl (H : List Blk) : SubT H H := fun _ _ _ h => h

theorem V.ofVA (x : Value) : V A w φ (ofVA x) x := by
  cases x with
  | agg vs =>
    refine .agg _ _ _ (by simp) fun i d u h1 h2 => ?_
    simp only [List.getElem?_map, Option.map_eq_some_iff] at h1
    obtain ⟨y, h1, rfl⟩ := h1
    have : y = u := by
      have h3 : vs[i]? = some y := by simpa using h1
      rw [h3] at h2; exact Option.some.inj h2
    subst this; exact .ofV y
  | _ => unfold DL.ofVA; exact .ofV _

theorem run_zvD {e : TypeId} {z : D} (h : zvD P e = some z) : ∃ x, (∀ w : World, (zeroValue e).run P w = .ok x w) ∧ V A w φ z x := by
  simp only [zvD, Option.map_eq_some_iff, Option.bind_eq_some_iff] at h
  obtain ⟨x, ⟨i, hi, hx⟩, rfl⟩ := h
  exact ⟨x, fun w => by simp [zeroValue, run_typeInfo hi, hx], .ofVA x⟩

theorem mapT_ok {t : TypeId} {q : TypeDesc} {e : TypeId} (h : mapT P t = some (q, e)) : ∃ k, P.underlying t = some (.map k e) ∧ P.underlying k = some q ∧ keyKind q = true := by
  unfold mapT at h
  split at h
  · rename_i k e' hu
    split at h
    · rename_i q' hq
      split at h
      · rename_i hk; cases h; exact ⟨k, hu, hq, hk⟩
      · cases h
    · cases h
  · cases h

theorem run_checkKey {b : Bool} {n : Nat} {k : TypeId} {q : TypeDesc} (h : P.underlying k = some q) (hq : keyKind q = true) (v : Value) : (Instr.checkKey b (n + 1) k v).run P w = .ok () w := by
  unfold Instr.checkKey
  cases q <;> simp only [keyKind, Bool.false_eq_true] at hq <;> simp [run_underlying h]

theorem find_ok {n clk : Nat} {es : List (Value × D × Nat)} {ms : Array MapEntry} (hT : TabAt A w φ n clk es ms) {q : TypeDesc} {k : Value} :
    ∀ (m i : Nat) (r : Option (Nat × D)), i + m = es.length → tabFind q k (es.drop i) i = some r →
      (r = none ∧ Instr.findNow q k (ms.toList.drop i) i = some none) ∨
      (∃ j d e k' b, r = some (j, d) ∧ es[j]? = some (k', d, b) ∧ ms[j]? = some e ∧ Instr.sameNow q k e.key = some true ∧ Instr.findNow q k (ms.toList.drop i) i = some (some (j, e.val))) := by
  intro m
  induction m with
  | zero =>
    intro i r hi h
    rw [List.drop_eq_nil_of_le (by omega)] at h
    cases h
    rw [List.drop_eq_nil_of_le (by simp [hT.len]; omega)]
    exact .inl ⟨rfl, rfl⟩
  | succ m ih =>
    intro i r hi h
    have hlt : i < es.length := by omega
    have hlt' : i < ms.size := by rw [hT.len]; exact hlt
    rw [List.drop_eq_getElem_cons hlt] at h
    have e2 : ms.toList.drop i = ms[i] :: ms.toList.drop (i + 1) := by
      rw [List.drop_eq_getElem_cons (by simpa using hlt')]; simp
    obtain ⟨h1, h2, h3⟩ := hT.ent i es[i].1 es[i].2.1 es[i].2.2 ms[i] (List.getElem?_eq_getElem hlt) (Array.getElem?_eq_getElem hlt')
    rw [e2]
    unfold tabFind at h
    unfold Instr.findNow
    rw [h1]
    cases hs : Instr.sameNow q k es[i].1 with
    | none => rw [hs] at h; cases h
    | some x =>
      rw [hs] at h
      cases x with
      | true =>
        cases h
        exact .inr ⟨i, es[i].2.1, ms[i], es[i].1, es[i].2.2, rfl, List.getElem?_eq_getElem hlt, Array.getElem?_eq_getElem hlt', by rw [h1]; exact hs, rfl⟩
      | false => exact ih (i + 1) r (by omega) h

theorem run_findKey {n clk : Nat} {es : List (Value × D × Nat)} {ms : Array MapEntry} (hT : TabAt A w φ n clk es ms) {kt : TypeId} {q : TypeDesc} (hu : P.underlying kt = some q) {k : Value} {r : Option (Nat × D)}
    (h : tabFind q k es 0 = some r) :
    (r = none ∧ (Instr.findKey kt k ms.toList).run P w = .ok none w) ∨
    (∃ j d e k' b, r = some (j, d) ∧ es[j]? = some (k', d, b) ∧ ms[j]? = some e ∧ Instr.sameNow q k e.key = some true ∧ (Instr.findKey kt k ms.toList).run P w = .ok (some (j, e.val)) w) := by
  rcases find_ok hT es.length 0 r (by omega) (by simpa using h) with ⟨h1, h2⟩ | ⟨j, d, e, k', b, h1, h2, h3, h4, h5⟩
  · refine .inl ⟨h1, ?_⟩
    simp only [List.drop_zero] at h2
    simp [Instr.findKey, run_underlying hu, h2]
  · refine .inr ⟨j, d, e, k', b, h1, h2, h3, h4, ?_⟩
    simp only [List.drop_zero] at h5
    simp [Instr.findKey, run_underlying hu, h5]

theorem mm_at (hr : RH A φ w H) {b r c : Nat} {es : List (Value × D × Nat)} (h : (φ b).mmOk r) (hb : H[b]? = some (.tab c es)) : ∃ ms, φ b = .loc r 0 0 0 ∧ TabAt A w φ r c es ms := by
  obtain ⟨n, ms, h1, h2⟩ := hr.tab b c es hb
  rw [h1] at h
  cases h
  exact ⟨ms, h1, h2⟩

theorem getObj_tab {r c : Nat} {ms : Array MapEntry} (h : w.heap[r]? = some (.map ms c)) : (getObj r).run P w = .ok (.map ms c) w := by simp [getObj, Sem.run, h]

theorem run_lookupD (hr : RH A φ w H) (hs : SubT Hm H) {t : TypeId} {x i d : D} {u v : Value} {ok : Bool} (hx : V A w φ x u) (hi : V A w φ i v) (h : lookupD P Hm t x i ok = some d) :
    ∃ r, (Instr.lookup t u v ok).run P w = .ok r w ∧ V A w φ d r := by
  unfold lookupD at h
  split at h
  · rename_i q e b k hq
    obtain ⟨kt, hu, hk, hkk⟩ := mapT_ok hq
    have hv := hi.v_inv
    subst hv
    cases hx with
    | mm _ _ r hφ =>
      split at h
      · rename_i c es hb
        obtain ⟨ms, h1, hT⟩ := mm_at hr hφ (hs _ _ _ hb)
        have g := getObj_tab (P := P) hT.blk
        split at h
        · rename_i j d' hf
          cases h
          rcases run_findKey (P := P) hT hk hf with ⟨h2, _⟩ | ⟨j', d2, e2, k', b', h2, h3, h4, _, h5⟩
          · cases h2
          · cases h2
            have hv := (hT.ent _ _ _ _ _ h3 h4).2.2
            refine ⟨bif ok then .tuple #[e2.val, .bool true] else e2.val, ?_, ?_⟩
            · simp only [Instr.lookup, Sem.run_bind, run_underlying hu, Result.andThen, g, Sem.run_pure, run_checkKey hk hkk, h5]
              cases ok <;> simp
            · cases ok
              · exact hv
              · refine .tup _ _ _ rfl fun i d u g1 g2 => ?_
                match i, g1, g2 with
                | 0, g1, g2 => cases g1; cases g2; exact hv
                | 1, g1, g2 => cases g1; cases g2; exact .v _ _
        · rename_i hf
          simp only [Option.map_eq_some_iff] at h
          obtain ⟨z, hz, rfl⟩ := h
          obtain ⟨x, hx1, hx2⟩ := run_zvD (A := A) (w := w) (φ := φ) hz
          rcases run_findKey (P := P) hT hk hf with ⟨_, h5⟩ | ⟨j', d2, e2, k', b', h2, _⟩
          · refine ⟨bif ok then .tuple #[x, .bool false] else x, ?_, ?_⟩
            · simp only [Instr.lookup, Sem.run_bind, run_underlying hu, Result.andThen, g, Sem.run_pure, run_checkKey hk hkk, h5, hx1]
              cases ok <;> simp
            · cases ok
              · exact hx2
              · refine .tup _ _ _ rfl fun i d u g1 g2 => ?_
                match i, g1, g2 with
                | 0, g1, g2 => cases g1; cases g2; exact hx2
                | 1, g1, g2 => cases g1; cases g2; exact .v _ _
          · cases h2
        · cases h
      · cases h
  · cases h

/-- A world in which one map reads otherwise. -/
theorem ba_eq {a b : ByteArray} (h : (a == b) = true) : a = b := by
  have h1 : a.data == b.data := h
  cases a; cases b
  simp at h1
  rw [h1]

theorem same_bits {q : TypeDesc} {k k' : Value} (h : Instr.sameNow q k k' = some true) (n : Nat) : Instr.sameBits n k' k = true := by
  unfold Instr.sameNow at h
  split at h
  · split at h
    · rename_i hk
      simp only [Option.some.injEq, beq_iff_eq] at h
      subst hk; subst h
      cases n <;> simp [Instr.sameBits]
    · cases h
  · rename_i a b
    have e : a = b := ba_eq (Option.some.inj h)
    subst e
    cases n <;> exact Option.some.inj h
  all_goals first | (cases h; done) | (simp only [Option.some.injEq, beq_iff_eq] at h; subst h; cases n <;> simp [Instr.sameBits])

end

section
variable {P : Program} {G : Gh} (hG : Stab G) {st : St} {a : Act} {w w' : World} {A : Rd} {φ : Nat → Loc} {Hm : List Blk}

def putO (w : World) (r : Nat) (o : Obj) : World := { w with heap := w.heap.setIfInBounds r o }

/-- A new map. -/
theorem FRc.newT (hG : Stab G) (h : FRc G st a w A φ) {s : Nat} (hs : st.H[s]? = some .free) :
    FRc G { st with H := st.H.set s (.tab 0 []) } a (w.alloc (.map #[] 0)) A (upd φ s (.loc w.heap.size 0 0 0)) := by
  have hlt : s < st.H.length := (List.getElem?_eq_some_iff.1 hs).1
  have hf : φ s = .free := h.rh.free s hs
  have hle : (φ s).le (.loc w.heap.size 0 0 0) := .inl hf
  have hsame : ∀ m, A m → (w.alloc (.map #[] 0)).heap[m]? = w.heap[m]? := fun m hm => heap_alloc_lt w _ (h.rh.lt m hm)
  refine h.step hG (h.rh.lay hlt (l := .loc w.heap.size 0 0 0) hle hsame (fun _ x => x) (fun _ x => .inl x)
    (fun b n base sz' room' _ e => heap_alloc_lt w _ (h.rh.olt n ⟨b, _, _, _, e⟩)) (by simp) ⟨by simp, by simp, fun _ _ e => by cases e⟩ ?_ ?_) ?_ (fun _ x => x) (fun _ x => .inl x) (upd_le hle)
  · intro clk es e
    cases e
    exact ⟨_, #[], rfl, heap_alloc_new w _, rfl, fun i k d b e h1 _ => by simp at h1⟩
  · intro n base sz' room' e
    cases e
    exact ⟨by simp, fun x => Nat.lt_irrefl _ (h.rh.lt _ x), fun b base sz' room' _ e => Nat.lt_irrefl _ (h.rh.olt _ ⟨b, _, _, _, e⟩), h.rh.bsz⟩
  · refine ext_alloc w _ _ fun n hn => ?_
    rcases own_upd hn with ⟨_, _, _, e⟩ | ⟨b, base, sz', room', _, e⟩
    · cases e; exact .inr rfl
    · exact .inl ⟨b, _, _, _, e⟩

/-- An own map is written. -/
theorem FRc.retab (hG : Stab G) (h : FRc G st a w A φ) {b n : Nat} (hb : φ b = .loc n 0 0 0) (hlt : b < st.H.length) {ms' : Array MapEntry} {c' : Nat} (es' : List (Value × D × Nat)) (hl : ms'.size = es'.length)
    (hv : ∀ (i : Nat) (k : Value) (d : D) (b : Nat) (e : MapEntry), es'[i]? = some (k, d, b) → ms'[i]? = some e → e.key = k ∧ e.born = b ∧ V A w φ d e.val) :
    FRc G { st with H := st.H.set b (.tab c' es') } a (putO w n (.map ms' c')) A φ := by
  have hown : own φ n := ⟨b, _, _, _, hb⟩
  have hn : n < w.heap.size := h.rh.olt n hown
  have hne : ∀ m, m ≠ n → (putO w n (.map ms' c')).heap[m]? = w.heap[m]? := fun m hm => by
    simp only [putO, Array.getElem?_setIfInBounds]
    rw [if_neg (Ne.symm hm)]
  have hsz : (putO w n (.map ms' c')).heap.size = w.heap.size := by simp [putO]
  have hat : (putO w n (.map ms' c')).heap[n]? = some (.map ms' c') := by
    simp [putO, hn]
  have hsame : ∀ m, A m → (putO w n (.map ms' c')).heap[m]? = w.heap[m]? := fun m hm => hne m fun e => h.rh.dis n hown (e ▸ hm)
  have hup : upd φ b (.loc n 0 0 0) = φ := by funext x; by_cases e : x = b <;> simp [upd, e, hb]
  have hlay := h.rh.lay (A' := A) (w' := putO w n (.map ms' c')) hlt (l := .loc n 0 0 0) (x := .tab c' es') (by rw [hb]; exact Loc.le_refl _) hsame (fun _ x => x) (fun _ x => .inl x)
    (fun b' m base' sz' room' hne' e => hne m fun e' => hne' (h.rh.inj b' b n base' sz' room' 0 0 0 (e' ▸ e) hb)) (by rw [hsz]; exact Nat.le_refl _)
    ⟨by simp, by simp, fun _ _ e => by cases e⟩
    (fun clk es e => by
      cases e
      exact ⟨n, ms', rfl, hat, hl, fun i k d q e h1 h2 => let ⟨k1, k2, k3⟩ := hv i k d q e h1 h2; ⟨k1, k2, k3.mono (fun _ x => x) hsame (by rw [hup]; exact fun _ => Loc.le_refl _)⟩⟩)
    (fun m base' sz' room' e => by
      cases e
      exact ⟨by rw [hsz]; exact hn, h.rh.dis n hown, fun b' base' sz' room' hne' e => hne' (h.rh.inj b' b n base' sz' room' 0 0 0 e hb), h.rh.ofr n hown⟩)
  rw [hup] at hlay
  exact h.step hG hlay ⟨rfl, rfl, rfl, by rw [hsz]; exact Nat.le_refl _, fun m _ hm => hne m fun e => hm (e ▸ hown), fun m hm => .inl hm⟩ (fun _ x => x) (fun _ x => .inl x) fun _ => Loc.le_refl _

theorem setObj_tab {r c c' : Nat} {ms ms' : Array MapEntry} (h : w.heap[r]? = some (.map ms c)) : (setObj r (.map ms' c')).run P w = .ok () (putO w r (.map ms' c')) := by
  simp [setObj, Sem.run, h, putO]

theorem ent_modify {n clk : Nat} {es : List (Value × D × Nat)} {ms : Array MapEntry} (hT : TabAt A w φ n clk es ms) {j : Nat} {f : Value × D × Nat → Value × D × Nat} {g : MapEntry → MapEntry}
    (hfg : ∀ x e, es[j]? = some x → ms[j]? = some e → (g e).key = (f x).1 ∧ (g e).born = (f x).2.2 ∧ V A w φ (f x).2.1 (g e).val) :
    (ms.modify j g).size = (es.modify j f).length ∧ ∀ (i : Nat) (k : Value) (d : D) (b : Nat) (e : MapEntry), (es.modify j f)[i]? = some (k, d, b) → (ms.modify j g)[i]? = some e → e.key = k ∧ e.born = b ∧ V A w φ d e.val := by
  refine ⟨by simp [hT.len], fun i k d b e h1 h2 => ?_⟩
  rw [List.getElem?_modify] at h1
  rw [Array.getElem?_modify] at h2
  by_cases hj : j = i
  · subst hj
    simp only [if_true, Option.map_eq_map, Option.map_eq_some_iff] at h1 h2
    obtain ⟨x, h1, hx⟩ := h1
    obtain ⟨e0, h2, rfl⟩ := h2
    have := hfg x e0 h1 h2
    rw [hx] at this
    exact this
  · simp only [hj, if_false, Option.map_eq_map, Option.map_id_fun', id] at h1 h2
    have h1' : es[i]? = some (k, d, b) := by simpa using h1
    have h2' : ms[i]? = some e := by simpa using h2
    exact hT.ent i k d b e h1' h2'

theorem ent_push {n clk : Nat} {es : List (Value × D × Nat)} {ms : Array MapEntry} (hT : TabAt A w φ n clk es ms) {k : Value} {d : D} {v : Value} (hv : V A w φ d v) :
    (ms.push { key := k, val := v, born := clk }).size = (es ++ [(k, d, clk)]).length ∧ ∀ (i : Nat) (k' : Value) (d' : D) (b : Nat) (e : MapEntry), (es ++ [(k, d, clk)])[i]? = some (k', d', b) → (ms.push { key := k, val := v, born := clk })[i]? = some e → e.key = k' ∧ e.born = b ∧ V A w φ d' e.val := by
  refine ⟨by simp [hT.len], fun i k' d' b e h1 h2 => ?_⟩
  rcases Nat.lt_trichotomy i es.length with hi | hi | hi
  · rw [List.getElem?_append_left hi] at h1
    rw [Array.getElem?_push, if_neg (by rw [hT.len]; omega)] at h2
    exact hT.ent i k' d' b e h1 h2
  · subst hi
    rw [List.getElem?_append_right (Nat.le_refl _)] at h1
    rw [Array.getElem?_push, if_pos hT.len.symm] at h2
    simp at h1
    obtain ⟨rfl, rfl, rfl⟩ := h1
    cases h2
    exact ⟨rfl, rfl, hv⟩
  · rw [List.getElem?_eq_none (by simp; omega)] at h1; cases h1

theorem run_keyStays {old new : Value} (h : Instr.sameBits 10000 old new = true) : (Instr.keyThatStays old new).run P w = .ok new w := by
  simp [Instr.keyThatStays, h]

theorem run_mapUpdD (hG : Stab G) (hr : FRc G st a w A φ) (hs : SubT Hm st.H) {t : TypeId} {m k v : D} {um uk uv : Value} {b : Nat} {x : Blk} (hm : V A w φ m um) (hk : V A w φ k uk) (hv : V A w φ v uv) (h : mapUpdD P Hm t m k v = some (b, x)) :
    ∃ w', (Instr.mapUpdate t um uk uv).run P w = .ok () w' ∧ FRc G { st with H := st.H.set b x } a w' A φ := by
  unfold mapUpdD at h
  split at h
  · rename_i q e b' k' hq
    obtain ⟨kt, hu, hkt, hkk⟩ := mapT_ok hq
    have hv1 := hk.v_inv
    subst hv1
    cases hm with
    | mm _ _ r hφ =>
      split at h
      · rename_i c es hb
        have hb' := hs _ _ _ hb
        have hlt : b' < st.H.length := (List.getElem?_eq_some_iff.1 hb').1
        obtain ⟨ms, h1, hT⟩ := mm_at hr.rh hφ hb'
        have g := getObj_tab (P := P) hT.blk
        split at h
        · rename_i j d' hf
          cases h
          rcases run_findKey (P := P) hT hkt hf with ⟨h2, _⟩ | ⟨j', d2, e2, k2, b2, h2, h3, h4, h6, h5⟩
          · cases h2
          · cases h2
            obtain ⟨q1, q2⟩ := ent_modify hT (j := j) (f := fun e => (uk, v, e.2.2)) (g := fun e => { e with key := uk, val := uv }) fun x e hx he => by
              obtain ⟨x1, x2, x3⟩ := x
              exact ⟨rfl, (hT.ent _ _ _ _ _ hx he).2.1, hv⟩
            refine ⟨_, ?_, hr.retab hG h1 hlt _ q1 q2⟩
            simp only [Instr.mapUpdate, Sem.run_bind, run_underlying hu, Result.andThen, g, run_checkKey hkt hkk, h5, h4, Option.map_some, Option.getD_some, run_keyStays (same_bits h6 10000), setObj_tab hT.blk]
        · rename_i hf
          cases h
          rcases run_findKey (P := P) hT hkt hf with ⟨_, h5⟩ | ⟨j', d2, e2, k2, b2, h2, _⟩
          · obtain ⟨q1, q2⟩ := ent_push hT (k := uk) hv
            refine ⟨_, ?_, hr.retab hG h1 hlt _ q1 q2⟩
            simp only [Instr.mapUpdate, Sem.run_bind, run_underlying hu, Result.andThen, g, run_checkKey hkt hkk, h5, setObj_tab hT.blk]
          · cases h2
        · cases h
      · cases h
  · cases h

theorem run_mapEntD (hG : Stab G) (hr : FRc G st a w A φ) (hs : SubT Hm st.H) {t : TypeId} {m k d : D} {um uk : Value} {b : Nat} {x : Blk} (hm : V A w φ m um) (hk : V A w φ k uk) (h : mapEntD P Hm t m k = some (d, b, x)) :
    ∃ r w', (Instr.mapEntry t um uk).run P w = .ok r w' ∧ V A w' φ d r ∧ FRc G { st with H := st.H.set b x } a w' A φ := by
  unfold mapEntD at h
  split at h
  · rename_i q e b' k' hq
    obtain ⟨kt, hu, hkt, hkk⟩ := mapT_ok hq
    have hv1 := hk.v_inv
    subst hv1
    cases hm with
    | mm _ _ r hφ =>
      split at h
      · rename_i c es hb
        have hb' := hs _ _ _ hb
        have hlt : b' < st.H.length := (List.getElem?_eq_some_iff.1 hb').1
        obtain ⟨ms, h1, hT⟩ := mm_at hr.rh hφ hb'
        have g := getObj_tab (P := P) hT.blk
        have hn : ∀ {ms' c'} m, A m → (putO w r (.map ms' c')).heap[m]? = w.heap[m]? := fun {ms' c'} m hm => by
          have hne : m ≠ r := fun e => hr.rh.dis r ⟨b', _, _, _, h1⟩ (e ▸ hm)
          simp only [putO, Array.getElem?_setIfInBounds]
          rw [if_neg (Ne.symm hne)]
        have pair : ∀ {w' : World} {y : D} {u : Value} {n : Int}, V A w' φ y u → V A w' φ (.tup [y, .v (.int .i64 n)]) (.tuple #[u, .int .i64 n]) := fun {w' y u n} hy => by
          refine .tup _ _ _ rfl fun i d u g1 g2 => ?_
          match i, g1, g2 with
          | 0, g1, g2 => cases g1; cases g2; exact hy
          | 1, g1, g2 => cases g1; cases g2; exact .v _ _
        split at h
        · rename_i j d' hf
          cases h
          rcases run_findKey (P := P) hT hkt hf with ⟨h2, _⟩ | ⟨j', d2, e2, k2, b2, h2, h3, h4, h6, h5⟩
          · cases h2
          · cases h2
            obtain ⟨q1, q2⟩ := ent_modify hT (j := j) (f := fun e => (uk, e.2)) (g := fun e => { e with key := uk }) fun x e hx he => by
              obtain ⟨x1, x2, x3⟩ := x
              have := hT.ent _ _ _ _ _ hx he
              exact ⟨rfl, this.2.1, this.2.2⟩
            refine ⟨.tuple #[e2.val, .int .i64 (e2.born : Nat)], _, ?_, ?_, hr.retab hG h1 hlt _ q1 q2⟩
            · simp only [Instr.mapEntry, Sem.run_bind, run_underlying hu, Result.andThen, g, run_checkKey hkt hkk, h5, h4, Option.map_some, Option.getD_some, run_keyStays (same_bits h6 10000), setObj_tab hT.blk, Sem.run_pure, goInt]
            · have h7 := hT.ent _ _ _ _ _ h3 h4
              rw [h3, h7.2.1]
              exact pair (h7.2.2.mono (fun _ x => x) hn fun _ => Loc.le_refl _)
        · rename_i hf
          simp only [Option.map_eq_some_iff, Prod.mk.injEq] at h
          obtain ⟨z, hz, rfl, rfl, rfl⟩ := h
          obtain ⟨zx, hx1, hx2⟩ := run_zvD (A := A) (w := w) (φ := φ) hz
          rcases run_findKey (P := P) hT hkt hf with ⟨_, h5⟩ | ⟨j', d2, e2, k2, b2, h2, _⟩
          · obtain ⟨q1, q2⟩ := ent_push hT (k := uk) hx2
            refine ⟨.tuple #[zx, .int .i64 (c : Nat)], _, ?_, ?_, hr.retab hG h1 hlt _ q1 q2⟩
            · simp only [Instr.mapEntry, Sem.run_bind, run_underlying hu, Result.andThen, g, run_checkKey hkt hkk, h5, hx1, setObj_tab hT.blk, Sem.run_pure, goInt]
            · exact pair (hx2.mono (fun _ x => x) hn fun _ => Loc.le_refl _)
          · cases h2
        · cases h
      · cases h
  · cases h

theorem run_entStD (hG : Stab G) (hr : FRc G st a w A φ) (hs : SubT Hm st.H) {t : TypeId} {m s v : D} {um us uv : Value} {b : Nat} {x : Blk} (hm : V A w φ m um) (hsv : V A w φ s us) (hv : V A w φ v uv) (h : entStD Hm m s v = some (b, x)) :
    ∃ w', (Instr.entryStore t um us uv).run P w = .ok () w' ∧ FRc G { st with H := st.H.set b x } a w' A φ := by
  unfold entStD at h
  split at h
  · rename_i b' kd n
    have hv1 := hsv.v_inv
    subst hv1
    cases hm with
    | mm _ _ r hφ =>
      split at h
      · rename_i c es hb
        have hb' := hs _ _ _ hb
        have hlt : b' < st.H.length := (List.getElem?_eq_some_iff.1 hb').1
        obtain ⟨ms, h1, hT⟩ := mm_at hr.rh hφ hb'
        have g := getObj_tab (P := P) hT.blk
        split at h
        · rename_i i hf
          cases h
          have hf' : ms.findIdx? (fun e => ((e.born : Nat) : Int) == n) = some i := by
            obtain ⟨hi, h2, h3⟩ := List.findIdx?_eq_some_iff_getElem.1 hf
            have hborn : ∀ j (hj : j < es.length), (ms[j]'(by rw [hT.len]; exact hj)).born = es[j].2.2 := fun j hj =>
              (hT.ent j es[j].1 es[j].2.1 es[j].2.2 _ (List.getElem?_eq_getElem hj) (Array.getElem?_eq_getElem (by rw [hT.len]; exact hj))).2.1
            refine Array.findIdx?_eq_some_iff_getElem.2 ⟨by rw [hT.len]; exact hi, ?_, fun j hj => ?_⟩
            · rw [hborn i hi]; exact h2
            · have := h3 j hj
              rw [hborn j (Nat.lt_trans hj hi)]; exact this
          obtain ⟨q1, q2⟩ := ent_modify hT (j := i) (f := fun e => (e.1, v, e.2.2)) (g := fun e => { e with val := uv }) fun x e hx he => by
            obtain ⟨x1, x2, x3⟩ := x
            have := hT.ent _ _ _ _ _ hx he
            exact ⟨this.1, this.2.1, hv⟩
          refine ⟨_, ?_, hr.retab hG h1 hlt _ q1 q2⟩
          simp only [Instr.entryStore, Sem.run_bind, g, Result.andThen, asInt, asIntOf, Sem.run_pure, hf', setObj_tab hT.blk]
        · cases h
      · cases h
  · cases h

/-- How many entries a map has. -/
theorem run_lenTab (hr : FRc G st a w A φ) {t kt et tx : TypeId} (hu : P.underlying t = some (.map kt et)) {b c : Nat} {es : List (Value × D × Nat)} {u : Value} (hm : V A w φ (.mm b) u) (hb : st.H[b]? = some (.tab c es)) :
    (Builtin.len_ #[t] tx #[u]).run P w = .ok (.int .i64 es.length) w := by
  cases hm with
  | mm _ _ r hφ =>
    obtain ⟨ms, h1, hT⟩ := mm_at hr.rh hφ hb
    simp [Builtin.len_, run_underlying hu, goInt, getObj_tab (P := P) hT.blk, hT.len]
end
end
end Go.DL

/- Bytes as a string, interface values, and a map's entry deleted: over abstract values. -/
namespace Go.DL
open Go.RowKit

noncomputable section
set_option linter.unusedSectionVars false
variable [Tabs]

def isU8 : Option TypeDesc → Bool
  | some (.int .u8) => true
  | _ => false

/-- An exact value. -/
def exactL : List D → Option (List Value)
  | [] => some []
  | .v x :: ds => (exactL ds).map (x :: ·)
  | _ :: _ => none
def exactV : D → Option Value
  | .v x => some x
  | .agg ds => (exactL ds).map fun xs => .agg xs.toArray
  | _ => none
/-- A value as an abstract one, a struct cell by cell. -/
def ofVE : Value → D
  | .agg vs => .agg (vs.toList.map .v)
  | x => .v x

def isIfaceT : Option TypeDesc → Bool
  | some (.interface _) => true
  | _ => false

def mkIfaceD (P : Program) (t : TypeId) (x : D) : Option D :=
  match P.underlying t with
  | some (.interface _) => none
  | some _ => (exactV x).map fun v => .v (.iface t v)
  | none => none

def assertD (P : Program) (x : D) (asserted : TypeId) (ok : Bool) : Option D :=
  match P.underlying asserted, x with
  | some (.interface _), _ => none
  | some _, .v (.iface t v) => if t = asserted then some (bif ok then .tup [ofVE v, .v (.bool true)] else ofVE v) else if ok = true then (zvD P asserted).map fun z => .tup [z, .v (.bool false)] else none
  | _, _ => none

def deleteD (P : Program) (H : List Blk) (t : TypeId) (m k : D) : Option (Nat × Blk) := match mapT P t, m, k with
  | some (q, _), .mm b, .v k => match H[b]? with
    | some (.tab c es) => match tabFind q k es 0 with
      | some (some (i, _)) => some (b, .tab c (es.eraseIdx i))
      | some none => some (b, .tab c es)
      | none => none
    | _ => none
  | _, _, _ => none

def isConstO : Operand → Bool
  | .const _ => true
  | _ => false

/-- A binary operation; two nil values of an interface type where one of them is the literal nil. -/
def binO (P : Program) (op : BinOp) (t : TypeId) (xo yo : Operand) (x y : D) : Option D :=
  match x, y with
  | .v .nilIface, .v .nilIface => if (isConstO xo || isConstO yo) = true ∧ isIfaceT (P.underlying t) = true then match op with
      | .eql => some (.v (.bool true))
      | .neq => some (.v (.bool false))
      | _ => none
    else none
  | x, y => binD P op t x y

/-- The length of a string, of an array. -/
def lenO (P : Program) (t : TypeId) (x : D) : Option Int :=
  match P.underlying t, x with
  | some (.slice _), x => lenD x
  | some .string, .v (.string s) => some s.data.toList.length
  | some (.array n _), _ => some n
  | _, _ => none

section
variable {P : Program} {A : Rd} {w : World} {φ : Nat → Loc} {H Hm : List Blk}

theorem exactL_ok : ∀ {ds : List D} {xs : List Value}, exactL ds = some xs → xs.length = ds.length ∧ ∀ (i : Nat) (d : D) (x : Value), ds[i]? = some d → xs[i]? = some x → d = .v x
  | [], xs, h => by cases h; exact ⟨rfl, fun i d x h1 => by simp at h1⟩
  | d :: ds, xs, h => by
    cases d <;> simp only [exactL, Option.map_eq_some_iff, reduceCtorEq] at h
    obtain ⟨ys, h1, rfl⟩ := h
    obtain ⟨h2, h3⟩ := exactL_ok h1
    refine ⟨by simp [h2], fun i d x k1 k2 => ?_⟩
    cases i with
    | zero => simp at k1 k2; subst k1; subst k2; rfl
    | succ i => exact h3 i d x (by simpa using k1) (by simpa using k2)

theorem V.exact {d : D} {u x : Value} (h : V A w φ d u) (he : exactV d = some x) : u = x := by
  unfold exactV at he
  split at he
  · cases he; exact h.v_inv
  · rename_i ds
    simp only [Option.map_eq_some_iff] at he
    obtain ⟨xs, h1, rfl⟩ := he
    obtain ⟨vs, rfl, hl, hv⟩ := h.agg_inv
    obtain ⟨h2, h3⟩ := exactL_ok h1
    congr 1
    apply Array.ext
    · simp [hl, h2]
    · intro i hi hi'
      have hi2 : i < ds.length := by rw [← hl]; exact hi
      have hi3 : i < xs.length := by rw [h2]; exact hi2
      have e := h3 i ds[i] xs[i] (List.getElem?_eq_getElem hi2) (List.getElem?_eq_getElem hi3)
      have k := hv i ds[i] vs[i] (List.getElem?_eq_getElem hi2) (Array.getElem?_eq_getElem hi)
      rw [e] at k
      have k := k.v_inv
      simpa using k
  · cases he

theorem V.ofVE (x : Value) : V A w φ (ofVE x) x := by
  cases x with
  | agg vs =>
    refine .agg _ _ _ (by simp) fun i d u h1 h2 => ?_
    simp only [List.getElem?_map, Option.map_eq_some_iff] at h1
    obtain ⟨y, h1, rfl⟩ := h1
    have : y = u := by
      have h3 : vs[i]? = some y := by simpa using h1
      rw [h3] at h2; exact Option.some.inj h2
    subst this; exact .v _ _
  | _ => unfold DL.ofVE; exact .v _ _

theorem run_mkIfaceD {t : TypeId} {x d : D} {u : Value} (hx : V A w φ x u) (h : mkIfaceD P t x = some d) : ∃ r, (Instr.makeInterface t u).run P w = .ok r w ∧ V A w φ d r := by
  unfold mkIfaceD at h
  split at h
  · cases h
  · rename_i q hni hq
    simp only [Option.map_eq_some_iff] at h
    obtain ⟨v, hv, rfl⟩ := h
    have := hx.exact hv
    subst this
    refine ⟨_, ?_, .v _ _⟩
    simp only [Instr.makeInterface, Sem.run_bind, run_underlying hq, Result.andThen_ok]
    rfl
  · cases h

theorem run_assertD {xt asserted : TypeId} {x d : D} {u : Value} {ok : Bool} (hx : V A w φ x u) (h : assertD P x asserted ok = some d) : ∃ r, (Instr.typeAssert u xt asserted ok).run P w = .ok r w ∧ V A w φ d r := by
  unfold assertD at h
  split at h
  · cases h
  · rename_i q t v hni hq
    have := hx.v_inv
    subst this
    have e : (Instr.typeAssert (.iface t v) xt asserted ok).run P w = (if t = asserted then (pure (if ok then .tuple #[v, .bool true] else v) : Sem Value) else
        (if ok then do pure (.tuple #[← zeroValue asserted, .bool false]) else runtimePanic (.typeAssertion (some xt) (some t) asserted ""))).run P w := by
      simp only [Instr.typeAssert, Sem.run_bind, run_underlying hq, Result.andThen_ok]
    rw [e]
    split at h
    · rename_i ht
      cases h
      rw [if_pos ht]
      refine ⟨_, rfl, ?_⟩
      cases ok
      · exact .ofVE _
      · refine .tup _ _ _ rfl fun i d u g1 g2 => ?_
        match i, g1, g2 with
        | 0, g1, g2 => cases g1; cases g2; exact .ofVE _
        | 1, g1, g2 => cases g1; cases g2; exact .v _ _
    · rename_i ht
      rw [if_neg ht]
      split at h
      · rename_i ho
        subst ho
        simp only [Option.map_eq_some_iff] at h
        obtain ⟨z, hz, rfl⟩ := h
        obtain ⟨y, hy1, hy2⟩ := run_zvD (A := A) (w := w) (φ := φ) hz
        refine ⟨.tuple #[y, .bool false], by simp [hy1], .tup _ _ _ rfl fun i d u g1 g2 => ?_⟩
        match i, g1, g2 with
        | 0, g1, g2 => cases g1; cases g2; exact hy2
        | 1, g1, g2 => cases g1; cases g2; exact .v _ _
      · cases h
  · cases h

theorem run_binO {op : BinOp} {t : TypeId} {x y d : D} {u v : Value} (xo yo : Operand) (hx : V A w φ x u) (hy : V A w φ y v) (h : binO P op t xo yo x y = some d) :
    ∃ r, (do eqGuard op t xo yo u v; binOp op t u v : Sem Value).run P w = .ok r w ∧ V A w φ d r := by
  unfold binO at h
  split at h
  · have := hx.v_inv; subst this
    have := hy.v_inv; subst this
    split at h
    · rename_i hc
      obtain ⟨hc, hi⟩ := hc
      have hm : ∃ ms, P.underlying t = some (.interface ms) := by
        revert hi; cases P.underlying t with
        | none => intro h; cases h
        | some q => cases q <;> intro h <;> first | exact ⟨_, rfl⟩ | cases h
      obtain ⟨ms, hm⟩ := hm
      have he0 : ∀ (k : Nat), (Op.equalIn (k + 1) t .nilIface .nilIface).run P w = .ok true w := fun k => by
        simp only [Op.equalIn, Sem.run_bind, run_underlying hm, Result.andThen_ok, Sem.run_pure]
      have he : (Op.equalIn 10000 t .nilIface .nilIface).run P w = .ok true w := he0 9999
      have hg : (eqGuard op t xo yo .nilIface .nilIface).run P w = .ok () w := by
        cases op <;> first | rfl | (cases xo <;> cases yo <;> first | rfl | (simp [isConstO] at hc))
      split at h
      · cases h
        exact ⟨.bool true, by simp only [Sem.run_bind, hg, Result.andThen_ok, binOp, Op.equal, Op.maxDepth, he, Sem.run_pure], .v _ _⟩
      · cases h
        exact ⟨.bool false, by simp only [Sem.run_bind, hg, Result.andThen_ok, binOp, Op.equal, Op.maxDepth, he, Sem.run_pure, Bool.not_true], .v _ _⟩
      · cases h
    · cases h
  · exact run_binD xo yo hx hy h

theorem run_lenO {t ty : TypeId} {x : D} {u : Value} {n : Int} (hx : V A w φ x u) (h : lenO P t x = some n) : (Builtin.len_ #[t] ty #[u]).run P w = .ok (.int .i64 n) w := by
  unfold lenO at h
  split at h
  · rename_i e hu
    obtain ⟨a, m, c, rfl, rfl⟩ := hx.lenD h
    simp [Builtin.len_, run_underlying hu, goInt]
  · rename_i s hu
    cases h
    have := hx.v_inv; subst this
    have hsz : s.data.toList.length = s.size := by rw [Array.length_toList]; rfl
    rw [run_len_string w t ty s hu, hsz]
    rfl
  · rename_i m e hu
    cases h
    simp [Builtin.len_, run_underlying hu, goInt]
  · cases h

end

section
variable {P : Program} {G : Gh} (hG : Stab G) {st : St} {a : Act} {w w' : World} {A : Rd} {φ : Nat → Loc} {Hm : List Blk}

theorem run_deleteD (hG : Stab G) (hr : FRc G st a w A φ) (hs : SubT Hm st.H) {t ty : TypeId} {ts : List TypeId} {m k : D} {um uk : Value} {b : Nat} {x : Blk} (hm : V A w φ m um) (hk : V A w φ k uk) (h : deleteD P Hm t m k = some (b, x)) :
    ∃ w', (Builtin.delete_ (t :: ts).toArray ty #[um, uk]).run P w = .ok (.tuple #[]) w' ∧ FRc G { st with H := st.H.set b x } a w' A φ := by
  unfold deleteD at h
  split at h
  · rename_i q e b0 k0 hq
    obtain ⟨kt, hu, hkt, hkk⟩ := mapT_ok hq
    have hv := hk.v_inv
    subst hv
    cases hm with
    | mm _ _ r hφ =>
      split at h
      · rename_i c es hb
        have hb' := hs _ _ _ hb
        obtain ⟨ms, h1, hT⟩ := mm_at hr.rh hφ hb'
        have g := getObj_tab (P := P) hT.blk
        have hlt : b0 < st.H.length := (List.getElem?_eq_some_iff.1 hb').1
        split at h
        · rename_i j d' hf
          cases h
          rcases run_findKey (P := P) hT hkt hf with ⟨h2, _⟩ | ⟨j', d2, e2, k', b', h2, h3, h4, _, h5⟩
          · cases h2
          · cases h2
            have hjs : j < ms.size := (Array.getElem?_eq_some_iff.1 h4).1
            refine ⟨putO w r (.map (ms.eraseIdxIfInBounds j) c), ?_, ?_⟩
            · simp only [Builtin.delete_, List.getElem?_toArray, List.getElem?_cons_zero, Sem.run_bind, run_underlying hu, Result.andThen_ok, g, run_checkKey hkt hkk, h5, setObj_tab hT.blk, Sem.run_pure]
              simp [run_underlying hu, g, run_checkKey hkt hkk, h5, setObj_tab hT.blk]
            · have hge : ∀ i : Nat, (ms.eraseIdxIfInBounds j)[i]? = if i < j then ms[i]? else ms[i + 1]? := fun i => by
                rw [← Array.getElem?_toList, Array.eraseIdxIfInBounds, dif_pos hjs, Array.toList_eraseIdx, List.getElem?_eraseIdx]
                split <;> simp
              refine hr.retab hG h1 hlt _ ?_ fun i k d q e g1 g2 => ?_
              · have : (ms.eraseIdxIfInBounds j).size = ms.size - 1 := by simp [Array.eraseIdxIfInBounds, hjs]
                rw [this, List.length_eraseIdx, hT.len, if_pos (by rw [← hT.len]; exact hjs)]
              · rw [List.getElem?_eraseIdx] at g1
                rw [hge] at g2
                split at g1
                · rename_i hij; rw [if_pos hij] at g2; exact hT.ent _ _ _ _ _ g1 g2
                · rename_i hij; rw [if_neg hij] at g2; exact hT.ent _ _ _ _ _ g1 g2
        · rename_i hf
          cases h
          rcases run_findKey (P := P) hT hkt hf with ⟨_, h5⟩ | ⟨j', d2, e2, k', b', h2, _⟩
          · refine ⟨putO w r (.map ms c), ?_, hr.retab hG h1 hlt _ hT.len hT.ent⟩
            simp [Builtin.delete_, run_underlying hu, g, run_checkKey hkt hkk, h5, setObj_tab hT.blk]
          · cases h2
        · cases h
      · cases h
  · cases h
end
end
end Go.DL

/- A string's bytes, laid anew: over abstract values. -/
namespace Go.DL
open Go.RowKit

noncomputable section
set_option linter.unusedSectionVars false
variable [Tabs]

/-- The bytes of a string as elements. -/
def bytesOfD (P : Program) (src dst : TypeId) : D → Option (List (List D))
  | .v (.string s) => match P.underlying src, P.underlying dst with
    | some .string, some (.slice e) => if isU8 (P.underlying e) = true then some (s.data.toList.map fun b => [.v (.int .u8 b.toNat)]) else none
    | _, _ => none
  | _ => none

section
variable {P : Program} {G : Gh} {st : St} {a : Act} {w : World} {A : Rd} {φ : Nat → Loc}

/-- New memory that is read-only. -/
theorem FRc.newA (hG : Stab G) (h : FRc G st a w A φ) (o : Obj) : FRc G st a (w.alloc o) ⟨fun n => A n ∨ n = w.heap.size, A.b0⟩ φ := by
  have k := h.rh.move (w' := w.alloc o) (fun _ hm => heap_alloc_lt w _ (h.rh.lt _ hm)) (fun _ hm => heap_alloc_lt w _ (h.rh.olt _ hm)) (by simp)
  refine h.step hG (A' := ⟨fun n => A n ∨ n = w.heap.size, A.b0⟩) (H' := st.H) ?_ (ext_alloc w _ _ fun _ hn => .inl hn) (fun _ => .inl) (fun m hm => hm.elim .inl fun e => .inr (.inr (Nat.le_of_eq e.symm))) fun _ => Loc.le_refl _
  exact ⟨k.out, k.free, k.dead, fun b sz es hb => (k.live b sz es hb).imp id fun ⟨n, base, room, c, ty, q1, q2⟩ => ⟨n, base, room, c, ty, q1, q2.mono (fun _ x => Or.inl x) (fun _ _ => rfl) (fun _ => Loc.le_refl _) rfl⟩,
    fun b clk es hb => let ⟨n, ms, q1, q2⟩ := k.tab b clk es hb; ⟨n, ms, q1, q2.mono (fun _ x => Or.inl x) (fun _ _ => rfl) (fun _ => Loc.le_refl _) rfl⟩, k.inj,
    fun n hn ha => ha.elim (k.dis n hn) fun e => by have := h.rh.olt n hn; omega, fun n hn => hn.elim (k.lt n) fun e => by subst e; simp, k.olt, k.ofr, k.bsz, k.la.mono (fun _ x => Or.inl x) fun _ _ => rfl⟩

theorem bytes_ok (hG : Stab G) (hr : FRc G st a w A φ) {src dst : TypeId} {x : D} {u : Value} {es : List (List D)} (hx : V A w φ x u) (h : bytesOfD P src dst x = some es) :
    ∃ r w' A', (convert src dst u).run P w = .ok r w' ∧ V A' w' φ (.fl es) r ∧ FRc G st a w' A' φ := by
  unfold bytesOfD at h
  split at h
  · rename_i s
    have := hx.v_inv
    subst this
    split at h
    · rename_i e' hs hd
      split at h
      · rename_i hu
        cases h
        have he : P.underlying e' = some (.int .u8) := by
          revert hu; cases P.underlying e' with
          | none => intro h; cases h
          | some q => cases q <;> intro h <;> try (cases h; done)
                      rename_i k; cases k <;> first | rfl | cases h
        have hge := grownCap_ge w s.size 0 e'
        have hb0 := hr.rh.bsz
        refine ⟨_, _, _, run_bytes_of_string w src dst e' s hs hd he, ?_, (hr.drew hG).newA hG _⟩
        have hlen : (s.data.toList.map fun b => [D.v (.int .u8 b.toNat)]).length = s.size := by simp
        have key : ∀ (i : Nat) (e : List D) (j : Nat) (d : D), (s.data.toList.map fun b => [D.v (.int .u8 b.toNat)])[i]? = some e → e[j]? = some d → ∃ b, s.data.toList[i]? = some b ∧ j = 0 ∧ d = .v (.int .u8 b.toNat) := fun i e j d he hd => by
          simp only [List.getElem?_map, Option.map_eq_some_iff] at he
          obtain ⟨b, hb, rfl⟩ := he
          rcases j with _ | j
          · simp only [List.getElem?_cons_zero, Option.some.injEq] at hd
            exact ⟨b, hb, rfl, hd.symm⟩
          · simp at hd
        suffices hgo : ∀ k : Nat, k = (s.data.toList.map fun b => [D.v (.int .u8 b.toNat)]).length → V (Rd.mk (fun n => A n ∨ n = w.drew.heap.size) A.b0) (w.drew.alloc (.cells (bytesRow s (grownCap w s.size 0 e')) e' ((bytesRow s (grownCap w s.size 0 e')).size, (bytesRow s (grownCap w s.size 0 e')).size + 1))) φ
            (.fl (s.data.toList.map fun b => [D.v (.int .u8 b.toNat)])) (.slice (some ⟨w.heap.size, 0, none⟩) k (grownCap w s.size 0 e')) from hgo _ hlen.symm
        rintro k rfl
        refine .fl _ _ _ 0 1 _ (fun i _ => (((s.data.toList.map fun b => Value.int .u8 b.toNat)[i]?).getD undef)) ⟨Or.inr rfl, hb0⟩ (by rw [hlen]; exact hge) (fun i e he => ?_) (fun i e j d he hd => ?_) fun i e j d he hd => ?_
        · simp only [List.getElem?_map, Option.map_eq_some_iff] at he
          obtain ⟨_, _, rfl⟩ := he; rfl
        · obtain ⟨b, hb, rfl, rfl⟩ := key i e j d he hd
          simp only [List.getElem?_map, hb, Option.map_some, Option.getD_some, Nat.zero_add, Nat.mul_one, Nat.add_zero]
          have hlt : i < (s.data.map fun b => Value.int .u8 b.toNat).size := by
            have := (List.getElem?_eq_some_iff.1 hb).1
            simpa using this
          have hc : (bytesRow s (grownCap w s.size 0 e'))[i]? = some (.int .u8 b.toNat) := by
            unfold bytesRow
            rw [Array.getElem?_append_left hlt, ← Array.getElem?_toList, Array.toList_map, List.getElem?_map, hb]; rfl
          have hnew := heap_alloc_new w.drew (.cells (bytesRow s (grownCap w s.size 0 e')) e' ((bytesRow s (grownCap w s.size 0 e')).size, (bytesRow s (grownCap w s.size 0 e')).size + 1))
          have hnew' : (w.drew.alloc (.cells (bytesRow s (grownCap w s.size 0 e')) e' ((bytesRow s (grownCap w s.size 0 e')).size, (bytesRow s (grownCap w s.size 0 e')).size + 1))).heap[w.heap.size]? = _ := hnew
          have hcell : ∀ {W : World} {n o : Nat} {c : Array Value} {ty : TypeId} {fz : Nat × Nat}, W.heap[n]? = some (.cells c ty fz) → W.cell? ⟨n, o, none⟩ = c[o]? := fun h => by simp [World.cell?, h]
          exact (hcell hnew').trans hc
        · obtain ⟨b, hb, rfl, rfl⟩ := key i e j d he hd
          simp only [List.getElem?_map, hb, Option.map_some, Option.getD_some]
          exact .v _ _
      · cases h
    · cases h
  · cases h
end
end
end Go.DL

/- The builtin clear of a part of an own slice. -/
namespace Go.DL
open Go.RowKit

noncomputable section
set_option linter.unusedSectionVars false
variable [Tabs]

def clearD (P : Program) (H : List Blk) (t : TypeId) (x : D) : Option (Nat × Blk) :=
  match x, P.underlying t with
  | .ms b off len _, some (.slice te) => match zeroD P te, H[b]? with
    | some z, some (.live sz es) => if Nat.beq z.length sz = true ∧ z.all isCell = true ∧ Nat.ble (off + len) es.length = true then some (b, .live sz (es.take off ++ List.replicate len z ++ es.drop (off + len))) else none
    | _, _ => none
  | _, _ => none

theorem clear_live {P : Program} {H : List Blk} {t : TypeId} {x : D} {b : Nat} {y : Blk} (h : clearD P H t x = some (b, y)) : ∃ z, H[b]? = some z ∧ z ≠ .free := by
  unfold clearD at h
  split at h
  rotate_left
  · cases h
  split at h
  rotate_left
  · cases h
  rename_i hb
  split at h
  · cases h; exact ⟨_, hb, fun e => by cases e⟩
  · cases h

section
variable {P : Program} {G : Gh} {st : St} {ac : Act} {w : World} {A : Rd} {φ : Nat → Loc} {Hm : List Blk}
theorem run_clearD (hG : Stab G) (hr : FRc G st ac w A φ) (hsub : Sub Hm st.H) {t ty : TypeId} {x : D} {u : Value} (hx : V A w φ x u) {b : Nat} {y : Blk} (h : clearD P Hm t x = some (b, y)) :
    ∃ (w' : World), (Builtin.clear_ #[t] ty #[u]).run P w = .ok (.tuple #[]) w' ∧ FRc G { st with H := st.H.set b y } ac w' A φ := by
  unfold clearD at h
  split at h
  rotate_left
  · cases h
  rename_i b' off len cap te hu
  split at h
  rotate_left
  · cases h
  rename_i z sz es hz hbm
  split at h
  rotate_left
  · cases h
  rename_i hcond
  obtain ⟨hs, hc, hl⟩ := hcond
  have hs := Nat.eq_of_beq_eq_true hs
  have hl := Nat.le_of_ble_eq_true hl
  simp only [Option.some.injEq, Prod.mk.injEq] at h
  obtain ⟨rfl, rfl⟩ := h
  subst hs
  obtain ⟨stt, H, ds, g⟩ := st
  simp only at hsub ⊢
  have hb := hsub _ _ _ hbm
  have hlt : b' < H.length := (List.getElem?_eq_some_iff.1 hb).1
  generalize b' = b at *
  cases hx with
  | ms _ _ _ _ _ cap' a0 hlen hcap hm =>
  by_cases h0 : len = 0
  · subst h0
    refine ⟨w, ?_, ?_⟩
    · simp [Builtin.clear_, run_underlying hu]
      cases a0 <;> rfl
    · have e : es.take off ++ List.replicate 0 z ++ es.drop (off + 0) = es := by simp
      rw [e]
      have e2 : H.set b (.live z.length es) = H := by
        obtain ⟨hlt, he⟩ := List.getElem?_eq_some_iff.1 hb
        rw [← he, List.set_getElem_self]
      rw [e2]; exact hr
  · rcases hr.rh.live b z.length es hb with ⟨h1, _⟩ | ⟨n0, base, room, c, tyc, h1, h2⟩
    · subst h1; simp at hl; omega
    rw [h1] at hm
    obtain ⟨hroom, ha⟩ := hm
    have hfit := h2.fits
    have hsize := h2.size
    obtain rfl : a0 = some ⟨n0, base + off * z.length, none⟩ := ha.resolve_left (by omega)
    obtain ⟨xz, hz1, hz2, hz3⟩ := run_zeroD (A := A) (w := w) (φ := φ) hz
    have hzr := zero_rows hz2 hz3 len
    have hcells : Builtin.zeroCells xz.cells len = (Array.range (len * z.length)).map (xz.cells[· % xz.cells.size]!) := by rw [Builtin.zeroCells, hz2]
    rw [← hcells] at hzr
    have hsz := hzr.size
    have hone : ∀ u ∈ (Builtin.zeroCells xz.cells len).toList, u.oneCell' = true := fun u hu => by
      rw [hcells] at hu
      simp only [Array.toList_map, List.mem_map] at hu
      obtain ⟨i, hi, rfl⟩ := hu
      have hzl : 0 < z.length := by
        rcases Nat.eq_zero_or_pos z.length with h | h
        · rw [h] at hi; simp at hi
        · exact h
      have hi2 : i % xz.cells.size < z.length := by rw [hz2]; exact Nat.mod_lt _ hzl
      obtain ⟨y, hy, hyv⟩ := hz3 (i % xz.cells.size) z[i % xz.cells.size] (List.getElem?_eq_getElem hi2)
      have hcell := hyv.isCell (List.all_eq_true.1 hc _ (List.getElem_mem hi2))
      have : xz.cells[i % xz.cells.size]! = y := by rw [Array.getElem!_eq_getD, Array.getD_eq_getD_getElem?, hy]; rfl
      rw [this]; exact hcell
    have hmul : off * z.length + len * z.length ≤ room * z.length := by rw [← Nat.add_mul]; exact Nat.mul_le_mul_right _ (by omega)
    simp only [List.length_replicate] at hsz
    obtain ⟨w', c', hw1, hw2, hw3⟩ := run_storeCells (P := P) (n := n0) (ty := tyc) (Builtin.zeroCells xz.cells len).toList w c (base + off * z.length) 0 h2.blk (by simp [hsz]; omega) hone
    rw [Nat.add_zero] at hw3
    refine ⟨w', ?_, ?_⟩
    · obtain ⟨k, rfl⟩ : ∃ k, len = k + 1 := ⟨len - 1, by omega⟩
      simp [Builtin.clear_, run_underlying hu, hz1 w, hw1, Result.andThen]
    · have hlen2 : (es.take off ++ List.replicate len z ++ es.drop (off + len)).length = es.length := by simp; omega
      have hold : ∀ (i : Nat) (e : List D) (j : Nat) (d : D), es[i]? = some e → e[j]? = some d → (i < off ∨ off + len ≤ i) → ∃ u, c'[base + i * z.length + j]? = some u ∧ V A w φ d u := fun i e j d he hd hi => by
        obtain ⟨u, hu, hv⟩ := h2.val i e j d he hd
        have hj : j < z.length := by rw [← h2.len i e he]; exact (List.getElem?_eq_some_iff.1 hd).1
        refine ⟨u, ?_, hv⟩
        rw [hw3.old _ ?_]; exact hu
        simp only [Array.length_toList, hsz]
        rcases hi with hi | hi
        · left
          have : i * z.length + z.length ≤ off * z.length := by rw [← Nat.succ_mul]; exact Nat.mul_le_mul_right _ hi
          omega
        · right
          have : (off + len) * z.length ≤ i * z.length := Nat.mul_le_mul_right _ hi
          rw [Nat.add_mul] at this
          omega
      have hget : ∀ i e, (es.take off ++ List.replicate len z ++ es.drop (off + len))[i]? = some e → (es[i]? = some e ∧ (i < off ∨ off + len ≤ i)) ∨ (e = z ∧ off ≤ i ∧ i < off + len) := fun i e he => by
        have ht : (es.take off).length = off := by rw [List.length_take]; omega
        rw [List.append_assoc] at he
        by_cases h3 : i < off
        · rw [List.getElem?_append_left (by omega), List.getElem?_take_of_lt h3] at he
          exact .inl ⟨he, .inl h3⟩
        · rw [List.getElem?_append_right (by omega), ht] at he
          by_cases h4 : i < off + len
          · rw [List.getElem?_append_left (by simp; omega), List.getElem?_replicate, if_pos (by omega)] at he
            cases he; exact .inr ⟨rfl, by omega, h4⟩
          · rw [List.getElem?_append_right (by simp; omega), List.getElem?_drop, List.length_replicate, show off + len + (i - off - len) = i by omega] at he
            exact .inl ⟨he, .inr (by omega)⟩
      refine hr.rewr hG h1 hw2 hlt _ (by rw [hlen2]; exact hfit) (by rw [hw3.size]; exact hsize) (fun i e he => ?_) (fun i e j d he hd => ?_)
      · rcases hget i e he with ⟨h3, _⟩ | ⟨rfl, _⟩
        · exact h2.len i e h3
        · rfl
      · rcases hget i e he with ⟨h3, h4⟩ | ⟨rfl, h4, h5⟩
        · exact hold i e j d h3 hd h4
        · obtain ⟨u, hu, hv⟩ := hzr.val (i - off) e j d (by rw [List.getElem?_replicate, if_pos (by omega)]) hd
          refine ⟨u, ?_, hv⟩
          have hj : j < e.length := (List.getElem?_eq_some_iff.1 hd).1
          have hbd : (i - off) * e.length + j < len * e.length := by
            have : (i - off) * e.length + e.length ≤ len * e.length := by rw [← Nat.succ_mul]; exact Nat.mul_le_mul_right _ (by omega)
            omega
          have := hw3.new ((i - off) * e.length + j) (by simp [hsz]; omega)
          have e3 : base + off * e.length + ((i - off) * e.length + j) = base + i * e.length + j := by
            have : off * e.length + (i - off) * e.length = i * e.length := by rw [← Nat.add_mul]; congr 1; omega
            omega
          rw [e3] at this
          rw [this]; simpa using hu
end
end
end Go.DL

/- One operation that is no call of a function, over abstract values. -/
namespace Go.DL
open Go.RowKit

noncomputable section
set_option linter.unusedSectionVars false
variable [Tabs]

/-- What an operation does to the own blocks; s: a place for a new one. -/
inductive Eff where
  | keep
  | put (x : Blk)
  | upd (b : Nat) (x : Blk)
  | ren (o : Option Nat) (x : Blk)

def Eff.app (H : List Blk) (s : Nat) : Eff → List Blk
  | .keep => H
  | .put x => H.set s x
  | .upd b x => H.set b x
  | .ren o x => (killO H o).set s x

/-- The same with the new block behind all others. -/
def Eff.seq (H : List Blk) : Eff → List Blk
  | .keep => H
  | .put x => H ++ [x]
  | .upd b x => H.set b x
  | .ren o x => killO H o ++ [x]

def maxD (op : BinOp) (x y : D) : Option D :=
  match x, y with
  | .v (.int k a), .v (.int k' b) => if k = k' then match op with
      | .gtr => some (.v (.int k (if b > a then b else a)))
      | .lss => some (.v (.int k (if b < a then b else a)))
      | _ => none
    else none
  | _, _ => none

def builtinD (P : Program) (H : List Blk) (s : Nat) (b : Builtin) (args : List D) (tys : List TypeId) : Option (D × Eff) :=
  match b, args, tys with
  | .len, [x], [t] => (lenO P t x).map fun n => (.v (.int .i64 n), .keep)
  | .delete, [m, k], t :: _ => (deleteD P H t m k).map fun (b, x) => (.any, .upd b x)
  | .clear, [x], [t] => (clearD P H t x).map fun (b, y) => (.any, .upd b y)
  | .append, [x, y], [t, t'] => if sameB x y = true then (appendC P H t t' x y).map fun (b, sz, m, cap, es) => (.ms s 0 m cap, .ren (some b) (.live sz es))
    else (appendD P H t t' x y).map fun (o, sz, es) => (.ms s 0 es.length es.length, .ren o (.live sz es))
  | .max, [x, y], _ => (maxD .gtr x y).map fun d => (d, .keep)
  | .min, [x, y], _ => (maxD .lss x y).map fun d => (d, .keep)
  | _, _, _ => none

def keepD (d : Option D) : Option (D × Eff) := d.map fun d => (d, .keep)

def stepD (P : Program) (H : List Blk) (s : Nat) (t : List D) : Op → Option (D × Eff)
  | .move x => some (ev t x, .keep)
  | .assign x => some (ev t x, .keep)
  | .pick c a b => keepD (pickD (ev t c) (ev t a) (ev t b))
  | .binOp op ty x y _ => keepD (binO P op ty x y (ev t x) (ev t y))
  | .unOp op _ x => keepD (unD op (ev t x))
  | .convert src dst x => match bytesOfD P src dst (ev t x) with
    | some es => some (.fl es, .keep)
    | none => keepD (convD P src dst (ev t x))
  | .makeInterface ty x => keepD (mkIfaceD P ty (ev t x))
  | .typeAssert x _ ty ok => keepD (assertD P (ev t x) ty ok)
  | .extract x i => keepD (extractD (ev t x) i)
  | .field ty x f => keepD (fieldD P ty f (ev t x))
  | .index ty x i => keepD (indexD P ty (ev t x) (ev t i))
  | .fieldAddr ty x f => keepD (fieldAddrD P ty f (ev t x))
  | .indexAddr ty x i => keepD (indexAddrD P H ty (ev t x) (ev t i))
  | .slice ty x lo hi mx => if mx.isSome = true ∧ hi.isSome = false then none else keepD (sliceD P H ty (ev t x) (lo.map (ev t)) (hi.map (ev t)) (mx.map (ev t)))
  | .load ty p => keepD (loadD P H ty (ev t p))
  | .nilCheck x => keepD (nilCheckD (ev t x))
  | .sliceToArrayPointer ty x => keepD (arrPtrD P ty (ev t x))
  | .makeFunc f a b => some (.fn f (a.toList.map (ev t)) (b.toList.map (ev t)), .keep)
  | .build ty ps => keepD (buildD P ty (ps.toList.map fun p => (p.1, ev t p.2)))
  | .buildSlice ty len ps => (buildSliceD P ty len (ps.toList.map fun p => (p.1, ev t p.2))).map fun (sz, es) => (.ms s 0 len len, .put (.live sz es))
  | .makeSlice ty l c => (makeSliceD P ty (ev t l) (ev t c)).map fun (ln, cn, sz, es) => (.ms s 0 ln cn, .put (.live sz es))
  | .alloc ty => (zeroD P ty).map fun z => (.mp s 0 0, .put (.live z.length [z]))
  | .box _ x => if (cellsD (ev t x)).all isCell = true then some (.mp s 0 0, .put (.live (cellsD (ev t x)).length [cellsD (ev t x)])) else none
  | .store ty p x => (storeD P H ty (ev t p) (ev t x)).map fun (b, k) => (.any, .upd b k)
  | .makeMap _ none => some (.mm s, .put (.tab 0 []))
  | .lookup ty x i ok => keepD (lookupD P H ty (ev t x) (ev t i) ok)
  | .mapUpdate ty m k x => (mapUpdD P H ty (ev t m) (ev t k) (ev t x)).map fun (b, k) => (.any, .upd b k)
  | .insert ty m k x => (mapUpdD P H ty (ev t m) (ev t k) (ev t x)).map fun (b, k) => (.any, .upd b k)
  | .mapEntry ty m k => (mapEntD P H ty (ev t m) (ev t k)).map fun (d, b, k) => (d, .upd b k)
  | .entryStore _ m k x => (entStD H (ev t m) (ev t k) (ev t x)).map fun (b, k) => (.any, .upd b k)
  | .call { callee := .builtin b, args, argTypes } => builtinD P H s b (args.toList.map (ev t)) argTypes.toList
  | _ => none

/-- The run of an operation that goes through. -/
def Ran (P : Program) (a : Act) (o : Oper) (w : World) (x : Value) (w' : World) : Prop :=
  (execOp a.eval o).run P w = .ok (.value x) w' ∨ ((execOp a.eval o).run P w = .ok .skip w' ∧ x = undef)

section
variable {P : Program} {G : Gh} (hG : Stab G) {st : St} {a : Act} {w : World} {A : Rd} {φ : Nat → Loc}

theorem run_maxD {x y d : D} {u v : Value} (hx : V A w φ x u) (hy : V A w φ y v) :
    (maxD .gtr x y = some d → ∃ r, (Builtin.max_ #[] 0 #[u, v]).run P w = .ok r w ∧ V A w φ d r) ∧
    (maxD .lss x y = some d → ∃ r, (Builtin.min_ #[] 0 #[u, v]).run P w = .ok r w ∧ V A w φ d r) := by
  constructor
  all_goals
    intro h
    unfold maxD at h
    split at h
    · have := hx.v_inv; subst this
      have := hy.v_inv; subst this
      split at h
      · rename_i hk; subst hk
        simp only [Option.some.injEq] at h
        subst h
        exact ⟨_, rfl, .v _ _⟩
      · cases h
    · cases h

theorem stepD_ok (hG : Stab G) (hr : FRc G st a w A φ) {s : Nat} (hs : st.H[s]? = some .free) {Hm : List Blk} (hsub : Sub Hm st.H) (hsubT : SubT Hm st.H) {o : Oper} {d : D} {e : Eff} (h : stepD P Hm s st.t o.op = some (d, e)) :
    ∃ x w' A' φ', Ran P a o w x w' ∧ FRc G { t := setT st.t o.dst d, H := e.app st.H s, ds := st.ds, g := st.g } (a.put o.dst x) w' A' φ' := by
  have ve := hr.tr.ev
  have fin : ∀ {m : Sem Value} {r : Value} {d : D}, execOp a.eval o = (do pure (.value (← m))) → m.run P w = .ok r w → V A w φ d r →
      ∃ x w' A' φ', Ran P a o w x w' ∧ FRc G { t := setT st.t o.dst d, H := st.H, ds := st.ds, g := st.g } (a.put o.dst x) w' A' φ' := fun {m r d} h1 h2 h3 =>
    ⟨r, w, A, φ, .inl (by rw [h1]; simp [h2]), hr.value o.dst h3⟩
  have finP : ∀ {m : Sem Value} {r : Value} {w' : World} {φ' : Nat → Loc} {d : D} {H' : List Blk}, execOp a.eval o = (do pure (.value (← m))) → m.run P w = .ok r w' → V A w' φ' d r →
      FRc G { st with H := H' } a w' A φ' → ∃ x w' A' φ', Ran P a o w x w' ∧ FRc G { t := setT st.t o.dst d, H := H', ds := st.ds, g := st.g } (a.put o.dst x) w' A' φ' := fun {m r w' φ' d H'} h1 h2 h3 h4 =>
    ⟨r, w', A, φ', .inl (by rw [h1]; simp [h2]), h4.value o.dst h3⟩
  have kd : ∀ {q : Option D} {d : D} {e : Eff}, keepD q = some (d, e) → q = some d ∧ e = .keep := fun {q d e} h => by
    simp only [keepD, Option.map_eq_some_iff, Prod.mk.injEq] at h
    obtain ⟨_, h1, rfl, rfl⟩ := h; exact ⟨h1, rfl⟩
  cases ho : o.op with
  | move x =>
    rw [ho] at h; simp only [stepD, Option.some.injEq, Prod.mk.injEq] at h; obtain ⟨rfl, rfl⟩ := h
    exact ⟨_, w, A, φ, .inl (by simp only [execOp, ho]; rfl), hr.value o.dst (ve x)⟩
  | assign x =>
    rw [ho] at h; simp only [stepD, Option.some.injEq, Prod.mk.injEq] at h; obtain ⟨rfl, rfl⟩ := h
    exact ⟨_, w, A, φ, .inl (by simp only [execOp, ho]; rfl), hr.value o.dst (ve x)⟩
  | pick c x y =>
    rw [ho] at h; obtain ⟨h1, rfl⟩ := kd h
    have hc := ve c
    unfold pickD at h1
    split at h1
    · rename_i b hb
      rw [hb] at hc
      have hcv := hc.v_inv
      cases h1
      refine ⟨if b then a.eval x else a.eval y, w, A, φ, .inl (by simp [execOp, ho, hcv, asBool]), hr.value o.dst ?_⟩
      cases b <;> simp only [Bool.false_eq_true, if_false, if_true]
      · exact ve y
      · exact ve x
    · cases h1
  | binOp op ty x y ty' =>
    rw [ho] at h; obtain ⟨h1, rfl⟩ := kd h
    obtain ⟨r, h2, h3⟩ := run_binO (P := P) x y (ve x) (ve y) h1
    exact fin (by simp only [execOp, ho]) h2 h3
  | unOp op ty x =>
    rw [ho] at h; obtain ⟨h1, rfl⟩ := kd h
    obtain ⟨r, h2, h3⟩ := run_unD (P := P) (ve x) h1
    exact fin (by simp only [execOp, ho]) h2 h3
  | convert src dst x =>
    rw [ho] at h
    simp only [stepD] at h
    split at h
    · rename_i es hes
      cases h
      obtain ⟨r, w', A', h2, h3, h4⟩ := bytes_ok (P := P) hG hr (ve x) hes
      exact ⟨r, w', A', φ, .inl (by simp only [execOp, ho]; simp [h2]), h4.value o.dst h3⟩
    · obtain ⟨h1, rfl⟩ := kd h
      obtain ⟨r, h2, h3⟩ := run_convD (P := P) (ve x) h1
      exact fin (by simp only [execOp, ho]) h2 h3
  | makeInterface ty x =>
    rw [ho] at h; obtain ⟨h1, rfl⟩ := kd h
    obtain ⟨r, h2, h3⟩ := run_mkIfaceD (P := P) (ve x) h1
    exact fin (by simp only [execOp, ho]) h2 h3
  | typeAssert x xt ty ok =>
    rw [ho] at h; obtain ⟨h1, rfl⟩ := kd h
    obtain ⟨r, h2, h3⟩ := run_assertD (P := P) (xt := xt) (ve x) h1
    exact fin (by simp only [execOp, ho]) h2 h3
  | extract x i =>
    rw [ho] at h; obtain ⟨h1, rfl⟩ := kd h
    obtain ⟨r, h2, h3⟩ := run_extractD (P := P) (ve x) h1
    exact fin (by simp only [execOp, ho]) h2 h3
  | field ty x f =>
    rw [ho] at h; obtain ⟨h1, rfl⟩ := kd h
    obtain ⟨r, h2, h3⟩ := run_fieldD (P := P) (ve x) h1
    exact fin (by simp only [execOp, ho]) h2 h3
  | index ty x i =>
    rw [ho] at h; obtain ⟨h1, rfl⟩ := kd h
    obtain ⟨r, h2, h3⟩ := run_indexD (P := P) (ve x) (ve i) h1
    exact fin (by simp only [execOp, ho]) h2 h3
  | fieldAddr ty x f =>
    rw [ho] at h; obtain ⟨h1, rfl⟩ := kd h
    obtain ⟨r, h2, h3⟩ := run_fieldAddrD (P := P) (ve x) h1
    exact fin (by simp only [execOp, ho]) h2 h3
  | indexAddr ty x i =>
    rw [ho] at h; obtain ⟨h1, rfl⟩ := kd h
    obtain ⟨r, h2, h3⟩ := run_indexAddrD (P := P) (H := Hm) (fun b sz es hb => (hr.rh.live b sz es (hsub _ _ _ hb)).imp (·.2) fun ⟨n, base, room, _, _, h, _⟩ => ⟨n, base, room, h⟩) (ve x) (ve i) h1
    exact fin (by simp only [execOp, ho]) h2 h3
  | slice ty x lo hi mx =>
    rw [ho] at h
    simp only [stepD] at h
    split at h
    · cases h
    · rename_i hc
      obtain ⟨h1, rfl⟩ := kd h
      obtain ⟨r, h2, h3⟩ := run_sliceD (P := P) hr.rh hsub hr.tr x lo hi mx h1 (fun hm => by
        cases hi with
        | some _ => rfl
        | none => exact absurd ⟨hm, rfl⟩ hc)
      exact fin (by simp only [execOp, ho]) h2 h3
  | load ty p =>
    rw [ho] at h; obtain ⟨h1, rfl⟩ := kd h
    obtain ⟨r, h2, h3⟩ := run_loadD (P := P) hr.rh hsub (ve p) h1
    exact fin (by simp only [execOp, ho]) h2 h3
  | sliceToArrayPointer ty x =>
    rw [ho] at h; obtain ⟨h1, rfl⟩ := kd h
    obtain ⟨r, h2, h3⟩ := run_arrPtrD (P := P) (ve x) h1
    exact fin (by simp only [execOp, ho]) h2 h3
  | nilCheck x =>
    rw [ho] at h; obtain ⟨h1, rfl⟩ := kd h
    have hx := ve x
    unfold nilCheckD at h1
    split at h1
    · rename_i cs hcs
      cases h1
      rw [hcs] at hx
      generalize hu : a.eval x = u at hx
      refine ⟨u, w, A, φ, .inl ?_, hr.value o.dst hx⟩
      cases hx with
      | rp _ _ n off v ha hc hh => simp only [execOp, ho, hu]; rfl
    · rename_i b i f hcs
      cases h1
      rw [hcs] at hx
      generalize hu : a.eval x = u at hx
      refine ⟨u, w, A, φ, .inl ?_, hr.value o.dst hx⟩
      cases hx with
      | mp _ _ _ _ y hh => simp only [execOp, ho, hu]; rfl
    · rename_i f p q hcs
      cases h1
      rw [hcs] at hx
      generalize hu : a.eval x = u at hx
      refine ⟨u, w, A, φ, .inl ?_, hr.value o.dst hx⟩
      cases hx with
      | fn _ _ _ _ vs us hl hl' hh hh' => simp only [execOp, ho, hu]; rfl
    · cases h1
  | makeFunc f p q =>
    rw [ho] at h; simp only [stepD, Option.some.injEq, Prod.mk.injEq] at h; obtain ⟨rfl, rfl⟩ := h
    have key : ∀ (p : Array Operand), (∀ (i : Nat) (d : D) (u : Value), (p.toList.map (ev st.t))[i]? = some d → (p.map a.eval)[i]? = some u → V A w φ d u) := fun p i d u h1 h2 => by
      simp only [List.getElem?_map, Option.map_eq_some_iff, Array.getElem?_map, Array.getElem?_toList] at h1 h2
      obtain ⟨x, h1, rfl⟩ := h1
      obtain ⟨y, h2, rfl⟩ := h2
      rw [h1] at h2; cases h2; exact ve x
    exact ⟨.func f (p.map a.eval) (q.map a.eval), w, A, φ, .inl (by simp [execOp, ho, Instr.makeFunc]), hr.value o.dst (.fn _ _ _ _ _ _ (by simp) (by simp) (key p) (key q))⟩
  | build ty ps =>
    rw [ho] at h; obtain ⟨h1, rfl⟩ := kd h
    obtain ⟨r, h2, h3⟩ := run_buildD (P := P) hr.tr ps h1
    exact fin (by simp only [execOp, ho]) h2 h3
  | buildSlice ty len ps =>
    rw [ho] at h
    simp only [stepD, Option.map_eq_some_iff, Prod.mk.injEq, Prod.exists] at h
    obtain ⟨sz, es, h1, rfl, rfl⟩ := h
    obtain ⟨r, w', φ', h2, h3, h4⟩ := run_buildSliceD (P := P) hG hr hs ps h1
    exact finP (by simp only [execOp, ho]) h2 h3 h4
  | makeSlice ty l c =>
    rw [ho] at h
    simp only [stepD, Option.map_eq_some_iff, Prod.mk.injEq, Prod.exists] at h
    obtain ⟨ln, cn, sz, es, h1, rfl, rfl⟩ := h
    obtain ⟨r, w', φ', h2, h3, h4⟩ := run_makeSliceD (P := P) hG hr hs (ve l) (ve c) h1
    exact finP (by simp only [execOp, ho]) h2 h3 h4
  | alloc ty =>
    rw [ho] at h
    simp only [stepD, Option.map_eq_some_iff, Prod.mk.injEq] at h
    obtain ⟨z, h1, rfl, rfl⟩ := h
    obtain ⟨r, w', φ', h2, h3, h4⟩ := run_allocD (P := P) hG hr hs h1
    exact finP (by simp only [execOp, ho]) h2 h3 h4
  | box ty x =>
    rw [ho] at h
    simp only [stepD] at h
    split at h
    · rename_i hc
      simp only [Option.some.injEq, Prod.mk.injEq] at h; obtain ⟨rfl, rfl⟩ := h
      obtain ⟨r, w', φ', h2, h3, h4⟩ := run_box (P := P) hG hr hs (t := ty) (ve x) hc
      exact finP (by simp only [execOp, ho]) h2 h3 h4
    · cases h
  | store ty p x =>
    rw [ho] at h
    simp only [stepD, Option.map_eq_some_iff, Prod.mk.injEq, Prod.exists] at h
    obtain ⟨b, k, h1, rfl, rfl⟩ := h
    obtain ⟨w', h2, h3⟩ := run_storeD (P := P) hG hr hsub (ve p) (ve x) h1
    exact ⟨undef, w', A, φ, .inr ⟨by simp [execOp, ho, h2], rfl⟩, h3.value o.dst (.any _ _)⟩
  | makeMap ty r =>
    rw [ho] at h
    cases r with
    | some _ => cases h
    | none =>
      simp only [stepD, Option.some.injEq, Prod.mk.injEq] at h; obtain ⟨rfl, rfl⟩ := h
      refine finP (m := Instr.makeMap ty none) (r := .map (some w.heap.size)) (by simp only [execOp, ho]; rfl) ?_ (.mm _ _ _ (by rw [upd_same]; rfl)) (hr.newT hG hs)
      simp [Instr.makeMap, newObj, Sem.run]
  | lookup ty x i ok =>
    rw [ho] at h; obtain ⟨h1, rfl⟩ := kd h
    obtain ⟨r, h2, h3⟩ := run_lookupD (P := P) hr.rh hsubT (ve x) (ve i) h1
    exact fin (by simp only [execOp, ho]) h2 h3
  | mapUpdate ty m k x =>
    rw [ho] at h
    simp only [stepD, Option.map_eq_some_iff, Prod.mk.injEq, Prod.exists] at h
    obtain ⟨b, y, h1, rfl, rfl⟩ := h
    obtain ⟨w', h2, h3⟩ := run_mapUpdD (P := P) hG hr hsubT (ve m) (ve k) (ve x) h1
    exact ⟨undef, w', A, φ, .inr ⟨by simp [execOp, ho, h2], rfl⟩, h3.value o.dst (.any _ _)⟩
  | insert ty m k x =>
    rw [ho] at h
    simp only [stepD, Option.map_eq_some_iff, Prod.mk.injEq, Prod.exists] at h
    obtain ⟨b, y, h1, rfl, rfl⟩ := h
    obtain ⟨w', h2, h3⟩ := run_mapUpdD (P := P) hG hr hsubT (ve m) (ve k) (ve x) h1
    exact ⟨undef, w', A, φ, .inr ⟨by simp [execOp, ho, h2], rfl⟩, h3.value o.dst (.any _ _)⟩
  | mapEntry ty m k =>
    rw [ho] at h
    simp only [stepD, Option.map_eq_some_iff, Prod.mk.injEq, Prod.exists] at h
    obtain ⟨d', b, y, h1, rfl, rfl⟩ := h
    obtain ⟨r, w', h2, h3, h4⟩ := run_mapEntD (P := P) hG hr hsubT (ve m) (ve k) h1
    exact finP (by simp only [execOp, ho]) h2 h3 h4
  | entryStore ty m k x =>
    rw [ho] at h
    simp only [stepD, Option.map_eq_some_iff, Prod.mk.injEq, Prod.exists] at h
    obtain ⟨b, y, h1, rfl, rfl⟩ := h
    obtain ⟨w', h2, h3⟩ := run_entStD (P := P) (t := ty) hG hr hsubT (ve m) (ve k) (ve x) h1
    exact ⟨undef, w', A, φ, .inr ⟨by simp [execOp, ho, h2], rfl⟩, h3.value o.dst (.any _ _)⟩
  | call c =>
    obtain ⟨cal, args, tys⟩ := c
    cases cal with
    | builtin b =>
      rw [ho] at h
      simp only [stepD] at h
      have hex : ∀ (m : Array Value → Sem Value), (∀ q, builtin b tys o.type q (args.map a.eval) = (do pure (.value (← m (args.map a.eval))))) →
          execOp a.eval o = (do pure (.value (← m (args.map a.eval)))) := fun m hm => by
        simp only [execOp, ho, resolve, invoke]
        exact hm _
      obtain ⟨args, rfl⟩ : ∃ l : List Operand, l.toArray = args := ⟨args.toList, by simp⟩
      obtain ⟨tys, rfl⟩ : ∃ l : List TypeId, l.toArray = tys := ⟨tys.toList, by simp⟩
      simp only at h
      unfold builtinD at h
      split at h
      · rename_i x t ha
        obtain ⟨x', rfl, rfl⟩ : ∃ x', args = [x'] ∧ ev st.t x' = x := by
          cases args with
          | nil => simp at ha
          | cons y r => cases r with
            | nil => simp at ha; exact ⟨y, rfl, ha⟩
            | cons _ _ => simp at ha
        simp only [Option.map_eq_some_iff, Prod.mk.injEq] at h
        obtain ⟨n, h1, rfl, rfl⟩ := h
        exact fin (m := Builtin.len_ #[t] o.type #[a.eval x']) (by simpa using hex (fun v => Builtin.len_ #[t] o.type v) fun q => by simp [builtin]) (r := .int .i64 n) (run_lenO (P := P) (ve x') h1) (.v _ _)
      · rename_i m k t ts ha
        obtain ⟨x', y', rfl, rfl, rfl⟩ : ∃ x' y', args = [x', y'] ∧ ev st.t x' = m ∧ ev st.t y' = k := by
          match args, ha with
          | [p, q], ha => simp at ha; exact ⟨p, q, rfl, ha⟩
        simp only [Option.map_eq_some_iff, Prod.mk.injEq, Prod.exists] at h
        obtain ⟨b, y, h1, rfl, rfl⟩ := h
        obtain ⟨w', h2, h3⟩ := run_deleteD (P := P) hG hr hsubT (ty := o.type) (ts := ts) (ve x') (ve y') h1
        exact finP (m := Builtin.delete_ (t :: ts).toArray o.type #[a.eval x', a.eval y']) (by simpa using hex (fun v => Builtin.delete_ (t :: ts).toArray o.type v) fun q => by simp [builtin]) h2 (.any _ _) h3
      · rename_i x t ha
        obtain ⟨x', rfl, rfl⟩ : ∃ x', args = [x'] ∧ ev st.t x' = x := by
          cases args with
          | nil => simp at ha
          | cons y r => cases r with
            | nil => simp at ha; exact ⟨y, rfl, ha⟩
            | cons _ _ => simp at ha
        simp only [Option.map_eq_some_iff, Prod.mk.injEq, Prod.exists] at h
        obtain ⟨b, y, h1, rfl, rfl⟩ := h
        obtain ⟨w', h2, h3⟩ := run_clearD (P := P) hG hr hsub (ty := o.type) (ve x') h1
        exact finP (m := Builtin.clear_ #[t] o.type #[a.eval x']) (by simpa using hex (fun v => Builtin.clear_ #[t] o.type v) fun q => by simp [builtin]) h2 (.any _ _) h3
      · rename_i x y t t' ha
        obtain ⟨x', y', rfl, rfl, rfl⟩ : ∃ x' y', args = [x', y'] ∧ ev st.t x' = x ∧ ev st.t y' = y := by
          match args, ha with
          | [p, q], ha => simp at ha; exact ⟨p, q, rfl, ha⟩
        split at h
        · simp only [Option.map_eq_some_iff, Prod.mk.injEq, Prod.exists] at h
          obtain ⟨ob, sz, m, cap, es, h1, rfl, rfl⟩ := h
          obtain ⟨r, w', φ', h2, h3, h4⟩ := run_appendC (P := P) hG hr hs hsub (ty := o.type) (ve x') (ve y') h1
          exact finP (m := Builtin.append_ #[t, t'] o.type #[a.eval x', a.eval y']) (by simpa using hex (fun v => Builtin.append_ #[t, t'] o.type v) fun q => by simp [builtin]) h2 h3 h4
        · simp only [Option.map_eq_some_iff, Prod.mk.injEq, Prod.exists] at h
          obtain ⟨ob, sz, es, h1, rfl, rfl⟩ := h
          obtain ⟨r, w', φ', h2, h3, h4⟩ := run_appendD (P := P) hG hr hs hsub (ty := o.type) (ve x') (ve y') h1
          exact finP (m := Builtin.append_ #[t, t'] o.type #[a.eval x', a.eval y']) (by simpa using hex (fun v => Builtin.append_ #[t, t'] o.type v) fun q => by simp [builtin]) h2 h3 h4
      · rename_i x y ha
        obtain ⟨x', y', rfl, rfl, rfl⟩ : ∃ x' y', args = [x', y'] ∧ ev st.t x' = x ∧ ev st.t y' = y := by
          match args, ha with
          | [p, q], ha => simp at ha; exact ⟨p, q, rfl, ha⟩
        simp only [Option.map_eq_some_iff, Prod.mk.injEq] at h
        obtain ⟨d', h1, rfl, rfl⟩ := h
        obtain ⟨r, h2, h3⟩ := (run_maxD (P := P) (ve x') (ve y')).1 h1
        exact fin (m := Builtin.max_ #[] 0 #[a.eval x', a.eval y']) (by simpa using hex (fun v => Builtin.max_ #[] 0 v) fun q => by simp [builtin]; rfl) h2 h3
      · rename_i x y ha
        obtain ⟨x', y', rfl, rfl, rfl⟩ : ∃ x' y', args = [x', y'] ∧ ev st.t x' = x ∧ ev st.t y' = y := by
          match args, ha with
          | [p, q], ha => simp at ha; exact ⟨p, q, rfl, ha⟩
        simp only [Option.map_eq_some_iff, Prod.mk.injEq] at h
        obtain ⟨d', h1, rfl, rfl⟩ := h
        obtain ⟨r, h2, h3⟩ := (run_maxD (P := P) (ve x') (ve y')).2 h1
        exact fin (m := Builtin.min_ #[] 0 #[a.eval x', a.eval y']) (by simpa using hex (fun v => Builtin.min_ #[] 0 v) fun q => by simp [builtin]; rfl) h2 h3
      · cases h
    | value f => rw [ho] at h; cases h
    | invoke r m => rw [ho] at h; cases h
  | _ => rw [ho] at h; cases h
end
end
end Go.DL
