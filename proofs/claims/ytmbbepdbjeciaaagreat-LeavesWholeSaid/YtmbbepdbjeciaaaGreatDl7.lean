/- Slicing, append and copy over abstract values. -/
import Derived.Test.YtmbbepdbjeciaaaGreatDl6
set_option linter.all false
namespace Go.DL
open Go.RowKit

noncomputable section

/-- An optional bound as a number. -/
def bndD (d : Option D) (dflt : Int) : Option Int :=
  match d with
  | none => some dflt
  | some x => intD x

/-- The result of slicing: of a read-only slice, of an own block's, of an empty one. -/
def sliceD (P : Program) (H : List Blk) (t : TypeId) (x : D) (lo hi mx : Option D) : Option D :=
  match elemT P t with
  | none => none
  | some (_, s) => match unfl x with
    | .sl es => match bndD lo 0, bndD hi es.length with
      | some l, some h => match mx with
        | none => if 0 ≤ l ∧ l ≤ h ∧ h ≤ (es.length : Int) ∧ (l = 0 ∨ es.all (fun e => e.length == s) = true) then some (.sl ((es.take h.toNat).drop l.toNat)) else none
        | some m => match intD m with
          | some m => if 0 ≤ l ∧ l = h ∧ l = m ∧ m ≤ (es.length : Int) then some .nil else none
          | none => none
      | _, _ => none
    | .nil => match bndD lo 0, bndD hi 0, bndD mx 0 with
      | some l, some h, some m => if l = 0 ∧ h = 0 ∧ m = 0 then some .nil else none
      | _, _, _ => none
    | .ms b off len cap => match bndD lo 0, bndD hi len, mx with
      | some l, some h, none => if Blk.hasSz s H[b]? = true ∧ 0 ≤ l ∧ l ≤ h ∧ h ≤ (cap : Int) then some (.ms b (off + l.toNat) (h.toNat - l.toNat) (cap - l.toNat)) else none
      | some l, some h, some m => match intD m with
        | some m => if Blk.hasSz s H[b]? = true ∧ 0 ≤ l ∧ l ≤ h ∧ h ≤ m ∧ m ≤ (cap : Int) then some (.ms b (off + l.toNat) (h.toNat - l.toNat) (m.toNat - l.toNat)) else none
        | none => none
      | _, _, _ => none
    | _ => none

/-- The elements that a slice has. -/
def elemsD (H : List Blk) : D → Option (List (List D))
  | .sl es => some (es.map (List.map lowD))
  | .fl es => some (es.map (List.map lowD))
  | .nil => some []
  | .ms b off len _ => match H[b]? with
    | some (.live _ es) => if off + len ≤ es.length then some ((es.take (off + len)).drop off) else none
    | _ => none
  | _ => none

section
variable {A : Rd} {w : World} {φ : Nat → Loc} {P : Program} {H Hm : List Blk}

theorem run_bound {d : D} {u : Value} {n : Int} {y : Nat} {code : BoundsCode} (h : V A w φ d u) (hd : intD d = some n) (h0 : 0 ≤ n) (h1 : n ≤ y) :
    (Instr.sliceBound u y code).run P w = .ok n.toNat w := by
  obtain ⟨k, rfl⟩ := h.int hd
  simp [Instr.sliceBound, asIntOf, h0, h1]

theorem run_bounds {lo hi mx : Option Operand} {t : List D} {a : Act} (ht : TR A w φ t a.tmps) {isS : Bool} {len cap : Nat} {l h m : Int}
    (hl : bndD (lo.map (ev t)) 0 = some l) (hh : bndD (hi.map (ev t)) len = some h) (hm : bndD (mx.map (ev t)) cap = some m)
    (h0 : 0 ≤ l) (h1 : l ≤ h) (h2 : h ≤ m) (h3 : m ≤ cap) (hx : mx.isSome = true → hi.isSome = true) :
    (Instr.sliceBounds isS len cap (lo.map a.eval) (hi.map a.eval) (mx.map a.eval)).run P w = .ok (l.toNat, h.toNat, m.toNat) w := by
  have e1 : ∀ {x : Option Operand} {d : Nat} {n : Int}, bndD (x.map (ev t)) d = some n → (x = none ∧ n = d) ∨ ∃ o, x = some o ∧ intD (ev t o) = some n := fun {x d n} h => by
    cases x with
    | none => simp [bndD] at h; exact .inl ⟨rfl, h.symm⟩
    | some o => exact .inr ⟨o, rfl, h⟩
  have e1' : (lo = none ∧ l = 0) ∨ ∃ o, lo = some o ∧ intD (ev t o) = some l := by
    cases lo with
    | none => simp [bndD] at hl; exact .inl ⟨rfl, hl.symm⟩
    | some o => exact .inr ⟨o, rfl, hl⟩
  have hmn : (m.toNat : Int) = m := by omega
  have hhn : (h.toNat : Int) = h := by omega
  rcases e1 hm with ⟨rfl, em⟩ | ⟨om, rfl, hm'⟩
  · rcases e1 hh with ⟨rfl, eh⟩ | ⟨oh, rfl, hh'⟩
    · rcases e1' with ⟨rfl, el⟩ | ⟨ol, rfl, hl'⟩
      · subst em; subst eh; subst el; simp [Instr.sliceBounds]
      · subst em; subst eh
        have := run_bound (P := P) (y := len) (code := .sliceB) (ht.ev ol) hl' h0 (by omega)
        simp [Instr.sliceBounds, this]
    · have hb := run_bound (P := P) (y := cap) (code := if isS then .sliceAcap else .sliceAlen) (ht.ev oh) hh' (by omega) (by omega)
      rcases e1' with ⟨rfl, el⟩ | ⟨ol, rfl, hl'⟩
      · subst em; subst el; simp [Instr.sliceBounds, hb]
      · subst em
        have := run_bound (P := P) (y := h.toNat) (code := .sliceB) (ht.ev ol) hl' h0 (by omega)
        simp [Instr.sliceBounds, hb, this]
  · have hb0 := run_bound (P := P) (y := cap) (code := if isS then .slice3Acap else .slice3Alen) (ht.ev om) hm' (by omega) (by omega)
    rcases e1 hh with ⟨rfl, eh⟩ | ⟨oh, rfl, hh'⟩
    · simp at hx
    · have hb := run_bound (P := P) (y := m.toNat) (code := .slice3B) (ht.ev oh) hh' (by omega) (by omega)
      rcases e1' with ⟨rfl, el⟩ | ⟨ol, rfl, hl'⟩
      · subst el; simp [Instr.sliceBounds, hb0, hb]
      · have := run_bound (P := P) (y := h.toNat) (code := .slice3C) (ht.ev ol) hl' h0 (by omega)
        simp [Instr.sliceBounds, hb0, hb, this]

theorem run_sliceAt {ty e : TypeId} {s : Nat} (hu : P.underlying ty = some (.slice e)) (hs : tsz P e = some s) {x : Option Addr} {len cap l h m : Nat} {lo hi mx : Option Value}
    (hb : (Instr.sliceBounds true len cap lo hi mx).run P w = .ok (l, h, m) w) :
    (Instr.sliceAt ty (.slice x len cap) lo hi mx).run P w = .ok (.slice (if m = l then x else x.map (·.add (l * s))) (h - l) (m - l)) w := by
  simp [Instr.sliceAt, run_underlying hu, Instr.slice, hb, run_sizeOf hs]

theorem run_sliceD (hr : RH A φ w H) (hsub : Sub Hm H) {ty : TypeId} {t : List D} {a : Act} (ht : TR A w φ t a.tmps) (x : Operand) (lo hi mx : Option Operand) {d : D}
    (h : sliceD P Hm ty (ev t x) (lo.map (ev t)) (hi.map (ev t)) (mx.map (ev t)) = some d) (hx : mx.isSome = true → hi.isSome = true) :
    ∃ r, (Instr.sliceAt ty (a.eval x) (lo.map a.eval) (hi.map a.eval) (mx.map a.eval)).run P w = .ok r w ∧ V A w φ d r := by
  have hv := (ht.ev x).unfl'
  unfold sliceD at h
  split at h
  · cases h
  · rename_i et s he
    obtain ⟨hu, hs⟩ := elemT_ok he
    split at h
    · rename_i es hes
      rw [hes] at hv
      split at h
      · rename_i l hh hl hhi
        split at h
        · rename_i hmx
          split at h
          · rename_i hc
            obtain ⟨c1, c2, c3, c4⟩ := hc
            cases h
            have hmn : mx = none := by cases mx <;> simp at hmx; rfl
            subst hmn
            obtain ⟨u, hue, hlen, hcap⟩ : ∃ u cap, a.eval x = .slice u es.length cap ∧ es.length ≤ cap := by
              generalize a.eval x = y at hv
              cases hv with
              | sl0 _ a cap => exact ⟨a, cap, rfl, Nat.zero_le _⟩
              | sl _ es n off sz cap u ha hcap hsz hc h => exact ⟨_, cap, rfl, hcap⟩
            rw [hlen] at hv ⊢
            have hb := run_bounds (P := P) (w := w) ht (isS := true) (len := es.length) (cap := hue) (l := l) (h := hh) (m := hue) (mx := none) hl hhi rfl c1 c2 (by omega) (by omega) hx
            refine ⟨_, run_sliceAt hu hs hb, ?_⟩
            simp only [Int.toNat_natCast]
            have hlen2 : ((es.take hh.toNat).drop l.toNat).length = hh.toNat - l.toNat := by simp; omega
            have hget : ∀ (i : Nat) (e : List D), ((es.take hh.toNat).drop l.toNat)[i]? = some e → es[l.toNat + i]? = some e := fun i e he => by
              rw [List.getElem?_drop, List.getElem?_take] at he
              split at he
              · exact he
              · cases he
            cases hv with
            | sl0 =>
              have hn : (List.drop l.toNat (List.take hh.toNat ([] : List (List D)))) = [] := by simp
              rw [hn] at hlen2 ⊢
              rw [← hlen2]; exact .sl0 _ _ _
            | sl _ _ n off sz _ v ha hcp hsz hcc hhh =>
              rcases Nat.eq_zero_or_pos (hh.toNat - l.toNat) with hz | hz
              · rw [hz] at hlen2 ⊢
                rw [List.eq_nil_of_length_eq_zero hlen2]; exact .sl0 _ _ _
              · have hne : ¬ (hue = l.toNat) := by omega
                rw [if_neg hne, ← hlen2]
                simp only [Option.map_some, add_none]
                have hzs : l.toNat * s = l.toNat * sz := by
                  rcases c4 with c4 | c4
                  · subst c4; simp
                  · congr 1
                    have h0 : 0 < es.length := by omega
                    have h1 := hsz 0 es[0] (List.getElem?_eq_getElem h0)
                    rw [List.all_eq_true] at c4
                    have h2 := c4 es[0] (List.getElem_mem h0)
                    simp only [beq_iff_eq] at h2
                    omega
                rw [hzs]
                refine .sl _ _ n _ sz _ (fun i j => v (l.toNat + i) j) ha (by rw [hlen2]; omega) (fun i e he => hsz _ _ (hget i e he)) (fun i e j d he hd => ?_) (fun i e j d he hd => hhh _ _ _ _ (hget i e he) hd)
                rw [show off + l.toNat * sz + i * sz + j = off + (l.toNat + i) * sz + j by rw [Nat.add_mul]; omega]
                exact hcc _ _ _ _ (hget i e he) hd
          · cases h
        · rename_i om hmx
          split at h
          · rename_i m hm
            split at h
            · rename_i hc
              obtain ⟨c1, c2, c3, c4⟩ := hc
              cases h
              obtain ⟨ox, rfl⟩ : ∃ ox, mx = some ox := by cases mx <;> simp at hmx; exact ⟨_, rfl⟩
              simp only [Option.map_some, Option.some.injEq] at hmx
              obtain ⟨u, cap, hlen, hcap⟩ : ∃ u cap, a.eval x = .slice u es.length cap ∧ es.length ≤ cap := by
                generalize a.eval x = y at hv
                cases hv with
                | sl0 _ a cap => exact ⟨a, cap, rfl, Nat.zero_le _⟩
                | sl _ es n off sz cap u ha hcap hsz hc h => exact ⟨_, cap, rfl, hcap⟩
              rw [hlen]
              have hb := run_bounds (P := P) (w := w) ht (isS := true) (len := es.length) (cap := cap) (l := l) (h := hh) (m := m) (mx := some ox) hl hhi (by simp only [Option.map_some, bndD]; rw [hmx]; exact hm) c1 (by omega) (by omega) (by omega) hx
              refine ⟨_, run_sliceAt hu hs hb, ?_⟩
              have e1 : hh.toNat - l.toNat = 0 := by omega
              have e2 : m.toNat - l.toNat = 0 := by omega
              rw [e1, e2]; exact .nil _ _
            · cases h
          · cases h
      · cases h
    · rename_i hes
      rw [hes] at hv
      split at h
      · rename_i l hh m hl hhi hm
        split at h
        · rename_i hc
          obtain ⟨rfl, rfl, rfl⟩ := hc
          cases h
          generalize hy : a.eval x = y at hv
          cases hv with
          | nil _ u =>
            have hb := run_bounds (P := P) (w := w) ht (isS := true) (len := 0) (cap := 0) (l := 0) (h := 0) (m := 0) hl hhi hm (by omega) (by omega) (by omega) (by omega) hx
            refine ⟨_, run_sliceAt hu hs hb, ?_⟩
            simp; exact .nil _ _
        · cases h
      · cases h
    · rename_i b off len cap hes
      rw [hes] at hv
      have key : ∀ {l hh : Int} {m cap' : Nat} {u : Option Addr}, Blk.hasSz s Hm[b]? = true → 0 ≤ l → l ≤ hh → hh ≤ m → m ≤ cap' → (φ b).msOk off cap' u → ∀ capm, hh.toNat - l.toNat ≤ capm → capm ≤ m - l.toNat →
          V A w φ (.ms b (off + l.toNat) (hh.toNat - l.toNat) capm) (.slice (if m = l.toNat then u else u.map (·.add (l.toNat * s))) (hh.toNat - l.toNat) (m - l.toNat)) :=
        fun {l hh m cap' u} hb h0 h1 h2 h3 hms capm h4 h5 => by
          refine .ms _ _ _ _ _ _ _ h4 h5 ?_
          unfold Blk.hasSz at hb
          split at hb
          · rename_i sz es hbl
            simp only [beq_iff_eq] at hb
            subst hb
            rcases hr.live b sz es (hsub _ _ _ hbl) with ⟨rfl, hp⟩ | ⟨n, base, room, c, ty', hp, hl⟩
            · rw [hp] at hms ⊢
              have : cap' = 0 := hms
              show m - l.toNat = 0
              omega
            · rw [hp] at hms ⊢
              obtain ⟨k1, k2⟩ := hms
              refine ⟨by omega, ?_⟩
              rcases Nat.eq_or_lt_of_le (show l.toNat ≤ m by omega) with e | e
              · left; omega
              · right
                have hu : u = some ⟨n, base + off * sz, none⟩ := k2.resolve_left (by omega)
                rw [if_neg (by omega), hu]
                simp only [Option.map_some, add_none, Nat.add_mul, Nat.add_assoc]
          · cases hb
      generalize hy : a.eval x = y at hv
      cases hv with
      | ms _ _ _ _ _ cap' u hlen hcap hms =>
        split at h
        · rename_i l hh hl hhi hmx
          split at h
          · rename_i hc
            obtain ⟨c0, c1, c2, c3⟩ := hc
            cases h
            have hmn : mx = none := by cases mx <;> simp at hmx; rfl
            subst hmn
            have hb := run_bounds (P := P) (w := w) ht (isS := true) (len := len) (cap := cap') (l := l) (h := hh) (m := cap') (mx := none) hl hhi rfl c1 c2 (by omega) (by omega) hx
            refine ⟨_, run_sliceAt hu hs hb, ?_⟩
            simp only [Int.toNat_natCast]
            exact key c0 c1 c2 (by omega) (Nat.le_refl _) hms _ (by omega) (by omega)
          · cases h
        · rename_i l hh om hl hhi hmx
          split at h
          · rename_i m hm
            split at h
            · rename_i hc
              obtain ⟨c0, c1, c2, c3, c4⟩ := hc
              cases h
              obtain ⟨ox, rfl⟩ : ∃ ox, mx = some ox := by cases mx <;> simp at hmx; exact ⟨_, rfl⟩
              simp only [Option.map_some, Option.some.injEq] at hmx
              have hb := run_bounds (P := P) (w := w) ht (isS := true) (len := len) (cap := cap') (l := l) (h := hh) (m := m) (mx := some ox) hl hhi (by simp only [Option.map_some, bndD]; rw [hmx]; exact hm) c1 c2 c3 (by omega) hx
              refine ⟨_, run_sliceAt hu hs hb, ?_⟩
              exact key c0 c1 c2 (by omega) (by omega) hms _ (by omega) (Nat.le_refl _)
            · cases h
          · cases h
        · cases h
    · cases h
end
end
end Go.DL
