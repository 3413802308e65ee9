/- Maps whose keys are words, as lists of pairs: a look, a write, their number. -/
import Derived.Test.YtmbbepdbjeciaaaGreatE5
import Derived.Shelf.SlSortCmp.WholeK
import Derived.Shelf.SlSortCmp.NoneTotal
import Derived.Shelf.SortM.Plain
import Derived.Shelf.SortM.SortNone
set_option maxRecDepth 100000
namespace Go.DL
open Go.RowKit Go.Proofs

noncomputable section

abbrev KV := List (Int × D)
abbrev kW (k : Int) : Value := .int .i64 k
def afind : KV → Int → Option (Nat × D)
  | [], _ => none
  | p :: r, k => if p.1 = k then some (0, p.2) else (afind r k).map fun q => (q.1 + 1, q.2)
def aget (kv : KV) (k : Int) : Option D := (afind kv k).map (·.2)
def aset : KV → Int → D → KV
  | [], k, v => [(k, v)]
  | p :: r, k, v => if p.1 = k then (k, v) :: r else p :: aset r k v
def tabE : Nat → KV → List (Value × D × Nat)
  | _, [] => []
  | j, p :: r => (kW p.1, p.2, j) :: tabE (j + 1) r
/-- A map with these pairs. -/
def tabB (kv : KV) : Blk := .tab kv.length (tabE 0 kv)

theorem tabE_len : ∀ (kv : KV) (j : Nat), (tabE j kv).length = kv.length
  | [], _ => rfl
  | _ :: r, j => by simp [tabE, tabE_len r]
theorem aget_set : ∀ (kv : KV) (k k' : Int) (v : D), aget (aset kv k v) k' = if k' = k then some v else aget kv k'
  | [], k, k', v => by
    by_cases h : k' = k
    · subst h; simp [aset, aget, afind]
    · simp [aset, aget, afind, h, Ne.symm h]
  | p :: r, k, k', v => by
    have ih := aget_set r k k' v
    by_cases hp : p.1 = k
    · simp only [aset, if_pos hp]
      by_cases h : k' = k
      · subst h; simp [aget, afind]
      · have h2 : ¬ p.1 = k' := fun e => h (by rw [← e, hp])
        simp only [aget, afind, if_neg (Ne.symm h), if_neg h, if_neg h2]
    · simp only [aset, if_neg hp]
      by_cases h : p.1 = k'
      · have : ¬ k' = k := fun e => hp (h.trans e)
        simp [aget, afind, h, this]
      · simp only [aget, afind, if_neg h, Option.map_map] at ih ⊢
        by_cases hk : k' = k
        · rw [if_pos hk] at ih ⊢
          exact ih
        · rw [if_neg hk] at ih ⊢
          exact ih
theorem aset_len : ∀ (kv : KV) (k : Int) (v : D), (aset kv k v).length = kv.length + (if (afind kv k).isSome = true then 0 else 1)
  | [], _, _ => rfl
  | p :: r, k, v => by
    by_cases hp : p.1 = k
    · simp [aset, afind, hp]
    · have ih := aset_len r k v
      simp only [aset, if_neg hp, List.length_cons, ih, afind, Option.isSome_map]
      omega
theorem tabFind_E (k : Int) : ∀ (kv : KV) (j i : Nat), tabFind (.int .i64) (kW k) (tabE j kv) i = some ((afind kv k).map fun q => (i + q.1, q.2))
  | [], _, _ => rfl
  | p :: r, j, i => by
    have hs : Instr.sameNow (.int .i64) (kW k) (kW p.1) = some (k == p.1) := by simp [Instr.sameNow]
    simp only [tabE, tabFind, hs]
    by_cases h : p.1 = k
    · subst h
      simp [afind]
    · have hb : (k == p.1) = false := by simp; exact Ne.symm h
      simp only [hb, afind, if_neg h, tabFind_E k r (j + 1) (i + 1), Option.map_map]
      congr 2
      funext q
      simp; omega
theorem tabE_mod (k : Int) (v : D) : ∀ (kv : KV) (j q : Nat) (d : D), afind kv k = some (q, d) → (tabE j kv).modify q (fun e => (kW k, v, e.2.2)) = tabE j (aset kv k v)
  | [], _, _, _, h => by cases h
  | p :: r, j, q, d, h => by
    by_cases hp : p.1 = k
    · simp only [afind, if_pos hp, Option.some.injEq, Prod.mk.injEq] at h
      obtain ⟨rfl, _⟩ := h
      simp [tabE, aset, hp]
    · simp only [afind, if_neg hp, Option.map_eq_some_iff, Prod.mk.injEq, Prod.exists] at h
      obtain ⟨q', d', h1, rfl, rfl⟩ := h
      simp only [tabE, aset, if_neg hp, List.modify_succ_cons, tabE_mod k v r (j + 1) q' d' h1]
theorem tabE_new (k : Int) (v : D) : ∀ (kv : KV) (j : Nat), afind kv k = none → tabE j kv ++ [(kW k, v, j + kv.length)] = tabE j (aset kv k v)
  | [], _, _ => rfl
  | p :: r, j, h => by
    have hp : ¬ p.1 = k := fun hp => by simp [afind, hp] at h
    simp only [afind, if_neg hp, Option.map_eq_none_iff] at h
    simp only [tabE, aset, if_neg hp, List.cons_append, List.length_cons]
    rw [← tabE_new k v r (j + 1) h, show j + (r.length + 1) = j + 1 + r.length by omega]

section
variable {P : Program} {H : List Blk} {s n : Nat} {al : AL} {tx ty' : TypeId} {x y z : Operand} {k : Int} {b : Nat} {kv : KV} {te : TypeId}
theorem f_mvM (hx : evA n al x = .mm b) : Val P H s n al (.move x) (.mm b) := ⟨by simp [stepD, ev_T, hx]⟩
theorem f_asM (hx : evA n al x = .mm b) : Val P H s n al (.assign x) (.mm b) := ⟨by simp [stepD, ev_T, hx]⟩
theorem f_mkmap : Mk P H s n al (.makeMap tx none) (.mm s) (tabB []) := ⟨rfl⟩
theorem f_look {d : D} (hx : evA n al x = .mm b) (hy : evA n al y = wI k) (hb : H[b]? = some (tabB kv)) (ht : mapT P tx = some (.int .i64, te)) (hd : (aget kv k).orElse (fun _ => zvD P te) = some d) :
    Val P H s n al (.lookup tx x y false) d := by
  refine ⟨?_⟩
  simp only [stepD, ev_T, hx, hy, lookupD, ht, hb, tabB, tabFind_E k, aget] at hd ⊢
  cases hf : afind kv k with
  | none => rw [hf] at hd; simp at hd; simp [hd, keepD]
  | some q => rw [hf] at hd; simp at hd; simp [hd, keepD]
theorem f_look2 {d : D} {o : Bool} (hx : evA n al x = .mm b) (hy : evA n al y = wI k) (hb : H[b]? = some (tabB kv)) (ht : mapT P tx = some (.int .i64, te)) (ho : (aget kv k).isSome = o) (hd : (aget kv k).orElse (fun _ => zvD P te) = some d) :
    Val P H s n al (.lookup tx x y true) (.tup [d, wB o]) := by
  refine ⟨?_⟩
  simp only [stepD, ev_T, hx, hy, lookupD, ht, hb, tabB, tabFind_E k, aget] at hd ho ⊢
  cases hf : afind kv k with
  | none => rw [hf] at hd ho; simp at hd ho; subst ho; simp [hd, keepD]
  | some q => rw [hf] at hd ho; simp at hd ho; subst ho; simp [hd, keepD]
theorem f_mupd {d : D} (hx : evA n al x = .mm b) (hy : evA n al y = wI k) (hz : evA n al z = d) (hb : H[b]? = some (tabB kv)) (ht : mapT P tx = some (.int .i64, te)) :
    Wr P H s n al (.mapUpdate tx x y z) b (tabB (aset kv k d)) := by
  subst hz
  refine ⟨?_⟩
  have hl := aset_len kv k (evA n al z)
  simp only [stepD, ev_T, hx, hy, mapUpdD, ht, hb, tabB, tabFind_E k]
  cases hf : afind kv k with
  | none =>
    have h1 := tabE_new k (evA n al z) kv 0 hf
    simp only [Nat.zero_add] at h1
    simp only [hf, Option.isSome_none, Bool.false_eq_true, if_false] at hl
    simp [hl, h1]
  | some q =>
    have h1 := tabE_mod k (evA n al z) kv 0 q.1 q.2 hf
    simp only [hf, Option.isSome_some, if_true, Nat.add_zero] at hl
    simp [hl, h1]
end
/-- How many pairs a map has. -/
theorem RT.lenM {E : Ev} {ops r : List Oper} {n : Nat} {a : AL} {H : List Blk} {g : Gst} {K : KA} {i : Tmp} {x : Operand} {t kt et ty : TypeId} {pos : String} {aft : Array Edge} {b : Nat} {kv : KV} (hx : evA n a x = .mm b) (hu : E.P.underlying t = some (.map kt et))
    (hb : H[b]? = some (tabB kv)) (h : RT E ops r n ((i, wI kv.length) :: a) H g K) : RT E ops (⟨some i, .call { callee := .builtin .len, args := #[x], argTypes := #[t] }, ty, pos, aft, none⟩ :: r) n a H g K := by
  refine ⟨fun ro G hE ds Q hQ ac w hr => ?_⟩
  unfold wpListIn
  rw [if_pos (by simp [Region.wanted])]
  obtain ⟨A, φ, hr⟩ := hr
  have hv := hr.tr.ev x
  rw [ev_T, hx] at hv
  have hrun : (execOp ac.eval ⟨some i, .call { callee := .builtin .len, args := #[x], argTypes := #[t] }, ty, pos, aft, none⟩).run E.P w = .ok (.value (.int .i64 kv.length)) w := by
    have h3 : execOp ac.eval ⟨some i, .call { callee := .builtin .len, args := #[x], argTypes := #[t] }, ty, pos, aft, none⟩ = (do pure (.value (← Builtin.len_ #[t] ty #[ac.eval x]))) := by
      simp only [execOp, resolve, invoke]
      simp [builtin]
    have h4 := run_lenTab (P := E.P) (tx := ty) hr hu hv hb
    rw [tabE_len] at h4
    rw [h3, Sem.run_bind, h4]; rfl
  refine ⟨fun _ _ => trivial, ?_⟩
  rw [Oper.semAt_eq _ _ _ (by simp), hrun]
  have hr3 := hr.value (some i) (d := wI kv.length) (x := .int .i64 kv.length) (.v _ _)
  simp only [setT_T] at hr3
  exact h.out ro G hE ds Q hQ _ _ ⟨A, _, hr3⟩
end
end Go.DL

/- Steps over own blocks that are known by facts of the context. -/
namespace Go.DL
open Go.RowKit Go.Proofs

noncomputable section
section
variable {H T : List Blk} {i j : Nat} {x y : Blk}
theorem hg_lt (h : H[i]? = some x) : i < H.length := (List.getElem?_eq_some_iff.1 h).1
theorem hg_app (T : List Blk) (h : H[i]? = some x) : (H ++ T)[i]? = some x := by
  rw [List.getElem?_append_left (hg_lt h)]; exact h
theorem hg_ne (h : H[i]? = some x) (hn : j ≠ i) : (H.set j y)[i]? = some x := by
  rw [List.getElem?_set_ne hn]; exact h
theorem hg_self (h : j < H.length) : (H.set j y)[j]? = some y := List.getElem?_set_self h
theorem hg_new : (H ++ x :: T)[H.length]? = some x := by
  rw [List.getElem?_append_right (Nat.le_refl _), Nat.sub_self]; rfl
theorem hg_at {t l : Nat} (hl : H.length = l) (h : T[t]? = some x) : (H ++ T)[l + t]? = some x := by
  subst hl
  rw [List.getElem?_append_right (by omega)]
  rw [show H.length + t - H.length = t by omega]; exact h
end
section
variable {P : Program} {H : List Blk} {s n : Nat} {al : AL} {tx : TypeId} {x y : Operand} {a : Int}
theorem f_ldWD {bk k : Nat} {o : List Int} (hx : evA n al x = .mp bk k 0) (hb : H[bk]? = some (.live 1 (o.map eI))) (hk : k < o.length) (ht : isAggD P tx = some false) : Val P H s n al (.load tx x) (wI (o.getD k 0)) := by
  have h := f_ldW (s := s) hx hb hk ht
  have e : o.getD k 0 = o[k] := by rw [List.getD_eq_getElem?_getD, List.getElem?_eq_getElem hk]; rfl
  rw [e]; exact h
theorem f_ldM {α : Type} {f : α → List D} {l : List α} {bk k fo sz : Nat} {rest : List D} {d : D} (hx : evA n al x = .mp bk k fo) (hb : H[bk]? = some (.live sz (l.map f))) (hk : k < l.length) (hd : (f l[k]).drop fo = d :: rest) (ht : isAggD P tx = some false) : Val P H s n al (.load tx x) d :=
  f_ldO hx hb (by rw [List.getElem?_map, List.getElem?_eq_getElem hk]; rfl) hd ht
theorem f_ldMW {α : Type} {f : α → List D} {l : List α} {bk k sz m : Nat} (hx : evA n al x = .mp bk k 0) (hb : H[bk]? = some (.live sz (l.map f))) (hk : k < l.length) (ht : isAggD P tx = some true) (hs : tsz P tx = some m) (hn : (f l[k]).length = m) : Val P H s n al (.load tx x) (.agg (f l[k])) :=
  f_ldOW hx hb (by rw [List.getElem?_map, List.getElem?_eq_getElem hk]; rfl) ht hs hn
/-- A slice literal of one struct. -/
theorem f_bslA1 {te : TypeId} {cs z : List D} {m : Nat} (hx : evA n al x = .agg cs) (he : elemT P tx = some (te, m)) (hz : zeroD P te = some z) (hl : z.length = m) (hm : cs.length = m) (hc : cs.all isCell = true) (h0 : 0 < cs.length := by exact Nat.succ_pos _) (h1 : cs.length ≤ 16777216 := by simp) : Mk P H s n al (.buildSlice tx 1 #[(0, x)]) (.ms s 0 1 1) (.live m [cs]) := by
  subst hm
  refine f_bsl (ps := [(0, x)]) ?_
  simp [buildSliceD, he, hz, hl, rowsD, hx, cellsD, hc, h0, h1]
end
section
variable {E : Ev} {ops r : List Oper} {n : Nat} {a : AL} {H H' : List Blk} {g : Gst} {K : KA} {dst : Option Tmp} {i : Tmp} {op : Op} {x y z : Operand} {tx ty ty' : TypeId} {pos : String} {aft : Array Edge} {f : Nat} {d : D}
theorem RT.mvM (h : RT E ops r n ((i, d) :: a) H g K) (hv : Val E.P H H.length n a (.move x) d := by exact f_mvM rfl) : RT E ops (⟨some i, .move x, ty, pos, aft, none⟩ :: r) n a H g K := RT.v hv h
theorem RT.asM (h : RT E ops r n ((i, d) :: a) H g K) (hv : Val E.P H H.length n a (.assign x) d := by exact f_asM rfl) : RT E ops (⟨some i, .assign x, ty, pos, aft, none⟩ :: r) n a H g K := RT.v hv h
theorem RT.ldH (h : RT E ops r n ((i, d) :: a) H g K) (hv : Val E.P H H.length n a (.load tx x) d := by first | exact f_ldO rfl (by repeat (first | assumption | exact hg_new | exact hg_at (by first | rfl | simp) rfl | exact hg_self (by first | assumption | omega | (simp only [List.length_set, List.length_append, List.length_cons, List.length_nil, List.length_map, List.length_replicate]; omega)) | refine hg_app _ ?_ | refine hg_ne ?_ (by first | assumption | omega) | refine mskR ?_ (by first | (simp [rho, -List.length_eq_zero_iff]; done) | (simp [rho, -List.length_eq_zero_iff]; omega)))) rfl rfl rfl | exact f_ldOW rfl (by repeat (first | assumption | exact hg_new | exact hg_at (by first | rfl | simp) rfl | exact hg_self (by first | assumption | omega | (simp only [List.length_set, List.length_append, List.length_cons, List.length_nil, List.length_map, List.length_replicate]; omega)) | refine hg_app _ ?_ | refine hg_ne ?_ (by first | assumption | omega) | refine mskR ?_ (by first | (simp [rho, -List.length_eq_zero_iff]; done) | (simp [rho, -List.length_eq_zero_iff]; omega)))) rfl rfl rfl rfl | exact f_ldWD rfl (by repeat (first | assumption | exact hg_new | exact hg_at (by first | rfl | simp) rfl | exact hg_self (by first | assumption | omega | (simp only [List.length_set, List.length_append, List.length_cons, List.length_nil, List.length_map, List.length_replicate]; omega)) | refine hg_app _ ?_ | refine hg_ne ?_ (by first | assumption | omega) | refine mskR ?_ (by first | (simp [rho, -List.length_eq_zero_iff]; done) | (simp [rho, -List.length_eq_zero_iff]; omega)))) (by first | assumption | omega | (simp only [List.length_set, List.length_append, List.length_cons, List.length_nil, List.length_map, List.length_replicate]; omega)) rfl | exact f_ldM rfl (by repeat (first | assumption | exact hg_new | exact hg_at (by first | rfl | simp) rfl | exact hg_self (by first | assumption | omega | (simp only [List.length_set, List.length_append, List.length_cons, List.length_nil, List.length_map, List.length_replicate]; omega)) | refine hg_app _ ?_ | refine hg_ne ?_ (by first | assumption | omega) | refine mskR ?_ (by first | (simp [rho, -List.length_eq_zero_iff]; done) | (simp [rho, -List.length_eq_zero_iff]; omega)))) (by first | assumption | omega | (simp only [List.length_set, List.length_append, List.length_cons, List.length_nil, List.length_map, List.length_replicate]; omega)) rfl rfl | exact f_ldMW rfl (by repeat (first | assumption | exact hg_new | exact hg_at (by first | rfl | simp) rfl | exact hg_self (by first | assumption | omega | (simp only [List.length_set, List.length_append, List.length_cons, List.length_nil, List.length_map, List.length_replicate]; omega)) | refine hg_app _ ?_ | refine hg_ne ?_ (by first | assumption | omega) | refine mskR ?_ (by first | (simp [rho, -List.length_eq_zero_iff]; done) | (simp [rho, -List.length_eq_zero_iff]; omega)))) (by first | assumption | omega | (simp only [List.length_set, List.length_append, List.length_cons, List.length_nil, List.length_map, List.length_replicate]; omega)) rfl rfl rfl) : RT E ops (⟨some i, .load tx x, ty, pos, aft, none⟩ :: r) n a H g K := RT.v hv h
theorem RT.ixH (h : RT E ops r n ((i, d) :: a) H g K) (hv : Val E.P H H.length n a (.indexAddr tx x y) d := by exact f_ixO0 rfl rfl (by first | with_reducible exact castR _ | with_reducible exact castS _ | assumption | rfl | omega) (by repeat (first | assumption | exact hg_new | exact hg_at (by first | rfl | simp) rfl | exact hg_self (by first | assumption | omega | (simp only [List.length_set, List.length_append, List.length_cons, List.length_nil, List.length_map, List.length_replicate]; omega)) | refine hg_app _ ?_ | refine hg_ne ?_ (by first | assumption | omega) | refine mskR ?_ (by first | (simp [rho, -List.length_eq_zero_iff]; done) | (simp [rho, -List.length_eq_zero_iff]; omega)))) rfl (by first | assumption | omega | (simp only [List.length_set, List.length_append, List.length_cons, List.length_nil, List.length_map, List.length_replicate]; omega))) : RT E ops (⟨some i, .indexAddr tx x y, ty, pos, aft, none⟩ :: r) n a H g K := RT.v hv h
theorem RT.lkH (h : RT E ops r n ((i, d) :: a) H g K) (hv : Val E.P H H.length n a (.lookup tx x y false) d := by exact f_look rfl rfl (by repeat (first | assumption | exact hg_new | exact hg_at (by first | rfl | simp) rfl | exact hg_self (by first | assumption | omega | (simp only [List.length_set, List.length_append, List.length_cons, List.length_nil, List.length_map, List.length_replicate]; omega)) | refine hg_app _ ?_ | refine hg_ne ?_ (by first | assumption | omega) | refine mskR ?_ (by first | (simp [rho, -List.length_eq_zero_iff]; done) | (simp [rho, -List.length_eq_zero_iff]; omega)))) rfl rfl) : RT E ops (⟨some i, .lookup tx x y false, ty, pos, aft, none⟩ :: r) n a H g K := RT.v hv h
theorem RT.stH {b : Nat} {k : Blk} (h : RT E ops r n a H' g K) (hv : Wr E.P H H.length n a (.store tx x y) b k := by first | exact f_stW rfl (by repeat (first | assumption | exact hg_new | exact hg_at (by first | rfl | simp) rfl | exact hg_self (by first | assumption | omega | (simp only [List.length_set, List.length_append, List.length_cons, List.length_nil, List.length_map, List.length_replicate]; omega)) | refine hg_app _ ?_ | refine hg_ne ?_ (by first | assumption | omega) | refine mskR ?_ (by first | (simp [rho, -List.length_eq_zero_iff]; done) | (simp [rho, -List.length_eq_zero_iff]; omega)))) (by first | assumption | omega | (simp only [List.length_set, List.length_append, List.length_cons, List.length_nil, List.length_map, List.length_replicate]; omega)) rfl rfl | exact f_stV rfl (by repeat (first | assumption | exact hg_new | exact hg_at (by first | rfl | simp) rfl | exact hg_self (by first | assumption | omega | (simp only [List.length_set, List.length_append, List.length_cons, List.length_nil, List.length_map, List.length_replicate]; omega)) | refine hg_app _ ?_ | refine hg_ne ?_ (by first | assumption | omega) | refine mskR ?_ (by first | (simp [rho, -List.length_eq_zero_iff]; done) | (simp [rho, -List.length_eq_zero_iff]; omega)))) rfl rfl rfl rfl rfl | exact f_stA rfl (by repeat (first | assumption | exact hg_new | exact hg_at (by first | rfl | simp) rfl | exact hg_self (by first | assumption | omega | (simp only [List.length_set, List.length_append, List.length_cons, List.length_nil, List.length_map, List.length_replicate]; omega)) | refine hg_app _ ?_ | refine hg_ne ?_ (by first | assumption | omega) | refine mskR ?_ (by first | (simp [rho, -List.length_eq_zero_iff]; done) | (simp [rho, -List.length_eq_zero_iff]; omega)))) rfl rfl rfl rfl rfl (by first | decide | exact Nat.le_refl _) rfl | exact f_st rfl (by repeat (first | assumption | exact hg_new | exact hg_at (by first | rfl | simp) rfl | exact hg_self (by first | assumption | omega | (simp only [List.length_set, List.length_append, List.length_cons, List.length_nil, List.length_map, List.length_replicate]; omega)) | refine hg_app _ ?_ | refine hg_ne ?_ (by first | assumption | omega) | refine mskR ?_ (by first | (simp [rho, -List.length_eq_zero_iff]; done) | (simp [rho, -List.length_eq_zero_iff]; omega)))) rfl rfl rfl rfl rfl rfl (by first | decide | exact Nat.le_refl _) rfl) (hH : H.set b k = H' := by rfl) : RT E ops (⟨none, .store tx x y, ty, pos, aft, none⟩ :: r) n a H g K := RT.wr hv hH h
theorem RT.muH {b : Nat} {k : Blk} (h : RT E ops r n a H' g K) (hv : Wr E.P H H.length n a (.mapUpdate tx x y z) b k := by exact f_mupd rfl rfl rfl (by repeat (first | assumption | exact hg_new | exact hg_at (by first | rfl | simp) rfl | exact hg_self (by first | assumption | omega | (simp only [List.length_set, List.length_append, List.length_cons, List.length_nil, List.length_map, List.length_replicate]; omega)) | refine hg_app _ ?_ | refine hg_ne ?_ (by first | assumption | omega) | refine mskR ?_ (by first | (simp [rho, -List.length_eq_zero_iff]; done) | (simp [rho, -List.length_eq_zero_iff]; omega)))) rfl) (hH : H.set b k = H' := by rfl) : RT E ops (⟨none, .mapUpdate tx x y z, ty, pos, aft, none⟩ :: r) n a H g K := RT.wr hv hH h
theorem RT.mkH {s : Nat} (h : RT E ops r n ((i, .mm s) :: a) H' g K) (hs : H.length = s := by first | rfl | omega) (hH : H ++ [tabB []] = H' := by rfl) : RT E ops (⟨some i, .makeMap tx none, ty, pos, aft, none⟩ :: r) n a H g K := RT.new hs f_mkmap hH h
theorem RT.lnH {t kt et : TypeId} {b : Nat} {kv : KV} (h : RT E ops r n ((i, wI kv.length) :: a) H g K) (hx : evA n a x = .mm b := by rfl) (hu : E.P.underlying t = some (.map kt et) := by rfl) (hb : H[b]? = some (tabB kv) := by exact (by repeat (first | assumption | exact hg_new | exact hg_at (by first | rfl | simp) rfl | exact hg_self (by first | assumption | omega | (simp only [List.length_set, List.length_append, List.length_cons, List.length_nil, List.length_map, List.length_replicate]; omega)) | refine hg_app _ ?_ | refine hg_ne ?_ (by first | assumption | omega) | refine mskR ?_ (by first | (simp [rho, -List.length_eq_zero_iff]; done) | (simp [rho, -List.length_eq_zero_iff]; omega))))) : RT E ops (⟨some i, .call { callee := .builtin .len, args := #[x], argTypes := #[t] }, ty, pos, aft, none⟩ :: r) n a H g K := RT.lenM hx hu hb h
end
section
variable {E : Ev} {ops r : List Oper} {base s : Nat} {hs : List Nat} {pl : List (Nat × List Nat)} {n : Nat} {a : AL} {H H' : List Blk} {K : KP} {dst : Option Tmp} {i : Tmp} {op : Op} {x y z : Operand} {tx ty ty' : TypeId} {pos : String} {aft : Array Edge} {f : Nat} {d : D}
theorem PT.mvMI (hm : maskL base hs H = H) (h : PT E ops base pl r n ((i, d) :: a) H K) (hv : Val E.P H (base + s) n a (.move x) d := by exact f_mvM rfl) : PT E ops base ((s, hs) :: pl) (⟨some i, .move x, ty, pos, aft, none⟩ :: r) n a H K := PT.vI hm hv h
theorem PT.asMI (hm : maskL base hs H = H) (h : PT E ops base pl r n ((i, d) :: a) H K) (hv : Val E.P H (base + s) n a (.assign x) d := by exact f_asM rfl) : PT E ops base ((s, hs) :: pl) (⟨some i, .assign x, ty, pos, aft, none⟩ :: r) n a H K := PT.vI hm hv h
theorem PT.ldHI (hm : maskL base hs H = H) (h : PT E ops base pl r n ((i, d) :: a) H K) (hv : Val E.P H (base + s) n a (.load tx x) d := by first | exact f_ldO rfl (by repeat (first | assumption | exact hg_new | exact hg_at (by first | rfl | simp) rfl | exact hg_self (by first | assumption | omega | (simp only [List.length_set, List.length_append, List.length_cons, List.length_nil, List.length_map, List.length_replicate]; omega)) | refine hg_app _ ?_ | refine hg_ne ?_ (by first | assumption | omega) | refine mskR ?_ (by first | (simp [rho, -List.length_eq_zero_iff]; done) | (simp [rho, -List.length_eq_zero_iff]; omega)))) rfl rfl rfl | exact f_ldOW rfl (by repeat (first | assumption | exact hg_new | exact hg_at (by first | rfl | simp) rfl | exact hg_self (by first | assumption | omega | (simp only [List.length_set, List.length_append, List.length_cons, List.length_nil, List.length_map, List.length_replicate]; omega)) | refine hg_app _ ?_ | refine hg_ne ?_ (by first | assumption | omega) | refine mskR ?_ (by first | (simp [rho, -List.length_eq_zero_iff]; done) | (simp [rho, -List.length_eq_zero_iff]; omega)))) rfl rfl rfl rfl | exact f_ldWD rfl (by repeat (first | assumption | exact hg_new | exact hg_at (by first | rfl | simp) rfl | exact hg_self (by first | assumption | omega | (simp only [List.length_set, List.length_append, List.length_cons, List.length_nil, List.length_map, List.length_replicate]; omega)) | refine hg_app _ ?_ | refine hg_ne ?_ (by first | assumption | omega) | refine mskR ?_ (by first | (simp [rho, -List.length_eq_zero_iff]; done) | (simp [rho, -List.length_eq_zero_iff]; omega)))) (by first | assumption | omega | (simp only [List.length_set, List.length_append, List.length_cons, List.length_nil, List.length_map, List.length_replicate]; omega)) rfl | exact f_ldM rfl (by repeat (first | assumption | exact hg_new | exact hg_at (by first | rfl | simp) rfl | exact hg_self (by first | assumption | omega | (simp only [List.length_set, List.length_append, List.length_cons, List.length_nil, List.length_map, List.length_replicate]; omega)) | refine hg_app _ ?_ | refine hg_ne ?_ (by first | assumption | omega) | refine mskR ?_ (by first | (simp [rho, -List.length_eq_zero_iff]; done) | (simp [rho, -List.length_eq_zero_iff]; omega)))) (by first | assumption | omega | (simp only [List.length_set, List.length_append, List.length_cons, List.length_nil, List.length_map, List.length_replicate]; omega)) rfl rfl | exact f_ldMW rfl (by repeat (first | assumption | exact hg_new | exact hg_at (by first | rfl | simp) rfl | exact hg_self (by first | assumption | omega | (simp only [List.length_set, List.length_append, List.length_cons, List.length_nil, List.length_map, List.length_replicate]; omega)) | refine hg_app _ ?_ | refine hg_ne ?_ (by first | assumption | omega) | refine mskR ?_ (by first | (simp [rho, -List.length_eq_zero_iff]; done) | (simp [rho, -List.length_eq_zero_iff]; omega)))) (by first | assumption | omega | (simp only [List.length_set, List.length_append, List.length_cons, List.length_nil, List.length_map, List.length_replicate]; omega)) rfl rfl rfl) : PT E ops base ((s, hs) :: pl) (⟨some i, .load tx x, ty, pos, aft, none⟩ :: r) n a H K := PT.vI hm hv h
theorem PT.ixHI (hm : maskL base hs H = H) (h : PT E ops base pl r n ((i, d) :: a) H K) (hv : Val E.P H (base + s) n a (.indexAddr tx x y) d := by exact f_ixO0 rfl rfl (by first | with_reducible exact castR _ | with_reducible exact castS _ | assumption | rfl | omega) (by repeat (first | assumption | exact hg_new | exact hg_at (by first | rfl | simp) rfl | exact hg_self (by first | assumption | omega | (simp only [List.length_set, List.length_append, List.length_cons, List.length_nil, List.length_map, List.length_replicate]; omega)) | refine hg_app _ ?_ | refine hg_ne ?_ (by first | assumption | omega) | refine mskR ?_ (by first | (simp [rho, -List.length_eq_zero_iff]; done) | (simp [rho, -List.length_eq_zero_iff]; omega)))) rfl (by first | assumption | omega | (simp only [List.length_set, List.length_append, List.length_cons, List.length_nil, List.length_map, List.length_replicate]; omega))) : PT E ops base ((s, hs) :: pl) (⟨some i, .indexAddr tx x y, ty, pos, aft, none⟩ :: r) n a H K := PT.vI hm hv h
theorem PT.stHI {b : Nat} {k : Blk} (hm : maskL base hs H = H) (h : PT E ops base pl r n a H' K) (hv : Wr E.P H (base + s) n a (.store tx x y) b k := by first | exact f_stW rfl (by repeat (first | assumption | exact hg_new | exact hg_at (by first | rfl | simp) rfl | exact hg_self (by first | assumption | omega | (simp only [List.length_set, List.length_append, List.length_cons, List.length_nil, List.length_map, List.length_replicate]; omega)) | refine hg_app _ ?_ | refine hg_ne ?_ (by first | assumption | omega) | refine mskR ?_ (by first | (simp [rho, -List.length_eq_zero_iff]; done) | (simp [rho, -List.length_eq_zero_iff]; omega)))) (by first | assumption | omega | (simp only [List.length_set, List.length_append, List.length_cons, List.length_nil, List.length_map, List.length_replicate]; omega)) rfl rfl | exact f_stV rfl (by repeat (first | assumption | exact hg_new | exact hg_at (by first | rfl | simp) rfl | exact hg_self (by first | assumption | omega | (simp only [List.length_set, List.length_append, List.length_cons, List.length_nil, List.length_map, List.length_replicate]; omega)) | refine hg_app _ ?_ | refine hg_ne ?_ (by first | assumption | omega) | refine mskR ?_ (by first | (simp [rho, -List.length_eq_zero_iff]; done) | (simp [rho, -List.length_eq_zero_iff]; omega)))) rfl rfl rfl rfl rfl | exact f_stA rfl (by repeat (first | assumption | exact hg_new | exact hg_at (by first | rfl | simp) rfl | exact hg_self (by first | assumption | omega | (simp only [List.length_set, List.length_append, List.length_cons, List.length_nil, List.length_map, List.length_replicate]; omega)) | refine hg_app _ ?_ | refine hg_ne ?_ (by first | assumption | omega) | refine mskR ?_ (by first | (simp [rho, -List.length_eq_zero_iff]; done) | (simp [rho, -List.length_eq_zero_iff]; omega)))) rfl rfl rfl rfl rfl (by first | decide | exact Nat.le_refl _) rfl | exact f_st rfl (by repeat (first | assumption | exact hg_new | exact hg_at (by first | rfl | simp) rfl | exact hg_self (by first | assumption | omega | (simp only [List.length_set, List.length_append, List.length_cons, List.length_nil, List.length_map, List.length_replicate]; omega)) | refine hg_app _ ?_ | refine hg_ne ?_ (by first | assumption | omega) | refine mskR ?_ (by first | (simp [rho, -List.length_eq_zero_iff]; done) | (simp [rho, -List.length_eq_zero_iff]; omega)))) rfl rfl rfl rfl rfl rfl (by first | decide | exact Nat.le_refl _) rfl) (hH : H.set b k = H' := by rfl) : PT E ops base ((s, hs) :: pl) (⟨none, .store tx x y, ty, pos, aft, none⟩ :: r) n a H K := PT.wrI hm hv hH h
end
section
variable {E : Ev} {ops r : List Oper} {ab : List Nat} {base s : Nat} {hs : List Nat} {cw : Option Nat} {pl : PlQ} {n : Nat} {a : AL} {H H' : List Blk} {K : KP} {dst : Option Tmp} {i : Tmp} {op : Op} {x y z : Operand} {tx ty ty' : TypeId} {pos : String} {aft : Array Edge} {f : Nat} {d : D}
theorem ST.mvM (h : ST E ops ab base pl r n ((i, d) :: a) H K) (hv : Val E.P (maskL 0 (hs.map (rho ab base)) H) (base + s) n a (.move x) d := by exact f_mvM rfl) : ST E ops ab base ((s, hs, cw) :: pl) (⟨some i, .move x, ty, pos, aft, none⟩ :: r) n a H K := ST.v hv h
theorem ST.asM (h : ST E ops ab base pl r n ((i, d) :: a) H K) (hv : Val E.P (maskL 0 (hs.map (rho ab base)) H) (base + s) n a (.assign x) d := by exact f_asM rfl) : ST E ops ab base ((s, hs, cw) :: pl) (⟨some i, .assign x, ty, pos, aft, none⟩ :: r) n a H K := ST.v hv h
theorem ST.ldH (h : ST E ops ab base pl r n ((i, d) :: a) H K) (hv : Val E.P (maskL 0 (hs.map (rho ab base)) H) (base + s) n a (.load tx x) d := by first | exact f_ldO rfl (by repeat (first | assumption | exact hg_new | exact hg_at (by first | rfl | simp) rfl | exact hg_self (by first | assumption | omega | (simp only [List.length_set, List.length_append, List.length_cons, List.length_nil, List.length_map, List.length_replicate]; omega)) | refine hg_app _ ?_ | refine hg_ne ?_ (by first | assumption | omega) | refine mskR ?_ (by first | (simp [rho, -List.length_eq_zero_iff]; done) | (simp [rho, -List.length_eq_zero_iff]; omega)))) rfl rfl rfl | exact f_ldOW rfl (by repeat (first | assumption | exact hg_new | exact hg_at (by first | rfl | simp) rfl | exact hg_self (by first | assumption | omega | (simp only [List.length_set, List.length_append, List.length_cons, List.length_nil, List.length_map, List.length_replicate]; omega)) | refine hg_app _ ?_ | refine hg_ne ?_ (by first | assumption | omega) | refine mskR ?_ (by first | (simp [rho, -List.length_eq_zero_iff]; done) | (simp [rho, -List.length_eq_zero_iff]; omega)))) rfl rfl rfl rfl | exact f_ldWD rfl (by repeat (first | assumption | exact hg_new | exact hg_at (by first | rfl | simp) rfl | exact hg_self (by first | assumption | omega | (simp only [List.length_set, List.length_append, List.length_cons, List.length_nil, List.length_map, List.length_replicate]; omega)) | refine hg_app _ ?_ | refine hg_ne ?_ (by first | assumption | omega) | refine mskR ?_ (by first | (simp [rho, -List.length_eq_zero_iff]; done) | (simp [rho, -List.length_eq_zero_iff]; omega)))) (by first | assumption | omega | (simp only [List.length_set, List.length_append, List.length_cons, List.length_nil, List.length_map, List.length_replicate]; omega)) rfl | exact f_ldM rfl (by repeat (first | assumption | exact hg_new | exact hg_at (by first | rfl | simp) rfl | exact hg_self (by first | assumption | omega | (simp only [List.length_set, List.length_append, List.length_cons, List.length_nil, List.length_map, List.length_replicate]; omega)) | refine hg_app _ ?_ | refine hg_ne ?_ (by first | assumption | omega) | refine mskR ?_ (by first | (simp [rho, -List.length_eq_zero_iff]; done) | (simp [rho, -List.length_eq_zero_iff]; omega)))) (by first | assumption | omega | (simp only [List.length_set, List.length_append, List.length_cons, List.length_nil, List.length_map, List.length_replicate]; omega)) rfl rfl | exact f_ldMW rfl (by repeat (first | assumption | exact hg_new | exact hg_at (by first | rfl | simp) rfl | exact hg_self (by first | assumption | omega | (simp only [List.length_set, List.length_append, List.length_cons, List.length_nil, List.length_map, List.length_replicate]; omega)) | refine hg_app _ ?_ | refine hg_ne ?_ (by first | assumption | omega) | refine mskR ?_ (by first | (simp [rho, -List.length_eq_zero_iff]; done) | (simp [rho, -List.length_eq_zero_iff]; omega)))) (by first | assumption | omega | (simp only [List.length_set, List.length_append, List.length_cons, List.length_nil, List.length_map, List.length_replicate]; omega)) rfl rfl rfl) : ST E ops ab base ((s, hs, cw) :: pl) (⟨some i, .load tx x, ty, pos, aft, none⟩ :: r) n a H K := ST.v hv h
theorem ST.ixH (h : ST E ops ab base pl r n ((i, d) :: a) H K) (hv : Val E.P (maskL 0 (hs.map (rho ab base)) H) (base + s) n a (.indexAddr tx x y) d := by exact f_ixO0 rfl rfl (by first | with_reducible exact castR _ | with_reducible exact castS _ | assumption | rfl | omega) (by repeat (first | assumption | exact hg_new | exact hg_at (by first | rfl | simp) rfl | exact hg_self (by first | assumption | omega | (simp only [List.length_set, List.length_append, List.length_cons, List.length_nil, List.length_map, List.length_replicate]; omega)) | refine hg_app _ ?_ | refine hg_ne ?_ (by first | assumption | omega) | refine mskR ?_ (by first | (simp [rho, -List.length_eq_zero_iff]; done) | (simp [rho, -List.length_eq_zero_iff]; omega)))) rfl (by first | assumption | omega | (simp only [List.length_set, List.length_append, List.length_cons, List.length_nil, List.length_map, List.length_replicate]; omega))) : ST E ops ab base ((s, hs, cw) :: pl) (⟨some i, .indexAddr tx x y, ty, pos, aft, none⟩ :: r) n a H K := ST.v hv h
theorem ST.lkH (h : ST E ops ab base pl r n ((i, d) :: a) H K) (hv : Val E.P (maskL 0 (hs.map (rho ab base)) H) (base + s) n a (.lookup tx x y false) d := by exact f_look rfl rfl (by repeat (first | assumption | exact hg_new | exact hg_at (by first | rfl | simp) rfl | exact hg_self (by first | assumption | omega | (simp only [List.length_set, List.length_append, List.length_cons, List.length_nil, List.length_map, List.length_replicate]; omega)) | refine hg_app _ ?_ | refine hg_ne ?_ (by first | assumption | omega) | refine mskR ?_ (by first | (simp [rho, -List.length_eq_zero_iff]; done) | (simp [rho, -List.length_eq_zero_iff]; omega)))) rfl rfl) : ST E ops ab base ((s, hs, cw) :: pl) (⟨some i, .lookup tx x y false, ty, pos, aft, none⟩ :: r) n a H K := ST.v hv h
end
end
end Go.DL

/- Guards of walks: the next operation is of a kind. -/
namespace Go.DL
open Go.RowKit Go.Proofs

noncomputable section
section
variable {E : Ev} {ops r : List Oper} {n : Nat} {a : AL} {H : List Blk} {g : Gst} {K : KA} {dst : Option Tmp} {x y z : Operand} {tx ty ty' : TypeId} {pos : String} {aft : Array Edge} {f : Nat} {bo : BinOp} {uo : UnOp} {cl : Call} {b : Bool} {ps : Array (Nat × Operand)} {qs rs : Array Operand} {fn : Fn} {lo hi mx : Option Operand} {j : Nat × Bool}
theorem w_mv (h : RT E ops (⟨dst, .move x, ty, pos, aft, none⟩ :: r) n a H g K) : RT E ops (⟨dst, .move x, ty, pos, aft, none⟩ :: r) n a H g K := h
theorem w_as (h : RT E ops (⟨dst, .assign x, ty, pos, aft, none⟩ :: r) n a H g K) : RT E ops (⟨dst, .assign x, ty, pos, aft, none⟩ :: r) n a H g K := h
theorem w_ld (h : RT E ops (⟨dst, .load tx x, ty, pos, aft, none⟩ :: r) n a H g K) : RT E ops (⟨dst, .load tx x, ty, pos, aft, none⟩ :: r) n a H g K := h
theorem w_fa (h : RT E ops (⟨dst, .fieldAddr tx x f, ty, pos, aft, none⟩ :: r) n a H g K) : RT E ops (⟨dst, .fieldAddr tx x f, ty, pos, aft, none⟩ :: r) n a H g K := h
theorem w_bn (h : RT E ops (⟨dst, Op.binOp bo tx x y ty', ty, pos, aft, none⟩ :: r) n a H g K) : RT E ops (⟨dst, Op.binOp bo tx x y ty', ty, pos, aft, none⟩ :: r) n a H g K := h
theorem w_pk (h : RT E ops (⟨dst, .pick x y z, ty, pos, aft, none⟩ :: r) n a H g K) : RT E ops (⟨dst, .pick x y z, ty, pos, aft, none⟩ :: r) n a H g K := h
theorem w_ex (h : RT E ops (⟨dst, .extract x f, ty, pos, aft, none⟩ :: r) n a H g K) : RT E ops (⟨dst, .extract x f, ty, pos, aft, none⟩ :: r) n a H g K := h
theorem w_ix (h : RT E ops (⟨dst, .indexAddr tx x y, ty, pos, aft, none⟩ :: r) n a H g K) : RT E ops (⟨dst, .indexAddr tx x y, ty, pos, aft, none⟩ :: r) n a H g K := h
theorem w_un (h : RT E ops (⟨dst, .unOp uo tx x, ty, pos, aft, none⟩ :: r) n a H g K) : RT E ops (⟨dst, .unOp uo tx x, ty, pos, aft, none⟩ :: r) n a H g K := h
theorem w_st (h : RT E ops (⟨dst, .store tx x y, ty, pos, aft, none⟩ :: r) n a H g K) : RT E ops (⟨dst, .store tx x y, ty, pos, aft, none⟩ :: r) n a H g K := h
theorem w_cl (h : RT E ops (⟨dst, .call cl, ty, pos, aft, none⟩ :: r) n a H g K) : RT E ops (⟨dst, .call cl, ty, pos, aft, none⟩ :: r) n a H g K := h
theorem w_cv (h : RT E ops (⟨dst, .convert tx ty' x, ty, pos, aft, none⟩ :: r) n a H g K) : RT E ops (⟨dst, .convert tx ty' x, ty, pos, aft, none⟩ :: r) n a H g K := h
theorem w_bs (h : RT E ops (⟨dst, .buildSlice tx f ps, ty, pos, aft, none⟩ :: r) n a H g K) : RT E ops (⟨dst, .buildSlice tx f ps, ty, pos, aft, none⟩ :: r) n a H g K := h
theorem w_al (h : RT E ops (⟨dst, .alloc tx, ty, pos, aft, none⟩ :: r) n a H g K) : RT E ops (⟨dst, .alloc tx, ty, pos, aft, none⟩ :: r) n a H g K := h
theorem w_bx (h : RT E ops (⟨dst, .box tx x, ty, pos, aft, none⟩ :: r) n a H g K) : RT E ops (⟨dst, .box tx x, ty, pos, aft, none⟩ :: r) n a H g K := h
theorem w_sl (h : RT E ops (⟨dst, .slice tx x lo hi mx, ty, pos, aft, none⟩ :: r) n a H g K) : RT E ops (⟨dst, .slice tx x lo hi mx, ty, pos, aft, none⟩ :: r) n a H g K := h
theorem w_bd (h : RT E ops (⟨dst, .build tx ps, ty, pos, aft, none⟩ :: r) n a H g K) : RT E ops (⟨dst, .build tx ps, ty, pos, aft, none⟩ :: r) n a H g K := h
theorem w_mf (h : RT E ops (⟨dst, .makeFunc fn qs rs, ty, pos, aft, none⟩ :: r) n a H g K) : RT E ops (⟨dst, .makeFunc fn qs rs, ty, pos, aft, none⟩ :: r) n a H g K := h
theorem w_lk (h : RT E ops (⟨dst, .lookup tx x y b, ty, pos, aft, none⟩ :: r) n a H g K) : RT E ops (⟨dst, .lookup tx x y b, ty, pos, aft, none⟩ :: r) n a H g K := h
theorem w_mu (h : RT E ops (⟨dst, .mapUpdate tx x y z, ty, pos, aft, none⟩ :: r) n a H g K) : RT E ops (⟨dst, .mapUpdate tx x y z, ty, pos, aft, none⟩ :: r) n a H g K := h
theorem w_mm (h : RT E ops (⟨dst, .makeMap tx lo, ty, pos, aft, none⟩ :: r) n a H g K) : RT E ops (⟨dst, .makeMap tx lo, ty, pos, aft, none⟩ :: r) n a H g K := h
theorem w_g {op : Op} (h : RT E ops (⟨dst, op, ty, pos, aft, some j⟩ :: r) n a H g K) : RT E ops (⟨dst, op, ty, pos, aft, some j⟩ :: r) n a H g K := h
end
section
variable {E : Ev} {ops r : List Oper} {base : Nat} {pl : List (Nat × List Nat)} {n : Nat} {a : AL} {H : List Blk} {K : KP} {dst : Option Tmp} {x y z : Operand} {tx ty ty' : TypeId} {pos : String} {aft : Array Edge} {f : Nat} {bo : BinOp} {uo : UnOp} {cl : Call} {b : Bool} {ps : Array (Nat × Operand)} {qs rs : Array Operand} {fn : Fn} {lo hi mx : Option Operand} {j : Nat × Bool}
theorem q_mv (h : PT E ops base pl (⟨dst, .move x, ty, pos, aft, none⟩ :: r) n a H K) : PT E ops base pl (⟨dst, .move x, ty, pos, aft, none⟩ :: r) n a H K := h
theorem q_as (h : PT E ops base pl (⟨dst, .assign x, ty, pos, aft, none⟩ :: r) n a H K) : PT E ops base pl (⟨dst, .assign x, ty, pos, aft, none⟩ :: r) n a H K := h
theorem q_ld (h : PT E ops base pl (⟨dst, .load tx x, ty, pos, aft, none⟩ :: r) n a H K) : PT E ops base pl (⟨dst, .load tx x, ty, pos, aft, none⟩ :: r) n a H K := h
theorem q_fa (h : PT E ops base pl (⟨dst, .fieldAddr tx x f, ty, pos, aft, none⟩ :: r) n a H K) : PT E ops base pl (⟨dst, .fieldAddr tx x f, ty, pos, aft, none⟩ :: r) n a H K := h
theorem q_bn (h : PT E ops base pl (⟨dst, Op.binOp bo tx x y ty', ty, pos, aft, none⟩ :: r) n a H K) : PT E ops base pl (⟨dst, Op.binOp bo tx x y ty', ty, pos, aft, none⟩ :: r) n a H K := h
theorem q_pk (h : PT E ops base pl (⟨dst, .pick x y z, ty, pos, aft, none⟩ :: r) n a H K) : PT E ops base pl (⟨dst, .pick x y z, ty, pos, aft, none⟩ :: r) n a H K := h
theorem q_ex (h : PT E ops base pl (⟨dst, .extract x f, ty, pos, aft, none⟩ :: r) n a H K) : PT E ops base pl (⟨dst, .extract x f, ty, pos, aft, none⟩ :: r) n a H K := h
theorem q_ix (h : PT E ops base pl (⟨dst, .indexAddr tx x y, ty, pos, aft, none⟩ :: r) n a H K) : PT E ops base pl (⟨dst, .indexAddr tx x y, ty, pos, aft, none⟩ :: r) n a H K := h
theorem q_un (h : PT E ops base pl (⟨dst, .unOp uo tx x, ty, pos, aft, none⟩ :: r) n a H K) : PT E ops base pl (⟨dst, .unOp uo tx x, ty, pos, aft, none⟩ :: r) n a H K := h
theorem q_st (h : PT E ops base pl (⟨dst, .store tx x y, ty, pos, aft, none⟩ :: r) n a H K) : PT E ops base pl (⟨dst, .store tx x y, ty, pos, aft, none⟩ :: r) n a H K := h
theorem q_cl (h : PT E ops base pl (⟨dst, .call cl, ty, pos, aft, none⟩ :: r) n a H K) : PT E ops base pl (⟨dst, .call cl, ty, pos, aft, none⟩ :: r) n a H K := h
theorem q_bs (h : PT E ops base pl (⟨dst, .buildSlice tx f ps, ty, pos, aft, none⟩ :: r) n a H K) : PT E ops base pl (⟨dst, .buildSlice tx f ps, ty, pos, aft, none⟩ :: r) n a H K := h
theorem q_al (h : PT E ops base pl (⟨dst, .alloc tx, ty, pos, aft, none⟩ :: r) n a H K) : PT E ops base pl (⟨dst, .alloc tx, ty, pos, aft, none⟩ :: r) n a H K := h
theorem q_bx (h : PT E ops base pl (⟨dst, .box tx x, ty, pos, aft, none⟩ :: r) n a H K) : PT E ops base pl (⟨dst, .box tx x, ty, pos, aft, none⟩ :: r) n a H K := h
theorem q_sl (h : PT E ops base pl (⟨dst, .slice tx x lo hi mx, ty, pos, aft, none⟩ :: r) n a H K) : PT E ops base pl (⟨dst, .slice tx x lo hi mx, ty, pos, aft, none⟩ :: r) n a H K := h
theorem q_g {op : Op} (h : PT E ops base pl (⟨dst, op, ty, pos, aft, some j⟩ :: r) n a H K) : PT E ops base pl (⟨dst, op, ty, pos, aft, some j⟩ :: r) n a H K := h
end
section
variable {E : Ev} {ops r : List Oper} {ab : List Nat} {base : Nat} {pl : PlQ} {n : Nat} {a : AL} {H : List Blk} {K : KP} {dst : Option Tmp} {x y z : Operand} {tx ty ty' : TypeId} {pos : String} {aft : Array Edge} {f : Nat} {bo : BinOp} {uo : UnOp} {cl : Call} {b : Bool} {ps : Array (Nat × Operand)} {qs rs : Array Operand} {fn : Fn} {lo hi mx : Option Operand} {j : Nat × Bool}
theorem s_mv (h : ST E ops ab base pl (⟨dst, .move x, ty, pos, aft, none⟩ :: r) n a H K) : ST E ops ab base pl (⟨dst, .move x, ty, pos, aft, none⟩ :: r) n a H K := h
theorem s_as (h : ST E ops ab base pl (⟨dst, .assign x, ty, pos, aft, none⟩ :: r) n a H K) : ST E ops ab base pl (⟨dst, .assign x, ty, pos, aft, none⟩ :: r) n a H K := h
theorem s_ld (h : ST E ops ab base pl (⟨dst, .load tx x, ty, pos, aft, none⟩ :: r) n a H K) : ST E ops ab base pl (⟨dst, .load tx x, ty, pos, aft, none⟩ :: r) n a H K := h
theorem s_bn (h : ST E ops ab base pl (⟨dst, Op.binOp bo tx x y ty', ty, pos, aft, none⟩ :: r) n a H K) : ST E ops ab base pl (⟨dst, Op.binOp bo tx x y ty', ty, pos, aft, none⟩ :: r) n a H K := h
theorem s_pk (h : ST E ops ab base pl (⟨dst, .pick x y z, ty, pos, aft, none⟩ :: r) n a H K) : ST E ops ab base pl (⟨dst, .pick x y z, ty, pos, aft, none⟩ :: r) n a H K := h
theorem s_ex (h : ST E ops ab base pl (⟨dst, .extract x f, ty, pos, aft, none⟩ :: r) n a H K) : ST E ops ab base pl (⟨dst, .extract x f, ty, pos, aft, none⟩ :: r) n a H K := h
theorem s_ix (h : ST E ops ab base pl (⟨dst, .indexAddr tx x y, ty, pos, aft, none⟩ :: r) n a H K) : ST E ops ab base pl (⟨dst, .indexAddr tx x y, ty, pos, aft, none⟩ :: r) n a H K := h
theorem s_un (h : ST E ops ab base pl (⟨dst, .unOp uo tx x, ty, pos, aft, none⟩ :: r) n a H K) : ST E ops ab base pl (⟨dst, .unOp uo tx x, ty, pos, aft, none⟩ :: r) n a H K := h
theorem s_st (h : ST E ops ab base pl (⟨dst, .store tx x y, ty, pos, aft, none⟩ :: r) n a H K) : ST E ops ab base pl (⟨dst, .store tx x y, ty, pos, aft, none⟩ :: r) n a H K := h
theorem s_cl (h : ST E ops ab base pl (⟨dst, .call cl, ty, pos, aft, none⟩ :: r) n a H K) : ST E ops ab base pl (⟨dst, .call cl, ty, pos, aft, none⟩ :: r) n a H K := h
theorem s_bs (h : ST E ops ab base pl (⟨dst, .buildSlice tx f ps, ty, pos, aft, none⟩ :: r) n a H K) : ST E ops ab base pl (⟨dst, .buildSlice tx f ps, ty, pos, aft, none⟩ :: r) n a H K := h
theorem s_sl (h : ST E ops ab base pl (⟨dst, .slice tx x lo hi mx, ty, pos, aft, none⟩ :: r) n a H K) : ST E ops ab base pl (⟨dst, .slice tx x lo hi mx, ty, pos, aft, none⟩ :: r) n a H K := h
end
section
variable {E : Ev} {n : Nat} {a : AL} {H : List Blk} {g : Gst} {Q : KX} {ops : List Oper} {K : KA} {KK : KP} {c : Code} {l : List Oper} {base : Nat} {pl : List (Nat × List Nat)} {pq : PlQ} {ab : List Nat}
theorem w_nil (h : RT E ops [] n a H g K) : RT E ops [] n a H g K := h
theorem q_nil (h : PT E ops base pl [] n a H KK) : PT E ops base pl [] n a H KK := h
theorem s_nil (h : ST E ops ab base pq [] n a H KK) : ST E ops ab base pq [] n a H KK := h
theorem w_any (h : RT E ops l n a H g K) : RT E ops l n a H g K := h
theorem q_any (h : PT E ops base pl l n a H KK) : PT E ops base pl l n a H KK := h
theorem s_any (h : ST E ops ab base pq l n a H KK) : ST E ops ab base pq l n a H KK := h
theorem v_any (h : VT E c n a H g Q) : VT E c n a H g Q := h
end
end
end Go.DL

/- What is read of an argument, as plain data: numbers, booleans, lists. -/
set_option maxRecDepth 100000
namespace Go.DL
open Go.RowKit Go.Proofs Go.ChangeShapes Go.WideShapes

noncomputable section
section
variable {H : Type} {enc : TypeId × Value → H} {P : Program} {w : World}
end
theorem wf_i64 {n : Int} (h : (Lit.int .i64 n).wf = true) : -9223372036854775808 ≤ n ∧ n ≤ 9223372036854775807 := by
  simp only [Lit.wf, Bool.and_eq_true, decide_eq_true_eq] at h
  exact h
theorem wf_u8 {n : Int} (h : (Lit.int .u8 n).wf = true) : 0 ≤ n ∧ n ≤ 255 := by
  simp only [Lit.wf, Bool.and_eq_true, decide_eq_true_eq] at h
  exact h
theorem reach62 : reachBytes ≤ 4611686018427387904 := by decide
theorem list_of {α : Type} {Q : α → Prop} {g : α → List D} : ∀ {es : List (List D)}, (∀ e, e ∈ es → ∃ a, Q a ∧ e = g a) → ∃ l : List α, (∀ a, a ∈ l → Q a) ∧ es = l.map g
  | [], _ => ⟨[], fun a h => (by cases h), rfl⟩
  | e :: es, h => by
    obtain ⟨a, ha, rfl⟩ := h e (List.mem_cons_self ..)
    obtain ⟨l, hl, rfl⟩ := list_of fun e he => h e (List.mem_cons_of_mem _ he)
    refine ⟨a :: l, fun b hb => ?_, rfl⟩
    rcases List.mem_cons.1 hb with e | e
    · rw [e]; exact ha
    · exact hl b e
/-- A slice whose elements are read as plain data. -/
theorem slice_of {α : Type} {Q : α → Prop} {g : α → List D} {R : List D → Prop} (hR : ∀ e, R e → ∃ a, Q a ∧ e = g a) {es : List (List D)} (h1 : es.length ≤ reachBytes) (h2 : ∀ e, e ∈ es → R e) :
    ∃ l : List α, (l.length ≤ 4611686018427387904 ∧ ∀ a, a ∈ l → Q a) ∧ es = l.map g := by
  obtain ⟨l, h3, rfl⟩ := list_of fun e he => hR e (h2 e he)
  exact ⟨l, ⟨by have := reach62; simp at h1; omega, h3⟩, rfl⟩
end
end Go.DL

/- Engine: small steps of operations. -/
set_option maxRecDepth 100000
set_option maxHeartbeats 4000000
namespace Go.DL
open Go.Proofs Go
theorem map_get {α β : Type} {f : α → β} {l : List α} {k : Nat} {x : α} (h : l[k]? = some x) : (l.map f)[k]? = some (f x) := by rw [List.getElem?_map, h]; rfl
section
variable {P : Program} {H : List Blk} {s n : Nat} {al : AL} {tx ty' : TypeId} {x y : Operand} {a b : Int}
theorem f_ixQ {α : Type} {f : α → List D} {l : List α} {k : Nat} {sz : Nat} {z : α} (hx : unfl (evA n al x) = .sl (l.map f)) (hy : evA n al y = wI a) (hn : a = k) (hk : l[k]? = some z) (hs : (elemT P tx).map (·.2) = some sz) (hf : (f z).length = sz) :
    Val P H s n al (.indexAddr tx x y) (.rp (f z)) := by
  obtain ⟨h1, rfl⟩ := List.getElem?_eq_some_iff.1 hk
  exact f_ixL hx hy hn h1 hs hf
end
theorem f_appL {P : Program} {H : List Blk} {s n : Nat} {al : AL} {tx : TypeId} {x y : Operand} {α : Type} {f : α → List D} {te : TypeId} {m mm c b1 sz by' : Nat} {es : List (List D)} {o v : List α} {d' : D} (hx : evA n al x = .ms b1 0 m c) (hy : evA n al y = d') (hb1 : H[b1]? = some (.live sz es)) (hes : es.take m = o.map f) (hle : m ≤ es.length) (hv : elemsD H d' = some (v.map f)) (hm : m = o.length)
    (hmm : o.length + v.length = mm) (he : elemT P tx = some (te, sz)) (h0 : 0 < sz) (hz : (zeroD P te).map List.length = some sz) (hby : P.bytesOf te = by') (hf : ∀ a, (f a).length = sz ∧ (f a).all isCell = true) (hl : (o.length + v.length) * by' ≤ 140737488355328) (hl2 : o.length + v.length ≤ 9223372036854775807) :
    Ap P H s n al (.call { callee := .builtin .append, args := #[x, y], argTypes := #[tx, tx] }) mm (some b1) (.live sz ((o ++ v).map f)) := by
  subst hm; subst hmm
  have hu : P.underlying tx = some (.slice te) := by
    unfold elemT at he
    split at he
    · rename_i e hu; simp only [Option.map_eq_some_iff] at he; obtain ⟨_, _, h⟩ := he; cases h; exact hu
    · cases he
  refine f_app hx hy ?_ (by simp)
  have e1 : elemsD H (.ms b1 0 o.length c) = some (o.map f) := by
    simp only [elemsD, hb1, Nat.zero_add, hle, if_true, List.drop_zero, hes]
  have e3 : ∀ l : List α, (l.map f).all (fun e => e.length == sz) = true := fun l => List.all_eq_true.2 fun e he => by
    obtain ⟨a, _, rfl⟩ := List.mem_map.1 he
    simpa using (hf a).1
  have e4 : (v.map f).all (fun e => e.all isCell) = true := List.all_eq_true.2 fun e he => by
    obtain ⟨a, _, rfl⟩ := List.mem_map.1 he
    exact (hf a).2
  simp only [appendD, addedD, he, hu, e1, hv]
  rw [if_pos]
  · simp only [hb1, Blk.hasSz]; simp
  · refine ⟨h0, hz, e3 o, e3 v, e4, ?_, ?_⟩
    · rw [hby, List.length_map, List.length_map]; exact hl
    · rw [List.length_map, List.length_map]; exact hl2
section
variable {P : Program} {H : List Blk} {s n : Nat} {al : AL} {tx ty' : TypeId} {x y : Operand} {a b : Int} {k : Nat}
end
theorem elems_sl (H : List Blk) (v : List Int) : elemsD H (.sl (v.map eI)) = some (v.map eI) := by
  simp only [elemsD]; exact congrArg some (eI_map _ _ fun x => rfl)
section
variable {P : Program} {H : List Blk} {s n : Nat} {al : AL} {tx ty' : TypeId} {x y : Operand} {a b : Int}
theorem f_leqT (hx : evA n al x = wI a) (hy : evA n al y = wI b) (h : a ≤ b) : Val P H s n al (.binOp .leq tx x y ty') (wB true) := by
  have h1 := f_leq (P := P) (H := H) (s := s) (tx := tx) (ty' := ty') hx hy
  rwa [decide_eq_true h] at h1
theorem f_leqF (hx : evA n al x = wI a) (hy : evA n al y = wI b) (h : ¬ a ≤ b) : Val P H s n al (.binOp .leq tx x y ty') (wB false) := by
  have h1 := f_leq (P := P) (H := H) (s := s) (tx := tx) (ty' := ty') hx hy
  rwa [decide_eq_false h] at h1
end
/-- A whole element is written. -/
theorem f_stMA {P : Program} {H : List Blk} {s n : Nat} {al : AL} {tx : TypeId} {x y : Operand} {α : Type} {f : α → List D} {l : List α} {v : α} {bk k sz m : Nat} (hx : evA n al x = .mp bk k 0) (hb : H[bk]? = some (.live sz (l.map f))) (hk : k < l.length) (hy : evA n al y = .agg (f v)) (hc : (f v).all isCell = true) (hs : tsz P tx = some m) (hm : (f v).length = m) (hl : (f l[k]).length = m) :
    Wr P H s n al (.store tx x y) bk (.live sz ((l.set k v).map f)) := by
  rw [List.map_set]
  exact f_stA hx hb (by rw [List.getElem?_map, List.getElem?_eq_getElem hk]; rfl) hy hc hs hm (by omega) (by
    rw [splice, List.take_zero, List.nil_append, Nat.zero_add, List.drop_eq_nil_of_le (by omega), List.append_nil])
section
variable {P : Program} {H : List Blk} {s n : Nat} {al : AL} {tx : TypeId} {x y : Operand} {a b : Int}
theorem f_bslW2 {te : TypeId} (hx : evA n al x = wI a) (hy : evA n al y = wI b) (he : elemT P tx = some (te, 1)) (hz : zeroD P te = some [wI 0]) : Mk P H s n al (.buildSlice tx 2 #[(0, x), (1, y)]) (.ms s 0 2 2) (.live 1 ([a, b].map eI)) :=
  f_bsl (ps := [(0, x), (1, y)]) (by simp [buildSliceD, he, hz, rowsD, hx, hy, cellsD, isCell, eI, List.replicate]; exact ⟨rfl, rfl⟩)
end
end Go.DL

/- Engine: structs of numbers, compared. -/
set_option maxRecDepth 100000
set_option maxHeartbeats 4000000
namespace Go.DL
open Go.Proofs Go
section
variable {P : Program} {H : List Blk} {s n : Nat} {al : AL} {tx ty' : TypeId} {x y : Operand} {cs ds : List D} {b : Bool}
theorem f_neqAgg (hx : evA n al x = .agg cs) (hy : evA n al y = .agg ds) (h : aggEqD P tx cs ds = some b) : Val P H s n al (.binOp .neq tx x y ty') (wB (!b)) := by
  refine ⟨?_⟩
  simp only [stepD, ev_T, hx, hy, binD, h, Option.map_some, keepD]
theorem f_eqlAgg (hx : evA n al x = .agg cs) (hy : evA n al y = .agg ds) (h : aggEqD P tx cs ds = some b) : Val P H s n al (.binOp .eql tx x y ty') (wB b) := by
  refine ⟨?_⟩
  simp only [stepD, ev_T, hx, hy, binD, h, Option.map_some, keepD]
end
end Go.DL

/- Engine: parts of an own slice; rows of words, each in a block of its own. -/
set_option maxRecDepth 100000
set_option maxHeartbeats 4000000
namespace Go.DL
open Go.Proofs Go
section
variable {P : Program} {H : List Blk} {s n : Nat} {al : AL} {tx te : TypeId} {x y z : Operand} {a b : Int}
/-- What lies between two indexes of an own slice. -/
theorem f_slB {bk len cap sz lo hi : Nat} {es : List (List D)} (hx : evA n al x = .ms bk 0 len cap) (hy : evA n al y = wI a) (hz : evA n al z = wI b) (ha : a = lo) (hb' : b = hi) (h1 : lo ≤ hi) (h2 : hi ≤ cap)
    (he : elemT P tx = some (te, sz)) (hb : H[bk]? = some (.live sz es)) : Val P H s n al (.slice tx x (some y) (some z) none) (.ms bk lo (hi - lo) (cap - lo)) := by
  subst ha; subst hb'
  refine ⟨?_⟩
  simp only [stepD, ev_T, sliceD, he, hx, unfl, Option.map_none, Option.map_some, hy, hz, bndD, intD, Option.isSome_none, Option.isSome_some, reduceCtorEq, false_and, and_false, if_false, Bool.false_eq_true]
  rw [if_pos ⟨by simp [Blk.hasSz, hb], by omega, by omega, by omega⟩]
  simp [keepD]
theorem f_bslC1 {d z : D} (hx : evA n al x = d) (hc : cellsD d = [d]) (hi : isCell d = true) (he : elemT P tx = some (te, 1)) (hz : zeroD P te = some [z]) : Mk P H s n al (.buildSlice tx 1 #[(0, x)]) (.ms s 0 1 1) (.live 1 [[d]]) := by
  refine f_bsl (ps := [(0, x)]) ?_
  simp [buildSliceD, he, hz, rowsD, hx, hc, hi, List.replicate]
end
section
variable {P : Program} {H : List Blk} {s n : Nat} {al : AL} {tx te : TypeId} {x0 x1 x2 x3 x4 x5 x6 : Operand} {a0 a1 a2 a3 a4 a5 a6 : Int}
end
end Go.DL

/- Engine: the capacity of nil; the start of an own slice. -/
set_option maxRecDepth 100000
set_option maxHeartbeats 4000000
namespace Go.DL
open Go.Proofs Go
section
variable {E : Ev} {ops r : List Oper} {n : Nat} {a : AL} {H : List Blk} {g : Gst} {K : KA} {i : Tmp} {x : Operand} {t te ty : TypeId} {pos : String} {aft : Array Edge}
theorem RT.capN (hx : evA n a x = .nil) (hu : E.P.underlying t = some (.slice te)) (h : RT E ops r n ((i, wI 0) :: a) H g K) : RT E ops (⟨some i, .call { callee := .builtin .cap, args := #[x], argTypes := #[t] }, ty, pos, aft, none⟩ :: r) n a H g K := by
  refine ⟨fun ro G hE ds Q hQ ac w hr => ?_⟩
  unfold wpListIn
  rw [if_pos (by simp [Region.wanted])]
  obtain ⟨A, φ, hr⟩ := hr
  have hv := hr.tr.ev x
  rw [ev_T, hx] at hv
  obtain ⟨a0, hs⟩ : ∃ a0, ac.eval x = .slice a0 0 0 := by
    generalize ac.eval x = u at hv
    cases hv; exact ⟨_, rfl⟩
  have hrun : (execOp ac.eval ⟨some i, .call { callee := .builtin .cap, args := #[x], argTypes := #[t] }, ty, pos, aft, none⟩).run E.P w = .ok (.value (.int .i64 0)) w := by
    have h3 : execOp ac.eval ⟨some i, .call { callee := .builtin .cap, args := #[x], argTypes := #[t] }, ty, pos, aft, none⟩ = (do pure (.value (← Builtin.cap_ #[t] ty #[ac.eval x]))) := by
      simp only [execOp, resolve, invoke]
      simp [builtin]
    rw [h3, hs, Sem.run_bind]
    have h4 : (Builtin.cap_ #[t] ty #[Value.slice a0 0 0]).run E.P w = .ok (.int .i64 0) w := by
      simp [Builtin.cap_, run_underlying hu]
      rfl
    rw [h4]; rfl
  refine ⟨fun _ _ => trivial, ?_⟩
  rw [Oper.semAt_eq _ _ _ (by simp), hrun]
  have hr3 := hr.value (some i) (d := wI 0) (x := .int .i64 0) (.v _ _)
  simp only [setT_T] at hr3
  exact h.out ro G hE ds Q hQ _ _ ⟨A, _, hr3⟩
end
section
variable {P : Program} {H : List Blk} {s n : Nat} {al : AL} {tx te : TypeId} {x y : Operand} {a : Int}
/-- The first elements of an own slice. -/
theorem f_slHiO {bk len cap sz hi : Nat} {es : List (List D)} (hx : evA n al x = .ms bk 0 len cap) (hy : evA n al y = wI a) (ha : a = hi) (h2 : hi ≤ cap)
    (he : elemT P tx = some (te, sz)) (hb : H[bk]? = some (.live sz es)) : Val P H s n al (.slice tx x none (some y) none) (.ms bk 0 hi cap) := by
  subst ha
  refine ⟨?_⟩
  simp only [stepD, ev_T, sliceD, he, hx, unfl, Option.map_none, Option.map_some, hy, bndD, intD, Option.isSome_none, Option.isSome_some, reduceCtorEq, false_and, and_false, if_false, Bool.false_eq_true]
  rw [if_pos ⟨by simp [Blk.hasSz, hb], by omega, by omega, by omega⟩]
  simp [keepD]
/-- The start of nil. -/
theorem f_slNil0 {sz : Nat} (hx : evA n al x = .nil) (hy : evA n al y = wI 0) (he : elemT P tx = some (te, sz)) : Val P H s n al (.slice tx x none (some y) none) .nil := by
  refine ⟨?_⟩
  simp [stepD, ev_T, sliceD, he, hx, unfl, hy, bndD, intD, keepD]
end
/-- Zeros are appended to nil. -/
theorem f_appZ0 {P : Program} {H : List Blk} {s n : Nat} {al : AL} {tx : TypeId} {x y : Operand} {te ti : TypeId} {ki : IntKind} {k : Nat} (hx : evA n al x = .nil) (hy : evA n al y = wI (k : Int))
    (he : elemT P tx = some (te, 1)) (hti : P.underlying ti = some (.int ki)) (hz : zeroD P te = some [wI 0]) (hby : P.bytesOf te = 8) (hl : k ≤ 1000000) :
    Ap P H s n al (.call { callee := .builtin .append, args := #[x, y], argTypes := #[tx, ti] }) k none (.live 1 ((List.replicate k (0 : Int)).map eI)) := by
  refine f_app hx hy ?_ (by simp)
  have e1 : elemsD H .nil = some [] := rfl
  have e2 : addedD P H te ti (wI k) = some (List.replicate k [wI 0]) := by
    simp only [addedD, hti, wI, show (0 : Int) ≤ (k : Int) by omega, if_true, hz, Option.map_some, Int.toNat_natCast]
  have e3 : (List.replicate k (0 : Int)).map eI = List.replicate k [wI 0] := by rw [List.map_replicate]; rfl
  rw [e3]
  simp only [appendD, he, e1, e2]
  rw [if_pos]
  refine ⟨by decide, by rw [hz]; rfl, by simp, by simp, ?_, ?_, ?_⟩
  · rw [List.all_eq_true]; intro x hx; rw [List.eq_of_mem_replicate hx]; rfl
  · rw [hby, List.length_replicate]; simp; omega
  · rw [List.length_replicate]; simp; omega
end Go.DL

/- slices.SortFunc over a block of one's own, at whatever length: out of the library's contract, for any comparison that has a plain contract. -/
namespace Go.DL
open Go.RowKit Go.Proofs Go.Shelf

noncomputable section

theorem Ext.grown {w w' : World} (h : Ext w (fun _ => False) w' (fun _ => False)) : ∃ q os, w' = Go.Sort.grow (w.drewN q) os := by
  refine ⟨w'.drawn - w.drawn, w'.heap.extract w.heap.size w'.heap.size, ?_⟩
  have h1 := h.os
  have h2 := h.tape
  have h3 := h.output
  have h4 := h.drawn
  have hh : w'.heap = w.heap ++ w'.heap.extract w.heap.size w'.heap.size := by
    apply Array.ext_getElem?
    intro k
    have h5 := h.size
    by_cases hk : k < w.heap.size
    · rw [Array.getElem?_append_left hk, h.same k hk fun x => x]
    · rw [Array.getElem?_append_right (by omega), Array.getElem?_extract]
      by_cases h6 : k < w'.heap.size
      · rw [if_pos (by rw [Nat.min_self]; omega)]; congr 1; omega
      · rw [if_neg (by rw [Nat.min_self]; omega)]; exact Array.getElem?_eq_none (by omega)
  obtain ⟨hp, tp, dr, os, ou⟩ := w
  obtain ⟨hp', tp', dr', os', ou'⟩ := w'
  simp only [Go.Sort.grow, World.drewN] at *
  subst h1 h2 h3
  rw [← hh]
  congr 1
  omega

/-- How a comparison may look at a cell: as it is, or not at all. -/
def SeeV (d : D) (u : Value) : Prop := d = .any ∨ d = .v u

theorem SeeV.v {A : Rd} {w : World} {φ : Nat → Loc} {d : D} {u : Value} (h : SeeV d u) : V A w φ d u := by
  rcases h with h | h
  · rw [h]; exact .any _ _
  · rw [h]; exact .v _ _

/-- The cells of an element: sz of them, each of one cell, as the comparison sees them. -/
structure CE (sz : Nat) (kd : List D) (us : List Value) : Prop where
  len : us.length = sz
  one : ∀ v ∈ us, v.oneCell' = true
  see : ∀ (j : Nat) (d : D) (u : Value), kd[j]? = some d → us[j]? = some u → SeeV d u

section
variable {P : Program} {T : Type}

theorem enc_get {α : Type} [Inhabited α] (enc : α → List Value) (sz : Nat) (d : Array α) {i j : Nat} (hi : i < d.size) (hj : j < sz) :
    (Go.Sort.flatK enc sz d)[i * sz + j]! = (enc d[i]!)[j]! ∧ i * sz + j < d.size * sz := by
  have lt : i * sz + j < d.size * sz := by
    have := Nat.mul_le_mul_right sz (show i + 1 ≤ d.size from hi); rw [Nat.add_mul, Nat.one_mul] at this; omega
  have e1 : (i * sz + j) / sz = i := (Go.Sort.blk_iff sz i _ (by omega)).1 ⟨by omega, by omega⟩
  have e2 : (i * sz + j) % sz = j := by rw [Nat.mod_eq_sub_div_mul, e1]; omega
  exact ⟨by rw [Go.Sort.get_flatK _ _ _ _ lt, e1, e2], lt⟩

/-- What the sort leaves of a list. -/
structure Sorts (cf : T → T → Int) (l l' : List T) : Prop where
  perm : l'.Perm l
  srt : l'.Pairwise fun a b => ¬ cf b a < 0

theorem sortFunc_ok {ρ : Ren} (L : SlLaysF0.n6 P ρ) {sz : Nat} (ha : isAggD P (ρ.t 24) = some true) (hs : tsz P (ρ.t 24) = some sz) (eD kD : T → List D) (cf : T → T → Int)
    (hO : Go.Sort.SWO (Go.Proofs.ltOf cf)) {g : FuncId} (hg : ∀ x y us vs, CE sz (kD x) us → CE sz (kD y) vs → Maps P g [.agg (us.map .v), .agg (vs.map .v)] (.v (.int .i64 (cf x y))))
    {H : List Blk} {b cap : Nat} {l : List T} (hb : H[b]? = some (.live sz (l.map eD))) (hlen : l.length < 4611686018427387904)
    (hk : ∀ x ∈ l, (kD x).length = sz) (hc : ∀ x ∈ l, (eD x).all isCell = true)
    (he : ∀ x ∈ l, ∀ (j : Nat) (d d' : D), (eD x)[j]? = some d → (kD x)[j]? = some d' → d' = .any ∨ ∃ u, d' = .v u ∧ d = .v u) :
    CallSp P (ρ.f 6) [.ms b 0 l.length cap, .fn (.func g) [] []] H fun d H' => d = .tup [] ∧ ∃ l', Sorts cf l l' ∧ H' = H.set b (.live sz (l'.map eD)) := by
  refine ⟨L.f6.enters rfl, fun w A φ vs hr hv => ?_⟩
  rw [callsIn_wide]
  obtain ⟨hvs, hvv⟩ := hv
  obtain ⟨v1, v2, rfl⟩ : ∃ v1 v2, vs = #[v1, v2] := by
    obtain ⟨l⟩ := vs
    match l, hvs with
    | [a, b], _ => exact ⟨a, b, rfl⟩
  have q1 := hvv 0 _ v1 rfl rfl
  have q2 := hvv 1 _ v2 rfl rfl
  cases q1 with
  | ms _ _ _ _ _ cap' a hle hcap hp =>
  cases q2 with
  | fn _ _ _ _ vs us hl1 hl2 _ _ =>
  have e1 : vs = #[] := Array.eq_empty_of_size_eq_zero (by simpa using hl1)
  have e2 : us = #[] := Array.eq_empty_of_size_eq_zero (by simpa using hl2)
  subst e1 e2
  have hset : ∀ (φ : Nat → Loc), H.set b (.live sz (l.map eD)) = H := fun _ => by
    refine List.ext_getElem? fun i => ?_
    rw [List.getElem?_set]
    split
    · rename_i e; subst e; rw [if_pos (List.getElem?_eq_some_iff.1 hb).1, hb]
    · rfl
  by_cases h0 : l.length = 0
  · have hl0 := List.eq_nil_of_length_eq_zero h0
    rw [h0]
    refine (AnyF.slices_SortFunc_none L a cap' _ w).mono ?_
    rintro e w' ⟨rfl, rfl⟩
    refine ⟨_, _, H, A, φ, rfl, ⟨rfl, l, ⟨.refl _, by rw [hl0]; exact .nil⟩, (hset φ).symm⟩, hr, .tup _ _ _ rfl fun i d u h => by simp at h, ⟨Ext.refl _ _, fun _ x => x, fun _ => .inl, fun _ => Loc.le_refl _, rfl⟩⟩
  · rcases hr.live b sz _ hb with ⟨e0, _⟩ | ⟨n, base, room, c, ty, hφ, hL⟩
    · exact absurd (by simpa using congrArg List.length e0) h0
    rw [hφ] at hp
    obtain ⟨hroom, hadr⟩ := hp
    have hat : a = some ⟨n, base, none⟩ := by
      rcases hadr with h | h
      · omega
      · simpa using h
    subst hat
    have hfits := hL.fits
    rw [List.length_map] at hfits
    have hsize := hL.size
    -- the elements, with their cells
    let α := { p : T × List Value // p.1 ∈ l ∧ CE sz (kD p.1) p.2 }
    have mk : ∀ i : Fin l.length, ∃ a : α, a.1.1 = l[i] ∧ ∀ j, j < sz → c[base + i * sz + j]? = a.1.2[j]? ∧ ∀ d, (eD l[i])[j]? = some d → ∃ u, a.1.2[j]? = some u ∧ V A w φ d u := fun i => by
      have hmem : l[i] ∈ l := List.getElem_mem _
      have hie : (l.map eD)[i.1]? = some (eD l[i]) := by simp
      have hel := hL.len _ _ hie
      have hsz : base + i.1 * sz + sz ≤ c.size := by
        have := Nat.mul_le_mul_right sz (show i.1 + 1 ≤ room by have := i.2; omega)
        rw [Nat.add_mul, Nat.one_mul] at this; omega
      have hget : ∀ j, j < sz → ((List.range sz).map fun j => (c[base + i.1 * sz + j]?).getD default)[j]? = c[base + i.1 * sz + j]? := fun j hj => by
        simp [hj, show base + i.1 * sz + j < c.size by omega]
      have hu : ∀ (j : Nat) (d : D), (eD l[i])[j]? = some d → ∃ u, ((List.range sz).map fun j => (c[base + i.1 * sz + j]?).getD default)[j]? = some u ∧ V A w φ d u := fun j d hd => by
        obtain ⟨u, h1, h2⟩ := hL.val _ _ _ _ hie hd
        have hj : j < sz := by rw [← hel]; exact (List.getElem?_eq_some_iff.1 hd).1
        exact ⟨u, (hget j hj).trans h1, h2⟩
      refine ⟨⟨(l[i], (List.range sz).map fun j => (c[base + i.1 * sz + j]?).getD default), hmem, by simp, fun v hv => ?_, fun j d u h1 h2 => ?_⟩, rfl, fun j hj => ⟨(hget j hj).symm, fun d hd => hu j d hd⟩⟩
      · obtain ⟨j, hj, rfl⟩ := List.getElem_of_mem hv
        have hj' : j < sz := by simpa using hj
        have hj2 : j < (eD l[i]).length := by rw [hel]; exact hj'
        obtain ⟨u, h1, h2⟩ := hu j _ (List.getElem?_eq_getElem hj2)
        rw [List.getElem?_eq_getElem hj] at h1
        cases h1
        have := hc _ hmem
        rw [List.all_eq_true] at this
        exact h2.isCell (this _ (List.getElem_mem hj2))
      · have hj' : j < sz := by simpa using (List.getElem?_eq_some_iff.1 h2).1
        have hj2 : j < (eD l[i]).length := by rw [hel]; exact hj'
        obtain ⟨u', h3, h4⟩ := hu j _ (List.getElem?_eq_getElem hj2)
        rw [h2] at h3; cases h3
        rcases he _ hmem j _ d (List.getElem?_eq_getElem hj2) h1 with e | ⟨u', e, e'⟩
        · exact .inl e
        · rw [e'] at h4; cases h4; exact .inr e
    have hpos : 0 < l.length := Nat.pos_of_ne_zero h0
    obtain ⟨f, hf⟩ := Classical.axiomOfChoice mk
    letI : Inhabited α := ⟨f ⟨0, hpos⟩⟩
    let enc : α → List Value := fun x => x.1.2
    let cfa : α → α → Int := fun x y => cf x.1.1 y.1.1
    let d : Array α := Array.ofFn f
    have hds : d.size = l.length := by simp [d]
    have hdg : ∀ (i : Nat) (hi : i < l.length), d[i]! = f ⟨i, hi⟩ := fun i hi => by
      rw [getElem!_pos d i (by omega)]; simp [d]
    have hkenc : ∀ x : α, (enc x).length = sz := fun x => x.2.2.len
    have hOa : Go.Sort.SWO (ltOf cfa) := ⟨fun x => hO.irrefl x.1.1, fun x y z => hO.trans x.1.1 y.1.1 z.1.1, fun x y z => hO.ntrans x.1.1 y.1.1 z.1.1⟩
    have hnlt : n < w.heap.size := hr.olt n ⟨b, _, _, _, hφ⟩
    have hsz0 : ∀ i, i < l.length → ∀ j, j < sz → base + i * sz + j < c.size := fun i hi j hj => by
      have := Nat.mul_le_mul_right sz (show i + 1 ≤ room by omega)
      rw [Nat.add_mul, Nat.one_mul] at this; omega
    have hH : Go.Sort.HoldsK enc sz w n base d := fun t ht => by
      rw [Go.Sort.size_flatK] at ht
      have hs0 : 0 < sz := by rcases Nat.eq_zero_or_pos sz with h | h; · rw [h] at ht; omega
                              · exact h
      have hi : t / sz < l.length := by rw [← hds]; exact Nat.div_lt_of_lt_mul (by rw [Nat.mul_comm]; exact ht)
      have hj := Nat.mod_lt t hs0
      have hte : t = t / sz * sz + t % sz := by rw [Nat.mul_comm]; exact (Nat.div_add_mod t sz).symm
      have h1 := (hf ⟨t / sz, hi⟩).2 (t % sz) hj
      have hlt := hsz0 _ hi _ hj
      refine ⟨?_, by simp [World.frozen?, hL.blk]⟩
      rw [cell_of_blk hL.blk]
      conv => lhs; rw [hte, ← Nat.add_assoc, h1.1]
      conv => rhs; rw [hte, (enc_get enc sz d (by omega) hj).1, hdg _ hi]
      have : t % sz < (enc (f ⟨t / sz, hi⟩)).length := by rw [hkenc]; exact hj
      show (enc (f ⟨t / sz, hi⟩))[t % sz]? = _
      rw [List.getElem?_eq_getElem this]
      exact congrArg some (getElem!_pos (enc (f ⟨t / sz, hi⟩)) (t % sz) this).symm
    have hcmp : CmpLays P g #[] enc sz cfa n base d.size w := fun m os dk _ x y => by
      generalize sortWorldK enc sz w n base m dk os = W
      have h := (hg x.1.1 y.1.1 x.1.2 y.1.2 x.2.2 y.2.2).2 W (fun _ => False) #[.agg (enc x).toArray, .agg (enc y).toArray] (fun _ h => h.elim) ⟨rfl, fun i dd u h1 h2 => by
        have go : ∀ z : α, V ⟨fun _ => False, W.heap.size⟩ W nowhere (.agg (z.1.2.map D.v)) (.agg (enc z).toArray) := fun z =>
          .agg _ _ _ (by simp [enc]) fun j d u h1 h2 => by
            have h3 : z.1.2[j]? = some u := by simpa [enc] using h2
            rw [List.getElem?_map, h3] at h1
            cases h1; exact .v _ _
        match i, h1, h2 with
        | 0, h1, h2 => cases h1; cases h2; exact go x
        | 1, h1, h2 => cases h1; cases h2; exact go y
        | i + 2, h1, _ => simp at h1⟩
      rw [callsIn_wide] at h
      refine h.mono ?_
      rintro e w' ⟨v, A', rfl, hv, _, _, _, hx⟩
      exact ⟨by rw [hv.v_inv], hx.grown⟩
    have key := AnyQ.slices_SortFunc L sz (fun w => run_isAgg ha w) (fun w => run_sizeOf hs w) enc hkenc (fun x v hv => x.2.2.one v hv) cfa hOa g #[] n base cap' d w (hg _ _ _ _ (f ⟨0, hpos⟩).2.2 (f ⟨0, hpos⟩).2.2).1 hcmp hH hnlt (by omega)
    rw [hds] at key
    refine key.mono ?_
    rintro e w' ⟨rfl, d', nd, os, hP, hS, rfl⟩
    obtain ⟨hP1, _, hP2⟩ := hP
    have hperm : d'.toList.Perm d.toList := by
      have e1 : (d'.extract 0 l.length).toList = d'.toList := by rw [← hds, ← hP1]; simp
      have e2 : (d.extract 0 l.length).toList = d.toList := by rw [← hds]; simp
      rw [e1, e2] at hP2; exact hP2
    have hd's : d'.size = l.length := by omega
    have hmap : d.toList.map (fun x => x.1.1) = l := by
      refine List.ext_getElem? fun i => ?_
      by_cases hi : i < l.length
      · simp only [List.getElem?_map, d, Array.toList_ofFn, List.getElem?_ofFn, hi, dite_true, Option.map_some]
        rw [List.getElem?_eq_getElem hi, (hf ⟨i, hi⟩).1]; rfl
      · rw [List.getElem?_eq_none (by simp [d]; omega), List.getElem?_eq_none (by omega)]
    -- the row behind the sort
    have hrow : ∀ x ∈ d'.toList, ∀ (j : Nat) (dd : D), (eD x.1.1)[j]? = some dd → ∃ u, (enc x)[j]? = some u ∧ V A w φ dd u := fun x hx j dd hd => by
      have hx' := hperm.subset hx
      obtain ⟨i, hi, rfl⟩ := List.getElem_of_mem hx'
      have hi' : i < l.length := by simpa [d] using hi
      have e : d.toList[i] = f ⟨i, hi'⟩ := by simp [d]
      rw [e] at hd ⊢
      rw [(hf ⟨i, hi'⟩).1] at hd
      have hj : j < sz := by
        have := hL.len i (eD l[i]) (by simp [hi'])
        rw [← this]; exact (List.getElem?_eq_some_iff.1 hd).1
      obtain ⟨_, h⟩ := (hf ⟨i, hi'⟩).2 j hj
      obtain ⟨u, h1, h2⟩ := h dd hd
      exact ⟨u, h1, h2⟩
    refine ⟨_, _, H.set b (.live sz ((d'.toList.map fun x => x.1.1).map eD)), A, φ, rfl, ⟨rfl, d'.toList.map (fun x => x.1.1), ⟨?_, ?_⟩, rfl⟩, ?_, .tup _ _ _ rfl fun i d u h => by simp at h, ?_⟩
    · have := hperm.map (fun x => x.1.1); rwa [hmap] at this
    · rw [List.pairwise_map, List.pairwise_iff_getElem]
      intro i j hi hj hij
      have h := hS i j (Nat.zero_le _) hij (by simpa [hd's] using hj)
      have e1 : d'[i]! = d'.toList[i] := by rw [getElem!_pos d' i (by simpa using hi)]; simp
      have e2 : d'[j]! = d'.toList[j] := by rw [getElem!_pos d' j (by simpa using hj)]; simp
      rw [e1, e2] at h
      simpa [ltOf, cfa] using h
    · -- the frame's blocks
      have hW : (sortWorldK enc sz w n base nd d' os).heap = (Go.Sort.putRowK enc sz (Go.Sort.ahead w nd) n base d').heap ++ os := rfl
      have hps : (Go.Sort.putRowK enc sz (Go.Sort.ahead w nd) n base d').heap.size = w.heap.size := by simp [Go.Sort.putRowK, Go.Sort.putRow, Go.Sort.mapBlock]
      have hpo : ∀ m, m ≠ n → m < w.heap.size → (sortWorldK enc sz w n base nd d' os).heap[m]? = w.heap[m]? := fun m hm hlt => by
        rw [hW, Array.getElem?_append_left (by omega)]
        simp only [Go.Sort.putRowK, Go.Sort.putRow, Go.Sort.mapBlock, Array.getElem?_modify, Go.Sort.heap_ahead]
        rw [if_neg (Ne.symm hm)]
      have hpn : (sortWorldK enc sz w n base nd d' os).heap[n]? = some (.cells (Go.Sort.putCells id base (Go.Sort.flatK enc sz d') c) ty (0, 0)) := by
        rw [hW, Array.getElem?_append_left (by omega)]
        simp only [Go.Sort.putRowK, Go.Sort.putRow, Go.Sort.mapBlock, Array.getElem?_modify, Go.Sort.heap_ahead, if_true, hL.blk, Option.map_some, Go.Sort.onCells]
      have hdis := hr.dis n ⟨b, _, _, _, hφ⟩
      have hsame : ∀ m, A m → (sortWorldK enc sz w n base nd d' os).heap[m]? = w.heap[m]? := fun m hm => hpo m (fun e => hdis (e ▸ hm)) (hr.lt m hm)
      have hup : upd φ b (.loc n base sz room) = φ := by funext x; by_cases e : x = b <;> simp [upd, e, hφ]
      have hsz' : w.heap.size ≤ (sortWorldK enc sz w n base nd d' os).heap.size := by rw [hW, Array.size_append]; omega
      have hlay := hr.lay (A' := A) (w' := sortWorldK enc sz w n base nd d' os) (List.getElem?_eq_some_iff.1 hb).1 (l := .loc n base sz room) (x := .live sz ((d'.toList.map fun x => x.1.1).map eD)) (by rw [hφ]; exact Loc.le_refl _) hsame (fun _ x => x) (fun _ x => .inl x)
        (fun b' m base' sz' room' hne e => hpo m (fun e' => hne (hr.inj b' b n base' sz' room' base sz room (e' ▸ e) hφ)) (hr.olt m ⟨b', _, _, _, e⟩)) hsz'
        ⟨by simp, by simp, fun sz' es'' e => by
          cases e
          refine .inr ⟨n, base, room, _, ty, rfl, hpn, by simp; omega, by simpa [Go.Sort.putCells] using hsize, fun i e he => ?_, fun i e j dd h1 h2 => ?_⟩
          · simp only [List.getElem?_map, Option.map_eq_some_iff] at he
            obtain ⟨t, ⟨x, hx, rfl⟩, rfl⟩ := he
            have hm : x.1.1 ∈ l := x.2.1
            obtain ⟨i', hi', hie⟩ := List.getElem_of_mem hm
            exact hL.len i' _ (by rw [List.getElem?_map, List.getElem?_eq_getElem hi', hie]; rfl)
          · simp only [List.getElem?_map, Option.map_eq_some_iff] at h1
            obtain ⟨t, ⟨x, hx, rfl⟩, rfl⟩ := h1
            obtain ⟨u, hu, hv⟩ := hrow x (List.mem_of_getElem? hx) j dd h2
            have hi : i < d'.size := by simpa using (List.getElem?_eq_some_iff.1 hx).1
            have hj : j < sz := by rw [← hkenc x]; exact (List.getElem?_eq_some_iff.1 hu).1
            have hxg : d'[i]! = x := by
              rw [getElem!_pos d' i hi]
              have := (List.getElem?_eq_some_iff.1 hx).2
              simpa using this
            have hcs := hsz0 i (by omega) j hj
            have hg2 := enc_get enc sz d' hi hj
            refine ⟨u, ?_, hv.mono (fun _ x => x) hsame (by rw [hup]; exact fun _ => Loc.le_refl _)⟩
            simp only [Go.Sort.putCells, Array.getElem?_mapIdx, Array.getElem?_eq_getElem hcs, Option.map_some, Go.Sort.size_flatK, id]
            rw [if_pos ⟨by omega, by omega⟩, show base + i * sz + j - base = i * sz + j by omega, hg2.1, hxg]
            rw [List.getElem?_eq_some_iff] at hu
            obtain ⟨h5, h6⟩ := hu
            rw [getElem!_pos (enc x) j h5, h6]⟩
        (fun _ _ e => by cases e)
        (fun m base' sz' room' e => by
          cases e
          exact ⟨Nat.lt_of_lt_of_le hnlt hsz', hdis, fun b' base' sz' room' hne e => hne (hr.inj b' b n base' sz' room' base sz room e hφ), hr.ofr n ⟨b, _, _, _, hφ⟩⟩)
      rw [hup] at hlay
      exact hlay
    · have hW : (sortWorldK enc sz w n base nd d' os).heap = (Go.Sort.putRowK enc sz (Go.Sort.ahead w nd) n base d').heap ++ os := rfl
      have hps : (Go.Sort.putRowK enc sz (Go.Sort.ahead w nd) n base d').heap.size = w.heap.size := by simp [Go.Sort.putRowK, Go.Sort.putRow, Go.Sort.mapBlock]
      refine ⟨⟨rfl, rfl, rfl, Nat.le_add_right _ _, by rw [hW, Array.size_append]; omega, fun m hm ho => ?_, fun m hm => .inl hm⟩, fun _ x => x, fun _ => .inl, fun _ => Loc.le_refl _, rfl⟩
      rw [hW, Array.getElem?_append_left (by omega)]
      simp only [Go.Sort.putRowK, Go.Sort.putRow, Go.Sort.mapBlock, Array.getElem?_modify, Go.Sort.heap_ahead]
      rw [if_neg (fun e : n = m => ho (e ▸ (⟨b, _, _, _, hφ⟩ : own φ n)))]
/-- A comparison that sees all cells as they are. -/
theorem CE.exact {sz : Nat} {kd : List D} {us : List Value} (h : CE sz kd us) (hl : kd.length = sz) (hk : ∀ d ∈ kd, ∃ u, d = .v u) : us.map D.v = kd := by
  refine List.ext_getElem? fun j => ?_
  rw [List.getElem?_map]
  by_cases hj : j < sz
  · have h1 : j < us.length := by rw [h.len]; exact hj
    have h2 : j < kd.length := by rw [hl]; exact hj
    rw [List.getElem?_eq_getElem h1, List.getElem?_eq_getElem h2]
    have h3 := h.see j _ _ (List.getElem?_eq_getElem h2) (List.getElem?_eq_getElem h1)
    obtain ⟨u, hu⟩ := hk _ (List.getElem_mem h2)
    rcases h3 with h3 | h3
    · rw [hu] at h3; cases h3
    · rw [h3]; rfl
  · rw [List.getElem?_eq_none (by rw [h.len]; omega), List.getElem?_eq_none (by omega)]; rfl
theorem sortFunc_exact {ρ : Ren} (L : SlLaysF0.n6 P ρ) {sz : Nat} (ha : isAggD P (ρ.t 24) = some true) (hs : tsz P (ρ.t 24) = some sz) (eD : T → List D) (cf : T → T → Int)
    (hO : Go.Sort.SWO (Go.Proofs.ltOf cf)) {g : FuncId} (hg : ∀ x y, Maps P g [.agg (eD x), .agg (eD y)] (.v (.int .i64 (cf x y))))
    {H : List Blk} {b cap : Nat} {l : List T} (hb : H[b]? = some (.live sz (l.map eD))) (hlen : l.length < 4611686018427387904)
    (hk : ∀ x, (eD x).length = sz) (hv : ∀ x, ∀ d ∈ eD x, ∃ u, d = .v u) (hc : ∀ x, (eD x).all isCell = true) :
    CallSp P (ρ.f 6) [.ms b 0 l.length cap, .fn (.func g) [] []] H fun d H' => d = .tup [] ∧ ∃ l', Sorts cf l l' ∧ H' = H.set b (.live sz (l'.map eD)) :=
  sortFunc_ok L ha hs eD eD cf hO (fun x y us vs h1 h2 => by rw [h1.exact (hk x) (hv x), h2.exact (hk y) (hv y)]; exact hg x y) hb hlen (fun x _ => hk x) (fun x _ => hc x)
    fun x _ j d d' h1 h2 => by
      rw [h1] at h2; cases h2
      obtain ⟨u, hu⟩ := hv x d (List.mem_of_getElem? h1)
      exact .inr ⟨u, hu, hu⟩
end
end
end Go.DL

/- What stays ahead of new blocks; results of a cell and a temporary; how arguments read. -/
namespace Go.DL
open Go.RowKit Go.Proofs

noncomputable section
/-- The blocks H are as they were; others lie behind them. -/
structure Pre (H H2 : List Blk) : Prop where
  ex : ∃ T, H2 = H ++ T
section
variable {H H2 H3 : List Blk} {b : Nat} {x : Blk}
theorem Pre.refl (H : List Blk) : Pre H H := ⟨[], (List.append_nil _).symm⟩
theorem Pre.app (h : Pre H H2) (T : List Blk) : Pre H (H2 ++ T) := by
  obtain ⟨T1, rfl⟩ := h.ex
  exact ⟨T1 ++ T, List.append_assoc _ _ _⟩
theorem Pre.set (h : Pre H H2) (hb : H.length ≤ b) (x : Blk) : Pre H (H2.set b x) := by
  obtain ⟨T1, rfl⟩ := h.ex
  exact ⟨T1.set (b - H.length) x, List.set_append_right _ _ hb⟩
theorem Pre.trans (h : Pre H H2) (k : Pre H2 H3) : Pre H H3 := by
  obtain ⟨T1, rfl⟩ := h.ex
  obtain ⟨T2, rfl⟩ := k.ex
  exact ⟨T1 ++ T2, List.append_assoc _ _ _⟩
theorem Pre.len (h : Pre H H2) : H.length ≤ H2.length := by
  obtain ⟨T1, rfl⟩ := h.ex
  simp
theorem Pre.get (h : Pre H H2) (k : H[b]? = some x) : H2[b]? = some x := by
  obtain ⟨T1, rfl⟩ := h.ex
  exact hg_app _ k
end
end
end Go.DL

/- Parts of own slices, as elements. -/
namespace Go.DL
open Go.RowKit Go.Proofs

noncomputable section
theorem elems_take {α : Type} {f : α → List D} {H : List Blk} {b sz k c : Nat} {l : List α} (hb : H[b]? = some (.live sz (l.map f))) (hl : k ≤ l.length) : elemsD H (.ms b 0 k c) = some ((l.take k).map f) := by
  simp only [elemsD, hb]
  rw [if_pos (by rw [List.length_map]; omega), List.drop_zero, Nat.zero_add, List.map_take]
end
end Go.DL

/- Engine: clear of a part of an own slice. -/
set_option maxRecDepth 100000
set_option maxHeartbeats 4000000
namespace Go.DL
open Go.RowKit Go.Proofs
theorem RT.clearS {E : Ev} {ops r : List Oper} {n : Nat} {a : AL} {H H' : List Blk} {g : Gst} {K : KA} {x : Operand} {t te ty : TypeId} {pos : String} {aft : Array Edge} {b off len cap sz : Nat} {es : List (List D)} {z : List D}
    (hx : evA n a x = .ms b off len cap) (hu : E.P.underlying t = some (.slice te)) (hz : zeroD E.P te = some z) (hs : z.length = sz) (hc : z.all isCell = true) (hb : H[b]? = some (.live sz es)) (hl : off + len ≤ es.length)
    (hH : H.set b (.live sz (es.take off ++ List.replicate len z ++ es.drop (off + len))) = H') (h : RT E ops r n a H' g K) :
    RT E ops (⟨none, .call { callee := .builtin .clear, args := #[x], argTypes := #[t] }, ty, pos, aft, none⟩ :: r) n a H g K := by
  subst hH; subst hs
  refine ⟨fun ro G hE ds Q hQ ac w hr => ?_⟩
  unfold wpListIn
  rw [if_pos (by simp [Region.wanted])]
  obtain ⟨A, φ, hr⟩ := hr
  have hv := hr.tr.ev x
  rw [ev_T, hx] at hv
  have hlt : b < H.length := (List.getElem?_eq_some_iff.1 hb).1
  have hex : execOp ac.eval ⟨none, .call { callee := .builtin .clear, args := #[x], argTypes := #[t] }, ty, pos, aft, none⟩ = (do pure (.value (← Builtin.clear_ #[t] ty #[ac.eval x]))) := by
    simp only [execOp, resolve, invoke]
    simp [builtin]
  have key : ∃ (w' : World), (Builtin.clear_ #[t] ty #[ac.eval x]).run E.P w = .ok (.tuple #[]) w' ∧
      FRc G { t := T n a, H := H.set b (.live z.length (es.take off ++ List.replicate len z ++ es.drop (off + len))), ds := ds, g := g } ac w' A φ := by
    generalize ac.eval x = u at hv
    cases hv with
    | ms _ _ _ _ _ cap' a0 hlen hcap hm =>
    by_cases h0 : len = 0
    · subst h0
      refine ⟨w, ?_, ?_⟩
      · simp [Builtin.clear_, run_underlying hu]
        cases a0 <;> rfl
      · have e : es.take off ++ List.replicate 0 z ++ es.drop (off + 0) = es := by simp
        rw [e]
        have e2 : H.set b (.live z.length es) = H := by
          obtain ⟨hlt, he⟩ := List.getElem?_eq_some_iff.1 hb
          rw [← he, List.set_getElem_self]
        rw [e2]; exact hr
    · rcases hr.rh.live b z.length es hb with ⟨h1, _⟩ | ⟨n0, base, room, c, tyc, h1, h2⟩
      · subst h1; simp at hl; omega
      rw [h1] at hm
      obtain ⟨hroom, ha⟩ := hm
      have hfit := h2.fits
      have hsize := h2.size
      obtain rfl : a0 = some ⟨n0, base + off * z.length, none⟩ := ha.resolve_left (by omega)
      obtain ⟨xz, hz1, hz2, hz3⟩ := run_zeroD (A := A) (w := w) (φ := φ) hz
      have hzr := zero_rows hz2 hz3 len
      have hcells : Builtin.zeroCells xz.cells len = (Array.range (len * z.length)).map (xz.cells[· % xz.cells.size]!) := by rw [Builtin.zeroCells, hz2]
      rw [← hcells] at hzr
      have hsz := hzr.size
      have hone : ∀ u ∈ (Builtin.zeroCells xz.cells len).toList, u.oneCell' = true := fun u hu => by
        rw [hcells] at hu
        simp only [Array.toList_map, List.mem_map] at hu
        obtain ⟨i, hi, rfl⟩ := hu
        have hzl : 0 < z.length := by
          rcases Nat.eq_zero_or_pos z.length with h | h
          · rw [h] at hi; simp at hi
          · exact h
        have hi2 : i % xz.cells.size < z.length := by rw [hz2]; exact Nat.mod_lt _ hzl
        obtain ⟨y, hy, hyv⟩ := hz3 (i % xz.cells.size) z[i % xz.cells.size] (List.getElem?_eq_getElem hi2)
        have hcell := hyv.isCell (List.all_eq_true.1 hc _ (List.getElem_mem hi2))
        have : xz.cells[i % xz.cells.size]! = y := by rw [Array.getElem!_eq_getD, Array.getD_eq_getD_getElem?, hy]; rfl
        rw [this]; exact hcell
      have hmul : off * z.length + len * z.length ≤ room * z.length := by rw [← Nat.add_mul]; exact Nat.mul_le_mul_right _ (by omega)
      simp only [List.length_replicate] at hsz
      obtain ⟨w', c', hw1, hw2, hw3⟩ := run_storeCells (P := E.P) (n := n0) (ty := tyc) (Builtin.zeroCells xz.cells len).toList w c (base + off * z.length) 0 h2.blk (by simp [hsz]; omega) hone
      rw [Nat.add_zero] at hw3
      refine ⟨w', ?_, ?_⟩
      · obtain ⟨k, rfl⟩ : ∃ k, len = k + 1 := ⟨len - 1, by omega⟩
        simp [Builtin.clear_, run_underlying hu, hz1 w, hw1, Result.andThen]
      · have hlen2 : (es.take off ++ List.replicate len z ++ es.drop (off + len)).length = es.length := by simp; omega
        have hold : ∀ (i : Nat) (e : List D) (j : Nat) (d : D), es[i]? = some e → e[j]? = some d → (i < off ∨ off + len ≤ i) → ∃ u, c'[base + i * z.length + j]? = some u ∧ V A w φ d u := fun i e j d he hd hi => by
          obtain ⟨u, hu, hv⟩ := h2.val i e j d he hd
          have hj : j < z.length := by rw [← h2.len i e he]; exact (List.getElem?_eq_some_iff.1 hd).1
          refine ⟨u, ?_, hv⟩
          rw [hw3.old _ ?_]; exact hu
          simp only [Array.length_toList, hsz]
          rcases hi with hi | hi
          · left
            have : i * z.length + z.length ≤ off * z.length := by rw [← Nat.succ_mul]; exact Nat.mul_le_mul_right _ hi
            omega
          · right
            have : (off + len) * z.length ≤ i * z.length := Nat.mul_le_mul_right _ hi
            rw [Nat.add_mul] at this
            omega
        have hget : ∀ i e, (es.take off ++ List.replicate len z ++ es.drop (off + len))[i]? = some e → (es[i]? = some e ∧ (i < off ∨ off + len ≤ i)) ∨ (e = z ∧ off ≤ i ∧ i < off + len) := fun i e he => by
          have ht : (es.take off).length = off := by rw [List.length_take]; omega
          rw [List.append_assoc] at he
          by_cases h3 : i < off
          · rw [List.getElem?_append_left (by omega), List.getElem?_take_of_lt h3] at he
            exact .inl ⟨he, .inl h3⟩
          · rw [List.getElem?_append_right (by omega), ht] at he
            by_cases h4 : i < off + len
            · rw [List.getElem?_append_left (by simp; omega), List.getElem?_replicate, if_pos (by omega)] at he
              cases he; exact .inr ⟨rfl, by omega, h4⟩
            · rw [List.getElem?_append_right (by simp; omega), List.getElem?_drop, List.length_replicate, show off + len + (i - off - len) = i by omega] at he
              exact .inl ⟨he, .inr (by omega)⟩
        refine hr.rewr hE.st h1 hw2 hlt _ (by rw [hlen2]; exact hfit) (by rw [hw3.size]; exact hsize) (fun i e he => ?_) (fun i e j d he hd => ?_)
        · rcases hget i e he with ⟨h3, _⟩ | ⟨rfl, _⟩
          · exact h2.len i e h3
          · rfl
        · rcases hget i e he with ⟨h3, h4⟩ | ⟨rfl, h4, h5⟩
          · exact hold i e j d h3 hd h4
          · obtain ⟨u, hu, hv⟩ := hzr.val (i - off) e j d (by rw [List.getElem?_replicate, if_pos (by omega)]) hd
            refine ⟨u, ?_, hv⟩
            have hj : j < e.length := (List.getElem?_eq_some_iff.1 hd).1
            have hbd : (i - off) * e.length + j < len * e.length := by
              have : (i - off) * e.length + e.length ≤ len * e.length := by rw [← Nat.succ_mul]; exact Nat.mul_le_mul_right _ (by omega)
              omega
            have := hw3.new ((i - off) * e.length + j) (by simp [hsz]; omega)
            have e3 : base + off * e.length + ((i - off) * e.length + j) = base + i * e.length + j := by
              have : off * e.length + (i - off) * e.length = i * e.length := by rw [← Nat.add_mul]; congr 1; omega
              omega
            rw [e3] at this
            rw [this]; simpa using hu
  obtain ⟨w', hrun, hr2⟩ := key
  have hrun2 : (execOp ac.eval ⟨none, .call { callee := .builtin .clear, args := #[x], argTypes := #[t] }, ty, pos, aft, none⟩).run E.P w = .ok (.value (.tuple #[])) w' := by
    rw [hex, Sem.run_bind, hrun]; rfl
  refine ⟨fun _ _ => trivial, ?_⟩
  rw [Oper.semAt_eq _ _ _ (by simp), hrun2]
  have hr3 := hr2.value none (d := .tup []) (x := .tuple #[]) (.tup _ _ _ rfl (fun i d u h1 _ => by cases h1))
  exact h.out ro G hE ds Q hQ _ _ ⟨A, _, hr3⟩
end Go.DL

/- slices.Sort of words over a block of one's own, at whatever length: out of the library's contract. -/
namespace Go.DL
open Go.RowKit Go.Proofs Go.Shelf
noncomputable section
variable {P : Program}
theorem sortInts_ok {ρ : Ren} (L : SlLaysM.n5 P ρ) {H : List Blk} {b cap : Nat} {l : List Int} (hb : H[b]? = some (.live 1 (l.map eI))) (hlen : l.length < 4611686018427387904) :
    CallSp P (ρ.f 5) [.ms b 0 l.length cap] H fun d H' => d = .tup [] ∧ H' = H.set b (.live 1 ((l.mergeSort fun x y => decide (x ≤ y)).map eI)) := by
  refine ⟨L.f5.enters rfl, fun w A φ vs hr hv => ?_⟩
  rw [callsIn_wide]
  obtain ⟨hvs, hvv⟩ := hv
  obtain ⟨v1, rfl⟩ : ∃ v1, vs = #[v1] := by
    obtain ⟨l⟩ := vs
    match l, hvs with
    | [a], _ => exact ⟨a, rfl⟩
  have q1 := hvv 0 _ v1 rfl rfl
  cases q1 with
  | ms _ _ _ _ _ cap' a hle hcap hp =>
  by_cases h0 : l.length = 0
  · have hl0 := List.eq_nil_of_length_eq_zero h0
    subst hl0
    refine (AnyM.slices_Sort_int_none L a cap' w).mono ?_
    rintro e w' ⟨rfl, rfl⟩
    have hset : H.set b (.live 1 ((([] : List Int).mergeSort fun x y => decide (x ≤ y)).map eI)) = H := by
      refine List.ext_getElem? fun i => ?_
      rw [List.getElem?_set]
      split
      · rename_i e; subst e; rw [if_pos (List.getElem?_eq_some_iff.1 hb).1, hb]; simp
      · rfl
    refine ⟨_, _, H, A, φ, rfl, ⟨rfl, hset.symm⟩, hr, .tup _ _ _ rfl fun i d u h => by simp at h, ⟨Ext.refl _ _, fun _ x => x, fun _ => .inl, fun _ => Loc.le_refl _, rfl⟩⟩
  · rcases hr.live b 1 _ hb with ⟨e0, _⟩ | ⟨n, base, room, c, ty, hφ, hL⟩
    · exact absurd (by simpa using congrArg List.length e0) h0
    rw [hφ] at hp
    obtain ⟨hroom, hadr⟩ := hp
    have hat : a = some ⟨n, base, none⟩ := by
      rcases hadr with h | h
      · omega
      · simpa using h
    subst hat
    have hfits := hL.fits
    rw [List.length_map] at hfits
    have hsize := hL.size
    rw [Nat.mul_one] at hsize
    have hnlt : n < w.heap.size := hr.olt n ⟨b, _, _, _, hφ⟩
    have hval : ∀ (i : Nat) (hi : i < l.length), c[base + i]? = some (.int .i64 l[i]) := fun i hi => by
      obtain ⟨u, h1, h2⟩ := hL.val i (eI l[i]) 0 (wI l[i]) (by simp [hi]) rfl
      rw [h2.v_inv] at h1
      simpa using h1
    have hH : Go.Sort.Holds (Value.int .i64) w n base l.toArray := fun j hj => by
      have hj' : j < l.length := by simpa using hj
      refine ⟨?_, by simp [World.frozen?, hL.blk]⟩
      rw [cell_of_blk hL.blk, hval j hj', getElem!_pos l.toArray j hj]
      simp
    refine (AnyM.slices_Sort_int L n base cap' l w hH hnlt hlen).mono ?_
    rintro e w' ⟨rfl, nd, os, rfl⟩
    obtain ⟨s, hs⟩ : ∃ s, s = l.mergeSort fun x y => decide (x ≤ y) := ⟨_, rfl⟩
    rw [← hs]
    have hsl : s.length = l.length := by rw [hs]; exact List.length_mergeSort _
    obtain ⟨W, hWd⟩ : ∃ W, W = Go.Sort.grow (Go.Sort.putRow (Value.int .i64) (Go.Sort.ahead w nd) n base s.toArray) os := ⟨_, rfl⟩
    rw [← hWd]
    have hW : W.heap = (Go.Sort.putRow (Value.int .i64) (Go.Sort.ahead w nd) n base s.toArray).heap ++ os := by rw [hWd]; rfl
    have hps : (Go.Sort.putRow (Value.int .i64) (Go.Sort.ahead w nd) n base s.toArray).heap.size = w.heap.size := by simp [Go.Sort.putRow, Go.Sort.mapBlock]
    have hpo : ∀ m, m ≠ n → m < w.heap.size → W.heap[m]? = w.heap[m]? := fun m hm hlt => by
      rw [hW, Array.getElem?_append_left (by omega)]
      simp only [Go.Sort.putRow, Go.Sort.mapBlock, Array.getElem?_modify, Go.Sort.heap_ahead]
      rw [if_neg (Ne.symm hm)]
    have hpn : W.heap[n]? = some (.cells (Go.Sort.putCells (Value.int .i64) base s.toArray c) ty (0, 0)) := by
      rw [hW, Array.getElem?_append_left (by omega)]
      simp only [Go.Sort.putRow, Go.Sort.mapBlock, Array.getElem?_modify, Go.Sort.heap_ahead, if_true, hL.blk, Option.map_some, Go.Sort.onCells]
    have hdis := hr.dis n ⟨b, _, _, _, hφ⟩
    have hsame : ∀ m, A m → W.heap[m]? = w.heap[m]? := fun m hm => hpo m (fun e => hdis (e ▸ hm)) (hr.lt m hm)
    have hup : upd φ b (.loc n base 1 room) = φ := by funext x; by_cases e : x = b <;> simp [upd, e, hφ]
    have hsz' : w.heap.size ≤ W.heap.size := by rw [hW, Array.size_append]; omega
    refine ⟨_, _, H.set b (.live 1 (s.map eI)), A, φ, rfl, ⟨rfl, rfl⟩, ?_, .tup _ _ _ rfl fun i d u h => by simp at h, ?_⟩
    · have hlay := hr.lay (A' := A) (w' := W) (List.getElem?_eq_some_iff.1 hb).1 (l := .loc n base 1 room) (x := .live 1 (s.map eI)) (by rw [hφ]; exact Loc.le_refl _) hsame (fun _ x => x) (fun _ x => .inl x)
        (fun b' m base' sz' room' hne e => hpo m (fun e' => hne (hr.inj b' b n base' sz' room' base 1 room (e' ▸ e) hφ)) (hr.olt m ⟨b', _, _, _, e⟩)) hsz'
        ⟨by simp, by simp, fun sz' es'' e => by
          cases e
          refine .inr ⟨n, base, room, _, ty, rfl, hpn, by simp; omega, by simpa [Go.Sort.putCells] using hsize, fun i e he => ?_, fun i e j dd h1 h2 => ?_⟩
          · simp only [List.getElem?_map, Option.map_eq_some_iff] at he
            obtain ⟨t, hx, rfl⟩ := he
            rfl
          · simp only [List.getElem?_map, Option.map_eq_some_iff] at h1
            obtain ⟨t, hx, rfl⟩ := h1
            have hi : i < s.length := (List.getElem?_eq_some_iff.1 hx).1
            match j, h2 with
            | 0, h2 =>
              cases h2
              refine ⟨.int .i64 t, ?_, .v _ _⟩
              have hcs : base + i * 1 + 0 < c.size := by omega
              simp only [Go.Sort.putCells, Array.getElem?_mapIdx, Array.getElem?_eq_getElem hcs, Option.map_some, List.size_toArray]
              rw [if_pos ⟨by omega, by omega⟩, show base + i * 1 + 0 - base = i by omega, getElem!_pos s.toArray i (by simpa using hi)]
              have := (List.getElem?_eq_some_iff.1 hx).2
              simp [this]
            | j + 1, h2 => simp [eI] at h2⟩
        (fun _ _ e => by cases e)
        (fun m base' sz' room' e => by
          cases e
          exact ⟨Nat.lt_of_lt_of_le hnlt hsz', hdis, fun b' base' sz' room' hne e => hne (hr.inj b' b n base' sz' room' base 1 room e hφ), hr.ofr n ⟨b, _, _, _, hφ⟩⟩)
      rw [hup] at hlay
      exact hlay
    · refine ⟨⟨by rw [hWd]; rfl, by rw [hWd]; rfl, by rw [hWd]; rfl, by rw [hWd]; exact Nat.le_add_right _ _, hsz', fun m hm ho => ?_, fun m hm => .inl hm⟩, fun _ x => x, fun _ => .inl, fun _ => Loc.le_refl _, rfl⟩
      exact hpo m (fun e => ho (e ▸ (⟨b, _, _, _, hφ⟩ : own φ n))) hm
end
end Go.DL
