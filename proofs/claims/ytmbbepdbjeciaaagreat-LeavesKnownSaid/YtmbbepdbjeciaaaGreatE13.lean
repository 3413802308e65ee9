/- The steps of walks in drawn regions with claims, with what may be said of the operations as automatic arguments. -/
import Derived.Test.YtmbbepdbjeciaaaGreatE12
import Derived.Test.YtmbbepdbjeciaaaGreatE11
namespace Go.DL
open Go.RowKit Go.Proofs

noncomputable section
section
variable {E : Ev} {ops r l : List Oper} {ab : List Nat} {base s : Nat} {hs : List Nat} {cw : Option Nat} {pl : PlQ} {n : Nat} {a : AL} {H H' : List Blk} {K : KP} {dst : Option Tmp} {i : Tmp} {op : Op} {x y z : Operand} {tx ty ty' : TypeId} {pos : String} {aft : Array Edge} {f : Nat} {bo : BinOp} {uo : UnOp} {cl : Call} {d : D}
theorem ST.mvA (h : ST E ops ab base pl r n ((i, d) :: a) H K) (hv : Val E.P (maskL 0 (hs.map (rho ab base)) H) (base + s) n a (.move x) d := by first | exact f_mvV rfl | exact f_mvS rfl | exact f_mvF rfl | exact f_mvO rfl | exact f_mvP rfl | exact f_mvR rfl | exact f_mvA rfl | exact f_mvT rfl | exact f_mvN rfl | exact f_mvU rfl | exact f_mvX rfl) : ST E ops ab base ((s, hs, cw) :: pl) (⟨some i, .move x, ty, pos, aft, none⟩ :: r) n a H K := ST.v hv h
theorem ST.asA (h : ST E ops ab base pl r n ((i, d) :: a) H K) (hv : Val E.P (maskL 0 (hs.map (rho ab base)) H) (base + s) n a (.assign x) d := by first | exact f_asV rfl | exact f_asS rfl | exact f_asF rfl | exact f_asO rfl | exact f_asP rfl | exact f_asR rfl | exact f_asA rfl | exact f_asT rfl | exact f_asN rfl | exact f_asU rfl | exact f_asX rfl) : ST E ops ab base ((s, hs, cw) :: pl) (⟨some i, .assign x, ty, pos, aft, none⟩ :: r) n a H K := ST.v hv h
theorem ST.ldA (h : ST E ops ab base pl r n ((i, d) :: a) H K) (hv : Val E.P (maskL 0 (hs.map (rho ab base)) H) (base + s) n a (.load tx x) d := by first | exact f_ldV rfl rfl | exact f_ldO rfl rfl rfl rfl rfl | exact f_ldW rfl rfl (by (first | omega | (simp only [List.length_set, List.length_replicate, List.length_append, List.length_map, List.length_cons, List.length_nil]; omega))) rfl | exact f_ldS rfl rfl | exact f_ldFl rfl rfl | exact f_ldOW rfl rfl rfl rfl rfl rfl | exact f_ldG rfl rfl rfl | exact f_ldA rfl rfl rfl rfl (by first | (simp only [nrm]; rfl) | (simp only [nrm, Nat.reduceAdd, Nat.zero_add]; rfl) | rfl)) : ST E ops ab base ((s, hs, cw) :: pl) (⟨some i, .load tx x, ty, pos, aft, none⟩ :: r) n a H K := ST.v hv h
theorem ST.faA (h : ST E ops ab base pl r n ((i, d) :: a) H K) (hv : Val E.P (maskL 0 (hs.map (rho ab base)) H) (base + s) n a (.fieldAddr tx x f) d := by first | exact f_fa0 rfl rfl (Nat.succ_ne_zero _) | exact f_fa1 rfl rfl (Nat.succ_ne_zero _) | exact f_fa2 rfl rfl (Nat.succ_ne_zero _) | exact f_fa3 rfl rfl (Nat.succ_ne_zero _) | exact f_faO0 (o := 0) rfl rfl (Nat.succ_ne_zero _) | exact f_faO0 (o := 1) rfl rfl (Nat.succ_ne_zero _) | exact f_faO0 (o := 2) rfl rfl (Nat.succ_ne_zero _) | exact f_faO0 (o := 3) rfl rfl (Nat.succ_ne_zero _) | exact f_faO0 rfl rfl (Nat.succ_ne_zero _) | exact f_faO rfl rfl (Nat.succ_ne_zero _)) : ST E ops ab base ((s, hs, cw) :: pl) (⟨some i, .fieldAddr tx x f, ty, pos, aft, none⟩ :: r) n a H K := ST.v hv h
theorem ST.bnA (h : ST E ops ab base pl r n ((i, d) :: a) H K) (hv : Val E.P (maskL 0 (hs.map (rho ab base)) H) (base + s) n a (.binOp bo tx x y ty') d := by first | exact f_lss rfl rfl | exact f_add rfl rfl (by omega) (by omega) | exact f_eql rfl rfl | exact f_neq rfl rfl | exact f_leq rfl rfl | exact f_gtr rfl rfl | exact f_geq rfl rfl | exact f_sub rfl rfl (by omega) (by omega) | exact f_mul rfl rfl (by omega) (by omega) | exact f_rem rfl rfl (by omega) (by omega) | exact f_quo rfl rfl (by omega) (by omega) (by omega)) : ST E ops ab base ((s, hs, cw) :: pl) (⟨some i, .binOp bo tx x y ty', ty, pos, aft, none⟩ :: r) n a H K := ST.v hv h
theorem ST.pkA (h : ST E ops ab base pl r n ((i, d) :: a) H K) (hv : Val E.P (maskL 0 (hs.map (rho ab base)) H) (base + s) n a (.pick x y z) d := by first | exact f_pickTV rfl rfl | exact f_pickFV rfl rfl) : ST E ops ab base ((s, hs, cw) :: pl) (⟨some i, .pick x y z, ty, pos, aft, none⟩ :: r) n a H K := ST.v hv h
theorem ST.exA (h : ST E ops ab base pl r n ((i, d) :: a) H K) (hv : Val E.P (maskL 0 (hs.map (rho ab base)) H) (base + s) n a (.extract x f) d := by exact f_ext rfl rfl) : ST E ops ab base ((s, hs, cw) :: pl) (⟨some i, .extract x f, ty, pos, aft, none⟩ :: r) n a H K := ST.v hv h
theorem ST.ixA (h : ST E ops ab base pl r n ((i, d) :: a) H K) (hv : Val E.P (maskL 0 (hs.map (rho ab base)) H) (base + s) n a (.indexAddr tx x y) d := by first | exact f_ixL rfl rfl (by first | with_reducible exact castR _ | with_reducible exact castS _ | rfl | omega) (by omega) rfl rfl | exact f_ix rfl rfl (by first | with_reducible exact castR _ | with_reducible exact castS _ | rfl | omega) (by assumption) rfl rfl | exact f_ixO0 rfl rfl (by first | with_reducible exact castR _ | with_reducible exact castS _ | rfl | omega) rfl rfl (by (first | omega | (simp only [List.length_set, List.length_replicate, List.length_append, List.length_map, List.length_cons, List.length_nil]; omega)))) : ST E ops ab base ((s, hs, cw) :: pl) (⟨some i, .indexAddr tx x y, ty, pos, aft, none⟩ :: r) n a H K := ST.v hv h
theorem ST.unA (h : ST E ops ab base pl r n ((i, d) :: a) H K) (hv : Val E.P (maskL 0 (hs.map (rho ab base)) H) (base + s) n a (.unOp uo tx x) d := by first | exact f_notT rfl | exact f_notF rfl | exact f_notD rfl | exact f_not rfl | exact f_neg rfl (by omega) (by omega)) : ST E ops ab base ((s, hs, cw) :: pl) (⟨some i, .unOp uo tx x, ty, pos, aft, none⟩ :: r) n a H K := ST.v hv h
theorem ST.clA (h : ST E ops ab base pl r n ((i, d) :: a) H K) (hv : Val E.P (maskL 0 (hs.map (rho ab base)) H) (base + s) n a (.call cl) d := by first | exact f_lenM rfl rfl | exact f_lenF rfl rfl | exact f_lenO rfl rfl | exact f_lenN rfl rfl | exact f_max rfl rfl | exact f_min rfl rfl) : ST E ops ab base ((s, hs, cw) :: pl) (⟨some i, .call cl, ty, pos, aft, none⟩ :: r) n a H K := ST.v hv h
theorem ST.msA (h : ST E ops ab base pl r n ((i, d) :: a) H K) (hv : Val E.P (maskL 0 (hs.map (rho ab base)) H) (base + s) n a (op) d := by first | exact f_slHi rfl rfl (by first | with_reducible exact castR _ | with_reducible exact castS _ | rfl | omega) (by omega) rfl | exact f_slLo rfl rfl (by first | with_reducible exact castR _ | with_reducible exact castS _ | rfl | omega) (by omega) rfl (fun _ => rfl) | exact f_build rfl | exact f_mkf (by first | (simp only [nrm]; rfl) | (simp only [nrm, Nat.reduceAdd, Nat.zero_add]; rfl) | rfl) (by first | (simp only [nrm]; rfl) | (simp only [nrm, Nat.reduceAdd, Nat.zero_add]; rfl) | rfl) | exact f_fd rfl rfl rfl) : ST E ops ab base ((s, hs, cw) :: pl) (⟨some i, op, ty, pos, aft, none⟩ :: r) n a H K := ST.v hv h
end
end
end Go.DL

/- Maps whose keys are words, as lists of pairs: a look, a write, their number. -/
set_option maxRecDepth 100000
namespace Go.DL
open Go.RowKit Go.Proofs

noncomputable section

abbrev KV := List (Int × D)
abbrev kW (k : Int) : Value := .int .i64 k
def afind : KV → Int → Option (Nat × D)
  | [], _ => none
  | p :: r, k => if p.1 = k then some (0, p.2) else (afind r k).map fun q => (q.1 + 1, q.2)
def aget (kv : KV) (k : Int) : Option D := (afind kv k).map (·.2)
def aset : KV → Int → D → KV
  | [], k, v => [(k, v)]
  | p :: r, k, v => if p.1 = k then (k, v) :: r else p :: aset r k v
def tabE : Nat → KV → List (Value × D × Nat)
  | _, [] => []
  | j, p :: r => (kW p.1, p.2, j) :: tabE (j + 1) r
/-- A map with these pairs. -/
def tabB (kv : KV) : Blk := .tab kv.length (tabE 0 kv)

theorem tabE_len : ∀ (kv : KV) (j : Nat), (tabE j kv).length = kv.length
  | [], _ => rfl
  | _ :: r, j => by simp [tabE, tabE_len r]
theorem aget_set : ∀ (kv : KV) (k k' : Int) (v : D), aget (aset kv k v) k' = if k' = k then some v else aget kv k'
  | [], k, k', v => by
    by_cases h : k' = k
    · subst h; simp [aset, aget, afind]
    · simp [aset, aget, afind, h, Ne.symm h]
  | p :: r, k, k', v => by
    have ih := aget_set r k k' v
    by_cases hp : p.1 = k
    · simp only [aset, if_pos hp]
      by_cases h : k' = k
      · subst h; simp [aget, afind]
      · have h2 : ¬ p.1 = k' := fun e => h (by rw [← e, hp])
        simp only [aget, afind, if_neg (Ne.symm h), if_neg h, if_neg h2]
    · simp only [aset, if_neg hp]
      by_cases h : p.1 = k'
      · have : ¬ k' = k := fun e => hp (h.trans e)
        simp [aget, afind, h, this]
      · simp only [aget, afind, if_neg h, Option.map_map] at ih ⊢
        by_cases hk : k' = k
        · rw [if_pos hk] at ih ⊢
          exact ih
        · rw [if_neg hk] at ih ⊢
          exact ih
theorem aset_len : ∀ (kv : KV) (k : Int) (v : D), (aset kv k v).length = kv.length + (if (afind kv k).isSome = true then 0 else 1)
  | [], _, _ => rfl
  | p :: r, k, v => by
    by_cases hp : p.1 = k
    · simp [aset, afind, hp]
    · have ih := aset_len r k v
      simp only [aset, if_neg hp, List.length_cons, ih, afind, Option.isSome_map]
      omega
theorem tabFind_E (k : Int) : ∀ (kv : KV) (j i : Nat), tabFind (.int .i64) (kW k) (tabE j kv) i = some ((afind kv k).map fun q => (i + q.1, q.2))
  | [], _, _ => rfl
  | p :: r, j, i => by
    have hs : Instr.sameNow (.int .i64) (kW k) (kW p.1) = some (k == p.1) := by simp [Instr.sameNow]
    simp only [tabE, tabFind, hs]
    by_cases h : p.1 = k
    · subst h
      simp [afind]
    · have hb : (k == p.1) = false := by simp; exact Ne.symm h
      simp only [hb, afind, if_neg h, tabFind_E k r (j + 1) (i + 1), Option.map_map]
      congr 2
      funext q
      simp; omega
theorem tabE_mod (k : Int) (v : D) : ∀ (kv : KV) (j q : Nat) (d : D), afind kv k = some (q, d) → (tabE j kv).modify q (fun e => (kW k, v, e.2.2)) = tabE j (aset kv k v)
  | [], _, _, _, h => by cases h
  | p :: r, j, q, d, h => by
    by_cases hp : p.1 = k
    · simp only [afind, if_pos hp, Option.some.injEq, Prod.mk.injEq] at h
      obtain ⟨rfl, _⟩ := h
      simp [tabE, aset, hp]
    · simp only [afind, if_neg hp, Option.map_eq_some_iff, Prod.mk.injEq, Prod.exists] at h
      obtain ⟨q', d', h1, rfl, rfl⟩ := h
      simp only [tabE, aset, if_neg hp, List.modify_succ_cons, tabE_mod k v r (j + 1) q' d' h1]
theorem tabE_new (k : Int) (v : D) : ∀ (kv : KV) (j : Nat), afind kv k = none → tabE j kv ++ [(kW k, v, j + kv.length)] = tabE j (aset kv k v)
  | [], _, _ => rfl
  | p :: r, j, h => by
    have hp : ¬ p.1 = k := fun hp => by simp [afind, hp] at h
    simp only [afind, if_neg hp, Option.map_eq_none_iff] at h
    simp only [tabE, aset, if_neg hp, List.cons_append, List.length_cons]
    rw [← tabE_new k v r (j + 1) h, show j + (r.length + 1) = j + 1 + r.length by omega]

section
variable {P : Program} {H : List Blk} {s n : Nat} {al : AL} {tx ty' : TypeId} {x y z : Operand} {k : Int} {b : Nat} {kv : KV} {te : TypeId}
theorem f_mvM (hx : evA n al x = .mm b) : Val P H s n al (.move x) (.mm b) := ⟨by simp [stepD, ev_T, hx]⟩
theorem f_asM (hx : evA n al x = .mm b) : Val P H s n al (.assign x) (.mm b) := ⟨by simp [stepD, ev_T, hx]⟩
theorem f_mkmap : Mk P H s n al (.makeMap tx none) (.mm s) (tabB []) := ⟨rfl⟩
theorem f_look {d : D} (hx : evA n al x = .mm b) (hy : evA n al y = wI k) (hb : H[b]? = some (tabB kv)) (ht : mapT P tx = some (.int .i64, te)) (hd : (aget kv k).orElse (fun _ => zvD P te) = some d) :
    Val P H s n al (.lookup tx x y false) d := by
  refine ⟨?_⟩
  simp only [stepD, ev_T, hx, hy, lookupD, ht, hb, tabB, tabFind_E k, aget] at hd ⊢
  cases hf : afind kv k with
  | none => rw [hf] at hd; simp at hd; simp [hd, keepD]
  | some q => rw [hf] at hd; simp at hd; simp [hd, keepD]
theorem f_look2 {d : D} {o : Bool} (hx : evA n al x = .mm b) (hy : evA n al y = wI k) (hb : H[b]? = some (tabB kv)) (ht : mapT P tx = some (.int .i64, te)) (ho : (aget kv k).isSome = o) (hd : (aget kv k).orElse (fun _ => zvD P te) = some d) :
    Val P H s n al (.lookup tx x y true) (.tup [d, wB o]) := by
  refine ⟨?_⟩
  simp only [stepD, ev_T, hx, hy, lookupD, ht, hb, tabB, tabFind_E k, aget] at hd ho ⊢
  cases hf : afind kv k with
  | none => rw [hf] at hd ho; simp at hd ho; subst ho; simp [hd, keepD]
  | some q => rw [hf] at hd ho; simp at hd ho; subst ho; simp [hd, keepD]
theorem f_mupd {d : D} (hx : evA n al x = .mm b) (hy : evA n al y = wI k) (hz : evA n al z = d) (hb : H[b]? = some (tabB kv)) (ht : mapT P tx = some (.int .i64, te)) :
    Wr P H s n al (.mapUpdate tx x y z) b (tabB (aset kv k d)) := by
  subst hz
  refine ⟨?_⟩
  have hl := aset_len kv k (evA n al z)
  simp only [stepD, ev_T, hx, hy, mapUpdD, ht, hb, tabB, tabFind_E k]
  cases hf : afind kv k with
  | none =>
    have h1 := tabE_new k (evA n al z) kv 0 hf
    simp only [Nat.zero_add] at h1
    simp only [hf, Option.isSome_none, Bool.false_eq_true, if_false] at hl
    simp [hl, h1]
  | some q =>
    have h1 := tabE_mod k (evA n al z) kv 0 q.1 q.2 hf
    simp only [hf, Option.isSome_some, if_true, Nat.add_zero] at hl
    simp [hl, h1]
end
/-- How many pairs a map has. -/
theorem RT.lenM {E : Ev} {ops r : List Oper} {n : Nat} {a : AL} {H : List Blk} {g : Gst} {K : KA} {i : Tmp} {x : Operand} {t kt et ty : TypeId} {pos : String} {aft : Array Edge} {b : Nat} {kv : KV} (hx : evA n a x = .mm b) (hu : E.P.underlying t = some (.map kt et))
    (hb : H[b]? = some (tabB kv)) (h : RT E ops r n ((i, wI kv.length) :: a) H g K) : RT E ops (⟨some i, .call { callee := .builtin .len, args := #[x], argTypes := #[t] }, ty, pos, aft, none⟩ :: r) n a H g K := by
  refine ⟨fun ro G hE ds Q hQ ac w hr => ?_⟩
  unfold wpListIn
  rw [if_pos (by simp [Region.wanted])]
  obtain ⟨A, φ, hr⟩ := hr
  have hv := hr.tr.ev x
  rw [ev_T, hx] at hv
  have hrun : (execOp ac.eval ⟨some i, .call { callee := .builtin .len, args := #[x], argTypes := #[t] }, ty, pos, aft, none⟩).run E.P w = .ok (.value (.int .i64 kv.length)) w := by
    have h3 : execOp ac.eval ⟨some i, .call { callee := .builtin .len, args := #[x], argTypes := #[t] }, ty, pos, aft, none⟩ = (do pure (.value (← Builtin.len_ #[t] ty #[ac.eval x]))) := by
      simp only [execOp, resolve, invoke]
      simp [builtin]
    have h4 := run_lenTab (P := E.P) (tx := ty) hr hu hv hb
    rw [tabE_len] at h4
    rw [h3, Sem.run_bind, h4]; rfl
  refine ⟨fun _ _ => trivial, ?_⟩
  rw [Oper.semAt_eq _ _ _ (by simp), hrun]
  have hr3 := hr.value (some i) (d := wI kv.length) (x := .int .i64 kv.length) (.v _ _)
  simp only [setT_T] at hr3
  exact h.out ro G hE ds Q hQ _ _ ⟨A, _, hr3⟩
end
end Go.DL

/- Steps over own blocks that are known by facts of the context. -/
namespace Go.DL
open Go.RowKit Go.Proofs

noncomputable section
section
variable {H T : List Blk} {i j : Nat} {x y : Blk}
theorem hg_lt (h : H[i]? = some x) : i < H.length := (List.getElem?_eq_some_iff.1 h).1
theorem hg_app (T : List Blk) (h : H[i]? = some x) : (H ++ T)[i]? = some x := by
  rw [List.getElem?_append_left (hg_lt h)]; exact h
theorem hg_ne (h : H[i]? = some x) (hn : j ≠ i) : (H.set j y)[i]? = some x := by
  rw [List.getElem?_set_ne hn]; exact h
theorem hg_self (h : j < H.length) : (H.set j y)[j]? = some y := List.getElem?_set_self h
theorem hg_new : (H ++ x :: T)[H.length]? = some x := by
  rw [List.getElem?_append_right (Nat.le_refl _), Nat.sub_self]; rfl
theorem hg_at {t l : Nat} (hl : H.length = l) (h : T[t]? = some x) : (H ++ T)[l + t]? = some x := by
  subst hl
  rw [List.getElem?_append_right (by omega)]
  rw [show H.length + t - H.length = t by omega]; exact h
end
section
variable {P : Program} {H : List Blk} {s n : Nat} {al : AL} {tx : TypeId} {x y : Operand} {a : Int}
theorem f_ldWD {bk k : Nat} {o : List Int} (hx : evA n al x = .mp bk k 0) (hb : H[bk]? = some (.live 1 (o.map eI))) (hk : k < o.length) (ht : isAggD P tx = some false) : Val P H s n al (.load tx x) (wI (o.getD k 0)) := by
  have h := f_ldW (s := s) hx hb hk ht
  have e : o.getD k 0 = o[k] := by rw [List.getD_eq_getElem?_getD, List.getElem?_eq_getElem hk]; rfl
  rw [e]; exact h
theorem f_ldM {α : Type} {f : α → List D} {l : List α} {bk k fo sz : Nat} {rest : List D} {d : D} (hx : evA n al x = .mp bk k fo) (hb : H[bk]? = some (.live sz (l.map f))) (hk : k < l.length) (hd : (f l[k]).drop fo = d :: rest) (ht : isAggD P tx = some false) : Val P H s n al (.load tx x) d :=
  f_ldO hx hb (by rw [List.getElem?_map, List.getElem?_eq_getElem hk]; rfl) hd ht
theorem f_ldMW {α : Type} {f : α → List D} {l : List α} {bk k sz m : Nat} (hx : evA n al x = .mp bk k 0) (hb : H[bk]? = some (.live sz (l.map f))) (hk : k < l.length) (ht : isAggD P tx = some true) (hs : tsz P tx = some m) (hn : (f l[k]).length = m) : Val P H s n al (.load tx x) (.agg (f l[k])) :=
  f_ldOW hx hb (by rw [List.getElem?_map, List.getElem?_eq_getElem hk]; rfl) ht hs hn
/-- A slice literal of one struct. -/
theorem f_bslA1 {te : TypeId} {cs z : List D} {m : Nat} (hx : evA n al x = .agg cs) (he : elemT P tx = some (te, m)) (hz : zeroD P te = some z) (hl : z.length = m) (hm : cs.length = m) (hc : cs.all isCell = true) (h0 : 0 < cs.length := by exact Nat.succ_pos _) (h1 : cs.length ≤ 16777216 := by simp) : Mk P H s n al (.buildSlice tx 1 #[(0, x)]) (.ms s 0 1 1) (.live m [cs]) := by
  subst hm
  refine f_bsl (ps := [(0, x)]) ?_
  simp [buildSliceD, he, hz, hl, rowsD, hx, cellsD, hc, h0, h1]
/-- An empty slice literal. -/
theorem f_bsl0 {te : TypeId} {z : List D} {m : Nat} (he : elemT P tx = some (te, m)) (hz : zeroD P te = some z) (hl : z.length = m) (h0 : 0 < m := by decide) : Mk P H s n al (.buildSlice tx 0 #[]) (.ms s 0 0 0) (.live m []) := by
  refine f_bsl (ps := []) ?_
  simp [buildSliceD, he, hz, hl, rowsD, Nat.pos_iff_ne_zero.1 h0]
end
section
variable {E : Ev} {ops r : List Oper} {n : Nat} {a : AL} {H H' : List Blk} {g : Gst} {K : KA} {dst : Option Tmp} {i : Tmp} {op : Op} {x y z : Operand} {tx ty ty' : TypeId} {pos : String} {aft : Array Edge} {f : Nat} {d : D}
theorem RT.mvM (h : RT E ops r n ((i, d) :: a) H g K) (hv : Val E.P H H.length n a (.move x) d := by exact f_mvM rfl) : RT E ops (⟨some i, .move x, ty, pos, aft, none⟩ :: r) n a H g K := RT.v hv h
theorem RT.asM (h : RT E ops r n ((i, d) :: a) H g K) (hv : Val E.P H H.length n a (.assign x) d := by exact f_asM rfl) : RT E ops (⟨some i, .assign x, ty, pos, aft, none⟩ :: r) n a H g K := RT.v hv h
theorem RT.ldH (h : RT E ops r n ((i, d) :: a) H g K) (hv : Val E.P H H.length n a (.load tx x) d := by first | exact f_ldO rfl (by repeat (first | assumption | exact hg_new | exact hg_at (by first | rfl | simp) rfl | exact hg_self (by first | assumption | omega | (simp only [List.length_set, List.length_append, List.length_cons, List.length_nil, List.length_map, List.length_replicate]; omega)) | refine hg_app _ ?_ | refine hg_ne ?_ (by first | assumption | omega) | refine mskR ?_ (by first | (simp [rho, -List.length_eq_zero_iff]; done) | (simp [rho, -List.length_eq_zero_iff]; omega)))) rfl rfl rfl | exact f_ldOW rfl (by repeat (first | assumption | exact hg_new | exact hg_at (by first | rfl | simp) rfl | exact hg_self (by first | assumption | omega | (simp only [List.length_set, List.length_append, List.length_cons, List.length_nil, List.length_map, List.length_replicate]; omega)) | refine hg_app _ ?_ | refine hg_ne ?_ (by first | assumption | omega) | refine mskR ?_ (by first | (simp [rho, -List.length_eq_zero_iff]; done) | (simp [rho, -List.length_eq_zero_iff]; omega)))) rfl rfl rfl rfl | exact f_ldWD rfl (by repeat (first | assumption | exact hg_new | exact hg_at (by first | rfl | simp) rfl | exact hg_self (by first | assumption | omega | (simp only [List.length_set, List.length_append, List.length_cons, List.length_nil, List.length_map, List.length_replicate]; omega)) | refine hg_app _ ?_ | refine hg_ne ?_ (by first | assumption | omega) | refine mskR ?_ (by first | (simp [rho, -List.length_eq_zero_iff]; done) | (simp [rho, -List.length_eq_zero_iff]; omega)))) (by first | assumption | omega | (simp only [List.length_set, List.length_append, List.length_cons, List.length_nil, List.length_map, List.length_replicate]; omega)) rfl | exact f_ldM rfl (by repeat (first | assumption | exact hg_new | exact hg_at (by first | rfl | simp) rfl | exact hg_self (by first | assumption | omega | (simp only [List.length_set, List.length_append, List.length_cons, List.length_nil, List.length_map, List.length_replicate]; omega)) | refine hg_app _ ?_ | refine hg_ne ?_ (by first | assumption | omega) | refine mskR ?_ (by first | (simp [rho, -List.length_eq_zero_iff]; done) | (simp [rho, -List.length_eq_zero_iff]; omega)))) (by first | assumption | omega | (simp only [List.length_set, List.length_append, List.length_cons, List.length_nil, List.length_map, List.length_replicate]; omega)) rfl rfl | exact f_ldMW rfl (by repeat (first | assumption | exact hg_new | exact hg_at (by first | rfl | simp) rfl | exact hg_self (by first | assumption | omega | (simp only [List.length_set, List.length_append, List.length_cons, List.length_nil, List.length_map, List.length_replicate]; omega)) | refine hg_app _ ?_ | refine hg_ne ?_ (by first | assumption | omega) | refine mskR ?_ (by first | (simp [rho, -List.length_eq_zero_iff]; done) | (simp [rho, -List.length_eq_zero_iff]; omega)))) (by first | assumption | omega | (simp only [List.length_set, List.length_append, List.length_cons, List.length_nil, List.length_map, List.length_replicate]; omega)) rfl rfl rfl) : RT E ops (⟨some i, .load tx x, ty, pos, aft, none⟩ :: r) n a H g K := RT.v hv h
theorem RT.ixH (h : RT E ops r n ((i, d) :: a) H g K) (hv : Val E.P H H.length n a (.indexAddr tx x y) d := by exact f_ixO0 rfl rfl (by first | with_reducible exact castR _ | with_reducible exact castS _ | assumption | rfl | omega) (by repeat (first | assumption | exact hg_new | exact hg_at (by first | rfl | simp) rfl | exact hg_self (by first | assumption | omega | (simp only [List.length_set, List.length_append, List.length_cons, List.length_nil, List.length_map, List.length_replicate]; omega)) | refine hg_app _ ?_ | refine hg_ne ?_ (by first | assumption | omega) | refine mskR ?_ (by first | (simp [rho, -List.length_eq_zero_iff]; done) | (simp [rho, -List.length_eq_zero_iff]; omega)))) rfl (by first | assumption | omega | (simp only [List.length_set, List.length_append, List.length_cons, List.length_nil, List.length_map, List.length_replicate]; omega))) : RT E ops (⟨some i, .indexAddr tx x y, ty, pos, aft, none⟩ :: r) n a H g K := RT.v hv h
theorem RT.lkH (h : RT E ops r n ((i, d) :: a) H g K) (hv : Val E.P H H.length n a (.lookup tx x y false) d := by exact f_look rfl rfl (by repeat (first | assumption | exact hg_new | exact hg_at (by first | rfl | simp) rfl | exact hg_self (by first | assumption | omega | (simp only [List.length_set, List.length_append, List.length_cons, List.length_nil, List.length_map, List.length_replicate]; omega)) | refine hg_app _ ?_ | refine hg_ne ?_ (by first | assumption | omega) | refine mskR ?_ (by first | (simp [rho, -List.length_eq_zero_iff]; done) | (simp [rho, -List.length_eq_zero_iff]; omega)))) rfl rfl) : RT E ops (⟨some i, .lookup tx x y false, ty, pos, aft, none⟩ :: r) n a H g K := RT.v hv h
theorem RT.stH {b : Nat} {k : Blk} (h : RT E ops r n a H' g K) (hv : Wr E.P H H.length n a (.store tx x y) b k := by first | exact f_stW rfl (by repeat (first | assumption | exact hg_new | exact hg_at (by first | rfl | simp) rfl | exact hg_self (by first | assumption | omega | (simp only [List.length_set, List.length_append, List.length_cons, List.length_nil, List.length_map, List.length_replicate]; omega)) | refine hg_app _ ?_ | refine hg_ne ?_ (by first | assumption | omega) | refine mskR ?_ (by first | (simp [rho, -List.length_eq_zero_iff]; done) | (simp [rho, -List.length_eq_zero_iff]; omega)))) (by first | assumption | omega | (simp only [List.length_set, List.length_append, List.length_cons, List.length_nil, List.length_map, List.length_replicate]; omega)) rfl rfl | exact f_stV rfl (by repeat (first | assumption | exact hg_new | exact hg_at (by first | rfl | simp) rfl | exact hg_self (by first | assumption | omega | (simp only [List.length_set, List.length_append, List.length_cons, List.length_nil, List.length_map, List.length_replicate]; omega)) | refine hg_app _ ?_ | refine hg_ne ?_ (by first | assumption | omega) | refine mskR ?_ (by first | (simp [rho, -List.length_eq_zero_iff]; done) | (simp [rho, -List.length_eq_zero_iff]; omega)))) rfl rfl rfl rfl rfl | exact f_stA rfl (by repeat (first | assumption | exact hg_new | exact hg_at (by first | rfl | simp) rfl | exact hg_self (by first | assumption | omega | (simp only [List.length_set, List.length_append, List.length_cons, List.length_nil, List.length_map, List.length_replicate]; omega)) | refine hg_app _ ?_ | refine hg_ne ?_ (by first | assumption | omega) | refine mskR ?_ (by first | (simp [rho, -List.length_eq_zero_iff]; done) | (simp [rho, -List.length_eq_zero_iff]; omega)))) rfl rfl rfl rfl rfl (by first | decide | exact Nat.le_refl _) rfl | exact f_st rfl (by repeat (first | assumption | exact hg_new | exact hg_at (by first | rfl | simp) rfl | exact hg_self (by first | assumption | omega | (simp only [List.length_set, List.length_append, List.length_cons, List.length_nil, List.length_map, List.length_replicate]; omega)) | refine hg_app _ ?_ | refine hg_ne ?_ (by first | assumption | omega) | refine mskR ?_ (by first | (simp [rho, -List.length_eq_zero_iff]; done) | (simp [rho, -List.length_eq_zero_iff]; omega)))) rfl rfl rfl rfl rfl rfl (by first | decide | exact Nat.le_refl _) rfl) (hH : H.set b k = H' := by rfl) : RT E ops (⟨none, .store tx x y, ty, pos, aft, none⟩ :: r) n a H g K := RT.wr hv hH h
theorem RT.muH {b : Nat} {k : Blk} (h : RT E ops r n a H' g K) (hv : Wr E.P H H.length n a (.mapUpdate tx x y z) b k := by exact f_mupd rfl rfl rfl (by repeat (first | assumption | exact hg_new | exact hg_at (by first | rfl | simp) rfl | exact hg_self (by first | assumption | omega | (simp only [List.length_set, List.length_append, List.length_cons, List.length_nil, List.length_map, List.length_replicate]; omega)) | refine hg_app _ ?_ | refine hg_ne ?_ (by first | assumption | omega) | refine mskR ?_ (by first | (simp [rho, -List.length_eq_zero_iff]; done) | (simp [rho, -List.length_eq_zero_iff]; omega)))) rfl) (hH : H.set b k = H' := by rfl) : RT E ops (⟨none, .mapUpdate tx x y z, ty, pos, aft, none⟩ :: r) n a H g K := RT.wr hv hH h
theorem RT.mkH {s : Nat} (h : RT E ops r n ((i, .mm s) :: a) H' g K) (hs : H.length = s := by first | rfl | omega) (hH : H ++ [tabB []] = H' := by rfl) : RT E ops (⟨some i, .makeMap tx none, ty, pos, aft, none⟩ :: r) n a H g K := RT.new hs f_mkmap hH h
theorem RT.lnH {t kt et : TypeId} {b : Nat} {kv : KV} (h : RT E ops r n ((i, wI kv.length) :: a) H g K) (hx : evA n a x = .mm b := by rfl) (hu : E.P.underlying t = some (.map kt et) := by rfl) (hb : H[b]? = some (tabB kv) := by exact (by repeat (first | assumption | exact hg_new | exact hg_at (by first | rfl | simp) rfl | exact hg_self (by first | assumption | omega | (simp only [List.length_set, List.length_append, List.length_cons, List.length_nil, List.length_map, List.length_replicate]; omega)) | refine hg_app _ ?_ | refine hg_ne ?_ (by first | assumption | omega) | refine mskR ?_ (by first | (simp [rho, -List.length_eq_zero_iff]; done) | (simp [rho, -List.length_eq_zero_iff]; omega))))) : RT E ops (⟨some i, .call { callee := .builtin .len, args := #[x], argTypes := #[t] }, ty, pos, aft, none⟩ :: r) n a H g K := RT.lenM hx hu hb h
end
section
variable {E : Ev} {ops r : List Oper} {base s : Nat} {hs : List Nat} {pl : List (Nat × List Nat)} {n : Nat} {a : AL} {H H' : List Blk} {K : KP} {dst : Option Tmp} {i : Tmp} {op : Op} {x y z : Operand} {tx ty ty' : TypeId} {pos : String} {aft : Array Edge} {f : Nat} {d : D}
theorem PT.mvMI (hm : maskL base hs H = H) (h : PT E ops base pl r n ((i, d) :: a) H K) (hv : Val E.P H (base + s) n a (.move x) d := by exact f_mvM rfl) : PT E ops base ((s, hs) :: pl) (⟨some i, .move x, ty, pos, aft, none⟩ :: r) n a H K := PT.vI hm hv h
theorem PT.asMI (hm : maskL base hs H = H) (h : PT E ops base pl r n ((i, d) :: a) H K) (hv : Val E.P H (base + s) n a (.assign x) d := by exact f_asM rfl) : PT E ops base ((s, hs) :: pl) (⟨some i, .assign x, ty, pos, aft, none⟩ :: r) n a H K := PT.vI hm hv h
theorem PT.ldHI (hm : maskL base hs H = H) (h : PT E ops base pl r n ((i, d) :: a) H K) (hv : Val E.P H (base + s) n a (.load tx x) d := by first | exact f_ldO rfl (by repeat (first | assumption | exact hg_new | exact hg_at (by first | rfl | simp) rfl | exact hg_self (by first | assumption | omega | (simp only [List.length_set, List.length_append, List.length_cons, List.length_nil, List.length_map, List.length_replicate]; omega)) | refine hg_app _ ?_ | refine hg_ne ?_ (by first | assumption | omega) | refine mskR ?_ (by first | (simp [rho, -List.length_eq_zero_iff]; done) | (simp [rho, -List.length_eq_zero_iff]; omega)))) rfl rfl rfl | exact f_ldOW rfl (by repeat (first | assumption | exact hg_new | exact hg_at (by first | rfl | simp) rfl | exact hg_self (by first | assumption | omega | (simp only [List.length_set, List.length_append, List.length_cons, List.length_nil, List.length_map, List.length_replicate]; omega)) | refine hg_app _ ?_ | refine hg_ne ?_ (by first | assumption | omega) | refine mskR ?_ (by first | (simp [rho, -List.length_eq_zero_iff]; done) | (simp [rho, -List.length_eq_zero_iff]; omega)))) rfl rfl rfl rfl | exact f_ldWD rfl (by repeat (first | assumption | exact hg_new | exact hg_at (by first | rfl | simp) rfl | exact hg_self (by first | assumption | omega | (simp only [List.length_set, List.length_append, List.length_cons, List.length_nil, List.length_map, List.length_replicate]; omega)) | refine hg_app _ ?_ | refine hg_ne ?_ (by first | assumption | omega) | refine mskR ?_ (by first | (simp [rho, -List.length_eq_zero_iff]; done) | (simp [rho, -List.length_eq_zero_iff]; omega)))) (by first | assumption | omega | (simp only [List.length_set, List.length_append, List.length_cons, List.length_nil, List.length_map, List.length_replicate]; omega)) rfl | exact f_ldM rfl (by repeat (first | assumption | exact hg_new | exact hg_at (by first | rfl | simp) rfl | exact hg_self (by first | assumption | omega | (simp only [List.length_set, List.length_append, List.length_cons, List.length_nil, List.length_map, List.length_replicate]; omega)) | refine hg_app _ ?_ | refine hg_ne ?_ (by first | assumption | omega) | refine mskR ?_ (by first | (simp [rho, -List.length_eq_zero_iff]; done) | (simp [rho, -List.length_eq_zero_iff]; omega)))) (by first | assumption | omega | (simp only [List.length_set, List.length_append, List.length_cons, List.length_nil, List.length_map, List.length_replicate]; omega)) rfl rfl | exact f_ldMW rfl (by repeat (first | assumption | exact hg_new | exact hg_at (by first | rfl | simp) rfl | exact hg_self (by first | assumption | omega | (simp only [List.length_set, List.length_append, List.length_cons, List.length_nil, List.length_map, List.length_replicate]; omega)) | refine hg_app _ ?_ | refine hg_ne ?_ (by first | assumption | omega) | refine mskR ?_ (by first | (simp [rho, -List.length_eq_zero_iff]; done) | (simp [rho, -List.length_eq_zero_iff]; omega)))) (by first | assumption | omega | (simp only [List.length_set, List.length_append, List.length_cons, List.length_nil, List.length_map, List.length_replicate]; omega)) rfl rfl rfl) : PT E ops base ((s, hs) :: pl) (⟨some i, .load tx x, ty, pos, aft, none⟩ :: r) n a H K := PT.vI hm hv h
theorem PT.ixHI (hm : maskL base hs H = H) (h : PT E ops base pl r n ((i, d) :: a) H K) (hv : Val E.P H (base + s) n a (.indexAddr tx x y) d := by exact f_ixO0 rfl rfl (by first | with_reducible exact castR _ | with_reducible exact castS _ | assumption | rfl | omega) (by repeat (first | assumption | exact hg_new | exact hg_at (by first | rfl | simp) rfl | exact hg_self (by first | assumption | omega | (simp only [List.length_set, List.length_append, List.length_cons, List.length_nil, List.length_map, List.length_replicate]; omega)) | refine hg_app _ ?_ | refine hg_ne ?_ (by first | assumption | omega) | refine mskR ?_ (by first | (simp [rho, -List.length_eq_zero_iff]; done) | (simp [rho, -List.length_eq_zero_iff]; omega)))) rfl (by first | assumption | omega | (simp only [List.length_set, List.length_append, List.length_cons, List.length_nil, List.length_map, List.length_replicate]; omega))) : PT E ops base ((s, hs) :: pl) (⟨some i, .indexAddr tx x y, ty, pos, aft, none⟩ :: r) n a H K := PT.vI hm hv h
theorem PT.stHI {b : Nat} {k : Blk} (hm : maskL base hs H = H) (h : PT E ops base pl r n a H' K) (hv : Wr E.P H (base + s) n a (.store tx x y) b k := by first | exact f_stW rfl (by repeat (first | assumption | exact hg_new | exact hg_at (by first | rfl | simp) rfl | exact hg_self (by first | assumption | omega | (simp only [List.length_set, List.length_append, List.length_cons, List.length_nil, List.length_map, List.length_replicate]; omega)) | refine hg_app _ ?_ | refine hg_ne ?_ (by first | assumption | omega) | refine mskR ?_ (by first | (simp [rho, -List.length_eq_zero_iff]; done) | (simp [rho, -List.length_eq_zero_iff]; omega)))) (by first | assumption | omega | (simp only [List.length_set, List.length_append, List.length_cons, List.length_nil, List.length_map, List.length_replicate]; omega)) rfl rfl | exact f_stV rfl (by repeat (first | assumption | exact hg_new | exact hg_at (by first | rfl | simp) rfl | exact hg_self (by first | assumption | omega | (simp only [List.length_set, List.length_append, List.length_cons, List.length_nil, List.length_map, List.length_replicate]; omega)) | refine hg_app _ ?_ | refine hg_ne ?_ (by first | assumption | omega) | refine mskR ?_ (by first | (simp [rho, -List.length_eq_zero_iff]; done) | (simp [rho, -List.length_eq_zero_iff]; omega)))) rfl rfl rfl rfl rfl | exact f_stA rfl (by repeat (first | assumption | exact hg_new | exact hg_at (by first | rfl | simp) rfl | exact hg_self (by first | assumption | omega | (simp only [List.length_set, List.length_append, List.length_cons, List.length_nil, List.length_map, List.length_replicate]; omega)) | refine hg_app _ ?_ | refine hg_ne ?_ (by first | assumption | omega) | refine mskR ?_ (by first | (simp [rho, -List.length_eq_zero_iff]; done) | (simp [rho, -List.length_eq_zero_iff]; omega)))) rfl rfl rfl rfl rfl (by first | decide | exact Nat.le_refl _) rfl | exact f_st rfl (by repeat (first | assumption | exact hg_new | exact hg_at (by first | rfl | simp) rfl | exact hg_self (by first | assumption | omega | (simp only [List.length_set, List.length_append, List.length_cons, List.length_nil, List.length_map, List.length_replicate]; omega)) | refine hg_app _ ?_ | refine hg_ne ?_ (by first | assumption | omega) | refine mskR ?_ (by first | (simp [rho, -List.length_eq_zero_iff]; done) | (simp [rho, -List.length_eq_zero_iff]; omega)))) rfl rfl rfl rfl rfl rfl (by first | decide | exact Nat.le_refl _) rfl) (hH : H.set b k = H' := by rfl) : PT E ops base ((s, hs) :: pl) (⟨none, .store tx x y, ty, pos, aft, none⟩ :: r) n a H K := PT.wrI hm hv hH h
end
section
variable {E : Ev} {ops r : List Oper} {ab : List Nat} {base s : Nat} {hs : List Nat} {cw : Option Nat} {pl : PlQ} {n : Nat} {a : AL} {H H' : List Blk} {K : KP} {dst : Option Tmp} {i : Tmp} {op : Op} {x y z : Operand} {tx ty ty' : TypeId} {pos : String} {aft : Array Edge} {f : Nat} {d : D}
theorem ST.mvM (h : ST E ops ab base pl r n ((i, d) :: a) H K) (hv : Val E.P (maskL 0 (hs.map (rho ab base)) H) (base + s) n a (.move x) d := by exact f_mvM rfl) : ST E ops ab base ((s, hs, cw) :: pl) (⟨some i, .move x, ty, pos, aft, none⟩ :: r) n a H K := ST.v hv h
theorem ST.asM (h : ST E ops ab base pl r n ((i, d) :: a) H K) (hv : Val E.P (maskL 0 (hs.map (rho ab base)) H) (base + s) n a (.assign x) d := by exact f_asM rfl) : ST E ops ab base ((s, hs, cw) :: pl) (⟨some i, .assign x, ty, pos, aft, none⟩ :: r) n a H K := ST.v hv h
theorem ST.ldH (h : ST E ops ab base pl r n ((i, d) :: a) H K) (hv : Val E.P (maskL 0 (hs.map (rho ab base)) H) (base + s) n a (.load tx x) d := by first | exact f_ldO rfl (by repeat (first | assumption | exact hg_new | exact hg_at (by first | rfl | simp) rfl | exact hg_self (by first | assumption | omega | (simp only [List.length_set, List.length_append, List.length_cons, List.length_nil, List.length_map, List.length_replicate]; omega)) | refine hg_app _ ?_ | refine hg_ne ?_ (by first | assumption | omega) | refine mskR ?_ (by first | (simp [rho, -List.length_eq_zero_iff]; done) | (simp [rho, -List.length_eq_zero_iff]; omega)))) rfl rfl rfl | exact f_ldOW rfl (by repeat (first | assumption | exact hg_new | exact hg_at (by first | rfl | simp) rfl | exact hg_self (by first | assumption | omega | (simp only [List.length_set, List.length_append, List.length_cons, List.length_nil, List.length_map, List.length_replicate]; omega)) | refine hg_app _ ?_ | refine hg_ne ?_ (by first | assumption | omega) | refine mskR ?_ (by first | (simp [rho, -List.length_eq_zero_iff]; done) | (simp [rho, -List.length_eq_zero_iff]; omega)))) rfl rfl rfl rfl | exact f_ldWD rfl (by repeat (first | assumption | exact hg_new | exact hg_at (by first | rfl | simp) rfl | exact hg_self (by first | assumption | omega | (simp only [List.length_set, List.length_append, List.length_cons, List.length_nil, List.length_map, List.length_replicate]; omega)) | refine hg_app _ ?_ | refine hg_ne ?_ (by first | assumption | omega) | refine mskR ?_ (by first | (simp [rho, -List.length_eq_zero_iff]; done) | (simp [rho, -List.length_eq_zero_iff]; omega)))) (by first | assumption | omega | (simp only [List.length_set, List.length_append, List.length_cons, List.length_nil, List.length_map, List.length_replicate]; omega)) rfl | exact f_ldM rfl (by repeat (first | assumption | exact hg_new | exact hg_at (by first | rfl | simp) rfl | exact hg_self (by first | assumption | omega | (simp only [List.length_set, List.length_append, List.length_cons, List.length_nil, List.length_map, List.length_replicate]; omega)) | refine hg_app _ ?_ | refine hg_ne ?_ (by first | assumption | omega) | refine mskR ?_ (by first | (simp [rho, -List.length_eq_zero_iff]; done) | (simp [rho, -List.length_eq_zero_iff]; omega)))) (by first | assumption | omega | (simp only [List.length_set, List.length_append, List.length_cons, List.length_nil, List.length_map, List.length_replicate]; omega)) rfl rfl | exact f_ldMW rfl (by repeat (first | assumption | exact hg_new | exact hg_at (by first | rfl | simp) rfl | exact hg_self (by first | assumption | omega | (simp only [List.length_set, List.length_append, List.length_cons, List.length_nil, List.length_map, List.length_replicate]; omega)) | refine hg_app _ ?_ | refine hg_ne ?_ (by first | assumption | omega) | refine mskR ?_ (by first | (simp [rho, -List.length_eq_zero_iff]; done) | (simp [rho, -List.length_eq_zero_iff]; omega)))) (by first | assumption | omega | (simp only [List.length_set, List.length_append, List.length_cons, List.length_nil, List.length_map, List.length_replicate]; omega)) rfl rfl rfl) : ST E ops ab base ((s, hs, cw) :: pl) (⟨some i, .load tx x, ty, pos, aft, none⟩ :: r) n a H K := ST.v hv h
theorem ST.ixH (h : ST E ops ab base pl r n ((i, d) :: a) H K) (hv : Val E.P (maskL 0 (hs.map (rho ab base)) H) (base + s) n a (.indexAddr tx x y) d := by exact f_ixO0 rfl rfl (by first | with_reducible exact castR _ | with_reducible exact castS _ | assumption | rfl | omega) (by repeat (first | assumption | exact hg_new | exact hg_at (by first | rfl | simp) rfl | exact hg_self (by first | assumption | omega | (simp only [List.length_set, List.length_append, List.length_cons, List.length_nil, List.length_map, List.length_replicate]; omega)) | refine hg_app _ ?_ | refine hg_ne ?_ (by first | assumption | omega) | refine mskR ?_ (by first | (simp [rho, -List.length_eq_zero_iff]; done) | (simp [rho, -List.length_eq_zero_iff]; omega)))) rfl (by first | assumption | omega | (simp only [List.length_set, List.length_append, List.length_cons, List.length_nil, List.length_map, List.length_replicate]; omega))) : ST E ops ab base ((s, hs, cw) :: pl) (⟨some i, .indexAddr tx x y, ty, pos, aft, none⟩ :: r) n a H K := ST.v hv h
theorem ST.lkH (h : ST E ops ab base pl r n ((i, d) :: a) H K) (hv : Val E.P (maskL 0 (hs.map (rho ab base)) H) (base + s) n a (.lookup tx x y false) d := by exact f_look rfl rfl (by repeat (first | assumption | exact hg_new | exact hg_at (by first | rfl | simp) rfl | exact hg_self (by first | assumption | omega | (simp only [List.length_set, List.length_append, List.length_cons, List.length_nil, List.length_map, List.length_replicate]; omega)) | refine hg_app _ ?_ | refine hg_ne ?_ (by first | assumption | omega) | refine mskR ?_ (by first | (simp [rho, -List.length_eq_zero_iff]; done) | (simp [rho, -List.length_eq_zero_iff]; omega)))) rfl rfl) : ST E ops ab base ((s, hs, cw) :: pl) (⟨some i, .lookup tx x y false, ty, pos, aft, none⟩ :: r) n a H K := ST.v hv h
end
end
end Go.DL

/- Guards of walks: the next operation is of a kind. -/
namespace Go.DL
open Go.RowKit Go.Proofs

noncomputable section
section
variable {E : Ev} {ops r : List Oper} {n : Nat} {a : AL} {H : List Blk} {g : Gst} {K : KA} {dst : Option Tmp} {x y z : Operand} {tx ty ty' : TypeId} {pos : String} {aft : Array Edge} {f : Nat} {bo : BinOp} {uo : UnOp} {cl : Call} {b : Bool} {ps : Array (Nat × Operand)} {qs rs : Array Operand} {fn : Fn} {lo hi mx : Option Operand} {j : Nat × Bool}
theorem w_mv (h : RT E ops (⟨dst, .move x, ty, pos, aft, none⟩ :: r) n a H g K) : RT E ops (⟨dst, .move x, ty, pos, aft, none⟩ :: r) n a H g K := h
theorem w_as (h : RT E ops (⟨dst, .assign x, ty, pos, aft, none⟩ :: r) n a H g K) : RT E ops (⟨dst, .assign x, ty, pos, aft, none⟩ :: r) n a H g K := h
theorem w_ld (h : RT E ops (⟨dst, .load tx x, ty, pos, aft, none⟩ :: r) n a H g K) : RT E ops (⟨dst, .load tx x, ty, pos, aft, none⟩ :: r) n a H g K := h
theorem w_fa (h : RT E ops (⟨dst, .fieldAddr tx x f, ty, pos, aft, none⟩ :: r) n a H g K) : RT E ops (⟨dst, .fieldAddr tx x f, ty, pos, aft, none⟩ :: r) n a H g K := h
theorem w_bn (h : RT E ops (⟨dst, Op.binOp bo tx x y ty', ty, pos, aft, none⟩ :: r) n a H g K) : RT E ops (⟨dst, Op.binOp bo tx x y ty', ty, pos, aft, none⟩ :: r) n a H g K := h
theorem w_pk (h : RT E ops (⟨dst, .pick x y z, ty, pos, aft, none⟩ :: r) n a H g K) : RT E ops (⟨dst, .pick x y z, ty, pos, aft, none⟩ :: r) n a H g K := h
theorem w_ex (h : RT E ops (⟨dst, .extract x f, ty, pos, aft, none⟩ :: r) n a H g K) : RT E ops (⟨dst, .extract x f, ty, pos, aft, none⟩ :: r) n a H g K := h
theorem w_ix (h : RT E ops (⟨dst, .indexAddr tx x y, ty, pos, aft, none⟩ :: r) n a H g K) : RT E ops (⟨dst, .indexAddr tx x y, ty, pos, aft, none⟩ :: r) n a H g K := h
theorem w_un (h : RT E ops (⟨dst, .unOp uo tx x, ty, pos, aft, none⟩ :: r) n a H g K) : RT E ops (⟨dst, .unOp uo tx x, ty, pos, aft, none⟩ :: r) n a H g K := h
theorem w_st (h : RT E ops (⟨dst, .store tx x y, ty, pos, aft, none⟩ :: r) n a H g K) : RT E ops (⟨dst, .store tx x y, ty, pos, aft, none⟩ :: r) n a H g K := h
theorem w_cl (h : RT E ops (⟨dst, .call cl, ty, pos, aft, none⟩ :: r) n a H g K) : RT E ops (⟨dst, .call cl, ty, pos, aft, none⟩ :: r) n a H g K := h
theorem w_bs (h : RT E ops (⟨dst, .buildSlice tx f ps, ty, pos, aft, none⟩ :: r) n a H g K) : RT E ops (⟨dst, .buildSlice tx f ps, ty, pos, aft, none⟩ :: r) n a H g K := h
theorem w_al (h : RT E ops (⟨dst, .alloc tx, ty, pos, aft, none⟩ :: r) n a H g K) : RT E ops (⟨dst, .alloc tx, ty, pos, aft, none⟩ :: r) n a H g K := h
theorem w_bx (h : RT E ops (⟨dst, .box tx x, ty, pos, aft, none⟩ :: r) n a H g K) : RT E ops (⟨dst, .box tx x, ty, pos, aft, none⟩ :: r) n a H g K := h
theorem w_sl (h : RT E ops (⟨dst, .slice tx x lo hi mx, ty, pos, aft, none⟩ :: r) n a H g K) : RT E ops (⟨dst, .slice tx x lo hi mx, ty, pos, aft, none⟩ :: r) n a H g K := h
theorem w_bd (h : RT E ops (⟨dst, .build tx ps, ty, pos, aft, none⟩ :: r) n a H g K) : RT E ops (⟨dst, .build tx ps, ty, pos, aft, none⟩ :: r) n a H g K := h
theorem w_mf (h : RT E ops (⟨dst, .makeFunc fn qs rs, ty, pos, aft, none⟩ :: r) n a H g K) : RT E ops (⟨dst, .makeFunc fn qs rs, ty, pos, aft, none⟩ :: r) n a H g K := h
theorem w_lk (h : RT E ops (⟨dst, .lookup tx x y b, ty, pos, aft, none⟩ :: r) n a H g K) : RT E ops (⟨dst, .lookup tx x y b, ty, pos, aft, none⟩ :: r) n a H g K := h
theorem w_mu (h : RT E ops (⟨dst, .mapUpdate tx x y z, ty, pos, aft, none⟩ :: r) n a H g K) : RT E ops (⟨dst, .mapUpdate tx x y z, ty, pos, aft, none⟩ :: r) n a H g K := h
theorem w_mm (h : RT E ops (⟨dst, .makeMap tx lo, ty, pos, aft, none⟩ :: r) n a H g K) : RT E ops (⟨dst, .makeMap tx lo, ty, pos, aft, none⟩ :: r) n a H g K := h
theorem w_g {op : Op} (h : RT E ops (⟨dst, op, ty, pos, aft, some j⟩ :: r) n a H g K) : RT E ops (⟨dst, op, ty, pos, aft, some j⟩ :: r) n a H g K := h
end
section
variable {E : Ev} {ops r : List Oper} {base : Nat} {pl : List (Nat × List Nat)} {n : Nat} {a : AL} {H : List Blk} {K : KP} {dst : Option Tmp} {x y z : Operand} {tx ty ty' : TypeId} {pos : String} {aft : Array Edge} {f : Nat} {bo : BinOp} {uo : UnOp} {cl : Call} {b : Bool} {ps : Array (Nat × Operand)} {qs rs : Array Operand} {fn : Fn} {lo hi mx : Option Operand} {j : Nat × Bool}
theorem q_mv (h : PT E ops base pl (⟨dst, .move x, ty, pos, aft, none⟩ :: r) n a H K) : PT E ops base pl (⟨dst, .move x, ty, pos, aft, none⟩ :: r) n a H K := h
theorem q_as (h : PT E ops base pl (⟨dst, .assign x, ty, pos, aft, none⟩ :: r) n a H K) : PT E ops base pl (⟨dst, .assign x, ty, pos, aft, none⟩ :: r) n a H K := h
theorem q_ld (h : PT E ops base pl (⟨dst, .load tx x, ty, pos, aft, none⟩ :: r) n a H K) : PT E ops base pl (⟨dst, .load tx x, ty, pos, aft, none⟩ :: r) n a H K := h
theorem q_fa (h : PT E ops base pl (⟨dst, .fieldAddr tx x f, ty, pos, aft, none⟩ :: r) n a H K) : PT E ops base pl (⟨dst, .fieldAddr tx x f, ty, pos, aft, none⟩ :: r) n a H K := h
theorem q_bn (h : PT E ops base pl (⟨dst, Op.binOp bo tx x y ty', ty, pos, aft, none⟩ :: r) n a H K) : PT E ops base pl (⟨dst, Op.binOp bo tx x y ty', ty, pos, aft, none⟩ :: r) n a H K := h
theorem q_pk (h : PT E ops base pl (⟨dst, .pick x y z, ty, pos, aft, none⟩ :: r) n a H K) : PT E ops base pl (⟨dst, .pick x y z, ty, pos, aft, none⟩ :: r) n a H K := h
theorem q_ix (h : PT E ops base pl (⟨dst, .indexAddr tx x y, ty, pos, aft, none⟩ :: r) n a H K) : PT E ops base pl (⟨dst, .indexAddr tx x y, ty, pos, aft, none⟩ :: r) n a H K := h
theorem q_un (h : PT E ops base pl (⟨dst, .unOp uo tx x, ty, pos, aft, none⟩ :: r) n a H K) : PT E ops base pl (⟨dst, .unOp uo tx x, ty, pos, aft, none⟩ :: r) n a H K := h
theorem q_st (h : PT E ops base pl (⟨dst, .store tx x y, ty, pos, aft, none⟩ :: r) n a H K) : PT E ops base pl (⟨dst, .store tx x y, ty, pos, aft, none⟩ :: r) n a H K := h
theorem q_cl (h : PT E ops base pl (⟨dst, .call cl, ty, pos, aft, none⟩ :: r) n a H K) : PT E ops base pl (⟨dst, .call cl, ty, pos, aft, none⟩ :: r) n a H K := h
theorem q_bs (h : PT E ops base pl (⟨dst, .buildSlice tx f ps, ty, pos, aft, none⟩ :: r) n a H K) : PT E ops base pl (⟨dst, .buildSlice tx f ps, ty, pos, aft, none⟩ :: r) n a H K := h
theorem q_al (h : PT E ops base pl (⟨dst, .alloc tx, ty, pos, aft, none⟩ :: r) n a H K) : PT E ops base pl (⟨dst, .alloc tx, ty, pos, aft, none⟩ :: r) n a H K := h
theorem q_bx (h : PT E ops base pl (⟨dst, .box tx x, ty, pos, aft, none⟩ :: r) n a H K) : PT E ops base pl (⟨dst, .box tx x, ty, pos, aft, none⟩ :: r) n a H K := h
theorem q_sl (h : PT E ops base pl (⟨dst, .slice tx x lo hi mx, ty, pos, aft, none⟩ :: r) n a H K) : PT E ops base pl (⟨dst, .slice tx x lo hi mx, ty, pos, aft, none⟩ :: r) n a H K := h
theorem q_bd (h : PT E ops base pl (⟨dst, .build tx ps, ty, pos, aft, none⟩ :: r) n a H K) : PT E ops base pl (⟨dst, .build tx ps, ty, pos, aft, none⟩ :: r) n a H K := h
theorem q_g {op : Op} (h : PT E ops base pl (⟨dst, op, ty, pos, aft, some j⟩ :: r) n a H K) : PT E ops base pl (⟨dst, op, ty, pos, aft, some j⟩ :: r) n a H K := h
end
section
variable {E : Ev} {ops r : List Oper} {ab : List Nat} {base : Nat} {pl : PlQ} {n : Nat} {a : AL} {H : List Blk} {K : KP} {dst : Option Tmp} {x y z : Operand} {tx ty ty' : TypeId} {pos : String} {aft : Array Edge} {f : Nat} {bo : BinOp} {uo : UnOp} {cl : Call} {b : Bool} {ps : Array (Nat × Operand)} {qs rs : Array Operand} {fn : Fn} {lo hi mx : Option Operand} {j : Nat × Bool}
end
section
variable {E : Ev} {n : Nat} {a : AL} {H : List Blk} {g : Gst} {Q : KX} {ops : List Oper} {K : KA} {KK : KP} {c : Code} {l : List Oper} {base : Nat} {pl : List (Nat × List Nat)} {pq : PlQ} {ab : List Nat}
theorem w_nil (h : RT E ops [] n a H g K) : RT E ops [] n a H g K := h
theorem q_nil (h : PT E ops base pl [] n a H KK) : PT E ops base pl [] n a H KK := h
theorem w_any (h : RT E ops l n a H g K) : RT E ops l n a H g K := h
theorem q_any (h : PT E ops base pl l n a H KK) : PT E ops base pl l n a H KK := h
theorem v_any (h : VT E c n a H g Q) : VT E c n a H g Q := h
end
end
end Go.DL

/- What is read of an argument, as plain data: numbers, booleans, lists. -/
set_option maxRecDepth 100000
namespace Go.DL
open Go.RowKit Go.Proofs Go.ChangeShapes Go.WideShapes

noncomputable section
section
variable {H : Type} {enc : TypeId × Value → H} {P : Program} {w : World}
end
theorem wf_i64 {n : Int} (h : (Lit.int .i64 n).wf = true) : -9223372036854775808 ≤ n ∧ n ≤ 9223372036854775807 := by
  simp only [Lit.wf, Bool.and_eq_true, decide_eq_true_eq] at h
  exact h
theorem reach62 : reachBytes ≤ 4611686018427387904 := by decide
theorem list_of {α : Type} {Q : α → Prop} {g : α → List D} : ∀ {es : List (List D)}, (∀ e, e ∈ es → ∃ a, Q a ∧ e = g a) → ∃ l : List α, (∀ a, a ∈ l → Q a) ∧ es = l.map g
  | [], _ => ⟨[], fun a h => (by cases h), rfl⟩
  | e :: es, h => by
    obtain ⟨a, ha, rfl⟩ := h e (List.mem_cons_self ..)
    obtain ⟨l, hl, rfl⟩ := list_of fun e he => h e (List.mem_cons_of_mem _ he)
    refine ⟨a :: l, fun b hb => ?_, rfl⟩
    rcases List.mem_cons.1 hb with e | e
    · rw [e]; exact ha
    · exact hl b e
/-- A slice whose elements are read as plain data. -/
theorem slice_of {α : Type} {Q : α → Prop} {g : α → List D} {R : List D → Prop} (hR : ∀ e, R e → ∃ a, Q a ∧ e = g a) {es : List (List D)} (h1 : es.length ≤ reachBytes) (h2 : ∀ e, e ∈ es → R e) :
    ∃ l : List α, (l.length ≤ 4611686018427387904 ∧ ∀ a, a ∈ l → Q a) ∧ es = l.map g := by
  obtain ⟨l, h3, rfl⟩ := list_of fun e he => hR e (h2 e he)
  exact ⟨l, ⟨by have := reach62; simp at h1; omega, h3⟩, rfl⟩
end
end Go.DL

/- Engine: small steps of operations. -/
set_option maxRecDepth 100000
set_option maxHeartbeats 4000000
namespace Go.DL
open Go.Proofs Go
theorem map_get {α β : Type} {f : α → β} {l : List α} {k : Nat} {x : α} (h : l[k]? = some x) : (l.map f)[k]? = some (f x) := by rw [List.getElem?_map, h]; rfl
section
variable {P : Program} {H : List Blk} {s n : Nat} {al : AL} {tx ty' : TypeId} {x y : Operand} {a b : Int}
theorem f_ixQ {α : Type} {f : α → List D} {l : List α} {k : Nat} {sz : Nat} {z : α} (hx : unfl (evA n al x) = .sl (l.map f)) (hy : evA n al y = wI a) (hn : a = k) (hk : l[k]? = some z) (hs : (elemT P tx).map (·.2) = some sz) (hf : (f z).length = sz) :
    Val P H s n al (.indexAddr tx x y) (.rp (f z)) := by
  obtain ⟨h1, rfl⟩ := List.getElem?_eq_some_iff.1 hk
  exact f_ixL hx hy hn h1 hs hf
end
theorem f_appL {P : Program} {H : List Blk} {s n : Nat} {al : AL} {tx : TypeId} {x y : Operand} {α : Type} {f : α → List D} {te : TypeId} {m mm c b1 sz by' : Nat} {es : List (List D)} {o v : List α} {d' : D} (hx : evA n al x = .ms b1 0 m c) (hy : evA n al y = d') (hb1 : H[b1]? = some (.live sz es)) (hes : es.take m = o.map f) (hle : m ≤ es.length) (hv : elemsD H d' = some (v.map f)) (hm : m = o.length)
    (hmm : o.length + v.length = mm) (he : elemT P tx = some (te, sz)) (h0 : 0 < sz) (hz : (zeroD P te).map List.length = some sz) (hby : P.bytesOf te = by') (hf : ∀ a, (f a).length = sz ∧ (f a).all isCell = true) (hl : (o.length + v.length) * by' ≤ 140737488355328) (hl2 : o.length + v.length ≤ 9223372036854775807) :
    Ap P H s n al (.call { callee := .builtin .append, args := #[x, y], argTypes := #[tx, tx] }) mm (some b1) (.live sz ((o ++ v).map f)) := by
  subst hm; subst hmm
  have hu : P.underlying tx = some (.slice te) := by
    unfold elemT at he
    split at he
    · rename_i e hu; simp only [Option.map_eq_some_iff] at he; obtain ⟨_, _, h⟩ := he; cases h; exact hu
    · cases he
  refine f_app hx hy ?_ (by simp)
  have e1 : elemsD H (.ms b1 0 o.length c) = some (o.map f) := by
    simp only [elemsD, hb1, Nat.zero_add, hle, if_true, List.drop_zero, hes]
  have e3 : ∀ l : List α, (l.map f).all (fun e => e.length == sz) = true := fun l => List.all_eq_true.2 fun e he => by
    obtain ⟨a, _, rfl⟩ := List.mem_map.1 he
    simpa using (hf a).1
  have e4 : (v.map f).all (fun e => e.all isCell) = true := List.all_eq_true.2 fun e he => by
    obtain ⟨a, _, rfl⟩ := List.mem_map.1 he
    exact (hf a).2
  simp only [appendD, addedD, he, hu, e1, hv]
  rw [if_pos]
  · simp only [hb1, Blk.hasSz]; simp
  · refine ⟨h0, hz, e3 o, e3 v, e4, ?_, ?_⟩
    · rw [hby, List.length_map, List.length_map]; exact hl
    · rw [List.length_map, List.length_map]; exact hl2
section
variable {P : Program} {H : List Blk} {s n : Nat} {al : AL} {tx ty' : TypeId} {x y : Operand} {a b : Int} {k : Nat}
end
section
variable {P : Program} {H : List Blk} {s n : Nat} {al : AL} {tx ty' : TypeId} {x y : Operand} {a b : Int}
end
/-- A whole element is written. -/
theorem f_stMA {P : Program} {H : List Blk} {s n : Nat} {al : AL} {tx : TypeId} {x y : Operand} {α : Type} {f : α → List D} {l : List α} {v : α} {bk k sz m : Nat} (hx : evA n al x = .mp bk k 0) (hb : H[bk]? = some (.live sz (l.map f))) (hk : k < l.length) (hy : evA n al y = .agg (f v)) (hc : (f v).all isCell = true) (hs : tsz P tx = some m) (hm : (f v).length = m) (hl : (f l[k]).length = m) :
    Wr P H s n al (.store tx x y) bk (.live sz ((l.set k v).map f)) := by
  rw [List.map_set]
  exact f_stA hx hb (by rw [List.getElem?_map, List.getElem?_eq_getElem hk]; rfl) hy hc hs hm (by omega) (by
    rw [splice, List.take_zero, List.nil_append, Nat.zero_add, List.drop_eq_nil_of_le (by omega), List.append_nil])
section
variable {P : Program} {H : List Blk} {s n : Nat} {al : AL} {tx : TypeId} {x y : Operand} {a b : Int}
theorem f_bslW2 {te : TypeId} (hx : evA n al x = wI a) (hy : evA n al y = wI b) (he : elemT P tx = some (te, 1)) (hz : zeroD P te = some [wI 0]) : Mk P H s n al (.buildSlice tx 2 #[(0, x), (1, y)]) (.ms s 0 2 2) (.live 1 ([a, b].map eI)) :=
  f_bsl (ps := [(0, x), (1, y)]) (by simp [buildSliceD, he, hz, rowsD, hx, hy, cellsD, isCell, eI, List.replicate]; exact ⟨rfl, rfl⟩)
end
end Go.DL

/- Engine: structs of numbers, compared. -/
set_option maxRecDepth 100000
set_option maxHeartbeats 4000000
namespace Go.DL
open Go.Proofs Go
section
variable {P : Program} {H : List Blk} {s n : Nat} {al : AL} {tx ty' : TypeId} {x y : Operand} {cs ds : List D} {b : Bool}
theorem f_neqAgg (hx : evA n al x = .agg cs) (hy : evA n al y = .agg ds) (h : aggEqD P tx cs ds = some b) : Val P H s n al (.binOp .neq tx x y ty') (wB (!b)) := by
  refine ⟨?_⟩
  simp only [stepD, ev_T, hx, hy, binD, h, Option.map_some, keepD]
theorem f_eqlAgg (hx : evA n al x = .agg cs) (hy : evA n al y = .agg ds) (h : aggEqD P tx cs ds = some b) : Val P H s n al (.binOp .eql tx x y ty') (wB b) := by
  refine ⟨?_⟩
  simp only [stepD, ev_T, hx, hy, binD, h, Option.map_some, keepD]
end
end Go.DL

/- Engine: parts of an own slice; rows of words, each in a block of its own. -/
set_option maxRecDepth 100000
set_option maxHeartbeats 4000000
namespace Go.DL
open Go.Proofs Go
section
variable {P : Program} {H : List Blk} {s n : Nat} {al : AL} {tx te : TypeId} {x y z : Operand} {a b : Int}
end
section
variable {P : Program} {H : List Blk} {s n : Nat} {al : AL} {tx te : TypeId} {x0 x1 x2 x3 x4 x5 x6 : Operand} {a0 a1 a2 a3 a4 a5 a6 : Int}
theorem f_bslW7 (h0 : evA n al x0 = wI a0) (h1 : evA n al x1 = wI a1) (h2 : evA n al x2 = wI a2) (h3 : evA n al x3 = wI a3) (h4 : evA n al x4 = wI a4) (h5 : evA n al x5 = wI a5) (h6 : evA n al x6 = wI a6) (he : elemT P tx = some (te, 1)) (hz : zeroD P te = some [wI 0]) :
    Mk P H s n al (.buildSlice tx 7 #[(0, x0), (1, x1), (2, x2), (3, x3), (4, x4), (5, x5), (6, x6)]) (.ms s 0 7 7) (.live 1 ([a0, a1, a2, a3, a4, a5, a6].map eI)) :=
  f_bsl (ps := [(0, x0), (1, x1), (2, x2), (3, x3), (4, x4), (5, x5), (6, x6)]) (by simp [buildSliceD, he, hz, rowsD, h0, h1, h2, h3, h4, h5, h6, cellsD, isCell, eI, List.replicate, Value.oneCell'])
end
end Go.DL

/- Engine: the capacity of nil; the start of an own slice. -/
set_option maxRecDepth 100000
set_option maxHeartbeats 4000000
namespace Go.DL
open Go.Proofs Go
section
variable {E : Ev} {ops r : List Oper} {n : Nat} {a : AL} {H : List Blk} {g : Gst} {K : KA} {i : Tmp} {x : Operand} {t te ty : TypeId} {pos : String} {aft : Array Edge}
theorem RT.capN (hx : evA n a x = .nil) (hu : E.P.underlying t = some (.slice te)) (h : RT E ops r n ((i, wI 0) :: a) H g K) : RT E ops (⟨some i, .call { callee := .builtin .cap, args := #[x], argTypes := #[t] }, ty, pos, aft, none⟩ :: r) n a H g K := by
  refine ⟨fun ro G hE ds Q hQ ac w hr => ?_⟩
  unfold wpListIn
  rw [if_pos (by simp [Region.wanted])]
  obtain ⟨A, φ, hr⟩ := hr
  have hv := hr.tr.ev x
  rw [ev_T, hx] at hv
  obtain ⟨a0, hs⟩ : ∃ a0, ac.eval x = .slice a0 0 0 := by
    generalize ac.eval x = u at hv
    cases hv; exact ⟨_, rfl⟩
  have hrun : (execOp ac.eval ⟨some i, .call { callee := .builtin .cap, args := #[x], argTypes := #[t] }, ty, pos, aft, none⟩).run E.P w = .ok (.value (.int .i64 0)) w := by
    have h3 : execOp ac.eval ⟨some i, .call { callee := .builtin .cap, args := #[x], argTypes := #[t] }, ty, pos, aft, none⟩ = (do pure (.value (← Builtin.cap_ #[t] ty #[ac.eval x]))) := by
      simp only [execOp, resolve, invoke]
      simp [builtin]
    rw [h3, hs, Sem.run_bind]
    have h4 : (Builtin.cap_ #[t] ty #[Value.slice a0 0 0]).run E.P w = .ok (.int .i64 0) w := by
      simp [Builtin.cap_, run_underlying hu]
      rfl
    rw [h4]; rfl
  refine ⟨fun _ _ => trivial, ?_⟩
  rw [Oper.semAt_eq _ _ _ (by simp), hrun]
  have hr3 := hr.value (some i) (d := wI 0) (x := .int .i64 0) (.v _ _)
  simp only [setT_T] at hr3
  exact h.out ro G hE ds Q hQ _ _ ⟨A, _, hr3⟩
end
section
variable {P : Program} {H : List Blk} {s n : Nat} {al : AL} {tx te : TypeId} {x y : Operand} {a : Int}
/-- The first elements of an own slice. -/
theorem f_slHiO {bk len cap sz hi : Nat} {es : List (List D)} (hx : evA n al x = .ms bk 0 len cap) (hy : evA n al y = wI a) (ha : a = hi) (h2 : hi ≤ cap)
    (he : elemT P tx = some (te, sz)) (hb : H[bk]? = some (.live sz es)) : Val P H s n al (.slice tx x none (some y) none) (.ms bk 0 hi cap) := by
  subst ha
  refine ⟨?_⟩
  simp only [stepD, ev_T, sliceD, he, hx, unfl, Option.map_none, Option.map_some, hy, bndD, intD, Option.isSome_none, Option.isSome_some, reduceCtorEq, false_and, and_false, if_false, Bool.false_eq_true]
  rw [if_pos ⟨by simp [Blk.hasSz, hb], by omega, by omega, by omega⟩]
  simp [keepD]
/-- The start of nil. -/
theorem f_slNil0 {sz : Nat} (hx : evA n al x = .nil) (hy : evA n al y = wI 0) (he : elemT P tx = some (te, sz)) : Val P H s n al (.slice tx x none (some y) none) .nil := by
  refine ⟨?_⟩
  simp [stepD, ev_T, sliceD, he, hx, unfl, hy, bndD, intD, keepD]
end
end Go.DL
