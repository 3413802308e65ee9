/- The steps of walks in drawn regions with claims, with what may be said of the operations as automatic arguments. -/
import Derived.Test.YtmbbepdbjeciaaaGreatE11
import Derived.Test.YtmbbepdbjeciaaaGreatE10
namespace Go.DL
open Go.RowKit Go.Proofs

noncomputable section
section
variable {E : Ev} {ops r l : List Oper} {ab : List Nat} {base s : Nat} {hs : List Nat} {cw : Option Nat} {pl : PlQ} {n : Nat} {a : AL} {H H' : List Blk} {K : KP} {dst : Option Tmp} {i : Tmp} {op : Op} {x y z : Operand} {tx ty ty' : TypeId} {pos : String} {aft : Array Edge} {f : Nat} {bo : BinOp} {uo : UnOp} {cl : Call} {d : D}
theorem ST.mvA (h : ST E ops ab base pl r n ((i, d) :: a) H K) (hv : Val E.P (maskL 0 (hs.map (rho ab base)) H) (base + s) n a (.move x) d := by first | exact f_mvV rfl | exact f_mvS rfl | exact f_mvF rfl | exact f_mvO rfl | exact f_mvP rfl | exact f_mvR rfl | exact f_mvA rfl | exact f_mvT rfl | exact f_mvN rfl | exact f_mvU rfl | exact f_mvX rfl) : ST E ops ab base ((s, hs, cw) :: pl) (⟨some i, .move x, ty, pos, aft, none⟩ :: r) n a H K := ST.v hv h
theorem ST.asA (h : ST E ops ab base pl r n ((i, d) :: a) H K) (hv : Val E.P (maskL 0 (hs.map (rho ab base)) H) (base + s) n a (.assign x) d := by first | exact f_asV rfl | exact f_asS rfl | exact f_asF rfl | exact f_asO rfl | exact f_asP rfl | exact f_asR rfl | exact f_asA rfl | exact f_asT rfl | exact f_asN rfl | exact f_asU rfl | exact f_asX rfl) : ST E ops ab base ((s, hs, cw) :: pl) (⟨some i, .assign x, ty, pos, aft, none⟩ :: r) n a H K := ST.v hv h
theorem ST.ldA (h : ST E ops ab base pl r n ((i, d) :: a) H K) (hv : Val E.P (maskL 0 (hs.map (rho ab base)) H) (base + s) n a (.load tx x) d := by first | exact f_ldV rfl rfl | exact f_ldO rfl rfl rfl rfl rfl | exact f_ldW rfl rfl (by (first | omega | (simp only [List.length_set, List.length_replicate, List.length_append, List.length_map, List.length_cons, List.length_nil]; omega))) rfl | exact f_ldS rfl rfl | exact f_ldFl rfl rfl | exact f_ldOW rfl rfl rfl rfl rfl rfl | exact f_ldG rfl rfl rfl | exact f_ldA rfl rfl rfl rfl (by first | (simp only [nrm]; rfl) | (simp only [nrm, Nat.reduceAdd, Nat.zero_add]; rfl) | rfl)) : ST E ops ab base ((s, hs, cw) :: pl) (⟨some i, .load tx x, ty, pos, aft, none⟩ :: r) n a H K := ST.v hv h
theorem ST.faA (h : ST E ops ab base pl r n ((i, d) :: a) H K) (hv : Val E.P (maskL 0 (hs.map (rho ab base)) H) (base + s) n a (.fieldAddr tx x f) d := by first | exact f_fa0 rfl rfl (Nat.succ_ne_zero _) | exact f_fa1 rfl rfl (Nat.succ_ne_zero _) | exact f_fa2 rfl rfl (Nat.succ_ne_zero _) | exact f_fa3 rfl rfl (Nat.succ_ne_zero _) | exact f_faO0 (o := 0) rfl rfl (Nat.succ_ne_zero _) | exact f_faO0 (o := 1) rfl rfl (Nat.succ_ne_zero _) | exact f_faO0 (o := 2) rfl rfl (Nat.succ_ne_zero _) | exact f_faO0 (o := 3) rfl rfl (Nat.succ_ne_zero _) | exact f_faO0 rfl rfl (Nat.succ_ne_zero _) | exact f_faO rfl rfl (Nat.succ_ne_zero _)) : ST E ops ab base ((s, hs, cw) :: pl) (⟨some i, .fieldAddr tx x f, ty, pos, aft, none⟩ :: r) n a H K := ST.v hv h
theorem ST.bnA (h : ST E ops ab base pl r n ((i, d) :: a) H K) (hv : Val E.P (maskL 0 (hs.map (rho ab base)) H) (base + s) n a (.binOp bo tx x y ty') d := by first | exact f_lss rfl rfl | exact f_add rfl rfl (by omega) (by omega) | exact f_eql rfl rfl | exact f_neq rfl rfl | exact f_leq rfl rfl | exact f_gtr rfl rfl | exact f_geq rfl rfl | exact f_sub rfl rfl (by omega) (by omega) | exact f_mul rfl rfl (by omega) (by omega) | exact f_rem rfl rfl (by omega) (by omega) | exact f_quo rfl rfl (by omega) (by omega) (by omega)) : ST E ops ab base ((s, hs, cw) :: pl) (⟨some i, .binOp bo tx x y ty', ty, pos, aft, none⟩ :: r) n a H K := ST.v hv h
theorem ST.pkA (h : ST E ops ab base pl r n ((i, d) :: a) H K) (hv : Val E.P (maskL 0 (hs.map (rho ab base)) H) (base + s) n a (.pick x y z) d := by first | exact f_pickTV rfl rfl | exact f_pickFV rfl rfl) : ST E ops ab base ((s, hs, cw) :: pl) (⟨some i, .pick x y z, ty, pos, aft, none⟩ :: r) n a H K := ST.v hv h
theorem ST.exA (h : ST E ops ab base pl r n ((i, d) :: a) H K) (hv : Val E.P (maskL 0 (hs.map (rho ab base)) H) (base + s) n a (.extract x f) d := by exact f_ext rfl rfl) : ST E ops ab base ((s, hs, cw) :: pl) (⟨some i, .extract x f, ty, pos, aft, none⟩ :: r) n a H K := ST.v hv h
theorem ST.ixA (h : ST E ops ab base pl r n ((i, d) :: a) H K) (hv : Val E.P (maskL 0 (hs.map (rho ab base)) H) (base + s) n a (.indexAddr tx x y) d := by first | exact f_ixL rfl rfl (by first | with_reducible exact castR _ | with_reducible exact castS _ | rfl | omega) (by omega) rfl rfl | exact f_ix rfl rfl (by first | with_reducible exact castR _ | with_reducible exact castS _ | rfl | omega) (by assumption) rfl rfl | exact f_ixO0 rfl rfl (by first | with_reducible exact castR _ | with_reducible exact castS _ | rfl | omega) rfl rfl (by (first | omega | (simp only [List.length_set, List.length_replicate, List.length_append, List.length_map, List.length_cons, List.length_nil]; omega)))) : ST E ops ab base ((s, hs, cw) :: pl) (⟨some i, .indexAddr tx x y, ty, pos, aft, none⟩ :: r) n a H K := ST.v hv h
theorem ST.unA (h : ST E ops ab base pl r n ((i, d) :: a) H K) (hv : Val E.P (maskL 0 (hs.map (rho ab base)) H) (base + s) n a (.unOp uo tx x) d := by first | exact f_notT rfl | exact f_notF rfl | exact f_notD rfl | exact f_not rfl | exact f_neg rfl (by omega) (by omega)) : ST E ops ab base ((s, hs, cw) :: pl) (⟨some i, .unOp uo tx x, ty, pos, aft, none⟩ :: r) n a H K := ST.v hv h
theorem ST.clA (h : ST E ops ab base pl r n ((i, d) :: a) H K) (hv : Val E.P (maskL 0 (hs.map (rho ab base)) H) (base + s) n a (.call cl) d := by first | exact f_lenM rfl rfl | exact f_lenF rfl rfl | exact f_lenO rfl rfl | exact f_lenN rfl rfl | exact f_max rfl rfl | exact f_min rfl rfl) : ST E ops ab base ((s, hs, cw) :: pl) (⟨some i, .call cl, ty, pos, aft, none⟩ :: r) n a H K := ST.v hv h
theorem ST.msA (h : ST E ops ab base pl r n ((i, d) :: a) H K) (hv : Val E.P (maskL 0 (hs.map (rho ab base)) H) (base + s) n a (op) d := by first | exact f_slHi rfl rfl (by first | with_reducible exact castR _ | with_reducible exact castS _ | rfl | omega) (by omega) rfl | exact f_slLo rfl rfl (by first | with_reducible exact castR _ | with_reducible exact castS _ | rfl | omega) (by omega) rfl (fun _ => rfl) | exact f_build rfl | exact f_mkf (by first | (simp only [nrm]; rfl) | (simp only [nrm, Nat.reduceAdd, Nat.zero_add]; rfl) | rfl) (by first | (simp only [nrm]; rfl) | (simp only [nrm, Nat.reduceAdd, Nat.zero_add]; rfl) | rfl) | exact f_fd rfl rfl rfl) : ST E ops ab base ((s, hs, cw) :: pl) (⟨some i, op, ty, pos, aft, none⟩ :: r) n a H K := ST.v hv h
end
end
end Go.DL

/- Maps whose keys are words, as lists of pairs: a look, a write, their number. -/
set_option maxRecDepth 100000
namespace Go.DL
open Go.RowKit Go.Proofs

noncomputable section

abbrev KV := List (Int × D)
abbrev kW (k : Int) : Value := .int .i64 k
def tabE : Nat → KV → List (Value × D × Nat)
  | _, [] => []
  | j, p :: r => (kW p.1, p.2, j) :: tabE (j + 1) r
/-- A map with these pairs. -/
def tabB (kv : KV) : Blk := .tab kv.length (tabE 0 kv)

theorem tabE_len : ∀ (kv : KV) (j : Nat), (tabE j kv).length = kv.length
  | [], _ => rfl
  | _ :: r, j => by simp [tabE, tabE_len r]
section
variable {P : Program} {H : List Blk} {s n : Nat} {al : AL} {tx ty' : TypeId} {x y z : Operand} {k : Int} {b : Nat} {kv : KV} {te : TypeId}
theorem f_mvM (hx : evA n al x = .mm b) : Val P H s n al (.move x) (.mm b) := ⟨by simp [stepD, ev_T, hx]⟩
theorem f_asM (hx : evA n al x = .mm b) : Val P H s n al (.assign x) (.mm b) := ⟨by simp [stepD, ev_T, hx]⟩
end
/-- How many pairs a map has. -/
theorem RT.lenM {E : Ev} {ops r : List Oper} {n : Nat} {a : AL} {H : List Blk} {g : Gst} {K : KA} {i : Tmp} {x : Operand} {t kt et ty : TypeId} {pos : String} {aft : Array Edge} {b : Nat} {kv : KV} (hx : evA n a x = .mm b) (hu : E.P.underlying t = some (.map kt et))
    (hb : H[b]? = some (tabB kv)) (h : RT E ops r n ((i, wI kv.length) :: a) H g K) : RT E ops (⟨some i, .call { callee := .builtin .len, args := #[x], argTypes := #[t] }, ty, pos, aft, none⟩ :: r) n a H g K := by
  refine ⟨fun ro G hE ds Q hQ ac w hr => ?_⟩
  unfold wpListIn
  rw [if_pos (by simp [Region.wanted])]
  obtain ⟨A, φ, hr⟩ := hr
  have hv := hr.tr.ev x
  rw [ev_T, hx] at hv
  have hrun : (execOp ac.eval ⟨some i, .call { callee := .builtin .len, args := #[x], argTypes := #[t] }, ty, pos, aft, none⟩).run E.P w = .ok (.value (.int .i64 kv.length)) w := by
    have h3 : execOp ac.eval ⟨some i, .call { callee := .builtin .len, args := #[x], argTypes := #[t] }, ty, pos, aft, none⟩ = (do pure (.value (← Builtin.len_ #[t] ty #[ac.eval x]))) := by
      simp only [execOp, resolve, invoke]
      simp [builtin]
    have h4 := run_lenTab (P := E.P) (tx := ty) hr hu hv hb
    rw [tabE_len] at h4
    rw [h3, Sem.run_bind, h4]; rfl
  refine ⟨fun _ _ => trivial, ?_⟩
  rw [Oper.semAt_eq _ _ _ (by simp), hrun]
  have hr3 := hr.value (some i) (d := wI kv.length) (x := .int .i64 kv.length) (.v _ _)
  simp only [setT_T] at hr3
  exact h.out ro G hE ds Q hQ _ _ ⟨A, _, hr3⟩
end
end Go.DL

/- Steps over own blocks that are known by facts of the context. -/
namespace Go.DL
open Go.RowKit Go.Proofs

noncomputable section
section
variable {H T : List Blk} {i j : Nat} {x y : Blk}
theorem hg_lt (h : H[i]? = some x) : i < H.length := (List.getElem?_eq_some_iff.1 h).1
theorem hg_app (T : List Blk) (h : H[i]? = some x) : (H ++ T)[i]? = some x := by
  rw [List.getElem?_append_left (hg_lt h)]; exact h
theorem hg_ne (h : H[i]? = some x) (hn : j ≠ i) : (H.set j y)[i]? = some x := by
  rw [List.getElem?_set_ne hn]; exact h
theorem hg_self (h : j < H.length) : (H.set j y)[j]? = some y := List.getElem?_set_self h
theorem hg_at {t l : Nat} (hl : H.length = l) (h : T[t]? = some x) : (H ++ T)[l + t]? = some x := by
  subst hl
  rw [List.getElem?_append_right (by omega)]
  rw [show H.length + t - H.length = t by omega]; exact h
end
section
variable {P : Program} {H : List Blk} {s n : Nat} {al : AL} {tx : TypeId} {x y : Operand} {a : Int}
theorem f_ldWD {bk k : Nat} {o : List Int} (hx : evA n al x = .mp bk k 0) (hb : H[bk]? = some (.live 1 (o.map eI))) (hk : k < o.length) (ht : isAggD P tx = some false) : Val P H s n al (.load tx x) (wI (o.getD k 0)) := by
  have h := f_ldW (s := s) hx hb hk ht
  have e : o.getD k 0 = o[k] := by rw [List.getD_eq_getElem?_getD, List.getElem?_eq_getElem hk]; rfl
  rw [e]; exact h
theorem f_ldM {α : Type} {f : α → List D} {l : List α} {bk k fo sz : Nat} {rest : List D} {d : D} (hx : evA n al x = .mp bk k fo) (hb : H[bk]? = some (.live sz (l.map f))) (hk : k < l.length) (hd : (f l[k]).drop fo = d :: rest) (ht : isAggD P tx = some false) : Val P H s n al (.load tx x) d :=
  f_ldO hx hb (by rw [List.getElem?_map, List.getElem?_eq_getElem hk]; rfl) hd ht
theorem f_ldMW {α : Type} {f : α → List D} {l : List α} {bk k sz m : Nat} (hx : evA n al x = .mp bk k 0) (hb : H[bk]? = some (.live sz (l.map f))) (hk : k < l.length) (ht : isAggD P tx = some true) (hs : tsz P tx = some m) (hn : (f l[k]).length = m) : Val P H s n al (.load tx x) (.agg (f l[k])) :=
  f_ldOW hx hb (by rw [List.getElem?_map, List.getElem?_eq_getElem hk]; rfl) ht hs hn
/-- An empty slice literal. -/
theorem f_bsl0 {te : TypeId} {z : List D} {m : Nat} (he : elemT P tx = some (te, m)) (hz : zeroD P te = some z) (hl : z.length = m) (h0 : 0 < m := by decide) : Mk P H s n al (.buildSlice tx 0 #[]) (.ms s 0 0 0) (.live m []) := by
  refine f_bsl (ps := []) ?_
  simp [buildSliceD, he, hz, hl, rowsD, Nat.pos_iff_ne_zero.1 h0]
end
section
variable {E : Ev} {ops r : List Oper} {n : Nat} {a : AL} {H H' : List Blk} {g : Gst} {K : KA} {dst : Option Tmp} {i : Tmp} {op : Op} {x y z : Operand} {tx ty ty' : TypeId} {pos : String} {aft : Array Edge} {f : Nat} {d : D}
theorem RT.mvM (h : RT E ops r n ((i, d) :: a) H g K) (hv : Val E.P H H.length n a (.move x) d := by exact f_mvM rfl) : RT E ops (⟨some i, .move x, ty, pos, aft, none⟩ :: r) n a H g K := RT.v hv h
theorem RT.asM (h : RT E ops r n ((i, d) :: a) H g K) (hv : Val E.P H H.length n a (.assign x) d := by exact f_asM rfl) : RT E ops (⟨some i, .assign x, ty, pos, aft, none⟩ :: r) n a H g K := RT.v hv h
theorem RT.ldH (h : RT E ops r n ((i, d) :: a) H g K) (hv : Val E.P H H.length n a (.load tx x) d := by first | exact f_ldO rfl (by repeat (first | assumption | exact hg_at (by first | rfl | simp) rfl | exact hg_self (by first | assumption | omega | (simp only [List.length_set, List.length_append, List.length_cons, List.length_nil, List.length_map, List.length_replicate]; omega)) | refine hg_app _ ?_ | refine hg_ne ?_ (by first | assumption | omega) | refine mskR ?_ (by first | (simp [rho, -List.length_eq_zero_iff]; done) | (simp [rho, -List.length_eq_zero_iff]; omega)))) rfl rfl rfl | exact f_ldOW rfl (by repeat (first | assumption | exact hg_at (by first | rfl | simp) rfl | exact hg_self (by first | assumption | omega | (simp only [List.length_set, List.length_append, List.length_cons, List.length_nil, List.length_map, List.length_replicate]; omega)) | refine hg_app _ ?_ | refine hg_ne ?_ (by first | assumption | omega) | refine mskR ?_ (by first | (simp [rho, -List.length_eq_zero_iff]; done) | (simp [rho, -List.length_eq_zero_iff]; omega)))) rfl rfl rfl rfl | exact f_ldWD rfl (by repeat (first | assumption | exact hg_at (by first | rfl | simp) rfl | exact hg_self (by first | assumption | omega | (simp only [List.length_set, List.length_append, List.length_cons, List.length_nil, List.length_map, List.length_replicate]; omega)) | refine hg_app _ ?_ | refine hg_ne ?_ (by first | assumption | omega) | refine mskR ?_ (by first | (simp [rho, -List.length_eq_zero_iff]; done) | (simp [rho, -List.length_eq_zero_iff]; omega)))) (by first | assumption | omega | (simp only [List.length_set, List.length_append, List.length_cons, List.length_nil, List.length_map, List.length_replicate]; omega)) rfl | exact f_ldM rfl (by repeat (first | assumption | exact hg_at (by first | rfl | simp) rfl | exact hg_self (by first | assumption | omega | (simp only [List.length_set, List.length_append, List.length_cons, List.length_nil, List.length_map, List.length_replicate]; omega)) | refine hg_app _ ?_ | refine hg_ne ?_ (by first | assumption | omega) | refine mskR ?_ (by first | (simp [rho, -List.length_eq_zero_iff]; done) | (simp [rho, -List.length_eq_zero_iff]; omega)))) (by first | assumption | omega | (simp only [List.length_set, List.length_append, List.length_cons, List.length_nil, List.length_map, List.length_replicate]; omega)) rfl rfl | exact f_ldMW rfl (by repeat (first | assumption | exact hg_at (by first | rfl | simp) rfl | exact hg_self (by first | assumption | omega | (simp only [List.length_set, List.length_append, List.length_cons, List.length_nil, List.length_map, List.length_replicate]; omega)) | refine hg_app _ ?_ | refine hg_ne ?_ (by first | assumption | omega) | refine mskR ?_ (by first | (simp [rho, -List.length_eq_zero_iff]; done) | (simp [rho, -List.length_eq_zero_iff]; omega)))) (by first | assumption | omega | (simp only [List.length_set, List.length_append, List.length_cons, List.length_nil, List.length_map, List.length_replicate]; omega)) rfl rfl rfl) : RT E ops (⟨some i, .load tx x, ty, pos, aft, none⟩ :: r) n a H g K := RT.v hv h
theorem RT.ixH (h : RT E ops r n ((i, d) :: a) H g K) (hv : Val E.P H H.length n a (.indexAddr tx x y) d := by exact f_ixO0 rfl rfl (by first | with_reducible exact castR _ | with_reducible exact castS _ | assumption | rfl | omega) (by repeat (first | assumption | exact hg_at (by first | rfl | simp) rfl | exact hg_self (by first | assumption | omega | (simp only [List.length_set, List.length_append, List.length_cons, List.length_nil, List.length_map, List.length_replicate]; omega)) | refine hg_app _ ?_ | refine hg_ne ?_ (by first | assumption | omega) | refine mskR ?_ (by first | (simp [rho, -List.length_eq_zero_iff]; done) | (simp [rho, -List.length_eq_zero_iff]; omega)))) rfl (by first | assumption | omega | (simp only [List.length_set, List.length_append, List.length_cons, List.length_nil, List.length_map, List.length_replicate]; omega))) : RT E ops (⟨some i, .indexAddr tx x y, ty, pos, aft, none⟩ :: r) n a H g K := RT.v hv h
theorem RT.stH {b : Nat} {k : Blk} (h : RT E ops r n a H' g K) (hv : Wr E.P H H.length n a (.store tx x y) b k := by first | exact f_stW rfl (by repeat (first | assumption | exact hg_at (by first | rfl | simp) rfl | exact hg_self (by first | assumption | omega | (simp only [List.length_set, List.length_append, List.length_cons, List.length_nil, List.length_map, List.length_replicate]; omega)) | refine hg_app _ ?_ | refine hg_ne ?_ (by first | assumption | omega) | refine mskR ?_ (by first | (simp [rho, -List.length_eq_zero_iff]; done) | (simp [rho, -List.length_eq_zero_iff]; omega)))) (by first | assumption | omega | (simp only [List.length_set, List.length_append, List.length_cons, List.length_nil, List.length_map, List.length_replicate]; omega)) rfl rfl | exact f_stV rfl (by repeat (first | assumption | exact hg_at (by first | rfl | simp) rfl | exact hg_self (by first | assumption | omega | (simp only [List.length_set, List.length_append, List.length_cons, List.length_nil, List.length_map, List.length_replicate]; omega)) | refine hg_app _ ?_ | refine hg_ne ?_ (by first | assumption | omega) | refine mskR ?_ (by first | (simp [rho, -List.length_eq_zero_iff]; done) | (simp [rho, -List.length_eq_zero_iff]; omega)))) rfl rfl rfl rfl rfl | exact f_stA rfl (by repeat (first | assumption | exact hg_at (by first | rfl | simp) rfl | exact hg_self (by first | assumption | omega | (simp only [List.length_set, List.length_append, List.length_cons, List.length_nil, List.length_map, List.length_replicate]; omega)) | refine hg_app _ ?_ | refine hg_ne ?_ (by first | assumption | omega) | refine mskR ?_ (by first | (simp [rho, -List.length_eq_zero_iff]; done) | (simp [rho, -List.length_eq_zero_iff]; omega)))) rfl rfl rfl rfl rfl (by decide) rfl | exact f_st rfl (by repeat (first | assumption | exact hg_at (by first | rfl | simp) rfl | exact hg_self (by first | assumption | omega | (simp only [List.length_set, List.length_append, List.length_cons, List.length_nil, List.length_map, List.length_replicate]; omega)) | refine hg_app _ ?_ | refine hg_ne ?_ (by first | assumption | omega) | refine mskR ?_ (by first | (simp [rho, -List.length_eq_zero_iff]; done) | (simp [rho, -List.length_eq_zero_iff]; omega)))) rfl rfl rfl rfl rfl rfl (by decide) rfl) (hH : H.set b k = H' := by rfl) : RT E ops (⟨none, .store tx x y, ty, pos, aft, none⟩ :: r) n a H g K := RT.wr hv hH h
theorem RT.lnH {t kt et : TypeId} {b : Nat} {kv : KV} (h : RT E ops r n ((i, wI kv.length) :: a) H g K) (hx : evA n a x = .mm b := by rfl) (hu : E.P.underlying t = some (.map kt et) := by rfl) (hb : H[b]? = some (tabB kv) := by exact (by repeat (first | assumption | exact hg_at (by first | rfl | simp) rfl | exact hg_self (by first | assumption | omega | (simp only [List.length_set, List.length_append, List.length_cons, List.length_nil, List.length_map, List.length_replicate]; omega)) | refine hg_app _ ?_ | refine hg_ne ?_ (by first | assumption | omega) | refine mskR ?_ (by first | (simp [rho, -List.length_eq_zero_iff]; done) | (simp [rho, -List.length_eq_zero_iff]; omega))))) : RT E ops (⟨some i, .call { callee := .builtin .len, args := #[x], argTypes := #[t] }, ty, pos, aft, none⟩ :: r) n a H g K := RT.lenM hx hu hb h
end
section
variable {E : Ev} {ops r : List Oper} {base s : Nat} {hs : List Nat} {pl : List (Nat × List Nat)} {n : Nat} {a : AL} {H H' : List Blk} {K : KP} {dst : Option Tmp} {i : Tmp} {op : Op} {x y z : Operand} {tx ty ty' : TypeId} {pos : String} {aft : Array Edge} {f : Nat} {d : D}
theorem PT.mvMI (hm : maskL base hs H = H) (h : PT E ops base pl r n ((i, d) :: a) H K) (hv : Val E.P H (base + s) n a (.move x) d := by exact f_mvM rfl) : PT E ops base ((s, hs) :: pl) (⟨some i, .move x, ty, pos, aft, none⟩ :: r) n a H K := PT.vI hm hv h
theorem PT.asMI (hm : maskL base hs H = H) (h : PT E ops base pl r n ((i, d) :: a) H K) (hv : Val E.P H (base + s) n a (.assign x) d := by exact f_asM rfl) : PT E ops base ((s, hs) :: pl) (⟨some i, .assign x, ty, pos, aft, none⟩ :: r) n a H K := PT.vI hm hv h
theorem PT.ldHI (hm : maskL base hs H = H) (h : PT E ops base pl r n ((i, d) :: a) H K) (hv : Val E.P H (base + s) n a (.load tx x) d := by first | exact f_ldO rfl (by repeat (first | assumption | exact hg_at (by first | rfl | simp) rfl | exact hg_self (by first | assumption | omega | (simp only [List.length_set, List.length_append, List.length_cons, List.length_nil, List.length_map, List.length_replicate]; omega)) | refine hg_app _ ?_ | refine hg_ne ?_ (by first | assumption | omega) | refine mskR ?_ (by first | (simp [rho, -List.length_eq_zero_iff]; done) | (simp [rho, -List.length_eq_zero_iff]; omega)))) rfl rfl rfl | exact f_ldOW rfl (by repeat (first | assumption | exact hg_at (by first | rfl | simp) rfl | exact hg_self (by first | assumption | omega | (simp only [List.length_set, List.length_append, List.length_cons, List.length_nil, List.length_map, List.length_replicate]; omega)) | refine hg_app _ ?_ | refine hg_ne ?_ (by first | assumption | omega) | refine mskR ?_ (by first | (simp [rho, -List.length_eq_zero_iff]; done) | (simp [rho, -List.length_eq_zero_iff]; omega)))) rfl rfl rfl rfl | exact f_ldWD rfl (by repeat (first | assumption | exact hg_at (by first | rfl | simp) rfl | exact hg_self (by first | assumption | omega | (simp only [List.length_set, List.length_append, List.length_cons, List.length_nil, List.length_map, List.length_replicate]; omega)) | refine hg_app _ ?_ | refine hg_ne ?_ (by first | assumption | omega) | refine mskR ?_ (by first | (simp [rho, -List.length_eq_zero_iff]; done) | (simp [rho, -List.length_eq_zero_iff]; omega)))) (by first | assumption | omega | (simp only [List.length_set, List.length_append, List.length_cons, List.length_nil, List.length_map, List.length_replicate]; omega)) rfl | exact f_ldM rfl (by repeat (first | assumption | exact hg_at (by first | rfl | simp) rfl | exact hg_self (by first | assumption | omega | (simp only [List.length_set, List.length_append, List.length_cons, List.length_nil, List.length_map, List.length_replicate]; omega)) | refine hg_app _ ?_ | refine hg_ne ?_ (by first | assumption | omega) | refine mskR ?_ (by first | (simp [rho, -List.length_eq_zero_iff]; done) | (simp [rho, -List.length_eq_zero_iff]; omega)))) (by first | assumption | omega | (simp only [List.length_set, List.length_append, List.length_cons, List.length_nil, List.length_map, List.length_replicate]; omega)) rfl rfl | exact f_ldMW rfl (by repeat (first | assumption | exact hg_at (by first | rfl | simp) rfl | exact hg_self (by first | assumption | omega | (simp only [List.length_set, List.length_append, List.length_cons, List.length_nil, List.length_map, List.length_replicate]; omega)) | refine hg_app _ ?_ | refine hg_ne ?_ (by first | assumption | omega) | refine mskR ?_ (by first | (simp [rho, -List.length_eq_zero_iff]; done) | (simp [rho, -List.length_eq_zero_iff]; omega)))) (by first | assumption | omega | (simp only [List.length_set, List.length_append, List.length_cons, List.length_nil, List.length_map, List.length_replicate]; omega)) rfl rfl rfl) : PT E ops base ((s, hs) :: pl) (⟨some i, .load tx x, ty, pos, aft, none⟩ :: r) n a H K := PT.vI hm hv h
theorem PT.ixHI (hm : maskL base hs H = H) (h : PT E ops base pl r n ((i, d) :: a) H K) (hv : Val E.P H (base + s) n a (.indexAddr tx x y) d := by exact f_ixO0 rfl rfl (by first | with_reducible exact castR _ | with_reducible exact castS _ | assumption | rfl | omega) (by repeat (first | assumption | exact hg_at (by first | rfl | simp) rfl | exact hg_self (by first | assumption | omega | (simp only [List.length_set, List.length_append, List.length_cons, List.length_nil, List.length_map, List.length_replicate]; omega)) | refine hg_app _ ?_ | refine hg_ne ?_ (by first | assumption | omega) | refine mskR ?_ (by first | (simp [rho, -List.length_eq_zero_iff]; done) | (simp [rho, -List.length_eq_zero_iff]; omega)))) rfl (by first | assumption | omega | (simp only [List.length_set, List.length_append, List.length_cons, List.length_nil, List.length_map, List.length_replicate]; omega))) : PT E ops base ((s, hs) :: pl) (⟨some i, .indexAddr tx x y, ty, pos, aft, none⟩ :: r) n a H K := PT.vI hm hv h
theorem PT.stHI {b : Nat} {k : Blk} (hm : maskL base hs H = H) (h : PT E ops base pl r n a H' K) (hv : Wr E.P H (base + s) n a (.store tx x y) b k := by first | exact f_stW rfl (by repeat (first | assumption | exact hg_at (by first | rfl | simp) rfl | exact hg_self (by first | assumption | omega | (simp only [List.length_set, List.length_append, List.length_cons, List.length_nil, List.length_map, List.length_replicate]; omega)) | refine hg_app _ ?_ | refine hg_ne ?_ (by first | assumption | omega) | refine mskR ?_ (by first | (simp [rho, -List.length_eq_zero_iff]; done) | (simp [rho, -List.length_eq_zero_iff]; omega)))) (by first | assumption | omega | (simp only [List.length_set, List.length_append, List.length_cons, List.length_nil, List.length_map, List.length_replicate]; omega)) rfl rfl | exact f_stV rfl (by repeat (first | assumption | exact hg_at (by first | rfl | simp) rfl | exact hg_self (by first | assumption | omega | (simp only [List.length_set, List.length_append, List.length_cons, List.length_nil, List.length_map, List.length_replicate]; omega)) | refine hg_app _ ?_ | refine hg_ne ?_ (by first | assumption | omega) | refine mskR ?_ (by first | (simp [rho, -List.length_eq_zero_iff]; done) | (simp [rho, -List.length_eq_zero_iff]; omega)))) rfl rfl rfl rfl rfl | exact f_stA rfl (by repeat (first | assumption | exact hg_at (by first | rfl | simp) rfl | exact hg_self (by first | assumption | omega | (simp only [List.length_set, List.length_append, List.length_cons, List.length_nil, List.length_map, List.length_replicate]; omega)) | refine hg_app _ ?_ | refine hg_ne ?_ (by first | assumption | omega) | refine mskR ?_ (by first | (simp [rho, -List.length_eq_zero_iff]; done) | (simp [rho, -List.length_eq_zero_iff]; omega)))) rfl rfl rfl rfl rfl (by decide) rfl | exact f_st rfl (by repeat (first | assumption | exact hg_at (by first | rfl | simp) rfl | exact hg_self (by first | assumption | omega | (simp only [List.length_set, List.length_append, List.length_cons, List.length_nil, List.length_map, List.length_replicate]; omega)) | refine hg_app _ ?_ | refine hg_ne ?_ (by first | assumption | omega) | refine mskR ?_ (by first | (simp [rho, -List.length_eq_zero_iff]; done) | (simp [rho, -List.length_eq_zero_iff]; omega)))) rfl rfl rfl rfl rfl rfl (by decide) rfl) (hH : H.set b k = H' := by rfl) : PT E ops base ((s, hs) :: pl) (⟨none, .store tx x y, ty, pos, aft, none⟩ :: r) n a H K := PT.wrI hm hv hH h
end
section
variable {E : Ev} {ops r : List Oper} {ab : List Nat} {base s : Nat} {hs : List Nat} {cw : Option Nat} {pl : PlQ} {n : Nat} {a : AL} {H H' : List Blk} {K : KP} {dst : Option Tmp} {i : Tmp} {op : Op} {x y z : Operand} {tx ty ty' : TypeId} {pos : String} {aft : Array Edge} {f : Nat} {d : D}
theorem ST.mvM (h : ST E ops ab base pl r n ((i, d) :: a) H K) (hv : Val E.P (maskL 0 (hs.map (rho ab base)) H) (base + s) n a (.move x) d := by exact f_mvM rfl) : ST E ops ab base ((s, hs, cw) :: pl) (⟨some i, .move x, ty, pos, aft, none⟩ :: r) n a H K := ST.v hv h
theorem ST.asM (h : ST E ops ab base pl r n ((i, d) :: a) H K) (hv : Val E.P (maskL 0 (hs.map (rho ab base)) H) (base + s) n a (.assign x) d := by exact f_asM rfl) : ST E ops ab base ((s, hs, cw) :: pl) (⟨some i, .assign x, ty, pos, aft, none⟩ :: r) n a H K := ST.v hv h
theorem ST.ldH (h : ST E ops ab base pl r n ((i, d) :: a) H K) (hv : Val E.P (maskL 0 (hs.map (rho ab base)) H) (base + s) n a (.load tx x) d := by first | exact f_ldO rfl (by repeat (first | assumption | exact hg_at (by first | rfl | simp) rfl | exact hg_self (by first | assumption | omega | (simp only [List.length_set, List.length_append, List.length_cons, List.length_nil, List.length_map, List.length_replicate]; omega)) | refine hg_app _ ?_ | refine hg_ne ?_ (by first | assumption | omega) | refine mskR ?_ (by first | (simp [rho, -List.length_eq_zero_iff]; done) | (simp [rho, -List.length_eq_zero_iff]; omega)))) rfl rfl rfl | exact f_ldOW rfl (by repeat (first | assumption | exact hg_at (by first | rfl | simp) rfl | exact hg_self (by first | assumption | omega | (simp only [List.length_set, List.length_append, List.length_cons, List.length_nil, List.length_map, List.length_replicate]; omega)) | refine hg_app _ ?_ | refine hg_ne ?_ (by first | assumption | omega) | refine mskR ?_ (by first | (simp [rho, -List.length_eq_zero_iff]; done) | (simp [rho, -List.length_eq_zero_iff]; omega)))) rfl rfl rfl rfl | exact f_ldWD rfl (by repeat (first | assumption | exact hg_at (by first | rfl | simp) rfl | exact hg_self (by first | assumption | omega | (simp only [List.length_set, List.length_append, List.length_cons, List.length_nil, List.length_map, List.length_replicate]; omega)) | refine hg_app _ ?_ | refine hg_ne ?_ (by first | assumption | omega) | refine mskR ?_ (by first | (simp [rho, -List.length_eq_zero_iff]; done) | (simp [rho, -List.length_eq_zero_iff]; omega)))) (by first | assumption | omega | (simp only [List.length_set, List.length_append, List.length_cons, List.length_nil, List.length_map, List.length_replicate]; omega)) rfl | exact f_ldM rfl (by repeat (first | assumption | exact hg_at (by first | rfl | simp) rfl | exact hg_self (by first | assumption | omega | (simp only [List.length_set, List.length_append, List.length_cons, List.length_nil, List.length_map, List.length_replicate]; omega)) | refine hg_app _ ?_ | refine hg_ne ?_ (by first | assumption | omega) | refine mskR ?_ (by first | (simp [rho, -List.length_eq_zero_iff]; done) | (simp [rho, -List.length_eq_zero_iff]; omega)))) (by first | assumption | omega | (simp only [List.length_set, List.length_append, List.length_cons, List.length_nil, List.length_map, List.length_replicate]; omega)) rfl rfl | exact f_ldMW rfl (by repeat (first | assumption | exact hg_at (by first | rfl | simp) rfl | exact hg_self (by first | assumption | omega | (simp only [List.length_set, List.length_append, List.length_cons, List.length_nil, List.length_map, List.length_replicate]; omega)) | refine hg_app _ ?_ | refine hg_ne ?_ (by first | assumption | omega) | refine mskR ?_ (by first | (simp [rho, -List.length_eq_zero_iff]; done) | (simp [rho, -List.length_eq_zero_iff]; omega)))) (by first | assumption | omega | (simp only [List.length_set, List.length_append, List.length_cons, List.length_nil, List.length_map, List.length_replicate]; omega)) rfl rfl rfl) : ST E ops ab base ((s, hs, cw) :: pl) (⟨some i, .load tx x, ty, pos, aft, none⟩ :: r) n a H K := ST.v hv h
theorem ST.ixH (h : ST E ops ab base pl r n ((i, d) :: a) H K) (hv : Val E.P (maskL 0 (hs.map (rho ab base)) H) (base + s) n a (.indexAddr tx x y) d := by exact f_ixO0 rfl rfl (by first | with_reducible exact castR _ | with_reducible exact castS _ | assumption | rfl | omega) (by repeat (first | assumption | exact hg_at (by first | rfl | simp) rfl | exact hg_self (by first | assumption | omega | (simp only [List.length_set, List.length_append, List.length_cons, List.length_nil, List.length_map, List.length_replicate]; omega)) | refine hg_app _ ?_ | refine hg_ne ?_ (by first | assumption | omega) | refine mskR ?_ (by first | (simp [rho, -List.length_eq_zero_iff]; done) | (simp [rho, -List.length_eq_zero_iff]; omega)))) rfl (by first | assumption | omega | (simp only [List.length_set, List.length_append, List.length_cons, List.length_nil, List.length_map, List.length_replicate]; omega))) : ST E ops ab base ((s, hs, cw) :: pl) (⟨some i, .indexAddr tx x y, ty, pos, aft, none⟩ :: r) n a H K := ST.v hv h
end
end
end Go.DL

/- Guards of walks: the next operation is of a kind. -/
namespace Go.DL
open Go.RowKit Go.Proofs

noncomputable section
section
variable {E : Ev} {ops r : List Oper} {n : Nat} {a : AL} {H : List Blk} {g : Gst} {K : KA} {dst : Option Tmp} {x y z : Operand} {tx ty ty' : TypeId} {pos : String} {aft : Array Edge} {f : Nat} {bo : BinOp} {uo : UnOp} {cl : Call} {b : Bool} {ps : Array (Nat × Operand)} {qs rs : Array Operand} {fn : Fn} {lo hi mx : Option Operand} {j : Nat × Bool}
theorem w_mv (h : RT E ops (⟨dst, .move x, ty, pos, aft, none⟩ :: r) n a H g K) : RT E ops (⟨dst, .move x, ty, pos, aft, none⟩ :: r) n a H g K := h
theorem w_as (h : RT E ops (⟨dst, .assign x, ty, pos, aft, none⟩ :: r) n a H g K) : RT E ops (⟨dst, .assign x, ty, pos, aft, none⟩ :: r) n a H g K := h
theorem w_ld (h : RT E ops (⟨dst, .load tx x, ty, pos, aft, none⟩ :: r) n a H g K) : RT E ops (⟨dst, .load tx x, ty, pos, aft, none⟩ :: r) n a H g K := h
theorem w_fa (h : RT E ops (⟨dst, .fieldAddr tx x f, ty, pos, aft, none⟩ :: r) n a H g K) : RT E ops (⟨dst, .fieldAddr tx x f, ty, pos, aft, none⟩ :: r) n a H g K := h
theorem w_bn (h : RT E ops (⟨dst, Op.binOp bo tx x y ty', ty, pos, aft, none⟩ :: r) n a H g K) : RT E ops (⟨dst, Op.binOp bo tx x y ty', ty, pos, aft, none⟩ :: r) n a H g K := h
theorem w_pk (h : RT E ops (⟨dst, .pick x y z, ty, pos, aft, none⟩ :: r) n a H g K) : RT E ops (⟨dst, .pick x y z, ty, pos, aft, none⟩ :: r) n a H g K := h
theorem w_ex (h : RT E ops (⟨dst, .extract x f, ty, pos, aft, none⟩ :: r) n a H g K) : RT E ops (⟨dst, .extract x f, ty, pos, aft, none⟩ :: r) n a H g K := h
theorem w_ix (h : RT E ops (⟨dst, .indexAddr tx x y, ty, pos, aft, none⟩ :: r) n a H g K) : RT E ops (⟨dst, .indexAddr tx x y, ty, pos, aft, none⟩ :: r) n a H g K := h
theorem w_un (h : RT E ops (⟨dst, .unOp uo tx x, ty, pos, aft, none⟩ :: r) n a H g K) : RT E ops (⟨dst, .unOp uo tx x, ty, pos, aft, none⟩ :: r) n a H g K := h
theorem w_st (h : RT E ops (⟨dst, .store tx x y, ty, pos, aft, none⟩ :: r) n a H g K) : RT E ops (⟨dst, .store tx x y, ty, pos, aft, none⟩ :: r) n a H g K := h
theorem w_cl (h : RT E ops (⟨dst, .call cl, ty, pos, aft, none⟩ :: r) n a H g K) : RT E ops (⟨dst, .call cl, ty, pos, aft, none⟩ :: r) n a H g K := h
theorem w_cv (h : RT E ops (⟨dst, .convert tx ty' x, ty, pos, aft, none⟩ :: r) n a H g K) : RT E ops (⟨dst, .convert tx ty' x, ty, pos, aft, none⟩ :: r) n a H g K := h
theorem w_bs (h : RT E ops (⟨dst, .buildSlice tx f ps, ty, pos, aft, none⟩ :: r) n a H g K) : RT E ops (⟨dst, .buildSlice tx f ps, ty, pos, aft, none⟩ :: r) n a H g K := h
theorem w_al (h : RT E ops (⟨dst, .alloc tx, ty, pos, aft, none⟩ :: r) n a H g K) : RT E ops (⟨dst, .alloc tx, ty, pos, aft, none⟩ :: r) n a H g K := h
theorem w_bx (h : RT E ops (⟨dst, .box tx x, ty, pos, aft, none⟩ :: r) n a H g K) : RT E ops (⟨dst, .box tx x, ty, pos, aft, none⟩ :: r) n a H g K := h
theorem w_sl (h : RT E ops (⟨dst, .slice tx x lo hi mx, ty, pos, aft, none⟩ :: r) n a H g K) : RT E ops (⟨dst, .slice tx x lo hi mx, ty, pos, aft, none⟩ :: r) n a H g K := h
theorem w_mf (h : RT E ops (⟨dst, .makeFunc fn qs rs, ty, pos, aft, none⟩ :: r) n a H g K) : RT E ops (⟨dst, .makeFunc fn qs rs, ty, pos, aft, none⟩ :: r) n a H g K := h
theorem w_g {op : Op} (h : RT E ops (⟨dst, op, ty, pos, aft, some j⟩ :: r) n a H g K) : RT E ops (⟨dst, op, ty, pos, aft, some j⟩ :: r) n a H g K := h
end
section
variable {E : Ev} {ops r : List Oper} {base : Nat} {pl : List (Nat × List Nat)} {n : Nat} {a : AL} {H : List Blk} {K : KP} {dst : Option Tmp} {x y z : Operand} {tx ty ty' : TypeId} {pos : String} {aft : Array Edge} {f : Nat} {bo : BinOp} {uo : UnOp} {cl : Call} {b : Bool} {ps : Array (Nat × Operand)} {qs rs : Array Operand} {fn : Fn} {lo hi mx : Option Operand} {j : Nat × Bool}
theorem q_mv (h : PT E ops base pl (⟨dst, .move x, ty, pos, aft, none⟩ :: r) n a H K) : PT E ops base pl (⟨dst, .move x, ty, pos, aft, none⟩ :: r) n a H K := h
theorem q_as (h : PT E ops base pl (⟨dst, .assign x, ty, pos, aft, none⟩ :: r) n a H K) : PT E ops base pl (⟨dst, .assign x, ty, pos, aft, none⟩ :: r) n a H K := h
theorem q_ld (h : PT E ops base pl (⟨dst, .load tx x, ty, pos, aft, none⟩ :: r) n a H K) : PT E ops base pl (⟨dst, .load tx x, ty, pos, aft, none⟩ :: r) n a H K := h
theorem q_fa (h : PT E ops base pl (⟨dst, .fieldAddr tx x f, ty, pos, aft, none⟩ :: r) n a H K) : PT E ops base pl (⟨dst, .fieldAddr tx x f, ty, pos, aft, none⟩ :: r) n a H K := h
theorem q_bn (h : PT E ops base pl (⟨dst, Op.binOp bo tx x y ty', ty, pos, aft, none⟩ :: r) n a H K) : PT E ops base pl (⟨dst, Op.binOp bo tx x y ty', ty, pos, aft, none⟩ :: r) n a H K := h
theorem q_pk (h : PT E ops base pl (⟨dst, .pick x y z, ty, pos, aft, none⟩ :: r) n a H K) : PT E ops base pl (⟨dst, .pick x y z, ty, pos, aft, none⟩ :: r) n a H K := h
theorem q_ex (h : PT E ops base pl (⟨dst, .extract x f, ty, pos, aft, none⟩ :: r) n a H K) : PT E ops base pl (⟨dst, .extract x f, ty, pos, aft, none⟩ :: r) n a H K := h
theorem q_ix (h : PT E ops base pl (⟨dst, .indexAddr tx x y, ty, pos, aft, none⟩ :: r) n a H K) : PT E ops base pl (⟨dst, .indexAddr tx x y, ty, pos, aft, none⟩ :: r) n a H K := h
theorem q_un (h : PT E ops base pl (⟨dst, .unOp uo tx x, ty, pos, aft, none⟩ :: r) n a H K) : PT E ops base pl (⟨dst, .unOp uo tx x, ty, pos, aft, none⟩ :: r) n a H K := h
theorem q_st (h : PT E ops base pl (⟨dst, .store tx x y, ty, pos, aft, none⟩ :: r) n a H K) : PT E ops base pl (⟨dst, .store tx x y, ty, pos, aft, none⟩ :: r) n a H K := h
theorem q_cl (h : PT E ops base pl (⟨dst, .call cl, ty, pos, aft, none⟩ :: r) n a H K) : PT E ops base pl (⟨dst, .call cl, ty, pos, aft, none⟩ :: r) n a H K := h
theorem q_bs (h : PT E ops base pl (⟨dst, .buildSlice tx f ps, ty, pos, aft, none⟩ :: r) n a H K) : PT E ops base pl (⟨dst, .buildSlice tx f ps, ty, pos, aft, none⟩ :: r) n a H K := h
theorem q_bx (h : PT E ops base pl (⟨dst, .box tx x, ty, pos, aft, none⟩ :: r) n a H K) : PT E ops base pl (⟨dst, .box tx x, ty, pos, aft, none⟩ :: r) n a H K := h
theorem q_sl (h : PT E ops base pl (⟨dst, .slice tx x lo hi mx, ty, pos, aft, none⟩ :: r) n a H K) : PT E ops base pl (⟨dst, .slice tx x lo hi mx, ty, pos, aft, none⟩ :: r) n a H K := h
theorem q_g {op : Op} (h : PT E ops base pl (⟨dst, op, ty, pos, aft, some j⟩ :: r) n a H K) : PT E ops base pl (⟨dst, op, ty, pos, aft, some j⟩ :: r) n a H K := h
end
section
variable {E : Ev} {ops r : List Oper} {ab : List Nat} {base : Nat} {pl : PlQ} {n : Nat} {a : AL} {H : List Blk} {K : KP} {dst : Option Tmp} {x y z : Operand} {tx ty ty' : TypeId} {pos : String} {aft : Array Edge} {f : Nat} {bo : BinOp} {uo : UnOp} {cl : Call} {b : Bool} {ps : Array (Nat × Operand)} {qs rs : Array Operand} {fn : Fn} {lo hi mx : Option Operand} {j : Nat × Bool}
theorem s_mv (h : ST E ops ab base pl (⟨dst, .move x, ty, pos, aft, none⟩ :: r) n a H K) : ST E ops ab base pl (⟨dst, .move x, ty, pos, aft, none⟩ :: r) n a H K := h
theorem s_as (h : ST E ops ab base pl (⟨dst, .assign x, ty, pos, aft, none⟩ :: r) n a H K) : ST E ops ab base pl (⟨dst, .assign x, ty, pos, aft, none⟩ :: r) n a H K := h
theorem s_ld (h : ST E ops ab base pl (⟨dst, .load tx x, ty, pos, aft, none⟩ :: r) n a H K) : ST E ops ab base pl (⟨dst, .load tx x, ty, pos, aft, none⟩ :: r) n a H K := h
theorem s_fa (h : ST E ops ab base pl (⟨dst, .fieldAddr tx x f, ty, pos, aft, none⟩ :: r) n a H K) : ST E ops ab base pl (⟨dst, .fieldAddr tx x f, ty, pos, aft, none⟩ :: r) n a H K := h
theorem s_bn (h : ST E ops ab base pl (⟨dst, Op.binOp bo tx x y ty', ty, pos, aft, none⟩ :: r) n a H K) : ST E ops ab base pl (⟨dst, Op.binOp bo tx x y ty', ty, pos, aft, none⟩ :: r) n a H K := h
theorem s_pk (h : ST E ops ab base pl (⟨dst, .pick x y z, ty, pos, aft, none⟩ :: r) n a H K) : ST E ops ab base pl (⟨dst, .pick x y z, ty, pos, aft, none⟩ :: r) n a H K := h
theorem s_ex (h : ST E ops ab base pl (⟨dst, .extract x f, ty, pos, aft, none⟩ :: r) n a H K) : ST E ops ab base pl (⟨dst, .extract x f, ty, pos, aft, none⟩ :: r) n a H K := h
theorem s_ix (h : ST E ops ab base pl (⟨dst, .indexAddr tx x y, ty, pos, aft, none⟩ :: r) n a H K) : ST E ops ab base pl (⟨dst, .indexAddr tx x y, ty, pos, aft, none⟩ :: r) n a H K := h
theorem s_cl (h : ST E ops ab base pl (⟨dst, .call cl, ty, pos, aft, none⟩ :: r) n a H K) : ST E ops ab base pl (⟨dst, .call cl, ty, pos, aft, none⟩ :: r) n a H K := h
theorem s_bs (h : ST E ops ab base pl (⟨dst, .buildSlice tx f ps, ty, pos, aft, none⟩ :: r) n a H K) : ST E ops ab base pl (⟨dst, .buildSlice tx f ps, ty, pos, aft, none⟩ :: r) n a H K := h
theorem s_sl (h : ST E ops ab base pl (⟨dst, .slice tx x lo hi mx, ty, pos, aft, none⟩ :: r) n a H K) : ST E ops ab base pl (⟨dst, .slice tx x lo hi mx, ty, pos, aft, none⟩ :: r) n a H K := h
end
section
variable {E : Ev} {n : Nat} {a : AL} {H : List Blk} {g : Gst} {Q : KX} {ops : List Oper} {K : KA} {KK : KP} {c : Code} {l : List Oper} {base : Nat} {pl : List (Nat × List Nat)} {pq : PlQ} {ab : List Nat}
theorem w_nil (h : RT E ops [] n a H g K) : RT E ops [] n a H g K := h
theorem q_nil (h : PT E ops base pl [] n a H KK) : PT E ops base pl [] n a H KK := h
theorem s_nil (h : ST E ops ab base pq [] n a H KK) : ST E ops ab base pq [] n a H KK := h
theorem w_any (h : RT E ops l n a H g K) : RT E ops l n a H g K := h
theorem q_any (h : PT E ops base pl l n a H KK) : PT E ops base pl l n a H KK := h
theorem s_any (h : ST E ops ab base pq l n a H KK) : ST E ops ab base pq l n a H KK := h
theorem v_any (h : VT E c n a H g Q) : VT E c n a H g Q := h
end
end
end Go.DL

/- What is read of an argument, as plain data: numbers, booleans, lists. -/
set_option maxRecDepth 100000
namespace Go.DL
open Go.RowKit Go.Proofs Go.ChangeShapes Go.WideShapes

noncomputable section
section
variable {H : Type} {enc : TypeId × Value → H} {P : Program} {w : World}
end
theorem wf_i64 {n : Int} (h : (Lit.int .i64 n).wf = true) : -9223372036854775808 ≤ n ∧ n ≤ 9223372036854775807 := by
  simp only [Lit.wf, Bool.and_eq_true, decide_eq_true_eq] at h
  exact h
theorem wf_u8 {n : Int} (h : (Lit.int .u8 n).wf = true) : 0 ≤ n ∧ n ≤ 255 := by
  simp only [Lit.wf, Bool.and_eq_true, decide_eq_true_eq] at h
  exact h
theorem reach62 : reachBytes ≤ 4611686018427387904 := by decide
theorem list_of {α : Type} {Q : α → Prop} {g : α → List D} : ∀ {es : List (List D)}, (∀ e, e ∈ es → ∃ a, Q a ∧ e = g a) → ∃ l : List α, (∀ a, a ∈ l → Q a) ∧ es = l.map g
  | [], _ => ⟨[], fun a h => (by cases h), rfl⟩
  | e :: es, h => by
    obtain ⟨a, ha, rfl⟩ := h e (List.mem_cons_self ..)
    obtain ⟨l, hl, rfl⟩ := list_of fun e he => h e (List.mem_cons_of_mem _ he)
    refine ⟨a :: l, fun b hb => ?_, rfl⟩
    rcases List.mem_cons.1 hb with e | e
    · rw [e]; exact ha
    · exact hl b e
/-- A slice whose elements are read as plain data. -/
theorem slice_of {α : Type} {Q : α → Prop} {g : α → List D} {R : List D → Prop} (hR : ∀ e, R e → ∃ a, Q a ∧ e = g a) {es : List (List D)} (h1 : es.length ≤ reachBytes) (h2 : ∀ e, e ∈ es → R e) :
    ∃ l : List α, (l.length ≤ 4611686018427387904 ∧ ∀ a, a ∈ l → Q a) ∧ es = l.map g := by
  obtain ⟨l, h3, rfl⟩ := list_of fun e he => hR e (h2 e he)
  exact ⟨l, ⟨by have := reach62; simp at h1; omega, h3⟩, rfl⟩
end
end Go.DL

/- Engine: small steps of operations. -/
set_option maxRecDepth 100000
set_option maxHeartbeats 4000000
namespace Go.DL
open Go.Proofs Go
theorem map_get {α β : Type} {f : α → β} {l : List α} {k : Nat} {x : α} (h : l[k]? = some x) : (l.map f)[k]? = some (f x) := by rw [List.getElem?_map, h]; rfl
section
variable {P : Program} {H : List Blk} {s n : Nat} {al : AL} {tx ty' : TypeId} {x y : Operand} {a b : Int}
end
theorem f_appL {P : Program} {H : List Blk} {s n : Nat} {al : AL} {tx : TypeId} {x y : Operand} {α : Type} {f : α → List D} {te : TypeId} {m mm c b1 sz by' : Nat} {es : List (List D)} {o v : List α} {d' : D} (hx : evA n al x = .ms b1 0 m c) (hy : evA n al y = d') (hb1 : H[b1]? = some (.live sz es)) (hes : es.take m = o.map f) (hle : m ≤ es.length) (hv : elemsD H d' = some (v.map f)) (hm : m = o.length)
    (hmm : o.length + v.length = mm) (he : elemT P tx = some (te, sz)) (h0 : 0 < sz) (hz : (zeroD P te).map List.length = some sz) (hby : P.bytesOf te = by') (hf : ∀ a, (f a).length = sz ∧ (f a).all isCell = true) (hl : (o.length + v.length) * by' ≤ 140737488355328) (hl2 : o.length + v.length ≤ 9223372036854775807) :
    Ap P H s n al (.call { callee := .builtin .append, args := #[x, y], argTypes := #[tx, tx] }) mm (some b1) (.live sz ((o ++ v).map f)) := by
  subst hm; subst hmm
  have hu : P.underlying tx = some (.slice te) := by
    unfold elemT at he
    split at he
    · rename_i e hu; simp only [Option.map_eq_some_iff] at he; obtain ⟨_, _, h⟩ := he; cases h; exact hu
    · cases he
  refine f_app hx hy ?_ (by simp)
  have e1 : elemsD H (.ms b1 0 o.length c) = some (o.map f) := by
    simp only [elemsD, hb1, Nat.zero_add, hle, if_true, List.drop_zero, hes]
  have e3 : ∀ l : List α, (l.map f).all (fun e => e.length == sz) = true := fun l => List.all_eq_true.2 fun e he => by
    obtain ⟨a, _, rfl⟩ := List.mem_map.1 he
    simpa using (hf a).1
  have e4 : (v.map f).all (fun e => e.all isCell) = true := List.all_eq_true.2 fun e he => by
    obtain ⟨a, _, rfl⟩ := List.mem_map.1 he
    exact (hf a).2
  simp only [appendD, addedD, he, hu, e1, hv]
  rw [if_pos]
  · simp only [hb1, Blk.hasSz]; simp
  · refine ⟨h0, hz, e3 o, e3 v, e4, ?_, ?_⟩
    · rw [hby, List.length_map, List.length_map]; exact hl
    · rw [List.length_map, List.length_map]; exact hl2
section
variable {P : Program} {H : List Blk} {s n : Nat} {al : AL} {tx ty' : TypeId} {x y : Operand} {a b : Int} {k : Nat}
theorem f_remE (hx : evA n al x = wI a) (hy : evA n al y = wI b) (h0 : 0 ≤ a) (hb : 0 < b) (he : a % b = (k : Int)) : Val P H s n al (.binOp .rem tx x y ty') (wI k) := he ▸ f_rem hx hy h0 (by omega)
end
section
variable {P : Program} {H : List Blk} {s n : Nat} {al : AL} {tx ty' : TypeId} {x y : Operand} {a b : Int}
end
/-- A whole element is written. -/
theorem f_stMA {P : Program} {H : List Blk} {s n : Nat} {al : AL} {tx : TypeId} {x y : Operand} {α : Type} {f : α → List D} {l : List α} {v : α} {bk k sz m : Nat} (hx : evA n al x = .mp bk k 0) (hb : H[bk]? = some (.live sz (l.map f))) (hk : k < l.length) (hy : evA n al y = .agg (f v)) (hc : (f v).all isCell = true) (hs : tsz P tx = some m) (hm : (f v).length = m) (hl : (f l[k]).length = m) :
    Wr P H s n al (.store tx x y) bk (.live sz ((l.set k v).map f)) := by
  rw [List.map_set]
  exact f_stA hx hb (by rw [List.getElem?_map, List.getElem?_eq_getElem hk]; rfl) hy hc hs hm (by omega) (by
    rw [splice, List.take_zero, List.nil_append, Nat.zero_add, List.drop_eq_nil_of_le (by omega), List.append_nil])
section
variable {P : Program} {H : List Blk} {s n : Nat} {al : AL} {tx : TypeId} {x y : Operand} {a b : Int}
theorem f_bslW2 {te : TypeId} (hx : evA n al x = wI a) (hy : evA n al y = wI b) (he : elemT P tx = some (te, 1)) (hz : zeroD P te = some [wI 0]) : Mk P H s n al (.buildSlice tx 2 #[(0, x), (1, y)]) (.ms s 0 2 2) (.live 1 ([a, b].map eI)) :=
  f_bsl (ps := [(0, x), (1, y)]) (by simp [buildSliceD, he, hz, rowsD, hx, hy, cellsD, isCell, eI, List.replicate]; exact ⟨rfl, rfl⟩)
end
end Go.DL

/- Engine: a word of an element. -/
set_option maxRecDepth 100000
set_option maxHeartbeats 4000000
namespace Go.DL
open Go.Proofs Go
/-- A word of an element is written. -/
theorem f_stMF {P : Program} {H : List Blk} {s n : Nat} {al : AL} {tx : TypeId} {x y : Operand} {a : Int} {α : Type} {f : α → List D} {l : List α} {v : α} {bk k fo sz : Nat} (hx : evA n al x = .mp bk k fo) (hb : H[bk]? = some (.live sz (l.map f))) (hk : k < l.length) (hy : evA n al y = wI a) (hs : tsz P tx = some 1) (hl : fo + 1 ≤ (f l[k]).length) (he : splice (f l[k]) fo [wI a] = f v) :
    Wr P H s n al (.store tx x y) bk (.live sz ((l.set k v).map f)) := by
  rw [List.map_set]
  exact f_st hx hb (by rw [List.getElem?_map, List.getElem?_eq_getElem hk]; rfl) hy rfl rfl hs rfl hl he
end Go.DL
