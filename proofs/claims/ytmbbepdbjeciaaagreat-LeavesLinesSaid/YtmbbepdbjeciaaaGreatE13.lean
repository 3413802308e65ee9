/- Maps whose keys are words, as lists of pairs: a look, a write, their number. -/
import Derived.Test.YtmbbepdbjeciaaaGreatE12
import Derived.Test.YtmbbepdbjeciaaaGreatE11
set_option maxRecDepth 100000
namespace Go.DL
open Go.RowKit Go.Proofs

noncomputable section

abbrev KV := List (Int × D)
abbrev kW (k : Int) : Value := .int .i64 k
def tabE : Nat → KV → List (Value × D × Nat)
  | _, [] => []
  | j, p :: r => (kW p.1, p.2, j) :: tabE (j + 1) r
/-- A map with these pairs. -/
def tabB (kv : KV) : Blk := .tab kv.length (tabE 0 kv)

theorem tabE_len : ∀ (kv : KV) (j : Nat), (tabE j kv).length = kv.length
  | [], _ => rfl
  | _ :: r, j => by simp [tabE, tabE_len r]
section
variable {P : Program} {H : List Blk} {s n : Nat} {al : AL} {tx ty' : TypeId} {x y z : Operand} {k : Int} {b : Nat} {kv : KV} {te : TypeId}
theorem f_mvM (hx : evA n al x = .mm b) : Val P H s n al (.move x) (.mm b) := ⟨by simp [stepD, ev_T, hx]⟩
theorem f_asM (hx : evA n al x = .mm b) : Val P H s n al (.assign x) (.mm b) := ⟨by simp [stepD, ev_T, hx]⟩
end
/-- How many pairs a map has. -/
theorem RT.lenM {E : Ev} {ops r : List Oper} {n : Nat} {a : AL} {H : List Blk} {g : Gst} {K : KA} {i : Tmp} {x : Operand} {t kt et ty : TypeId} {pos : String} {aft : Array Edge} {b : Nat} {kv : KV} (hx : evA n a x = .mm b) (hu : E.P.underlying t = some (.map kt et))
    (hb : H[b]? = some (tabB kv)) (h : RT E ops r n ((i, wI kv.length) :: a) H g K) : RT E ops (⟨some i, .call { callee := .builtin .len, args := #[x], argTypes := #[t] }, ty, pos, aft, none⟩ :: r) n a H g K := by
  refine ⟨fun ro G hE ds Q hQ ac w hr => ?_⟩
  unfold wpListIn
  rw [if_pos (by simp [Region.wanted])]
  obtain ⟨A, φ, hr⟩ := hr
  have hv := hr.tr.ev x
  rw [ev_T, hx] at hv
  have hrun : (execOp ac.eval ⟨some i, .call { callee := .builtin .len, args := #[x], argTypes := #[t] }, ty, pos, aft, none⟩).run E.P w = .ok (.value (.int .i64 kv.length)) w := by
    have h3 : execOp ac.eval ⟨some i, .call { callee := .builtin .len, args := #[x], argTypes := #[t] }, ty, pos, aft, none⟩ = (do pure (.value (← Builtin.len_ #[t] ty #[ac.eval x]))) := by
      simp only [execOp, resolve, invoke]
      simp [builtin]
    have h4 := run_lenTab (P := E.P) (tx := ty) hr hu hv hb
    rw [tabE_len] at h4
    rw [h3, Sem.run_bind, h4]; rfl
  refine ⟨fun _ _ => trivial, ?_⟩
  rw [Oper.semAt_eq _ _ _ (by simp), hrun]
  have hr3 := hr.value (some i) (d := wI kv.length) (x := .int .i64 kv.length) (.v _ _)
  simp only [setT_T] at hr3
  exact h.out ro G hE ds Q hQ _ _ ⟨A, _, hr3⟩
end
end Go.DL

/- Steps over own blocks that are known by facts of the context. -/
namespace Go.DL
open Go.RowKit Go.Proofs

noncomputable section
section
variable {H T : List Blk} {i j : Nat} {x y : Blk}
theorem hg_lt (h : H[i]? = some x) : i < H.length := (List.getElem?_eq_some_iff.1 h).1
theorem hg_app (T : List Blk) (h : H[i]? = some x) : (H ++ T)[i]? = some x := by
  rw [List.getElem?_append_left (hg_lt h)]; exact h
theorem hg_ne (h : H[i]? = some x) (hn : j ≠ i) : (H.set j y)[i]? = some x := by
  rw [List.getElem?_set_ne hn]; exact h
theorem hg_self (h : j < H.length) : (H.set j y)[j]? = some y := List.getElem?_set_self h
theorem hg_at {t l : Nat} (hl : H.length = l) (h : T[t]? = some x) : (H ++ T)[l + t]? = some x := by
  subst hl
  rw [List.getElem?_append_right (by omega)]
  rw [show H.length + t - H.length = t by omega]; exact h
end
section
variable {P : Program} {H : List Blk} {s n : Nat} {al : AL} {tx : TypeId} {x y : Operand} {a : Int}
theorem f_ldWD {bk k : Nat} {o : List Int} (hx : evA n al x = .mp bk k 0) (hb : H[bk]? = some (.live 1 (o.map eI))) (hk : k < o.length) (ht : isAggD P tx = some false) : Val P H s n al (.load tx x) (wI (o.getD k 0)) := by
  have h := f_ldW (s := s) hx hb hk ht
  have e : o.getD k 0 = o[k] := by rw [List.getD_eq_getElem?_getD, List.getElem?_eq_getElem hk]; rfl
  rw [e]; exact h
theorem f_ldM {α : Type} {f : α → List D} {l : List α} {bk k fo sz : Nat} {rest : List D} {d : D} (hx : evA n al x = .mp bk k fo) (hb : H[bk]? = some (.live sz (l.map f))) (hk : k < l.length) (hd : (f l[k]).drop fo = d :: rest) (ht : isAggD P tx = some false) : Val P H s n al (.load tx x) d :=
  f_ldO hx hb (by rw [List.getElem?_map, List.getElem?_eq_getElem hk]; rfl) hd ht
theorem f_ldMW {α : Type} {f : α → List D} {l : List α} {bk k sz m : Nat} (hx : evA n al x = .mp bk k 0) (hb : H[bk]? = some (.live sz (l.map f))) (hk : k < l.length) (ht : isAggD P tx = some true) (hs : tsz P tx = some m) (hn : (f l[k]).length = m) : Val P H s n al (.load tx x) (.agg (f l[k])) :=
  f_ldOW hx hb (by rw [List.getElem?_map, List.getElem?_eq_getElem hk]; rfl) ht hs hn
/-- A slice literal of one struct. -/
theorem f_bslA1 {te : TypeId} {cs z : List D} {m : Nat} (hx : evA n al x = .agg cs) (he : elemT P tx = some (te, m)) (hz : zeroD P te = some z) (hl : z.length = m) (hm : cs.length = m) (hc : cs.all isCell = true) (h0 : 0 < cs.length := by exact Nat.succ_pos _) (h1 : cs.length ≤ 16777216 := by simp) : Mk P H s n al (.buildSlice tx 1 #[(0, x)]) (.ms s 0 1 1) (.live m [cs]) := by
  subst hm
  refine f_bsl (ps := [(0, x)]) ?_
  simp [buildSliceD, he, hz, hl, rowsD, hx, cellsD, hc, h0, h1]
end
section
variable {E : Ev} {ops r : List Oper} {n : Nat} {a : AL} {H H' : List Blk} {g : Gst} {K : KA} {dst : Option Tmp} {i : Tmp} {op : Op} {x y z : Operand} {tx ty ty' : TypeId} {pos : String} {aft : Array Edge} {f : Nat} {d : D}
theorem RT.mvM (h : RT E ops r n ((i, d) :: a) H g K) (hv : Val E.P H H.length n a (.move x) d := by exact f_mvM rfl) : RT E ops (⟨some i, .move x, ty, pos, aft, none⟩ :: r) n a H g K := RT.v hv h
theorem RT.asM (h : RT E ops r n ((i, d) :: a) H g K) (hv : Val E.P H H.length n a (.assign x) d := by exact f_asM rfl) : RT E ops (⟨some i, .assign x, ty, pos, aft, none⟩ :: r) n a H g K := RT.v hv h
theorem RT.ldH (h : RT E ops r n ((i, d) :: a) H g K) (hv : Val E.P H H.length n a (.load tx x) d := by first | exact f_ldO rfl (by repeat (first | assumption | exact hg_at (by first | rfl | simp) rfl | exact hg_self (by first | assumption | omega | (simp only [List.length_set, List.length_append, List.length_cons, List.length_nil, List.length_map, List.length_replicate]; omega)) | refine hg_app _ ?_ | refine hg_ne ?_ (by first | assumption | omega) | refine mskR ?_ (by first | (simp [rho, -List.length_eq_zero_iff]; done) | (simp [rho, -List.length_eq_zero_iff]; omega)))) rfl rfl rfl | exact f_ldOW rfl (by repeat (first | assumption | exact hg_at (by first | rfl | simp) rfl | exact hg_self (by first | assumption | omega | (simp only [List.length_set, List.length_append, List.length_cons, List.length_nil, List.length_map, List.length_replicate]; omega)) | refine hg_app _ ?_ | refine hg_ne ?_ (by first | assumption | omega) | refine mskR ?_ (by first | (simp [rho, -List.length_eq_zero_iff]; done) | (simp [rho, -List.length_eq_zero_iff]; omega)))) rfl rfl rfl rfl | exact f_ldWD rfl (by repeat (first | assumption | exact hg_at (by first | rfl | simp) rfl | exact hg_self (by first | assumption | omega | (simp only [List.length_set, List.length_append, List.length_cons, List.length_nil, List.length_map, List.length_replicate]; omega)) | refine hg_app _ ?_ | refine hg_ne ?_ (by first | assumption | omega) | refine mskR ?_ (by first | (simp [rho, -List.length_eq_zero_iff]; done) | (simp [rho, -List.length_eq_zero_iff]; omega)))) (by first | assumption | omega | (simp only [List.length_set, List.length_append, List.length_cons, List.length_nil, List.length_map, List.length_replicate]; omega)) rfl | exact f_ldM rfl (by repeat (first | assumption | exact hg_at (by first | rfl | simp) rfl | exact hg_self (by first | assumption | omega | (simp only [List.length_set, List.length_append, List.length_cons, List.length_nil, List.length_map, List.length_replicate]; omega)) | refine hg_app _ ?_ | refine hg_ne ?_ (by first | assumption | omega) | refine mskR ?_ (by first | (simp [rho, -List.length_eq_zero_iff]; done) | (simp [rho, -List.length_eq_zero_iff]; omega)))) (by first | assumption | omega | (simp only [List.length_set, List.length_append, List.length_cons, List.length_nil, List.length_map, List.length_replicate]; omega)) rfl rfl | exact f_ldMW rfl (by repeat (first | assumption | exact hg_at (by first | rfl | simp) rfl | exact hg_self (by first | assumption | omega | (simp only [List.length_set, List.length_append, List.length_cons, List.length_nil, List.length_map, List.length_replicate]; omega)) | refine hg_app _ ?_ | refine hg_ne ?_ (by first | assumption | omega) | refine mskR ?_ (by first | (simp [rho, -List.length_eq_zero_iff]; done) | (simp [rho, -List.length_eq_zero_iff]; omega)))) (by first | assumption | omega | (simp only [List.length_set, List.length_append, List.length_cons, List.length_nil, List.length_map, List.length_replicate]; omega)) rfl rfl rfl) : RT E ops (⟨some i, .load tx x, ty, pos, aft, none⟩ :: r) n a H g K := RT.v hv h
theorem RT.ixH (h : RT E ops r n ((i, d) :: a) H g K) (hv : Val E.P H H.length n a (.indexAddr tx x y) d := by exact f_ixO0 rfl rfl (by first | with_reducible exact castR _ | with_reducible exact castS _ | assumption | rfl | omega) (by repeat (first | assumption | exact hg_at (by first | rfl | simp) rfl | exact hg_self (by first | assumption | omega | (simp only [List.length_set, List.length_append, List.length_cons, List.length_nil, List.length_map, List.length_replicate]; omega)) | refine hg_app _ ?_ | refine hg_ne ?_ (by first | assumption | omega) | refine mskR ?_ (by first | (simp [rho, -List.length_eq_zero_iff]; done) | (simp [rho, -List.length_eq_zero_iff]; omega)))) rfl (by first | assumption | omega | (simp only [List.length_set, List.length_append, List.length_cons, List.length_nil, List.length_map, List.length_replicate]; omega))) : RT E ops (⟨some i, .indexAddr tx x y, ty, pos, aft, none⟩ :: r) n a H g K := RT.v hv h
theorem RT.stH {b : Nat} {k : Blk} (h : RT E ops r n a H' g K) (hv : Wr E.P H H.length n a (.store tx x y) b k := by first | exact f_stW rfl (by repeat (first | assumption | exact hg_at (by first | rfl | simp) rfl | exact hg_self (by first | assumption | omega | (simp only [List.length_set, List.length_append, List.length_cons, List.length_nil, List.length_map, List.length_replicate]; omega)) | refine hg_app _ ?_ | refine hg_ne ?_ (by first | assumption | omega) | refine mskR ?_ (by first | (simp [rho, -List.length_eq_zero_iff]; done) | (simp [rho, -List.length_eq_zero_iff]; omega)))) (by first | assumption | omega | (simp only [List.length_set, List.length_append, List.length_cons, List.length_nil, List.length_map, List.length_replicate]; omega)) rfl rfl | exact f_stV rfl (by repeat (first | assumption | exact hg_at (by first | rfl | simp) rfl | exact hg_self (by first | assumption | omega | (simp only [List.length_set, List.length_append, List.length_cons, List.length_nil, List.length_map, List.length_replicate]; omega)) | refine hg_app _ ?_ | refine hg_ne ?_ (by first | assumption | omega) | refine mskR ?_ (by first | (simp [rho, -List.length_eq_zero_iff]; done) | (simp [rho, -List.length_eq_zero_iff]; omega)))) rfl rfl rfl rfl rfl | exact f_stA rfl (by repeat (first | assumption | exact hg_at (by first | rfl | simp) rfl | exact hg_self (by first | assumption | omega | (simp only [List.length_set, List.length_append, List.length_cons, List.length_nil, List.length_map, List.length_replicate]; omega)) | refine hg_app _ ?_ | refine hg_ne ?_ (by first | assumption | omega) | refine mskR ?_ (by first | (simp [rho, -List.length_eq_zero_iff]; done) | (simp [rho, -List.length_eq_zero_iff]; omega)))) rfl rfl rfl rfl rfl (by decide) rfl | exact f_st rfl (by repeat (first | assumption | exact hg_at (by first | rfl | simp) rfl | exact hg_self (by first | assumption | omega | (simp only [List.length_set, List.length_append, List.length_cons, List.length_nil, List.length_map, List.length_replicate]; omega)) | refine hg_app _ ?_ | refine hg_ne ?_ (by first | assumption | omega) | refine mskR ?_ (by first | (simp [rho, -List.length_eq_zero_iff]; done) | (simp [rho, -List.length_eq_zero_iff]; omega)))) rfl rfl rfl rfl rfl rfl (by decide) rfl) (hH : H.set b k = H' := by rfl) : RT E ops (⟨none, .store tx x y, ty, pos, aft, none⟩ :: r) n a H g K := RT.wr hv hH h
theorem RT.lnH {t kt et : TypeId} {b : Nat} {kv : KV} (h : RT E ops r n ((i, wI kv.length) :: a) H g K) (hx : evA n a x = .mm b := by rfl) (hu : E.P.underlying t = some (.map kt et) := by rfl) (hb : H[b]? = some (tabB kv) := by exact (by repeat (first | assumption | exact hg_at (by first | rfl | simp) rfl | exact hg_self (by first | assumption | omega | (simp only [List.length_set, List.length_append, List.length_cons, List.length_nil, List.length_map, List.length_replicate]; omega)) | refine hg_app _ ?_ | refine hg_ne ?_ (by first | assumption | omega) | refine mskR ?_ (by first | (simp [rho, -List.length_eq_zero_iff]; done) | (simp [rho, -List.length_eq_zero_iff]; omega))))) : RT E ops (⟨some i, .call { callee := .builtin .len, args := #[x], argTypes := #[t] }, ty, pos, aft, none⟩ :: r) n a H g K := RT.lenM hx hu hb h
end
section
variable {E : Ev} {ops r : List Oper} {base s : Nat} {hs : List Nat} {pl : List (Nat × List Nat)} {n : Nat} {a : AL} {H H' : List Blk} {K : KP} {dst : Option Tmp} {i : Tmp} {op : Op} {x y z : Operand} {tx ty ty' : TypeId} {pos : String} {aft : Array Edge} {f : Nat} {d : D}
end
section
variable {E : Ev} {ops r : List Oper} {ab : List Nat} {base s : Nat} {hs : List Nat} {cw : Option Nat} {pl : PlQ} {n : Nat} {a : AL} {H H' : List Blk} {K : KP} {dst : Option Tmp} {i : Tmp} {op : Op} {x y z : Operand} {tx ty ty' : TypeId} {pos : String} {aft : Array Edge} {f : Nat} {d : D}
theorem ST.mvM (h : ST E ops ab base pl r n ((i, d) :: a) H K) (hv : Val E.P (maskL 0 (hs.map (rho ab base)) H) (base + s) n a (.move x) d := by exact f_mvM rfl) : ST E ops ab base ((s, hs, cw) :: pl) (⟨some i, .move x, ty, pos, aft, none⟩ :: r) n a H K := ST.v hv h
theorem ST.asM (h : ST E ops ab base pl r n ((i, d) :: a) H K) (hv : Val E.P (maskL 0 (hs.map (rho ab base)) H) (base + s) n a (.assign x) d := by exact f_asM rfl) : ST E ops ab base ((s, hs, cw) :: pl) (⟨some i, .assign x, ty, pos, aft, none⟩ :: r) n a H K := ST.v hv h
theorem ST.ldH (h : ST E ops ab base pl r n ((i, d) :: a) H K) (hv : Val E.P (maskL 0 (hs.map (rho ab base)) H) (base + s) n a (.load tx x) d := by first | exact f_ldO rfl (by repeat (first | assumption | exact hg_at (by first | rfl | simp) rfl | exact hg_self (by first | assumption | omega | (simp only [List.length_set, List.length_append, List.length_cons, List.length_nil, List.length_map, List.length_replicate]; omega)) | refine hg_app _ ?_ | refine hg_ne ?_ (by first | assumption | omega) | refine mskR ?_ (by first | (simp [rho, -List.length_eq_zero_iff]; done) | (simp [rho, -List.length_eq_zero_iff]; omega)))) rfl rfl rfl | exact f_ldOW rfl (by repeat (first | assumption | exact hg_at (by first | rfl | simp) rfl | exact hg_self (by first | assumption | omega | (simp only [List.length_set, List.length_append, List.length_cons, List.length_nil, List.length_map, List.length_replicate]; omega)) | refine hg_app _ ?_ | refine hg_ne ?_ (by first | assumption | omega) | refine mskR ?_ (by first | (simp [rho, -List.length_eq_zero_iff]; done) | (simp [rho, -List.length_eq_zero_iff]; omega)))) rfl rfl rfl rfl | exact f_ldWD rfl (by repeat (first | assumption | exact hg_at (by first | rfl | simp) rfl | exact hg_self (by first | assumption | omega | (simp only [List.length_set, List.length_append, List.length_cons, List.length_nil, List.length_map, List.length_replicate]; omega)) | refine hg_app _ ?_ | refine hg_ne ?_ (by first | assumption | omega) | refine mskR ?_ (by first | (simp [rho, -List.length_eq_zero_iff]; done) | (simp [rho, -List.length_eq_zero_iff]; omega)))) (by first | assumption | omega | (simp only [List.length_set, List.length_append, List.length_cons, List.length_nil, List.length_map, List.length_replicate]; omega)) rfl | exact f_ldM rfl (by repeat (first | assumption | exact hg_at (by first | rfl | simp) rfl | exact hg_self (by first | assumption | omega | (simp only [List.length_set, List.length_append, List.length_cons, List.length_nil, List.length_map, List.length_replicate]; omega)) | refine hg_app _ ?_ | refine hg_ne ?_ (by first | assumption | omega) | refine mskR ?_ (by first | (simp [rho, -List.length_eq_zero_iff]; done) | (simp [rho, -List.length_eq_zero_iff]; omega)))) (by first | assumption | omega | (simp only [List.length_set, List.length_append, List.length_cons, List.length_nil, List.length_map, List.length_replicate]; omega)) rfl rfl | exact f_ldMW rfl (by repeat (first | assumption | exact hg_at (by first | rfl | simp) rfl | exact hg_self (by first | assumption | omega | (simp only [List.length_set, List.length_append, List.length_cons, List.length_nil, List.length_map, List.length_replicate]; omega)) | refine hg_app _ ?_ | refine hg_ne ?_ (by first | assumption | omega) | refine mskR ?_ (by first | (simp [rho, -List.length_eq_zero_iff]; done) | (simp [rho, -List.length_eq_zero_iff]; omega)))) (by first | assumption | omega | (simp only [List.length_set, List.length_append, List.length_cons, List.length_nil, List.length_map, List.length_replicate]; omega)) rfl rfl rfl) : ST E ops ab base ((s, hs, cw) :: pl) (⟨some i, .load tx x, ty, pos, aft, none⟩ :: r) n a H K := ST.v hv h
theorem ST.ixH (h : ST E ops ab base pl r n ((i, d) :: a) H K) (hv : Val E.P (maskL 0 (hs.map (rho ab base)) H) (base + s) n a (.indexAddr tx x y) d := by exact f_ixO0 rfl rfl (by first | with_reducible exact castR _ | with_reducible exact castS _ | assumption | rfl | omega) (by repeat (first | assumption | exact hg_at (by first | rfl | simp) rfl | exact hg_self (by first | assumption | omega | (simp only [List.length_set, List.length_append, List.length_cons, List.length_nil, List.length_map, List.length_replicate]; omega)) | refine hg_app _ ?_ | refine hg_ne ?_ (by first | assumption | omega) | refine mskR ?_ (by first | (simp [rho, -List.length_eq_zero_iff]; done) | (simp [rho, -List.length_eq_zero_iff]; omega)))) rfl (by first | assumption | omega | (simp only [List.length_set, List.length_append, List.length_cons, List.length_nil, List.length_map, List.length_replicate]; omega))) : ST E ops ab base ((s, hs, cw) :: pl) (⟨some i, .indexAddr tx x y, ty, pos, aft, none⟩ :: r) n a H K := ST.v hv h
end
end
end Go.DL

/- Guards of walks: the next operation is of a kind. -/
namespace Go.DL
open Go.RowKit Go.Proofs

noncomputable section
section
variable {E : Ev} {ops r : List Oper} {n : Nat} {a : AL} {H : List Blk} {g : Gst} {K : KA} {dst : Option Tmp} {x y z : Operand} {tx ty ty' : TypeId} {pos : String} {aft : Array Edge} {f : Nat} {bo : BinOp} {uo : UnOp} {cl : Call} {b : Bool} {ps : Array (Nat × Operand)} {qs rs : Array Operand} {fn : Fn} {lo hi mx : Option Operand} {j : Nat × Bool}
theorem w_mv (h : RT E ops (⟨dst, .move x, ty, pos, aft, none⟩ :: r) n a H g K) : RT E ops (⟨dst, .move x, ty, pos, aft, none⟩ :: r) n a H g K := h
theorem w_as (h : RT E ops (⟨dst, .assign x, ty, pos, aft, none⟩ :: r) n a H g K) : RT E ops (⟨dst, .assign x, ty, pos, aft, none⟩ :: r) n a H g K := h
theorem w_ld (h : RT E ops (⟨dst, .load tx x, ty, pos, aft, none⟩ :: r) n a H g K) : RT E ops (⟨dst, .load tx x, ty, pos, aft, none⟩ :: r) n a H g K := h
theorem w_fa (h : RT E ops (⟨dst, .fieldAddr tx x f, ty, pos, aft, none⟩ :: r) n a H g K) : RT E ops (⟨dst, .fieldAddr tx x f, ty, pos, aft, none⟩ :: r) n a H g K := h
theorem w_bn (h : RT E ops (⟨dst, Op.binOp bo tx x y ty', ty, pos, aft, none⟩ :: r) n a H g K) : RT E ops (⟨dst, Op.binOp bo tx x y ty', ty, pos, aft, none⟩ :: r) n a H g K := h
theorem w_pk (h : RT E ops (⟨dst, .pick x y z, ty, pos, aft, none⟩ :: r) n a H g K) : RT E ops (⟨dst, .pick x y z, ty, pos, aft, none⟩ :: r) n a H g K := h
theorem w_ex (h : RT E ops (⟨dst, .extract x f, ty, pos, aft, none⟩ :: r) n a H g K) : RT E ops (⟨dst, .extract x f, ty, pos, aft, none⟩ :: r) n a H g K := h
theorem w_ix (h : RT E ops (⟨dst, .indexAddr tx x y, ty, pos, aft, none⟩ :: r) n a H g K) : RT E ops (⟨dst, .indexAddr tx x y, ty, pos, aft, none⟩ :: r) n a H g K := h
theorem w_un (h : RT E ops (⟨dst, .unOp uo tx x, ty, pos, aft, none⟩ :: r) n a H g K) : RT E ops (⟨dst, .unOp uo tx x, ty, pos, aft, none⟩ :: r) n a H g K := h
theorem w_st (h : RT E ops (⟨dst, .store tx x y, ty, pos, aft, none⟩ :: r) n a H g K) : RT E ops (⟨dst, .store tx x y, ty, pos, aft, none⟩ :: r) n a H g K := h
theorem w_cl (h : RT E ops (⟨dst, .call cl, ty, pos, aft, none⟩ :: r) n a H g K) : RT E ops (⟨dst, .call cl, ty, pos, aft, none⟩ :: r) n a H g K := h
theorem w_bs (h : RT E ops (⟨dst, .buildSlice tx f ps, ty, pos, aft, none⟩ :: r) n a H g K) : RT E ops (⟨dst, .buildSlice tx f ps, ty, pos, aft, none⟩ :: r) n a H g K := h
theorem w_mk (h : RT E ops (⟨dst, .makeSlice tx x y, ty, pos, aft, none⟩ :: r) n a H g K) : RT E ops (⟨dst, .makeSlice tx x y, ty, pos, aft, none⟩ :: r) n a H g K := h
theorem w_al (h : RT E ops (⟨dst, .alloc tx, ty, pos, aft, none⟩ :: r) n a H g K) : RT E ops (⟨dst, .alloc tx, ty, pos, aft, none⟩ :: r) n a H g K := h
theorem w_bx (h : RT E ops (⟨dst, .box tx x, ty, pos, aft, none⟩ :: r) n a H g K) : RT E ops (⟨dst, .box tx x, ty, pos, aft, none⟩ :: r) n a H g K := h
theorem w_sl (h : RT E ops (⟨dst, .slice tx x lo hi mx, ty, pos, aft, none⟩ :: r) n a H g K) : RT E ops (⟨dst, .slice tx x lo hi mx, ty, pos, aft, none⟩ :: r) n a H g K := h
theorem w_bd (h : RT E ops (⟨dst, .build tx ps, ty, pos, aft, none⟩ :: r) n a H g K) : RT E ops (⟨dst, .build tx ps, ty, pos, aft, none⟩ :: r) n a H g K := h
theorem w_mf (h : RT E ops (⟨dst, .makeFunc fn qs rs, ty, pos, aft, none⟩ :: r) n a H g K) : RT E ops (⟨dst, .makeFunc fn qs rs, ty, pos, aft, none⟩ :: r) n a H g K := h
theorem w_g {op : Op} (h : RT E ops (⟨dst, op, ty, pos, aft, some j⟩ :: r) n a H g K) : RT E ops (⟨dst, op, ty, pos, aft, some j⟩ :: r) n a H g K := h
end
section
variable {E : Ev} {ops r : List Oper} {base : Nat} {pl : List (Nat × List Nat)} {n : Nat} {a : AL} {H : List Blk} {K : KP} {dst : Option Tmp} {x y z : Operand} {tx ty ty' : TypeId} {pos : String} {aft : Array Edge} {f : Nat} {bo : BinOp} {uo : UnOp} {cl : Call} {b : Bool} {ps : Array (Nat × Operand)} {qs rs : Array Operand} {fn : Fn} {lo hi mx : Option Operand} {j : Nat × Bool}
theorem q_mv (h : PT E ops base pl (⟨dst, .move x, ty, pos, aft, none⟩ :: r) n a H K) : PT E ops base pl (⟨dst, .move x, ty, pos, aft, none⟩ :: r) n a H K := h
theorem q_as (h : PT E ops base pl (⟨dst, .assign x, ty, pos, aft, none⟩ :: r) n a H K) : PT E ops base pl (⟨dst, .assign x, ty, pos, aft, none⟩ :: r) n a H K := h
theorem q_ld (h : PT E ops base pl (⟨dst, .load tx x, ty, pos, aft, none⟩ :: r) n a H K) : PT E ops base pl (⟨dst, .load tx x, ty, pos, aft, none⟩ :: r) n a H K := h
theorem q_fa (h : PT E ops base pl (⟨dst, .fieldAddr tx x f, ty, pos, aft, none⟩ :: r) n a H K) : PT E ops base pl (⟨dst, .fieldAddr tx x f, ty, pos, aft, none⟩ :: r) n a H K := h
theorem q_bn (h : PT E ops base pl (⟨dst, Op.binOp bo tx x y ty', ty, pos, aft, none⟩ :: r) n a H K) : PT E ops base pl (⟨dst, Op.binOp bo tx x y ty', ty, pos, aft, none⟩ :: r) n a H K := h
theorem q_pk (h : PT E ops base pl (⟨dst, .pick x y z, ty, pos, aft, none⟩ :: r) n a H K) : PT E ops base pl (⟨dst, .pick x y z, ty, pos, aft, none⟩ :: r) n a H K := h
theorem q_ex (h : PT E ops base pl (⟨dst, .extract x f, ty, pos, aft, none⟩ :: r) n a H K) : PT E ops base pl (⟨dst, .extract x f, ty, pos, aft, none⟩ :: r) n a H K := h
theorem q_ix (h : PT E ops base pl (⟨dst, .indexAddr tx x y, ty, pos, aft, none⟩ :: r) n a H K) : PT E ops base pl (⟨dst, .indexAddr tx x y, ty, pos, aft, none⟩ :: r) n a H K := h
theorem q_un (h : PT E ops base pl (⟨dst, .unOp uo tx x, ty, pos, aft, none⟩ :: r) n a H K) : PT E ops base pl (⟨dst, .unOp uo tx x, ty, pos, aft, none⟩ :: r) n a H K := h
theorem q_st (h : PT E ops base pl (⟨dst, .store tx x y, ty, pos, aft, none⟩ :: r) n a H K) : PT E ops base pl (⟨dst, .store tx x y, ty, pos, aft, none⟩ :: r) n a H K := h
theorem q_cl (h : PT E ops base pl (⟨dst, .call cl, ty, pos, aft, none⟩ :: r) n a H K) : PT E ops base pl (⟨dst, .call cl, ty, pos, aft, none⟩ :: r) n a H K := h
theorem q_bs (h : PT E ops base pl (⟨dst, .buildSlice tx f ps, ty, pos, aft, none⟩ :: r) n a H K) : PT E ops base pl (⟨dst, .buildSlice tx f ps, ty, pos, aft, none⟩ :: r) n a H K := h
theorem q_al (h : PT E ops base pl (⟨dst, .alloc tx, ty, pos, aft, none⟩ :: r) n a H K) : PT E ops base pl (⟨dst, .alloc tx, ty, pos, aft, none⟩ :: r) n a H K := h
theorem q_bx (h : PT E ops base pl (⟨dst, .box tx x, ty, pos, aft, none⟩ :: r) n a H K) : PT E ops base pl (⟨dst, .box tx x, ty, pos, aft, none⟩ :: r) n a H K := h
theorem q_sl (h : PT E ops base pl (⟨dst, .slice tx x lo hi mx, ty, pos, aft, none⟩ :: r) n a H K) : PT E ops base pl (⟨dst, .slice tx x lo hi mx, ty, pos, aft, none⟩ :: r) n a H K := h
theorem q_bd (h : PT E ops base pl (⟨dst, .build tx ps, ty, pos, aft, none⟩ :: r) n a H K) : PT E ops base pl (⟨dst, .build tx ps, ty, pos, aft, none⟩ :: r) n a H K := h
theorem q_g {op : Op} (h : PT E ops base pl (⟨dst, op, ty, pos, aft, some j⟩ :: r) n a H K) : PT E ops base pl (⟨dst, op, ty, pos, aft, some j⟩ :: r) n a H K := h
end
section
variable {E : Ev} {ops r : List Oper} {ab : List Nat} {base : Nat} {pl : PlQ} {n : Nat} {a : AL} {H : List Blk} {K : KP} {dst : Option Tmp} {x y z : Operand} {tx ty ty' : TypeId} {pos : String} {aft : Array Edge} {f : Nat} {bo : BinOp} {uo : UnOp} {cl : Call} {b : Bool} {ps : Array (Nat × Operand)} {qs rs : Array Operand} {fn : Fn} {lo hi mx : Option Operand} {j : Nat × Bool}
theorem s_mv (h : ST E ops ab base pl (⟨dst, .move x, ty, pos, aft, none⟩ :: r) n a H K) : ST E ops ab base pl (⟨dst, .move x, ty, pos, aft, none⟩ :: r) n a H K := h
theorem s_as (h : ST E ops ab base pl (⟨dst, .assign x, ty, pos, aft, none⟩ :: r) n a H K) : ST E ops ab base pl (⟨dst, .assign x, ty, pos, aft, none⟩ :: r) n a H K := h
theorem s_ld (h : ST E ops ab base pl (⟨dst, .load tx x, ty, pos, aft, none⟩ :: r) n a H K) : ST E ops ab base pl (⟨dst, .load tx x, ty, pos, aft, none⟩ :: r) n a H K := h
theorem s_fa (h : ST E ops ab base pl (⟨dst, .fieldAddr tx x f, ty, pos, aft, none⟩ :: r) n a H K) : ST E ops ab base pl (⟨dst, .fieldAddr tx x f, ty, pos, aft, none⟩ :: r) n a H K := h
theorem s_bn (h : ST E ops ab base pl (⟨dst, Op.binOp bo tx x y ty', ty, pos, aft, none⟩ :: r) n a H K) : ST E ops ab base pl (⟨dst, Op.binOp bo tx x y ty', ty, pos, aft, none⟩ :: r) n a H K := h
theorem s_pk (h : ST E ops ab base pl (⟨dst, .pick x y z, ty, pos, aft, none⟩ :: r) n a H K) : ST E ops ab base pl (⟨dst, .pick x y z, ty, pos, aft, none⟩ :: r) n a H K := h
theorem s_ex (h : ST E ops ab base pl (⟨dst, .extract x f, ty, pos, aft, none⟩ :: r) n a H K) : ST E ops ab base pl (⟨dst, .extract x f, ty, pos, aft, none⟩ :: r) n a H K := h
theorem s_ix (h : ST E ops ab base pl (⟨dst, .indexAddr tx x y, ty, pos, aft, none⟩ :: r) n a H K) : ST E ops ab base pl (⟨dst, .indexAddr tx x y, ty, pos, aft, none⟩ :: r) n a H K := h
theorem s_un (h : ST E ops ab base pl (⟨dst, .unOp uo tx x, ty, pos, aft, none⟩ :: r) n a H K) : ST E ops ab base pl (⟨dst, .unOp uo tx x, ty, pos, aft, none⟩ :: r) n a H K := h
theorem s_st (h : ST E ops ab base pl (⟨dst, .store tx x y, ty, pos, aft, none⟩ :: r) n a H K) : ST E ops ab base pl (⟨dst, .store tx x y, ty, pos, aft, none⟩ :: r) n a H K := h
theorem s_cl (h : ST E ops ab base pl (⟨dst, .call cl, ty, pos, aft, none⟩ :: r) n a H K) : ST E ops ab base pl (⟨dst, .call cl, ty, pos, aft, none⟩ :: r) n a H K := h
theorem s_bs (h : ST E ops ab base pl (⟨dst, .buildSlice tx f ps, ty, pos, aft, none⟩ :: r) n a H K) : ST E ops ab base pl (⟨dst, .buildSlice tx f ps, ty, pos, aft, none⟩ :: r) n a H K := h
theorem s_sl (h : ST E ops ab base pl (⟨dst, .slice tx x lo hi mx, ty, pos, aft, none⟩ :: r) n a H K) : ST E ops ab base pl (⟨dst, .slice tx x lo hi mx, ty, pos, aft, none⟩ :: r) n a H K := h
theorem s_bd (h : ST E ops ab base pl (⟨dst, .build tx ps, ty, pos, aft, none⟩ :: r) n a H K) : ST E ops ab base pl (⟨dst, .build tx ps, ty, pos, aft, none⟩ :: r) n a H K := h
end
section
variable {E : Ev} {n : Nat} {a : AL} {H : List Blk} {g : Gst} {Q : KX} {ops : List Oper} {K : KA} {KK : KP} {c : Code} {l : List Oper} {base : Nat} {pl : List (Nat × List Nat)} {pq : PlQ} {ab : List Nat}
theorem w_nil (h : RT E ops [] n a H g K) : RT E ops [] n a H g K := h
theorem q_nil (h : PT E ops base pl [] n a H KK) : PT E ops base pl [] n a H KK := h
theorem s_nil (h : ST E ops ab base pq [] n a H KK) : ST E ops ab base pq [] n a H KK := h
theorem w_any (h : RT E ops l n a H g K) : RT E ops l n a H g K := h
theorem q_any (h : PT E ops base pl l n a H KK) : PT E ops base pl l n a H KK := h
theorem s_any (h : ST E ops ab base pq l n a H KK) : ST E ops ab base pq l n a H KK := h
theorem v_any (h : VT E c n a H g Q) : VT E c n a H g Q := h
end
end
end Go.DL

/- What is read of an argument, as plain data: numbers, booleans, lists. -/
set_option maxRecDepth 100000
namespace Go.DL
open Go.RowKit Go.Proofs Go.ChangeShapes Go.WideShapes

noncomputable section
section
variable {H : Type} {enc : TypeId × Value → H} {P : Program} {w : World}
end
theorem wf_i64 {n : Int} (h : (Lit.int .i64 n).wf = true) : -9223372036854775808 ≤ n ∧ n ≤ 9223372036854775807 := by
  simp only [Lit.wf, Bool.and_eq_true, decide_eq_true_eq] at h
  exact h
theorem reach62 : reachBytes ≤ 4611686018427387904 := by decide
theorem list_of {α : Type} {Q : α → Prop} {g : α → List D} : ∀ {es : List (List D)}, (∀ e, e ∈ es → ∃ a, Q a ∧ e = g a) → ∃ l : List α, (∀ a, a ∈ l → Q a) ∧ es = l.map g
  | [], _ => ⟨[], fun a h => (by cases h), rfl⟩
  | e :: es, h => by
    obtain ⟨a, ha, rfl⟩ := h e (List.mem_cons_self ..)
    obtain ⟨l, hl, rfl⟩ := list_of fun e he => h e (List.mem_cons_of_mem _ he)
    refine ⟨a :: l, fun b hb => ?_, rfl⟩
    rcases List.mem_cons.1 hb with e | e
    · rw [e]; exact ha
    · exact hl b e
/-- A slice whose elements are read as plain data. -/
theorem slice_of {α : Type} {Q : α → Prop} {g : α → List D} {R : List D → Prop} (hR : ∀ e, R e → ∃ a, Q a ∧ e = g a) {es : List (List D)} (h1 : es.length ≤ reachBytes) (h2 : ∀ e, e ∈ es → R e) :
    ∃ l : List α, (l.length ≤ 4611686018427387904 ∧ ∀ a, a ∈ l → Q a) ∧ es = l.map g := by
  obtain ⟨l, h3, rfl⟩ := list_of fun e he => hR e (h2 e he)
  exact ⟨l, ⟨by have := reach62; simp at h1; omega, h3⟩, rfl⟩
end
end Go.DL

/- Engine: small steps of operations. -/
set_option maxRecDepth 100000
set_option maxHeartbeats 4000000
namespace Go.DL
open Go.Proofs Go
section
variable {P : Program} {H : List Blk} {s n : Nat} {al : AL} {tx ty' : TypeId} {x y : Operand} {a b : Int}
end
theorem f_appL {P : Program} {H : List Blk} {s n : Nat} {al : AL} {tx : TypeId} {x y : Operand} {α : Type} {f : α → List D} {te : TypeId} {m mm c b1 sz by' : Nat} {es : List (List D)} {o v : List α} {d' : D} (hx : evA n al x = .ms b1 0 m c) (hy : evA n al y = d') (hb1 : H[b1]? = some (.live sz es)) (hes : es.take m = o.map f) (hle : m ≤ es.length) (hv : elemsD H d' = some (v.map f)) (hm : m = o.length)
    (hmm : o.length + v.length = mm) (he : elemT P tx = some (te, sz)) (h0 : 0 < sz) (hz : (zeroD P te).map List.length = some sz) (hby : P.bytesOf te = by') (hf : ∀ a, (f a).length = sz ∧ (f a).all isCell = true) (hl : (o.length + v.length) * by' ≤ 140737488355328) (hl2 : o.length + v.length ≤ 9223372036854775807) :
    Ap P H s n al (.call { callee := .builtin .append, args := #[x, y], argTypes := #[tx, tx] }) mm (some b1) (.live sz ((o ++ v).map f)) := by
  subst hm; subst hmm
  have hu : P.underlying tx = some (.slice te) := by
    unfold elemT at he
    split at he
    · rename_i e hu; simp only [Option.map_eq_some_iff] at he; obtain ⟨_, _, h⟩ := he; cases h; exact hu
    · cases he
  refine f_app hx hy ?_ (by simp)
  have e1 : elemsD H (.ms b1 0 o.length c) = some (o.map f) := by
    simp only [elemsD, hb1, Nat.zero_add, hle, if_true, List.drop_zero, hes]
  have e3 : ∀ l : List α, (l.map f).all (fun e => e.length == sz) = true := fun l => List.all_eq_true.2 fun e he => by
    obtain ⟨a, _, rfl⟩ := List.mem_map.1 he
    simpa using (hf a).1
  have e4 : (v.map f).all (fun e => e.all isCell) = true := List.all_eq_true.2 fun e he => by
    obtain ⟨a, _, rfl⟩ := List.mem_map.1 he
    exact (hf a).2
  simp only [appendD, addedD, he, hu, e1, hv]
  rw [if_pos]
  · simp only [hb1, Blk.hasSz]; simp
  · refine ⟨h0, hz, e3 o, e3 v, e4, ?_, ?_⟩
    · rw [hby, List.length_map, List.length_map]; exact hl
    · rw [List.length_map, List.length_map]; exact hl2
section
variable {P : Program} {H : List Blk} {s n : Nat} {al : AL} {tx ty' : TypeId} {x y : Operand} {a b : Int} {k : Nat}
end
theorem elems_sl (H : List Blk) (v : List Int) : elemsD H (.sl (v.map eI)) = some (v.map eI) := by
  simp only [elemsD]; exact congrArg some (eI_map _ _ fun x => rfl)
section
variable {P : Program} {H : List Blk} {s n : Nat} {al : AL} {tx ty' : TypeId} {x y : Operand} {a b : Int}
theorem f_leqT (hx : evA n al x = wI a) (hy : evA n al y = wI b) (h : a ≤ b) : Val P H s n al (.binOp .leq tx x y ty') (wB true) := by
  have h1 := f_leq (P := P) (H := H) (s := s) (tx := tx) (ty' := ty') hx hy
  rwa [decide_eq_true h] at h1
theorem f_leqF (hx : evA n al x = wI a) (hy : evA n al y = wI b) (h : ¬ a ≤ b) : Val P H s n al (.binOp .leq tx x y ty') (wB false) := by
  have h1 := f_leq (P := P) (H := H) (s := s) (tx := tx) (ty' := ty') hx hy
  rwa [decide_eq_false h] at h1
end
section
variable {P : Program} {H : List Blk} {s n : Nat} {al : AL} {tx : TypeId} {x y : Operand} {a b : Int}
end
end Go.DL

/- Engine: structs of numbers, compared. -/
set_option maxRecDepth 100000
set_option maxHeartbeats 4000000
namespace Go.DL
open Go.Proofs Go
section
variable {P : Program} {H : List Blk} {s n : Nat} {al : AL} {tx ty' : TypeId} {x y : Operand} {cs ds : List D} {b : Bool}
theorem f_neqAgg (hx : evA n al x = .agg cs) (hy : evA n al y = .agg ds) (h : aggEqD P tx cs ds = some b) : Val P H s n al (.binOp .neq tx x y ty') (wB (!b)) := by
  refine ⟨?_⟩
  simp only [stepD, ev_T, hx, hy, binD, h, Option.map_some, keepD]
end
end Go.DL

/- Engine: parts of an own slice; rows of words, each in a block of its own. -/
set_option maxRecDepth 100000
set_option maxHeartbeats 4000000
namespace Go.DL
open Go.Proofs Go
section
variable {P : Program} {H : List Blk} {s n : Nat} {al : AL} {tx te : TypeId} {x y z : Operand} {a b : Int}
/-- What lies between two indexes of an own slice. -/
theorem f_slB {bk len cap sz lo hi : Nat} {es : List (List D)} (hx : evA n al x = .ms bk 0 len cap) (hy : evA n al y = wI a) (hz : evA n al z = wI b) (ha : a = lo) (hb' : b = hi) (h1 : lo ≤ hi) (h2 : hi ≤ cap)
    (he : elemT P tx = some (te, sz)) (hb : H[bk]? = some (.live sz es)) : Val P H s n al (.slice tx x (some y) (some z) none) (.ms bk lo (hi - lo) (cap - lo)) := by
  subst ha; subst hb'
  refine ⟨?_⟩
  simp only [stepD, ev_T, sliceD, he, hx, unfl, Option.map_none, Option.map_some, hy, hz, bndD, intD, Option.isSome_none, Option.isSome_some, reduceCtorEq, false_and, and_false, if_false, Bool.false_eq_true]
  rw [if_pos ⟨by simp [Blk.hasSz, hb], by omega, by omega, by omega⟩]
  simp [keepD]
theorem f_bslC1 {d z : D} (hx : evA n al x = d) (hc : cellsD d = [d]) (hi : isCell d = true) (he : elemT P tx = some (te, 1)) (hz : zeroD P te = some [z]) : Mk P H s n al (.buildSlice tx 1 #[(0, x)]) (.ms s 0 1 1) (.live 1 [[d]]) := by
  refine f_bsl (ps := [(0, x)]) ?_
  simp [buildSliceD, he, hz, rowsD, hx, hc, hi, List.replicate]
end
section
variable {P : Program} {H : List Blk} {s n : Nat} {al : AL} {tx te : TypeId} {x0 x1 x2 x3 x4 x5 x6 : Operand} {a0 a1 a2 a3 a4 a5 a6 : Int}
theorem f_bslW7 (h0 : evA n al x0 = wI a0) (h1 : evA n al x1 = wI a1) (h2 : evA n al x2 = wI a2) (h3 : evA n al x3 = wI a3) (h4 : evA n al x4 = wI a4) (h5 : evA n al x5 = wI a5) (h6 : evA n al x6 = wI a6) (he : elemT P tx = some (te, 1)) (hz : zeroD P te = some [wI 0]) :
    Mk P H s n al (.buildSlice tx 7 #[(0, x0), (1, x1), (2, x2), (3, x3), (4, x4), (5, x5), (6, x6)]) (.ms s 0 7 7) (.live 1 ([a0, a1, a2, a3, a4, a5, a6].map eI)) :=
  f_bsl (ps := [(0, x0), (1, x1), (2, x2), (3, x3), (4, x4), (5, x5), (6, x6)]) (by simp [buildSliceD, he, hz, rowsD, h0, h1, h2, h3, h4, h5, h6, cellsD, isCell, eI, List.replicate, Value.oneCell'])
end
end Go.DL

/- Engine: the capacity of nil; the start of an own slice. -/
set_option maxRecDepth 100000
set_option maxHeartbeats 4000000
namespace Go.DL
open Go.Proofs Go
section
variable {E : Ev} {ops r : List Oper} {n : Nat} {a : AL} {H : List Blk} {g : Gst} {K : KA} {i : Tmp} {x : Operand} {t te ty : TypeId} {pos : String} {aft : Array Edge}
theorem RT.capN (hx : evA n a x = .nil) (hu : E.P.underlying t = some (.slice te)) (h : RT E ops r n ((i, wI 0) :: a) H g K) : RT E ops (⟨some i, .call { callee := .builtin .cap, args := #[x], argTypes := #[t] }, ty, pos, aft, none⟩ :: r) n a H g K := by
  refine ⟨fun ro G hE ds Q hQ ac w hr => ?_⟩
  unfold wpListIn
  rw [if_pos (by simp [Region.wanted])]
  obtain ⟨A, φ, hr⟩ := hr
  have hv := hr.tr.ev x
  rw [ev_T, hx] at hv
  obtain ⟨a0, hs⟩ : ∃ a0, ac.eval x = .slice a0 0 0 := by
    generalize ac.eval x = u at hv
    cases hv; exact ⟨_, rfl⟩
  have hrun : (execOp ac.eval ⟨some i, .call { callee := .builtin .cap, args := #[x], argTypes := #[t] }, ty, pos, aft, none⟩).run E.P w = .ok (.value (.int .i64 0)) w := by
    have h3 : execOp ac.eval ⟨some i, .call { callee := .builtin .cap, args := #[x], argTypes := #[t] }, ty, pos, aft, none⟩ = (do pure (.value (← Builtin.cap_ #[t] ty #[ac.eval x]))) := by
      simp only [execOp, resolve, invoke]
      simp [builtin]
    rw [h3, hs, Sem.run_bind]
    have h4 : (Builtin.cap_ #[t] ty #[Value.slice a0 0 0]).run E.P w = .ok (.int .i64 0) w := by
      simp [Builtin.cap_, run_underlying hu]
      rfl
    rw [h4]; rfl
  refine ⟨fun _ _ => trivial, ?_⟩
  rw [Oper.semAt_eq _ _ _ (by simp), hrun]
  have hr3 := hr.value (some i) (d := wI 0) (x := .int .i64 0) (.v _ _)
  simp only [setT_T] at hr3
  exact h.out ro G hE ds Q hQ _ _ ⟨A, _, hr3⟩
end
section
variable {P : Program} {H : List Blk} {s n : Nat} {al : AL} {tx te : TypeId} {x y : Operand} {a : Int}
/-- The first elements of an own slice. -/
theorem f_slHiO {bk len cap sz hi : Nat} {es : List (List D)} (hx : evA n al x = .ms bk 0 len cap) (hy : evA n al y = wI a) (ha : a = hi) (h2 : hi ≤ cap)
    (he : elemT P tx = some (te, sz)) (hb : H[bk]? = some (.live sz es)) : Val P H s n al (.slice tx x none (some y) none) (.ms bk 0 hi cap) := by
  subst ha
  refine ⟨?_⟩
  simp only [stepD, ev_T, sliceD, he, hx, unfl, Option.map_none, Option.map_some, hy, bndD, intD, Option.isSome_none, Option.isSome_some, reduceCtorEq, false_and, and_false, if_false, Bool.false_eq_true]
  rw [if_pos ⟨by simp [Blk.hasSz, hb], by omega, by omega, by omega⟩]
  simp [keepD]
/-- The start of nil. -/
theorem f_slNil0 {sz : Nat} (hx : evA n al x = .nil) (hy : evA n al y = wI 0) (he : elemT P tx = some (te, sz)) : Val P H s n al (.slice tx x none (some y) none) .nil := by
  refine ⟨?_⟩
  simp [stepD, ev_T, sliceD, he, hx, unfl, hy, bndD, intD, keepD]
end
/-- Zeros are appended to nil. -/
theorem f_appZ0 {P : Program} {H : List Blk} {s n : Nat} {al : AL} {tx : TypeId} {x y : Operand} {te ti : TypeId} {ki : IntKind} {k : Nat} (hx : evA n al x = .nil) (hy : evA n al y = wI (k : Int))
    (he : elemT P tx = some (te, 1)) (hti : P.underlying ti = some (.int ki)) (hz : zeroD P te = some [wI 0]) (hby : P.bytesOf te = 8) (hl : k ≤ 1000000) :
    Ap P H s n al (.call { callee := .builtin .append, args := #[x, y], argTypes := #[tx, ti] }) k none (.live 1 ((List.replicate k (0 : Int)).map eI)) := by
  refine f_app hx hy ?_ (by simp)
  have e1 : elemsD H .nil = some [] := rfl
  have e2 : addedD P H te ti (wI k) = some (List.replicate k [wI 0]) := by
    simp only [addedD, hti, wI, show (0 : Int) ≤ (k : Int) by omega, if_true, hz, Option.map_some, Int.toNat_natCast]
  have e3 : (List.replicate k (0 : Int)).map eI = List.replicate k [wI 0] := by rw [List.map_replicate]; rfl
  rw [e3]
  simp only [appendD, he, e1, e2]
  rw [if_pos]
  refine ⟨by decide, by rw [hz]; rfl, by simp, by simp, ?_, ?_, ?_⟩
  · rw [List.all_eq_true]; intro x hx; rw [List.eq_of_mem_replicate hx]; rfl
  · rw [hby, List.length_replicate]; simp; omega
  · rw [List.length_replicate]; simp; omega
end Go.DL
