/- An empty slice as a block of one's own; a block that is given up; slices.Clone of words. -/
import Derived.Test.YtmbbepdbjeciaaaGreatDl23
set_option linter.all false
namespace Go.DL
open Go.RowKit Go.Proofs

section
variable {E : Ev} {ops l : List Oper} {n : Nat} {a : AL} {H H' : List Blk} {g : Gst} {K : KA} {c : Code} {Q : KX}

theorem fr_phantom {G : Gh} (hG : Stab G) {ds : List Nat} {ac : Act} {w : World} {i : Nat} (he : lkN n a i = .nil) (sz : Nat) (h : FR G { t := T n a, H := H, ds := ds, g := g } ac w) :
    FR G { t := T n ((i, .ms H.length 0 0 0) :: a), H := H ++ [.live sz []], ds := ds, g := g } ac w := by
  obtain ⟨A, φ, hr⟩ := h
  have h1 := FRc.phantom hG (hr.room) (s := H.length) (by simp) sz
  have e : (H ++ [Blk.free]).set H.length (.live sz []) = H ++ [.live sz []] := set_room _ _
  simp only at h1
  rw [e] at h1
  refine ⟨A, upd φ H.length .ph, h1.rh, ⟨by simpa [T_length] using h1.tr.size, fun j d u k1 k2 => ?_⟩, h1.gh, h1.df, h1.dk, h1.nd⟩
  rw [T_get?] at k1
  split at k1
  · rename_i hj
    cases k1
    simp only [lk]
    cases hb : Nat.beq i j with
    | false => exact h1.tr.val j _ u (by rw [T_get?, if_pos hj]; rfl) k2
    | true =>
      have := Nat.eq_of_beq_eq_true hb
      subst this
      have hv := h1.tr.val i (lk a i) u (by rw [T_get?, if_pos hj]) k2
      have hb2 : Nat.blt i n = true := by simpa [Nat.blt_eq] using hj
      simp only [lkN, hb2, cond_true] at he
      rw [he] at hv
      simp only [cond_true]
      cases hv with
      | nil _ x => exact .ms _ _ _ _ _ _ _ (Nat.le_refl _) (Nat.le_refl _) (by rw [upd_same]; rfl)
  · cases k1
theorem VT.phantom {i s : Nat} (sz : Nat) (he : lkN n a i = .nil) (hs : H.length = s) (hH : H ++ [.live sz []] = H') (h : VT E c n ((i, .ms s 0 0 0) :: a) H' g Q) : VT E c n a H g Q := by
  subst hs; subst hH
  exact ⟨fun ro G hE ds ac w hr => h.out ro G hE ds ac w (fr_phantom hE.st he sz hr)⟩
theorem VT.kill (b : Nat) (hb : Nat.blt b H.length = true) (hH : H.set b .dead = H') (h : VT E c n a H' g Q) : VT E c n a H g Q := by
  subst hH
  refine ⟨fun ro G hE ds ac w ⟨A, φ, hr⟩ => h.out ro G hE ds ac w ⟨A, _, FRc.kill hE.st hr (b := b) (by simpa [Nat.blt_eq] using hb)⟩⟩
theorem VT.addDead (h : VT E c n a (H ++ [.dead]) g Q) : VT E c n a H g Q := by
  refine ⟨fun ro G hE ds ac w ⟨A, φ, hr⟩ => h.out ro G hE ds ac w ⟨A, upd φ H.length .dead, ?_⟩⟩
  have h1 := FRc.kill hE.st hr.room (b := H.length) (by simp)
  have e : (H ++ [Blk.free]).set H.length .dead = H ++ [.dead] := set_room _ _
  simp only at h1
  rw [e] at h1
  exact h1
/-- A function ends with an empty slice that its callers take for a block of their own. -/
theorem VT.retP {i : Nat} (sz : Nat) (hc : isRetC c = true) (he : lkN n a i = .nil) (h : Q .ret ((i, .ms (H.length + 1) 0 0 0) :: a) (H ++ [.dead, .live sz []]) g) : VT E c n a H g Q :=
  VT.addDead (VT.phantom sz he (by simp) (by simp) (VT.ret hc h))
end

/-- A contract of the kit, over exact values, as a plain contract. -/
theorem Maps.ofCalls {P : Program} (hP : POk P) {f : FuncId} (fn : Func) {vs : List Value} {r : Value} (hf : P.funcs[f]? = some fn) (hb : hasBody fn = true) (h : ∀ w, Calls P f vs.toArray w fun e w' => e = .returned r ∧ w' = w) : Maps P f (vs.map .v) (.v r) := by
  refine ⟨enters_of hf (hP.name hf) (bodyC_of hb), fun w A us hA hv => ?_⟩
  have hu : us = vs.toArray := by
    refine Array.ext (by simpa using hv.size) fun i h1 h2 => ?_
    have hi : i < vs.length := by simpa using h2
    have := (hv.val i (.v vs[i]) us[i] (by simp [hi]) (by simp [h1])).v_inv
    simpa using this
  subst hu
  refine (callsIn_wide.2 (h w)).mono ?_
  rintro e w' ⟨rfl, rfl⟩
  exact ⟨r, A, rfl, .v _ _, fun _ x => x, fun _ x => .inl x, hA, Ext.refl _ _⟩

/-- An array of one's own is sliced as a whole: its block is given up, its memory goes to a new one, an element a cell. -/
theorem RT.sliceArr {E : Ev} {ops r : List Oper} {n : Nat} {a : AL} {H H' : List Blk} {g : Gst} {K : KA} {i : Tmp} {x : Operand} {tx te ty : TypeId} {pos : String} {aft : Array Edge} {b m s : Nat} {cs : List D} (hs0 : H.length = s) (hx : evA n a x = .mp b 0 0) (hu : E.P.underlying tx = some (.array m te)) (hs : tsz E.P te = some 1)
    (hb : H[b]? = some (.live m [cs])) (hl : cs.length = m) (h0 : 0 < m) (hH : H.set b .dead ++ [.live 1 (cs.map fun d => [d])] = H') (h : RT E ops r n ((i, .ms s 0 m m) :: a) H' g K) :
    RT E ops (⟨some i, .slice tx x none none none, ty, pos, aft, none⟩ :: r) n a H g K := by
  subst hH; subst hs0
  refine ⟨fun ro G hE ds Q hQ ac w hr => ?_⟩
  unfold wpListIn
  rw [if_pos (by simp [Region.wanted])]
  obtain ⟨A, φ, hr⟩ := hr
  have hv := hr.tr.ev x
  rw [ev_T, hx] at hv
  generalize hxe : ac.eval x = u at hv
  cases hv with
  | mp _ _ _ _ adr hadr =>
  rcases hr.rh.live b m [cs] hb with ⟨h1, _⟩ | ⟨n0, base, room, c, tyc, h1, h2⟩
  · cases h1
  rw [h1] at hadr
  simp only [Loc.mpOk] at hadr
  subst hadr
  have hfit := h2.fits
  simp only [List.length_cons, List.length_nil] at hfit
  have hsize := h2.size
  have hroom : m ≤ room * m := Nat.le_mul_of_pos_left m hfit
  have hlt : b < H.length := (List.getElem?_eq_some_iff.1 hb).1
  have hrun : (execOp ac.eval ⟨some i, .slice tx x none none none, ty, pos, aft, none⟩).run E.P w = .ok (.value (.slice (some ⟨n0, base, none⟩) m m)) w := by
    have h3 : execOp ac.eval ⟨some i, .slice tx x none none none, ty, pos, aft, none⟩ = (do pure (.value (← Instr.sliceAt tx (ac.eval x) none none none))) := by simp only [execOp]; rfl
    have h4 : (Instr.sliceAt tx (.pointer (some ⟨n0, base + 0 * m + 0, none⟩)) none none none).run E.P w = .ok (.slice (some ⟨n0, base, none⟩) m m) w := by
      simp [Instr.sliceAt, run_underlying hu, run_sizeOf hs, Instr.sureAddr, Instr.sliceBounds, asAddr, Addr.add]
    rw [h3, hxe, Sem.run_bind, h4]; rfl
  refine ⟨fun _ _ => trivial, ?_⟩
  rw [Oper.semAt_eq _ _ _ (by simp), hrun]
  have hr1 := hr.room
  have hr2 := FRc.renew hE.st hr1 (b := b) (s := H.length) (sz' := 1) h1 (by simp) (w' := w) (c' := c) (ty := tyc) ⟨rfl, rfl, rfl, rfl, h2.blk, fun _ _ => rfl⟩ base m (cs.map fun d => [d]) (by simp [hl]) (by omega)
    (fun i e he => by simp only [List.getElem?_map, Option.map_eq_some_iff] at he; obtain ⟨_, _, rfl⟩ := he; rfl)
    (fun i e j d he hd => by
      simp only [List.getElem?_map, Option.map_eq_some_iff] at he
      obtain ⟨d', hd', rfl⟩ := he
      cases j with
      | zero =>
        simp only [List.getElem?_cons_zero, Option.some.injEq] at hd
        subst hd
        have := h2.val 0 cs i d' rfl hd'
        simpa using this
      | succ j => simp at hd)
  have e1 : ((H ++ [Blk.free]).set b .dead).set H.length (.live 1 (cs.map fun d => [d])) = H.set b .dead ++ [.live 1 (cs.map fun d => [d])] := by
    rw [List.set_append_left _ _ hlt]
    have := set_room (H.set b .dead) (.live 1 (cs.map fun d => [d]))
    rw [List.length_set] at this
    exact this
  simp only at hr2
  rw [e1] at hr2
  have hr3 := hr2.value (some i) (d := .ms H.length 0 m m) (x := .slice (some ⟨n0, base, none⟩) m m) (.ms _ _ _ _ _ _ _ (Nat.le_refl _) (Nat.le_refl _) (by rw [upd_same]; exact ⟨by omega, .inr (by simp)⟩))
  simp only [setT_T] at hr3
  exact h.out ro G hE ds Q hQ _ _ ⟨A, _, hr3⟩
end Go.DL
