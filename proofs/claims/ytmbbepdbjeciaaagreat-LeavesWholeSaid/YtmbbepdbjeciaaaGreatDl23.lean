/- Lists of words in blocks of one's own; an own block that becomes read-only. -/
import Derived.Test.YtmbbepdbjeciaaaGreatDl22
set_option linter.all false
namespace Go.DL
open Go.RowKit Go.Proofs

noncomputable section

def eI (x : Int) : List D := [wI x]
theorem map_eI_get (o : List Int) (k : Nat) : (o.map eI)[k]? = (o[k]?).map eI := by simp
theorem eI_all (o : List Int) (p : D → Bool) (h : ∀ x, p (wI x) = true) : (o.map eI).all (fun e => e.all p) = true := by
  simp [eI, h]
theorem eI_map (o : List Int) (f : D → D) (h : ∀ x, f (wI x) = wI x) : (o.map eI).map (List.map f) = o.map eI := by
  rw [List.map_map]; refine List.map_congr_left fun x _ => ?_
  simp [eI, h]
theorem snapW {lk : Nat → Option Blk} {b m cap k : Nat} {o : List Int} (h : lk b = some (.live 1 (o.map eI))) (hm : m = o.length) : snap lk (k + 1) (.ms b 0 m cap) = .sl (o.map eI) := by
  subst hm
  simp only [snap, h, Nat.zero_add, List.length_map, Nat.le_refl, if_true, List.drop_zero]
  rw [List.take_of_length_le (by simp), eI_map _ _ fun x => by cases k <;> rfl]
theorem snapRW {lk : Nat → Option Blk} {b m cap k : Nat} {o : List Int} (h : lk b = some (.live 1 (o.map eI))) (hm : m = o.length) : snapR lk (k + 1) (.ms b 0 m cap) = .fl (o.map eI) := by
  subst hm
  simp only [snapR, h, Nat.zero_add, List.length_map, Nat.le_refl, if_true, List.drop_zero]
  rw [if_pos (eI_all _ _ fun x => by cases k <;> rfl), List.take_of_length_le (by simp), eI_map _ _ fun x => by cases k <;> rfl]
theorem eI_low (o : List Int) (K : Nat) : BlkBelow K (.live 1 (o.map eI)) := by
  intro e he d hd
  simp only [List.mem_map] at he
  obtain ⟨x, _, rfl⟩ := he
  simp only [eI, List.mem_singleton] at hd
  subst hd; rfl

section
variable {P : Program} {n s : Nat} {al : AL} {H : List Blk} {x y z : Operand} {tx ty' : TypeId} {a b : Int}
theorem f_ldW {bk k : Nat} {o : List Int} (hx : evA n al x = .mp bk k 0) (hb : H[bk]? = some (.live 1 (o.map eI))) (hk : k < o.length) (ht : isAggD P tx = some false) : Val P H s n al (.load tx x) (wI o[k]) :=
  f_ldO hx hb (e := eI o[k]) (by simp [hk]) rfl ht
theorem f_stW {bk k : Nat} {o : List Int} (hx : evA n al x = .mp bk k 0) (hb : H[bk]? = some (.live 1 (o.map eI))) (hk : k < o.length) (hy : evA n al y = wI a) (hs : tsz P tx = some 1) : Wr P H s n al (.store tx x y) bk (.live 1 ((o.set k a).map eI)) := by
  have h := f_stV (s := s) (P := P) (tx := tx) (sz := 1) (d0 := wI o[k]) hx hb (by simp [hk, eI]) hy rfl rfl hs
  rw [List.map_set]; exact h
theorem f_makeW {te : TypeId} {m : Nat} (hx : evA n al x = wI a) (hy : evA n al y = wI a) (he : elemT P tx = some (te, 1)) (hz : zeroD P te = some [wI 0]) (hby : P.bytesOf te = 8) (hm : a = m) (hb : m ≤ 35184372088832) :
    Mk P H s n al (.makeSlice tx x y) (.ms s 0 m m) (.live 1 ((List.replicate m 0).map eI)) := by
  rw [List.map_replicate]
  exact f_make hx hy he hz rfl (by decide) hby hm (by omega) (by omega)
theorem f_bslW1 {te : TypeId} (hx : evA n al x = wI a) (he : elemT P tx = some (te, 1)) (hz : zeroD P te = some [wI 0]) : Mk P H s n al (.buildSlice tx 1 #[(0, x)]) (.ms s 0 1 1) (.live 1 ([a].map eI)) :=
  f_bsl (ps := [(0, x)]) (by simp [buildSliceD, he, hz, rowsD, hx, cellsD, isCell, eI, List.replicate]; rfl)
/-- A word is appended to a slice of one's own. -/
theorem f_appW {te : TypeId} {m c m' c' b1 b2 : Nat} {o v : List Int} (hx : evA n al x = .ms b1 0 m c) (hy : evA n al y = .ms b2 0 m' c') (hb1 : H[b1]? = some (.live 1 (o.map eI))) (hb2 : H[b2]? = some (.live 1 (v.map eI))) (hm : m = o.length) (hm' : m' = v.length)
    (he : elemT P tx = some (te, 1)) (hz : zeroD P te = some [wI 0]) (hby : P.bytesOf te = 8) (hl : o.length + v.length ≤ 17592186044416) :
    Ap P H s n al (.call { callee := .builtin .append, args := #[x, y], argTypes := #[tx, tx] }) (o ++ v).length (some b1) (.live 1 ((o ++ v).map eI)) := by
  subst hm; subst hm'
  have hu : P.underlying tx = some (.slice te) := by
    unfold elemT at he
    split at he
    · rename_i e hu; simp only [Option.map_eq_some_iff] at he; obtain ⟨_, _, h⟩ := he; cases h; exact hu
    · cases he
  refine f_app hx hy ?_ (by simp)
  have e1 : elemsD H (.ms b1 0 o.length c) = some (o.map eI) := by
    simp only [elemsD, hb1, Nat.zero_add, List.length_map, Nat.le_refl, if_true, List.drop_zero]
    rw [List.take_of_length_le (by simp)]
  have e2 : elemsD H (.ms b2 0 v.length c') = some (v.map eI) := by
    simp only [elemsD, hb2, Nat.zero_add, List.length_map, Nat.le_refl, if_true, List.drop_zero]
    rw [List.take_of_length_le (by simp)]
  simp only [appendD, addedD, he, hu, e1, e2]
  rw [if_pos]
  · simp only [hb1, Blk.hasSz]; simp
  · refine ⟨by decide, by rw [hz]; rfl, by simp [eI], by simp [eI], eI_all _ _ fun x => rfl, ?_, ?_⟩
    · rw [hby, List.length_map, List.length_map]; omega
    · rw [List.length_map, List.length_map]; omega
/-- Zeros are appended to a slice of one's own. -/
theorem f_appZ {te ti : TypeId} {ki : IntKind} {m c b1 : Nat} {o : List Int} {k : Int} (hx : evA n al x = .ms b1 0 m c) (hy : evA n al y = wI k) (hb1 : H[b1]? = some (.live 1 (o.map eI))) (hm : m = o.length) (hk : 0 ≤ k)
    (he : elemT P tx = some (te, 1)) (hti : P.underlying ti = some (.int ki)) (hz : zeroD P te = some [wI 0]) (hby : P.bytesOf te = 8) (hl : (o.length : Int) + k ≤ 17592186044416) :
    Ap P H s n al (.call { callee := .builtin .append, args := #[x, y], argTypes := #[tx, ti] }) (o ++ List.replicate k.toNat 0).length (some b1) (.live 1 ((o ++ List.replicate k.toNat 0).map eI)) := by
  subst hm
  refine f_app hx hy ?_ (by simp)
  have e1 : elemsD H (.ms b1 0 o.length c) = some (o.map eI) := by
    simp only [elemsD, hb1, Nat.zero_add, List.length_map, Nat.le_refl, if_true, List.drop_zero]
    rw [List.take_of_length_le (by simp)]
  have e2 : addedD P H te ti (wI k) = some (List.replicate k.toNat [wI 0]) := by
    simp only [addedD, hti, wI, hk, if_true, hz, Option.map_some]
  have e3 : (o ++ List.replicate k.toNat 0).map eI = o.map eI ++ List.replicate k.toNat [wI 0] := by
    rw [List.map_append, List.map_replicate]; rfl
  rw [e3]
  simp only [appendD, he, e1, e2]
  rw [if_pos]
  · simp only [hb1, Blk.hasSz]; simp
  · refine ⟨by decide, by rw [hz]; rfl, by simp [eI], by simp, ?_, ?_, ?_⟩
    · rw [List.all_eq_true]; intro x hx; rw [List.eq_of_mem_replicate hx]; rfl
    · rw [hby, List.length_map, List.length_replicate]; omega
    · rw [List.length_map, List.length_replicate]; omega
end

/-- OWN BLOCK b IS READ-ONLY FROM NOW ON. -/
theorem T_map (n : Nat) (a : AL) (f : D → D) (hf : f .any = .any) : (T n a).map f = T n (a.map fun p => (p.1, f p.2)) := by
  unfold T
  rw [List.map_map]
  refine List.map_congr_left fun i _ => ?_
  simp only [Function.comp]
  induction a with
  | nil => exact hf
  | cons p a ih =>
    obtain ⟨k, d⟩ := p
    simp only [List.map_cons, lk]
    cases Nat.beq k i with
    | true => rfl
    | false => exact ih
def Sl (n : Nat) (a : AL) (b : Nat) (es : List (List D)) : AL → Prop
  | [] => True
  | (i, d) :: r => (d = .any ∨ d = sealD b es (lkN n a i)) ∧ Sl n a b es r
theorem Sl.hd {n : Nat} {a : AL} {b : Nat} {es : List (List D)} : ∀ {a' : AL}, Sl n a b es a' → Hd n (a.map fun p => (p.1, sealD b es p.2)) a'
  | [], _ => trivial
  | (i, d) :: r, h => by
    refine ⟨?_, h.2.hd⟩
    rcases h.1 with e | e
    · exact .inl e
    · refine .inr (.inl ?_)
      rw [e]
      unfold lkN
      cases Nat.blt i n with
      | false => rfl
      | true =>
        simp only [cond_true]
        clear h e
        induction a with
        | nil => rfl
        | cons p a ih =>
          obtain ⟨k, d⟩ := p
          simp only [List.map_cons, lk]
          cases Nat.beq k i with
          | true => rfl
          | false => exact ih
theorem VT.sealUp {E : Ev} {n : Nat} {a : AL} {H H' : List Blk} {g : Gst} {c : Code} {Q : KX} (b : Nat) (a' : AL) {sz : Nat} {es : List (List D)} (hb : H[b]? = some (.live sz es)) (hf : (es.all fun e => e.all pur) = true) (hN : E.N ≤ b) (hA : Sl n a b es a')
    (hH : (H.map (sealB b es)).set b .dead = H') (hl : (a'.all fun p => lowB 4 H'.length p.2) = true) (hbb : ∀ b ∈ H', BlkBelow H'.length b) (h : VT E c n a' H' g Q) : VT E c n a H g Q := by
  subst hH
  refine ⟨fun ro G hE ds ac w ⟨A, φ, hr⟩ => ?_⟩
  have h1 := hr.sealUp hE.st hb (fun i e j d h1 h2 => List.all_eq_true.1 (List.all_eq_true.1 hf e (List.mem_of_getElem? h1)) d (List.mem_of_getElem? h2))
  rw [T_map _ _ _ rfl] at h1
  have hlt : b < H.length := (List.getElem?_eq_some_iff.1 hb).1
  refine h.out ro G hE ds ac w (Fg.fr (N := E.N) ⟨hA.hd, ?_, ?_, hl, hbb⟩ hE.st hE.le ⟨_, _, h1⟩)
  · rw [List.take_of_length_le (by simp)]
  · simp; omega
/-- The whole of a block of words. -/
theorem sealW {b m cap : Nat} {o : List Int} (hm : m = o.length) : DL.sealD b (o.map eI) (.ms b 0 m cap) = .fl (o.map eI) := by
  subst hm
  simp only [sealD, if_true, sealS, Nat.zero_add, List.length_map, Nat.le_refl, List.drop_zero]
  rw [if_pos (eI_all _ _ fun x => rfl), List.take_of_length_le (by simp), eI_map _ _ fun x => rfl]
theorem sealBW {b : Nat} {es : List (List D)} {o : List Int} : DL.sealB b es (.live 1 (o.map eI)) = .live 1 (o.map eI) := by
  simp only [sealB]; rw [eI_map _ _ fun x => rfl]
theorem purW (o : List Int) : ((o.map eI).all fun e => e.all pur) = true := eI_all _ _ fun x => rfl
theorem bb_nil {K : Nat} : ∀ b, b ∈ ([] : List Blk) → BlkBelow K b := fun _ h => by cases h
theorem bb_cons {K : Nat} {x : Blk} {l : List Blk} (h : BlkBelow K x) (hs : ∀ b, b ∈ l → BlkBelow K b) : ∀ b, b ∈ x :: l → BlkBelow K b := fun b hb => by
  rcases List.mem_cons.1 hb with e | e
  · rw [e]; exact h
  · exact hs b e
theorem bb_dead {K : Nat} : BlkBelow K .dead := trivial
theorem bb_free {K : Nat} : BlkBelow K .free := trivial
theorem bb_lit {K sz : Nat} {es : List (List D)} (h : (es.all fun e => e.all (lowB 4 K)) = true) : BlkBelow K (.live sz es) := fun e he d hd =>
  List.all_eq_true.1 (List.all_eq_true.1 h e he) d hd
theorem bn_nil {k s : Nat} : ∀ b, b ∈ ([] : List Blk) → BlkNo k s b := fun _ h => by cases h
theorem bn_cons {k s : Nat} {x : Blk} {l : List Blk} (h : BlkNo k s x) (hs : ∀ b, b ∈ l → BlkNo k s b) : ∀ b, b ∈ x :: l → BlkNo k s b := fun b hb => by
  rcases List.mem_cons.1 hb with e | e
  · rw [e]; exact h
  · exact hs b e
theorem bn_dead {k s : Nat} : BlkNo k s .dead := trivial
theorem bn_free {k s : Nat} : BlkNo k s .free := trivial
theorem bn_lit {k s sz : Nat} {es : List (List D)} (h : (es.all fun e => e.all (noB 4 k s)) = true) : BlkNo k s (.live sz es) := fun e he d hd =>
  List.all_eq_true.1 (List.all_eq_true.1 h e he) d hd
theorem eI_no (o : List Int) (k s : Nat) : BlkNo k s (.live 1 (o.map eI)) := by
  intro e he d hd
  simp only [List.mem_map] at he
  obtain ⟨x, _, rfl⟩ := he
  simp only [eI, List.mem_singleton] at hd
  subst hd; rfl
end
end Go.DL
