/- Operations of a region that draws its order, over temporaries and own blocks alone; what is known of a program as a whole. -/
import Derived.Test.YtmbbepdbjeciaaaGreatDl16
set_option linter.all false
namespace Go.DL
open Go.RowKit Go.Proofs

noncomputable section

abbrev TH := List D → List Blk → Prop

def actT (P : Program) (o : Oper) (s : Nat) (Hm : List Blk) (t : List D) (H : List Blk) (K : TH) : Prop :=
  match o.op with
  | .call { callee := .value f, args, .. } => match callD t f args.toList with
    | some (g, xs) => ∃ d, Maps P g (xs.map (snap (fun b => Hm[b]?) 5)) d ∧ freshD 5 d = true ∧ K (setT t o.dst d) H
    | none => False
  | op => match stepD P Hm s t op with
    | some (d, e) => K (setT t o.dst d) (e.app H s)
    | none => False

def actOT (P : Program) (ops : List Oper) (o : Oper) (s : Nat) (Hm : List Blk) (t : List D) (H : List Blk) (K : TH) : Prop :=
  match o.guard with
  | none => actT P o s Hm t H K
  | some (j, want) => match guardD ops t j with
    | some b => (b = want → actT P o s Hm t H K) ∧ (b ≠ want → K (setT t o.dst .any) H)
    | none => False

def planT (P : Program) (ops : List Oper) (base : Nat) : List (Nat × List Nat) → List Oper → List D → List Blk → TH → Prop
  | (s, hs) :: pl, o :: l, t, H, K => actOT P ops o (base + s) (maskL base hs H) t H fun t H => planT P ops base pl l t H K
  | _, _, t, H, K => K t H

section
variable {P : Program}

theorem actT_ok {o : Oper} {s : Nat} {Hm : List Blk} {t : List D} {H : List Blk} {K : TH} {ds : List Nat} {g : Gst} {K' : St → Prop} (h : actT P o s Hm t H K) (hk : ∀ t H, K t H → K' { t := t, H := H, ds := ds, g := g }) :
    actGo P o s Hm { t := t, H := H, ds := ds, g := g } K' := by
  unfold actT at h
  unfold actGo
  split at h
  · rename_i f args tys hop
    split at h
    · rename_i g' xs hc
      simp only [hop, hc]
      obtain ⟨d, h1, h2, h3⟩ := h
      exact ⟨d, h1, h2, hk _ _ h3⟩
    · exact h.elim
  · rename_i hop
    split at h
    · rename_i d e hs
      split
      · rename_i f args tys ho; exact absurd ho (hop _ _ _)
      · simp only [hs]; exact hk _ _ h
    · exact h.elim

theorem planT_ok {ops : List Oper} {base : Nat} {K : TH} {ds : List Nat} {g : Gst} {K' : St → Prop} (hk : ∀ t H, K t H → K' { t := t, H := H, ds := ds, g := g }) : ∀ (pl : List (Nat × List Nat)) (l : List Oper) (t : List D) (H : List Blk),
    planT P ops base pl l t H K → runPlan P ops base pl l { t := t, H := H, ds := ds, g := g } K'
  | [], [], t, H, h => hk _ _ h
  | [], _ :: _, t, H, h => hk _ _ h
  | _ :: _, [], t, H, h => hk _ _ h
  | (s, hs) :: pl, o :: l, t, H, h => by
    unfold planT actOT at h
    unfold runPlan actO
    split at h
    · rename_i hg
      simp only [hg]
      exact actT_ok h fun t H h => planT_ok hk pl l t H h
    · rename_i j want hg
      simp only [hg]
      split at h
      · rename_i b hb
        simp only [hb]
        split
        · rename_i e; exact actT_ok (h.1 e) fun t H h => planT_ok hk pl l t H h
        · rename_i e; exact planT_ok hk pl l _ _ (h.2 e)
      · exact h.elim
end

theorem resD_st {P : Program} {rs : List ResultVar} (s : St) : resD P rs s = resD P rs { t := s.t, H := s.H } := by
  have hloc : ∀ (r : ResultVar), resOne P s r = resOne P { t := s.t, H := s.H } r := fun r => by cases r <;> rfl
  have hL : ∀ rs, resL P s rs = resL P { t := s.t, H := s.H } rs := fun rs => by
    induction rs with
    | nil => rfl
    | cons r rs ih => simp only [resL, ih, hloc]
  unfold resD; rw [hL]

/-- What is known of a program as a whole. -/
structure POk (P : Program) : Prop where
  mixed : P.follows .mixedOrders = true
  names : (P.funcs.toList.all fun fn => !(fn.name == "runtime.NumGoroutine")) = true

theorem POk.name {P : Program} (h : POk P) {g : FuncId} {fn : Func} (hf : P.funcs[g]? = some fn) : (fn.name == "runtime.NumGoroutine") = false := by
  have h1 := List.all_eq_true.1 h.names fn (by rw [Array.mem_toList_iff]; exact Array.mem_of_getElem? hf)
  simpa using h1

end
end Go.DL
