/- Which goal, which operation: each of these changes nothing; it goes through where its form fits. -/
import Derived.Test.YtmbbepdbjeciaaaGreatDl21
set_option linter.all false
namespace Go.DL
open Go.RowKit Go.Proofs

noncomputable section

section
variable {E : Ev} {ops l r : List Oper} {n : Nat} {a : AL} {H : List Blk} {g : Gst} {K : KA} {c : Code} {Q : KX} {dst : Option Tmp} {i : Tmp} {op : Op} {x y z : Operand} {tx ty ty' : TypeId} {pos : String} {aft : Array Edge} {j : Nat × Bool} {f : Nat} {bo : BinOp} {uo : UnOp}
theorem d_kEr {rs : List ResultVar} {R : D → List Blk → Gst → Prop} {P : Program} (h : kEnd P rs n R .ret a H g) : kEnd P rs n R .ret a H g := h
theorem d_kEn {rs : List ResultVar} {R : D → List Blk → Gst → Prop} {P : Program} (h : kEnd P rs n R .normal a H g) : kEnd P rs n R .normal a H g := h
theorem d_VT (h : VT E c n a H g Q) : VT E c n a H g Q := h
theorem d_RT (h : RT E ops l n a H g K) : RT E ops l n a H g K := h
theorem d_g (h : RT E ops (⟨dst, op, ty, pos, aft, some j⟩ :: r) n a H g K) : RT E ops (⟨dst, op, ty, pos, aft, some j⟩ :: r) n a H g K := h
theorem d_mv (h : RT E ops (⟨dst, .move x, ty, pos, aft, none⟩ :: r) n a H g K) : RT E ops (⟨dst, .move x, ty, pos, aft, none⟩ :: r) n a H g K := h
theorem d_as (h : RT E ops (⟨dst, .assign x, ty, pos, aft, none⟩ :: r) n a H g K) : RT E ops (⟨dst, .assign x, ty, pos, aft, none⟩ :: r) n a H g K := h
theorem d_pk (h : RT E ops (⟨dst, .pick x y z, ty, pos, aft, none⟩ :: r) n a H g K) : RT E ops (⟨dst, .pick x y z, ty, pos, aft, none⟩ :: r) n a H g K := h
theorem d_bin (h : RT E ops (⟨dst, .binOp bo tx x y ty', ty, pos, aft, none⟩ :: r) n a H g K) : RT E ops (⟨dst, .binOp bo tx x y ty', ty, pos, aft, none⟩ :: r) n a H g K := h
theorem d_un (h : RT E ops (⟨dst, .unOp uo tx x, ty, pos, aft, none⟩ :: r) n a H g K) : RT E ops (⟨dst, .unOp uo tx x, ty, pos, aft, none⟩ :: r) n a H g K := h
theorem d_ld (h : RT E ops (⟨dst, .load tx x, ty, pos, aft, none⟩ :: r) n a H g K) : RT E ops (⟨dst, .load tx x, ty, pos, aft, none⟩ :: r) n a H g K := h
theorem d_fa (h : RT E ops (⟨dst, .fieldAddr tx x f, ty, pos, aft, none⟩ :: r) n a H g K) : RT E ops (⟨dst, .fieldAddr tx x f, ty, pos, aft, none⟩ :: r) n a H g K := h
theorem d_ix (h : RT E ops (⟨dst, .indexAddr tx x y, ty, pos, aft, none⟩ :: r) n a H g K) : RT E ops (⟨dst, .indexAddr tx x y, ty, pos, aft, none⟩ :: r) n a H g K := h
theorem d_st (h : RT E ops (⟨dst, .store tx x y, ty, pos, aft, none⟩ :: r) n a H g K) : RT E ops (⟨dst, .store tx x y, ty, pos, aft, none⟩ :: r) n a H g K := h
theorem d_call {cl : Call} (h : RT E ops (⟨dst, .call cl, ty, pos, aft, none⟩ :: r) n a H g K) : RT E ops (⟨dst, .call cl, ty, pos, aft, none⟩ :: r) n a H g K := h
theorem d_bld {ps : Array (Nat × Operand)} (h : RT E ops (⟨dst, .build tx ps, ty, pos, aft, none⟩ :: r) n a H g K) : RT E ops (⟨dst, .build tx ps, ty, pos, aft, none⟩ :: r) n a H g K := h
theorem d_ext (h : RT E ops (⟨dst, .extract x f, ty, pos, aft, none⟩ :: r) n a H g K) : RT E ops (⟨dst, .extract x f, ty, pos, aft, none⟩ :: r) n a H g K := h
end
section
variable {E : Ev} {ops l r : List Oper} {base : Nat} {pl : List (Nat × List Nat)} {n : Nat} {a : AL} {H : List Blk} {K : KP} {dst : Option Tmp} {i : Tmp} {op : Op} {x y z : Operand} {tx ty ty' : TypeId} {pos : String} {aft : Array Edge} {j : Nat × Bool} {f : Nat} {bo : BinOp} {uo : UnOp}
theorem d_PT (h : PT E ops base pl l n a H K) : PT E ops base pl l n a H K := h
theorem p_g (h : PT E ops base pl (⟨dst, op, ty, pos, aft, some j⟩ :: r) n a H K) : PT E ops base pl (⟨dst, op, ty, pos, aft, some j⟩ :: r) n a H K := h
theorem p_mv (h : PT E ops base pl (⟨dst, .move x, ty, pos, aft, none⟩ :: r) n a H K) : PT E ops base pl (⟨dst, .move x, ty, pos, aft, none⟩ :: r) n a H K := h
theorem p_as (h : PT E ops base pl (⟨dst, .assign x, ty, pos, aft, none⟩ :: r) n a H K) : PT E ops base pl (⟨dst, .assign x, ty, pos, aft, none⟩ :: r) n a H K := h
theorem p_pk (h : PT E ops base pl (⟨dst, .pick x y z, ty, pos, aft, none⟩ :: r) n a H K) : PT E ops base pl (⟨dst, .pick x y z, ty, pos, aft, none⟩ :: r) n a H K := h
theorem p_bin (h : PT E ops base pl (⟨dst, .binOp bo tx x y ty', ty, pos, aft, none⟩ :: r) n a H K) : PT E ops base pl (⟨dst, .binOp bo tx x y ty', ty, pos, aft, none⟩ :: r) n a H K := h
theorem p_un (h : PT E ops base pl (⟨dst, .unOp uo tx x, ty, pos, aft, none⟩ :: r) n a H K) : PT E ops base pl (⟨dst, .unOp uo tx x, ty, pos, aft, none⟩ :: r) n a H K := h
theorem p_ld (h : PT E ops base pl (⟨dst, .load tx x, ty, pos, aft, none⟩ :: r) n a H K) : PT E ops base pl (⟨dst, .load tx x, ty, pos, aft, none⟩ :: r) n a H K := h
theorem p_fa (h : PT E ops base pl (⟨dst, .fieldAddr tx x f, ty, pos, aft, none⟩ :: r) n a H K) : PT E ops base pl (⟨dst, .fieldAddr tx x f, ty, pos, aft, none⟩ :: r) n a H K := h
theorem p_ix (h : PT E ops base pl (⟨dst, .indexAddr tx x y, ty, pos, aft, none⟩ :: r) n a H K) : PT E ops base pl (⟨dst, .indexAddr tx x y, ty, pos, aft, none⟩ :: r) n a H K := h
theorem p_st (h : PT E ops base pl (⟨dst, .store tx x y, ty, pos, aft, none⟩ :: r) n a H K) : PT E ops base pl (⟨dst, .store tx x y, ty, pos, aft, none⟩ :: r) n a H K := h
theorem p_call {cl : Call} (h : PT E ops base pl (⟨dst, .call cl, ty, pos, aft, none⟩ :: r) n a H K) : PT E ops base pl (⟨dst, .call cl, ty, pos, aft, none⟩ :: r) n a H K := h
theorem p_ext (h : PT E ops base pl (⟨dst, .extract x f, ty, pos, aft, none⟩ :: r) n a H K) : PT E ops base pl (⟨dst, .extract x f, ty, pos, aft, none⟩ :: r) n a H K := h
end

/-- How spines of lists are computed. -/
theorem nrm : (∀ (α : Type) (x : α) (l m : List α), x :: l ++ m = x :: (l ++ m)) ∧ (∀ (α : Type) (l : List α), [] ++ l = l) ∧ (∀ (α : Type) (l : List α), l ++ [] = l) ∧ (∀ (α : Type) (x y : α) (l : List α), (x :: l).set 0 y = y :: l) ∧
    (∀ (α : Type) (x y : α) (l : List α) (n : Nat), (x :: l).set (n + 1) y = x :: l.set n y) ∧ (∀ (α : Type) (x : α) (l : List α), (x :: l).length = l.length + 1) ∧ (∀ (α : Type), ([] : List α).length = 0) ∧
    (∀ (α β : Type) (f : α → β) (x : α) (l : List α), (x :: l).map f = f x :: l.map f) ∧ (∀ (α β : Type) (f : α → β), [].map f = []) ∧ (∀ (α : Type) (x y : α) (l : List α), (x :: y :: l).dropLast = x :: (y :: l).dropLast) ∧ (∀ (α : Type) (x : α), [x].dropLast = []) ∧
    (∀ (H : List Blk), killO H none = H) ∧ (∀ (H : List Blk) (b : Nat), killO H (some b) = H.set b .dead) ∧ (∀ (α : Type) (x : α) (l : List α) (n : Nat), (x :: l).take (n + 1) = x :: l.take n) ∧ (∀ (α : Type) (l : List α), l.take 0 = []) ∧
    (∀ (α : Type) (x : α) (l : List α) (n : Nat), (x :: l).drop (n + 1) = l.drop n) ∧ (∀ (α : Type) (l : List α), l.drop 0 = l) ∧ (∀ (e ds : List D) (f : Nat), splice e f ds = e.take f ++ ds ++ e.drop (f + ds.length)) ∧
    (∀ v, lowD (.v v) = .v v) ∧ (∀ es, lowD (.sl es) = .sl es) ∧ (∀ es, lowD (.fl es) = .sl es) ∧ (∀ (α : Type) (n : Nat) (x : α), List.replicate (n + 1) x = x :: List.replicate n x) ∧ (∀ (α : Type) (x : α), List.replicate 0 x = []) ∧
    (∀ (α : Type) (n : Nat), ([] : List α).take n = []) ∧ (∀ (α : Type) (n : Nat), ([] : List α).drop n = []) :=
  ⟨fun _ _ _ _ => rfl, fun _ _ => rfl, fun _ _ => List.append_nil _, fun _ _ _ _ => rfl, fun _ _ _ _ _ => rfl, fun _ _ _ => rfl, fun _ => rfl, fun _ _ _ _ _ => rfl, fun _ _ _ => rfl, fun _ _ _ _ => rfl, fun _ _ => rfl, fun _ => rfl, fun _ _ => rfl, fun _ _ _ _ => rfl, fun _ _ => rfl,
   fun _ _ _ _ => rfl, fun _ _ => rfl, fun _ _ _ => rfl, fun _ => rfl, fun _ => rfl, fun _ => rfl, fun _ _ _ => rfl, fun _ _ => rfl, fun _ _ => List.take_nil, fun _ _ => List.drop_nil⟩

/-- A call of a function that works on own blocks: its result, and what it leaves. -/
theorem RT.callS {E : Ev} {ops r : List Oper} {n : Nat} {a : AL} {H : List Blk} {g : Gst} {K : KA} {i : Tmp} {f : Operand} {args : List Operand} {tys : Array TypeId} {ty : TypeId} {pos : String} {aft : Array Edge} {f' : FuncId} {xs ys : List D} {d d2 : D} {H1 H2 : List Blk}
    (hc : callA n a f args = some (f', xs)) (hs : CallSp E.P f' ys H fun d' H' => d' = d ∧ H' = H1) (hy : xs = ys) (hd : d = d2) (hH : H1 = H2) (h : RT E ops r n ((i, d2) :: a) H2 g K) :
    RT E ops (⟨some i, .call { callee := .value f, args := args.toArray, argTypes := tys }, ty, pos, aft, none⟩ :: r) n a H g K := by
  subst hy; subst hd; subst hH
  exact RT.callG hc (hs.mono fun d' H' ⟨h1, h2⟩ => by subst h1; subst h2; exact h)
/-- The same for a call without a result. -/
theorem RT.callS0 {E : Ev} {ops r : List Oper} {n : Nat} {a : AL} {H : List Blk} {g : Gst} {K : KA} {f : Operand} {args : List Operand} {tys : Array TypeId} {ty : TypeId} {pos : String} {aft : Array Edge} {f' : FuncId} {xs ys : List D} {H1 H2 : List Blk}
    (hc : callA n a f args = some (f', xs)) (hs : CallSp E.P f' ys H fun _ H' => H' = H1) (hy : xs = ys) (hH : H1 = H2) (h : RT E ops r n a H2 g K) :
    RT E ops (⟨none, .call { callee := .value f, args := args.toArray, argTypes := tys }, ty, pos, aft, none⟩ :: r) n a H g K := by
  subst hy; subst hH
  exact RT.callG hc (hs.mono fun d' H' h1 => by subst h1; exact h)

/-- What a closure may hold: values that read the same wherever they are looked at from. -/
def stab1 : D → Bool
  | .v _ | .sl _ | .rp _ | .any => true
  | .fn _ [] [] => true
  | _ => false
theorem stab1_snap {d : D} (h : stab1 d = true) (lk : Nat → Option Blk) (k : Nat) : snap lk k d = d := by
  unfold stab1 at h
  split at h <;> first | (cases k <;> rfl) | cases h
theorem stab1_low {d : D} (h : stab1 d = true) (k K : Nat) : lowB (k + 1) K d = true := by
  unfold stab1 at h
  split at h <;> first | rfl | cases h
theorem stab_snap {cs : List D} (h : cs.all stab1 = true) (lk : Nat → Option Blk) (k : Nat) : cs.map (snap lk k) = cs := by
  rw [List.all_eq_true] at h
  conv => rhs; rw [← List.map_id cs]
  exact List.map_congr_left fun d hd => stab1_snap (h d hd) lk k
theorem stab_low {cs : List D} (h : cs.all stab1 = true) (k K : Nat) : cs.all (lowB (k + 1) K) = true := by
  rw [List.all_eq_true] at h ⊢
  exact fun d hd => stab1_low (h d hd) k K
theorem flat_fn {f : Fn} {cs : List D} (h : cs.all stab1 = true) : flat (.fn f [] cs) = true := by
  simp only [flat, List.all_nil, Bool.true_and]
  rw [List.all_eq_true] at h ⊢
  intro d hd
  have := h d hd
  unfold stab1 at this
  split at this <;> first | rfl | cases this
end
end Go.DL
