/- Guards of walks: the next operation is of a kind. -/
import Derived.Test.YtmbbepdbjeciaaaE12
import Derived.Test.YtmbbepdbjeciaaaE11
import Derived.Test.YtmbbepdbjeciaaaE10
namespace Go.DL
open Go.RowKit Go.Proofs

noncomputable section
section
variable {E : Ev} {ops r : List Oper} {n : Nat} {a : AL} {H : List Blk} {g : Gst} {K : KA} {dst : Option Tmp} {x y z : Operand} {tx ty ty' : TypeId} {pos : String} {aft : Array Edge} {f : Nat} {bo : BinOp} {uo : UnOp} {cl : Call} {b : Bool} {ps : Array (Nat × Operand)} {qs rs : Array Operand} {fn : Fn} {lo hi mx : Option Operand} {j : Nat × Bool}
theorem w_mv (h : RT E ops (⟨dst, .move x, ty, pos, aft, none⟩ :: r) n a H g K) : RT E ops (⟨dst, .move x, ty, pos, aft, none⟩ :: r) n a H g K := h
theorem w_as (h : RT E ops (⟨dst, .assign x, ty, pos, aft, none⟩ :: r) n a H g K) : RT E ops (⟨dst, .assign x, ty, pos, aft, none⟩ :: r) n a H g K := h
theorem w_ld (h : RT E ops (⟨dst, .load tx x, ty, pos, aft, none⟩ :: r) n a H g K) : RT E ops (⟨dst, .load tx x, ty, pos, aft, none⟩ :: r) n a H g K := h
theorem w_fa (h : RT E ops (⟨dst, .fieldAddr tx x f, ty, pos, aft, none⟩ :: r) n a H g K) : RT E ops (⟨dst, .fieldAddr tx x f, ty, pos, aft, none⟩ :: r) n a H g K := h
theorem w_bn (h : RT E ops (⟨dst, Op.binOp bo tx x y ty', ty, pos, aft, none⟩ :: r) n a H g K) : RT E ops (⟨dst, Op.binOp bo tx x y ty', ty, pos, aft, none⟩ :: r) n a H g K := h
theorem w_pk (h : RT E ops (⟨dst, .pick x y z, ty, pos, aft, none⟩ :: r) n a H g K) : RT E ops (⟨dst, .pick x y z, ty, pos, aft, none⟩ :: r) n a H g K := h
theorem w_ex (h : RT E ops (⟨dst, .extract x f, ty, pos, aft, none⟩ :: r) n a H g K) : RT E ops (⟨dst, .extract x f, ty, pos, aft, none⟩ :: r) n a H g K := h
theorem w_ix (h : RT E ops (⟨dst, .indexAddr tx x y, ty, pos, aft, none⟩ :: r) n a H g K) : RT E ops (⟨dst, .indexAddr tx x y, ty, pos, aft, none⟩ :: r) n a H g K := h
theorem w_un (h : RT E ops (⟨dst, .unOp uo tx x, ty, pos, aft, none⟩ :: r) n a H g K) : RT E ops (⟨dst, .unOp uo tx x, ty, pos, aft, none⟩ :: r) n a H g K := h
theorem w_st (h : RT E ops (⟨dst, .store tx x y, ty, pos, aft, none⟩ :: r) n a H g K) : RT E ops (⟨dst, .store tx x y, ty, pos, aft, none⟩ :: r) n a H g K := h
theorem w_cl (h : RT E ops (⟨dst, .call cl, ty, pos, aft, none⟩ :: r) n a H g K) : RT E ops (⟨dst, .call cl, ty, pos, aft, none⟩ :: r) n a H g K := h
theorem w_cv (h : RT E ops (⟨dst, .convert tx ty' x, ty, pos, aft, none⟩ :: r) n a H g K) : RT E ops (⟨dst, .convert tx ty' x, ty, pos, aft, none⟩ :: r) n a H g K := h
theorem w_bs (h : RT E ops (⟨dst, .buildSlice tx f ps, ty, pos, aft, none⟩ :: r) n a H g K) : RT E ops (⟨dst, .buildSlice tx f ps, ty, pos, aft, none⟩ :: r) n a H g K := h
theorem w_al (h : RT E ops (⟨dst, .alloc tx, ty, pos, aft, none⟩ :: r) n a H g K) : RT E ops (⟨dst, .alloc tx, ty, pos, aft, none⟩ :: r) n a H g K := h
theorem w_bx (h : RT E ops (⟨dst, .box tx x, ty, pos, aft, none⟩ :: r) n a H g K) : RT E ops (⟨dst, .box tx x, ty, pos, aft, none⟩ :: r) n a H g K := h
theorem w_bd (h : RT E ops (⟨dst, .build tx ps, ty, pos, aft, none⟩ :: r) n a H g K) : RT E ops (⟨dst, .build tx ps, ty, pos, aft, none⟩ :: r) n a H g K := h
theorem w_lk (h : RT E ops (⟨dst, .lookup tx x y b, ty, pos, aft, none⟩ :: r) n a H g K) : RT E ops (⟨dst, .lookup tx x y b, ty, pos, aft, none⟩ :: r) n a H g K := h
theorem w_mu (h : RT E ops (⟨dst, .mapUpdate tx x y z, ty, pos, aft, none⟩ :: r) n a H g K) : RT E ops (⟨dst, .mapUpdate tx x y z, ty, pos, aft, none⟩ :: r) n a H g K := h
theorem w_mm (h : RT E ops (⟨dst, .makeMap tx lo, ty, pos, aft, none⟩ :: r) n a H g K) : RT E ops (⟨dst, .makeMap tx lo, ty, pos, aft, none⟩ :: r) n a H g K := h
theorem w_g {op : Op} (h : RT E ops (⟨dst, op, ty, pos, aft, some j⟩ :: r) n a H g K) : RT E ops (⟨dst, op, ty, pos, aft, some j⟩ :: r) n a H g K := h
end
section
variable {E : Ev} {ops r : List Oper} {base : Nat} {pl : List (Nat × List Nat)} {n : Nat} {a : AL} {H : List Blk} {K : KP} {dst : Option Tmp} {x y z : Operand} {tx ty ty' : TypeId} {pos : String} {aft : Array Edge} {f : Nat} {bo : BinOp} {uo : UnOp} {cl : Call} {b : Bool} {ps : Array (Nat × Operand)} {qs rs : Array Operand} {fn : Fn} {lo hi mx : Option Operand} {j : Nat × Bool}
theorem q_mv (h : PT E ops base pl (⟨dst, .move x, ty, pos, aft, none⟩ :: r) n a H K) : PT E ops base pl (⟨dst, .move x, ty, pos, aft, none⟩ :: r) n a H K := h
theorem q_as (h : PT E ops base pl (⟨dst, .assign x, ty, pos, aft, none⟩ :: r) n a H K) : PT E ops base pl (⟨dst, .assign x, ty, pos, aft, none⟩ :: r) n a H K := h
theorem q_ld (h : PT E ops base pl (⟨dst, .load tx x, ty, pos, aft, none⟩ :: r) n a H K) : PT E ops base pl (⟨dst, .load tx x, ty, pos, aft, none⟩ :: r) n a H K := h
theorem q_fa (h : PT E ops base pl (⟨dst, .fieldAddr tx x f, ty, pos, aft, none⟩ :: r) n a H K) : PT E ops base pl (⟨dst, .fieldAddr tx x f, ty, pos, aft, none⟩ :: r) n a H K := h
theorem q_bn (h : PT E ops base pl (⟨dst, Op.binOp bo tx x y ty', ty, pos, aft, none⟩ :: r) n a H K) : PT E ops base pl (⟨dst, Op.binOp bo tx x y ty', ty, pos, aft, none⟩ :: r) n a H K := h
theorem q_pk (h : PT E ops base pl (⟨dst, .pick x y z, ty, pos, aft, none⟩ :: r) n a H K) : PT E ops base pl (⟨dst, .pick x y z, ty, pos, aft, none⟩ :: r) n a H K := h
theorem q_ex (h : PT E ops base pl (⟨dst, .extract x f, ty, pos, aft, none⟩ :: r) n a H K) : PT E ops base pl (⟨dst, .extract x f, ty, pos, aft, none⟩ :: r) n a H K := h
theorem q_ix (h : PT E ops base pl (⟨dst, .indexAddr tx x y, ty, pos, aft, none⟩ :: r) n a H K) : PT E ops base pl (⟨dst, .indexAddr tx x y, ty, pos, aft, none⟩ :: r) n a H K := h
theorem q_un (h : PT E ops base pl (⟨dst, .unOp uo tx x, ty, pos, aft, none⟩ :: r) n a H K) : PT E ops base pl (⟨dst, .unOp uo tx x, ty, pos, aft, none⟩ :: r) n a H K := h
theorem q_st (h : PT E ops base pl (⟨dst, .store tx x y, ty, pos, aft, none⟩ :: r) n a H K) : PT E ops base pl (⟨dst, .store tx x y, ty, pos, aft, none⟩ :: r) n a H K := h
theorem q_cl (h : PT E ops base pl (⟨dst, .call cl, ty, pos, aft, none⟩ :: r) n a H K) : PT E ops base pl (⟨dst, .call cl, ty, pos, aft, none⟩ :: r) n a H K := h
theorem q_cv (h : PT E ops base pl (⟨dst, .convert tx ty' x, ty, pos, aft, none⟩ :: r) n a H K) : PT E ops base pl (⟨dst, .convert tx ty' x, ty, pos, aft, none⟩ :: r) n a H K := h
theorem q_bs (h : PT E ops base pl (⟨dst, .buildSlice tx f ps, ty, pos, aft, none⟩ :: r) n a H K) : PT E ops base pl (⟨dst, .buildSlice tx f ps, ty, pos, aft, none⟩ :: r) n a H K := h
theorem q_al (h : PT E ops base pl (⟨dst, .alloc tx, ty, pos, aft, none⟩ :: r) n a H K) : PT E ops base pl (⟨dst, .alloc tx, ty, pos, aft, none⟩ :: r) n a H K := h
theorem q_bx (h : PT E ops base pl (⟨dst, .box tx x, ty, pos, aft, none⟩ :: r) n a H K) : PT E ops base pl (⟨dst, .box tx x, ty, pos, aft, none⟩ :: r) n a H K := h
theorem q_bd (h : PT E ops base pl (⟨dst, .build tx ps, ty, pos, aft, none⟩ :: r) n a H K) : PT E ops base pl (⟨dst, .build tx ps, ty, pos, aft, none⟩ :: r) n a H K := h
theorem q_lk (h : PT E ops base pl (⟨dst, .lookup tx x y b, ty, pos, aft, none⟩ :: r) n a H K) : PT E ops base pl (⟨dst, .lookup tx x y b, ty, pos, aft, none⟩ :: r) n a H K := h
theorem q_g {op : Op} (h : PT E ops base pl (⟨dst, op, ty, pos, aft, some j⟩ :: r) n a H K) : PT E ops base pl (⟨dst, op, ty, pos, aft, some j⟩ :: r) n a H K := h
end
section
variable {E : Ev} {ops r : List Oper} {ab : List Nat} {base : Nat} {pl : PlQ} {n : Nat} {a : AL} {H : List Blk} {K : KP} {dst : Option Tmp} {x y z : Operand} {tx ty ty' : TypeId} {pos : String} {aft : Array Edge} {f : Nat} {bo : BinOp} {uo : UnOp} {cl : Call} {b : Bool} {ps : Array (Nat × Operand)} {qs rs : Array Operand} {fn : Fn} {lo hi mx : Option Operand} {j : Nat × Bool}
theorem s_mv (h : ST E ops ab base pl (⟨dst, .move x, ty, pos, aft, none⟩ :: r) n a H K) : ST E ops ab base pl (⟨dst, .move x, ty, pos, aft, none⟩ :: r) n a H K := h
theorem s_as (h : ST E ops ab base pl (⟨dst, .assign x, ty, pos, aft, none⟩ :: r) n a H K) : ST E ops ab base pl (⟨dst, .assign x, ty, pos, aft, none⟩ :: r) n a H K := h
theorem s_ld (h : ST E ops ab base pl (⟨dst, .load tx x, ty, pos, aft, none⟩ :: r) n a H K) : ST E ops ab base pl (⟨dst, .load tx x, ty, pos, aft, none⟩ :: r) n a H K := h
theorem s_fa (h : ST E ops ab base pl (⟨dst, .fieldAddr tx x f, ty, pos, aft, none⟩ :: r) n a H K) : ST E ops ab base pl (⟨dst, .fieldAddr tx x f, ty, pos, aft, none⟩ :: r) n a H K := h
theorem s_bn (h : ST E ops ab base pl (⟨dst, Op.binOp bo tx x y ty', ty, pos, aft, none⟩ :: r) n a H K) : ST E ops ab base pl (⟨dst, Op.binOp bo tx x y ty', ty, pos, aft, none⟩ :: r) n a H K := h
theorem s_pk (h : ST E ops ab base pl (⟨dst, .pick x y z, ty, pos, aft, none⟩ :: r) n a H K) : ST E ops ab base pl (⟨dst, .pick x y z, ty, pos, aft, none⟩ :: r) n a H K := h
theorem s_ix (h : ST E ops ab base pl (⟨dst, .indexAddr tx x y, ty, pos, aft, none⟩ :: r) n a H K) : ST E ops ab base pl (⟨dst, .indexAddr tx x y, ty, pos, aft, none⟩ :: r) n a H K := h
theorem s_un (h : ST E ops ab base pl (⟨dst, .unOp uo tx x, ty, pos, aft, none⟩ :: r) n a H K) : ST E ops ab base pl (⟨dst, .unOp uo tx x, ty, pos, aft, none⟩ :: r) n a H K := h
theorem s_cl (h : ST E ops ab base pl (⟨dst, .call cl, ty, pos, aft, none⟩ :: r) n a H K) : ST E ops ab base pl (⟨dst, .call cl, ty, pos, aft, none⟩ :: r) n a H K := h
theorem s_bs (h : ST E ops ab base pl (⟨dst, .buildSlice tx f ps, ty, pos, aft, none⟩ :: r) n a H K) : ST E ops ab base pl (⟨dst, .buildSlice tx f ps, ty, pos, aft, none⟩ :: r) n a H K := h
theorem s_bd (h : ST E ops ab base pl (⟨dst, .build tx ps, ty, pos, aft, none⟩ :: r) n a H K) : ST E ops ab base pl (⟨dst, .build tx ps, ty, pos, aft, none⟩ :: r) n a H K := h
theorem s_lk (h : ST E ops ab base pl (⟨dst, .lookup tx x y b, ty, pos, aft, none⟩ :: r) n a H K) : ST E ops ab base pl (⟨dst, .lookup tx x y b, ty, pos, aft, none⟩ :: r) n a H K := h
end
section
variable {E : Ev} {n : Nat} {a : AL} {H : List Blk} {g : Gst} {Q : KX} {ops : List Oper} {K : KA} {KK : KP} {c : Code} {l : List Oper} {base : Nat} {pl : List (Nat × List Nat)} {pq : PlQ} {ab : List Nat}
theorem w_nil (h : RT E ops [] n a H g K) : RT E ops [] n a H g K := h
theorem q_nil (h : PT E ops base pl [] n a H KK) : PT E ops base pl [] n a H KK := h
theorem s_nil (h : ST E ops ab base pq [] n a H KK) : ST E ops ab base pq [] n a H KK := h
theorem w_any (h : RT E ops l n a H g K) : RT E ops l n a H g K := h
theorem q_any (h : PT E ops base pl l n a H KK) : PT E ops base pl l n a H KK := h
theorem s_any (h : ST E ops ab base pq l n a H KK) : ST E ops ab base pq l n a H KK := h
theorem v_any (h : VT E c n a H g Q) : VT E c n a H g Q := h
end
end
end Go.DL

/- What is read of an argument, as plain data: numbers, booleans, lists. -/
set_option maxRecDepth 100000
namespace Go.DL
open Go.RowKit Go.Proofs Go.ChangeShapes Go.WideShapes

noncomputable section
def Rbool (ds : List D) : Prop := ∃ b : Bool, ds = [.v (.bool b)]
section
variable {H : Type} {enc : TypeId × Value → H} {P : Program} {w : World}
theorem opens_bool {t : TypeId} (ht : P.underlying t = some .bool) : Opens enc P w t Rbool := by
  intro fuel cs x h _
  obtain ⟨b, rfl, _⟩ := DataW.trod_bool ht h
  refine ⟨_, ⟨b, rfl⟩, rfl, fun A _ i d u h1 h2 => ?_⟩
  match i, h1, h2 with
  | 0, h1, h2 => cases h1; cases h2; exact .v _ _
end
theorem wf_i64 {n : Int} (h : (Lit.int .i64 n).wf = true) : -9223372036854775808 ≤ n ∧ n ≤ 9223372036854775807 := by
  simp only [Lit.wf, Bool.and_eq_true, decide_eq_true_eq] at h
  exact h
theorem wf_u8 {n : Int} (h : (Lit.int .u8 n).wf = true) : 0 ≤ n ∧ n ≤ 255 := by
  simp only [Lit.wf, Bool.and_eq_true, decide_eq_true_eq] at h
  exact h
theorem wf_u16 {n : Int} (h : (Lit.int .u16 n).wf = true) : 0 ≤ n ∧ n ≤ 65535 := by
  simp only [Lit.wf, Bool.and_eq_true, decide_eq_true_eq] at h
  exact h
theorem reach62 : reachBytes ≤ 4611686018427387904 := by decide
theorem list_of {α : Type} {Q : α → Prop} {g : α → List D} : ∀ {es : List (List D)}, (∀ e, e ∈ es → ∃ a, Q a ∧ e = g a) → ∃ l : List α, (∀ a, a ∈ l → Q a) ∧ es = l.map g
  | [], _ => ⟨[], fun a h => (by cases h), rfl⟩
  | e :: es, h => by
    obtain ⟨a, ha, rfl⟩ := h e (List.mem_cons_self ..)
    obtain ⟨l, hl, rfl⟩ := list_of fun e he => h e (List.mem_cons_of_mem _ he)
    refine ⟨a :: l, fun b hb => ?_, rfl⟩
    rcases List.mem_cons.1 hb with e | e
    · rw [e]; exact ha
    · exact hl b e
/-- A slice whose elements are read as plain data. -/
theorem slice_of {α : Type} {Q : α → Prop} {g : α → List D} {R : List D → Prop} (hR : ∀ e, R e → ∃ a, Q a ∧ e = g a) {es : List (List D)} (h1 : es.length ≤ reachBytes) (h2 : ∀ e, e ∈ es → R e) :
    ∃ l : List α, (l.length ≤ 4611686018427387904 ∧ ∀ a, a ∈ l → Q a) ∧ es = l.map g := by
  obtain ⟨l, h3, rfl⟩ := list_of fun e he => hR e (h2 e he)
  exact ⟨l, ⟨by have := reach62; simp at h1; omega, h3⟩, rfl⟩
end
end Go.DL
