/- The chapter's example: deeds, tokens; tables of contracts. -/
import Derived.Test.YtignbealfpbpoaaGreatDoorWg
import Derived.Test.YtignbealfpbpoaaGreatDoorWk
set_option linter.all false
set_option maxRecDepth 100000
set_option maxHeartbeats 16000000
namespace Go.DL
open Go.Proofs Go
def n_upper : D := bl [117, 112, 112, 101, 114]
def n_ann : D := bl [97, 110, 110]
def n_ben : D := bl [98, 101, 110]
def n_carl : D := bl [99, 97, 114, 108]
def n_dan : D := bl [100, 97, 110]
def n_common : D := bl [99, 111, 109, 109, 111, 110]
def n_0 : D := bl []
def src : D := bl [100, 97, 121, 32, 49, 32, 102, 111, 117, 110, 100, 32, 117, 112, 112, 101, 114, 32, 102, 111, 114, 32, 97, 110, 110, 59, 10, 100, 97, 121, 32, 53, 32, 100, 105, 118, 105, 100, 101, 32, 117, 112, 112, 101, 114, 32, 111, 102, 32, 97, 110, 110, 32, 97, 109, 111, 110, 103, 32, 98, 101, 110, 32, 50, 44, 32, 99, 97, 114, 108, 32, 49, 59, 10, 100, 97, 121, 32, 55, 32, 108, 101, 110, 100, 32, 117, 112, 112, 101, 114, 32, 111, 102, 32, 98, 101, 110, 32, 116, 111, 32, 100, 97, 110, 32, 117, 110, 116, 105, 108, 32, 50, 48, 59, 10, 100, 97, 121, 32, 57, 32, 107, 110, 111, 119, 110, 32, 49, 50, 32, 115, 101, 108, 108, 32, 117, 112, 112, 101, 114, 32, 111, 102, 32, 99, 97, 114, 108, 32, 116, 111, 32, 98, 101, 110, 59, 10, 100, 97, 121, 32, 49, 48, 32, 102, 111, 114, 102, 101, 105, 116, 32, 117, 112, 112, 101, 114, 32, 111, 102, 32, 98, 101, 110, 59, 10, 100, 97, 121, 32, 51, 48, 32, 114, 101, 100, 101, 101, 109, 32, 117, 112, 112, 101, 114, 32, 111, 102, 32, 98, 101, 110, 59, 10]
def toks : List (List D) := [[.agg [wI 1, bl [100, 97, 121], wI 0]], [.agg [wI 2, bl [49], wI 4]], [.agg [wI 1, bl [102, 111, 117, 110, 100], wI 6]], [.agg [wI 1, bl [117, 112, 112, 101, 114], wI 12]], [.agg [wI 1, bl [102, 111, 114], wI 18]], [.agg [wI 1, bl [97, 110, 110], wI 22]], [.agg [wI 3, bl [59], wI 25]], [.agg [wI 1, bl [100, 97, 121], wI 27]], [.agg [wI 2, bl [53], wI 31]], [.agg [wI 1, bl [100, 105, 118, 105, 100, 101], wI 33]], [.agg [wI 1, bl [117, 112, 112, 101, 114], wI 40]], [.agg [wI 1, bl [111, 102], wI 46]], [.agg [wI 1, bl [97, 110, 110], wI 49]], [.agg [wI 1, bl [97, 109, 111, 110, 103], wI 53]], [.agg [wI 1, bl [98, 101, 110], wI 59]], [.agg [wI 2, bl [50], wI 63]], [.agg [wI 3, bl [44], wI 64]], [.agg [wI 1, bl [99, 97, 114, 108], wI 66]], [.agg [wI 2, bl [49], wI 71]], [.agg [wI 3, bl [59], wI 72]], [.agg [wI 1, bl [100, 97, 121], wI 74]], [.agg [wI 2, bl [55], wI 78]], [.agg [wI 1, bl [108, 101, 110, 100], wI 80]], [.agg [wI 1, bl [117, 112, 112, 101, 114], wI 85]], [.agg [wI 1, bl [111, 102], wI 91]], [.agg [wI 1, bl [98, 101, 110], wI 94]], [.agg [wI 1, bl [116, 111], wI 98]], [.agg [wI 1, bl [100, 97, 110], wI 101]], [.agg [wI 1, bl [117, 110, 116, 105, 108], wI 105]], [.agg [wI 2, bl [50, 48], wI 111]], [.agg [wI 3, bl [59], wI 113]], [.agg [wI 1, bl [100, 97, 121], wI 115]], [.agg [wI 2, bl [57], wI 119]], [.agg [wI 1, bl [107, 110, 111, 119, 110], wI 121]], [.agg [wI 2, bl [49, 50], wI 127]], [.agg [wI 1, bl [115, 101, 108, 108], wI 130]], [.agg [wI 1, bl [117, 112, 112, 101, 114], wI 135]], [.agg [wI 1, bl [111, 102], wI 141]], [.agg [wI 1, bl [99, 97, 114, 108], wI 144]], [.agg [wI 1, bl [116, 111], wI 149]], [.agg [wI 1, bl [98, 101, 110], wI 152]], [.agg [wI 3, bl [59], wI 155]], [.agg [wI 1, bl [100, 97, 121], wI 157]], [.agg [wI 2, bl [49, 48], wI 161]], [.agg [wI 1, bl [102, 111, 114, 102, 101, 105, 116], wI 164]], [.agg [wI 1, bl [117, 112, 112, 101, 114], wI 172]], [.agg [wI 1, bl [111, 102], wI 178]], [.agg [wI 1, bl [98, 101, 110], wI 181]], [.agg [wI 3, bl [59], wI 184]], [.agg [wI 1, bl [100, 97, 121], wI 186]], [.agg [wI 2, bl [51, 48], wI 190]], [.agg [wI 1, bl [114, 101, 100, 101, 101, 109], wI 193]], [.agg [wI 1, bl [117, 112, 112, 101, 114], wI 200]], [.agg [wI 1, bl [111, 102], wI 206]], [.agg [wI 1, bl [98, 101, 110], wI 209]], [.agg [wI 3, bl [59], wI 212]]]
def c6 : List (List D) := [[wI 1, wI 1, wI 1, n_upper, n_0, n_ann, wI 0, .sl []], [wI 5, wI 5, wI 3, n_upper, n_ann, n_0, wI 0, .sl [[n_ben, wI 2], [n_carl, wI 1]]], [wI 7, wI 7, wI 4, n_upper, n_ben, n_dan, wI 20, .sl []], [wI 9, wI 12, wI 2, n_upper, n_carl, n_ben, wI 0, .sl []], [wI 10, wI 10, wI 5, n_upper, n_ben, n_0, wI 0, .sl []], [wI 30, wI 30, wI 6, n_upper, n_ben, n_0, wI 0, .sl []]]
def c5_0 : List (List D) := [[wI 5, wI 5, wI 3, n_upper, n_ann, n_0, wI 0, .sl [[n_ben, wI 2], [n_carl, wI 1]]], [wI 7, wI 7, wI 4, n_upper, n_ben, n_dan, wI 20, .sl []], [wI 9, wI 12, wI 2, n_upper, n_carl, n_ben, wI 0, .sl []], [wI 10, wI 10, wI 5, n_upper, n_ben, n_0, wI 0, .sl []], [wI 30, wI 30, wI 6, n_upper, n_ben, n_0, wI 0, .sl []]]
def c5_1 : List (List D) := [[wI 1, wI 1, wI 1, n_upper, n_0, n_ann, wI 0, .sl []], [wI 7, wI 7, wI 4, n_upper, n_ben, n_dan, wI 20, .sl []], [wI 9, wI 12, wI 2, n_upper, n_carl, n_ben, wI 0, .sl []], [wI 10, wI 10, wI 5, n_upper, n_ben, n_0, wI 0, .sl []], [wI 30, wI 30, wI 6, n_upper, n_ben, n_0, wI 0, .sl []]]
def c5_2 : List (List D) := [[wI 1, wI 1, wI 1, n_upper, n_0, n_ann, wI 0, .sl []], [wI 5, wI 5, wI 3, n_upper, n_ann, n_0, wI 0, .sl [[n_ben, wI 2], [n_carl, wI 1]]], [wI 9, wI 12, wI 2, n_upper, n_carl, n_ben, wI 0, .sl []], [wI 10, wI 10, wI 5, n_upper, n_ben, n_0, wI 0, .sl []], [wI 30, wI 30, wI 6, n_upper, n_ben, n_0, wI 0, .sl []]]
def c5_3 : List (List D) := [[wI 1, wI 1, wI 1, n_upper, n_0, n_ann, wI 0, .sl []], [wI 5, wI 5, wI 3, n_upper, n_ann, n_0, wI 0, .sl [[n_ben, wI 2], [n_carl, wI 1]]], [wI 7, wI 7, wI 4, n_upper, n_ben, n_dan, wI 20, .sl []], [wI 10, wI 10, wI 5, n_upper, n_ben, n_0, wI 0, .sl []], [wI 30, wI 30, wI 6, n_upper, n_ben, n_0, wI 0, .sl []]]
def c5_4 : List (List D) := [[wI 1, wI 1, wI 1, n_upper, n_0, n_ann, wI 0, .sl []], [wI 5, wI 5, wI 3, n_upper, n_ann, n_0, wI 0, .sl [[n_ben, wI 2], [n_carl, wI 1]]], [wI 7, wI 7, wI 4, n_upper, n_ben, n_dan, wI 20, .sl []], [wI 9, wI 12, wI 2, n_upper, n_carl, n_ben, wI 0, .sl []], [wI 30, wI 30, wI 6, n_upper, n_ben, n_0, wI 0, .sl []]]
def c5_5 : List (List D) := [[wI 1, wI 1, wI 1, n_upper, n_0, n_ann, wI 0, .sl []], [wI 5, wI 5, wI 3, n_upper, n_ann, n_0, wI 0, .sl [[n_ben, wI 2], [n_carl, wI 1]]], [wI 7, wI 7, wI 4, n_upper, n_ben, n_dan, wI 20, .sl []], [wI 9, wI 12, wI 2, n_upper, n_carl, n_ben, wI 0, .sl []], [wI 10, wI 10, wI 5, n_upper, n_ben, n_0, wI 0, .sl []]]
/-- What is run in a memory of its own. -/
def ownA : FuncId → Bool := fun g => [136, 155, 26, 100, 137, 22, 38, 54, 48, 28, 30, 33, 35, 21, 69].any (Nat.beq g)
noncomputable def F2 : Fns := run (B1 tabF fun g => Nat.beq g 136 || Nat.beq g 155) 400
/-- The contracts over own blocks. -/
noncomputable def Sg : FuncId → List D → List Blk → Option (D × List Blk) := fun g xs H =>
  if Nat.beq g 178 = true then cloneS xs H else if Nat.beq g 102 = true then cloneS xs H else if Nat.beq g 119 = true then sortS xs H
  else if Nat.beq g 72 = true then bodyDR (B1 tabF fun g => Nat.beq g 136 || Nat.beq g 155) F2 143 72 xs H else none
theorem Sg_ok {g : FuncId} {xs : List D} {H : List Blk} {d : D} {H' : List Blk} (h : Sg g xs H = some (d, H')) : CallSp Tryz.prog g xs H fun d' H'' => d' = d ∧ H'' = H' := by
  unfold Sg at h
  split at h
  · rename_i hg; exact cloneS_ok (.inl (Nat.eq_of_beq_eq_true hg)) h
  split at h
  · rename_i hg; exact cloneS_ok (.inr (Nat.eq_of_beq_eq_true hg)) h
  split at h
  · rename_i hg; rw [Nat.eq_of_beq_eq_true hg]; exact sortS_ok h
  split at h
  · rename_i hg
    rw [Nat.eq_of_beq_eq_true hg]
    exact bodyDR_ok (run_ok (B1_ok tabF_ok) 400) (B1_ok tabF_ok) quiet143 h
  · cases h
/-- The program, with what is known at given arguments. -/
noncomputable def Bg (l : List (FuncId × List D × D)) : Tbl :=
  { P := Tryz.prog, T := lookW l, own := fun g _ => ownA g, S := Sg }
theorem Bg_ok {l : List (FuncId × List D × D)} (hl : ∀ e, e ∈ l → Maps Tryz.prog e.1 e.2.1 e.2.2) : (Bg l).Ok where
  map := fun _ _ _ h => lookW_ok hl h
  it := fun _ _ _ _ h => by cases h
  mixed := B0_ok.mixed
  names := B0_ok.names
  cat := fun _ _ _ _ _ _ h => by cases h
  sp := fun _ _ _ _ _ h => Sg_ok h
theorem m_chk : Maps Tryz.prog 26 [.sl c6] (wI 0) := (run_ok (Bg_ok tabF_ok) 400).own (by kernel_rfl)
end Go.DL
