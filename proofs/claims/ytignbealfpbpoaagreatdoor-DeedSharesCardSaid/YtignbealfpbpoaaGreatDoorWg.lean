/- strings.Fields of the two constants; tables of contracts at given arguments, with strings. -/
import Derived.Test.YtignbealfpbpoaaGreatDoorWf
set_option linter.all false
set_option maxRecDepth 100000
set_option maxHeartbeats 16000000
namespace Go.DL
open Go.Proofs Go

/-- A string of these bytes. -/
def bl (l : List UInt8) : D := .v (.string ⟨l.toArray⟩)
def lookW : List (FuncId × List D × D) → FuncId → List D → Option D
  | [], _, _ => none
  | e :: l, g, xs => if Nat.beq e.1 g = true then (if eqLs (eqDn 8) e.2.1 xs = true then some e.2.2 else lookW l g xs) else lookW l g xs
theorem lookW_ok {P : Program} : ∀ {l : List (FuncId × List D × D)} {g : FuncId} {xs : List D} {d : D}, (∀ e, e ∈ l → Maps P e.1 e.2.1 e.2.2) → lookW l g xs = some d → Maps P g xs d
  | [], _, _, _, _, h => by cases h
  | e :: l, g, xs, d, hl, h => by
    unfold lookW at h
    split at h
    · rename_i hc
      split at h
      · rename_i hd
        cases h
        have h1 := hl e (List.mem_cons_self ..)
        rw [Nat.eq_of_beq_eq_true hc, eqLs_ok (eqDn_ok 8) hd] at h1
        exact h1
      · exact lookW_ok (fun e he => hl e (List.mem_cons_of_mem _ he)) h
    · exact lookW_ok (fun e he => hl e (List.mem_cons_of_mem _ he)) h
/-- The program, with what is known at given arguments, and what is run in a memory of its own. -/
noncomputable def B1 (l : List (FuncId × List D × D)) (own : FuncId → Bool) : Tbl :=
  { P := Tryz.prog
    T := lookW l
    own := fun g _ => own g
    S := fun g xs H => if Nat.beq g 178 = true then cloneS xs H else if Nat.beq g 102 = true then cloneS xs H else none }
theorem B1_ok {l : List (FuncId × List D × D)} {own : FuncId → Bool} (hl : ∀ e, e ∈ l → Maps Tryz.prog e.1 e.2.1 e.2.2) : (B1 l own).Ok where
  map := fun _ _ _ h => lookW_ok hl h
  it := B0_ok.it
  mixed := B0_ok.mixed
  names := B0_ok.names
  cat := B0_ok.cat
  sp := fun g xs H d H' h => by
    simp only [B1] at h
    split at h
    · rename_i hg
      exact cloneS_ok (.inl (Nat.eq_of_beq_eq_true hg)) h
    · split at h
      · rename_i hg
        exact cloneS_ok (.inr (Nat.eq_of_beq_eq_true hg)) h
      · cases h

theorem m_fieldsR : Maps Tryz.prog 136 [bl [100, 97, 121, 32, 107, 110, 111, 119, 110, 32, 102, 111, 117, 110, 100, 32, 102, 111, 114, 32, 115, 101, 108, 108, 32, 111, 102, 32, 116, 111, 32, 100, 105, 118, 105, 100, 101, 32, 97, 109, 111, 110, 103, 32, 108, 101, 110, 100, 32, 117, 110, 116, 105, 108, 32, 102, 111, 114, 102, 101, 105, 116, 32, 114, 101, 100, 101, 101, 109, 32, 99, 111, 109, 109, 111, 110]] (.fl [[bl [100, 97, 121]], [bl [107, 110, 111, 119, 110]], [bl [102, 111, 117, 110, 100]], [bl [102, 111, 114]], [bl [115, 101, 108, 108]], [bl [111, 102]], [bl [116, 111]], [bl [100, 105, 118, 105, 100, 101]], [bl [97, 109, 111, 110, 103]], [bl [108, 101, 110, 100]], [bl [117, 110, 116, 105, 108]], [bl [102, 111, 114, 102, 101, 105, 116]], [bl [114, 101, 100, 101, 101, 109]], [bl [99, 111, 109, 109, 111, 110]]]) :=
  (run_ok B0_ok 300).own (by kernel_rfl)
theorem m_fieldsK : Maps Tryz.prog 136 [bl [102, 111, 117, 110, 100, 32, 115, 101, 108, 108, 32, 100, 105, 118, 105, 100, 101, 32, 108, 101, 110, 100, 32, 102, 111, 114, 102, 101, 105, 116, 32, 114, 101, 100, 101, 101, 109]] (.fl [[bl [102, 111, 117, 110, 100]], [bl [115, 101, 108, 108]], [bl [100, 105, 118, 105, 100, 101]], [bl [108, 101, 110, 100]], [bl [102, 111, 114, 102, 101, 105, 116]], [bl [114, 101, 100, 101, 101, 109]]]) :=
  (run_ok B0_ok 300).own (by kernel_rfl)
def tabF : List (FuncId × List D × D) :=
  [(136, [bl [100, 97, 121, 32, 107, 110, 111, 119, 110, 32, 102, 111, 117, 110, 100, 32, 102, 111, 114, 32, 115, 101, 108, 108, 32, 111, 102, 32, 116, 111, 32, 100, 105, 118, 105, 100, 101, 32, 97, 109, 111, 110, 103, 32, 108, 101, 110, 100, 32, 117, 110, 116, 105, 108, 32, 102, 111, 114, 102, 101, 105, 116, 32, 114, 101, 100, 101, 101, 109, 32, 99, 111, 109, 109, 111, 110]], .fl [[bl [100, 97, 121]], [bl [107, 110, 111, 119, 110]], [bl [102, 111, 117, 110, 100]], [bl [102, 111, 114]], [bl [115, 101, 108, 108]], [bl [111, 102]], [bl [116, 111]], [bl [100, 105, 118, 105, 100, 101]], [bl [97, 109, 111, 110, 103]], [bl [108, 101, 110, 100]], [bl [117, 110, 116, 105, 108]], [bl [102, 111, 114, 102, 101, 105, 116]], [bl [114, 101, 100, 101, 101, 109]], [bl [99, 111, 109, 109, 111, 110]]]),
   (136, [bl [102, 111, 117, 110, 100, 32, 115, 101, 108, 108, 32, 100, 105, 118, 105, 100, 101, 32, 108, 101, 110, 100, 32, 102, 111, 114, 102, 101, 105, 116, 32, 114, 101, 100, 101, 101, 109]], .fl [[bl [102, 111, 117, 110, 100]], [bl [115, 101, 108, 108]], [bl [100, 105, 118, 105, 100, 101]], [bl [108, 101, 110, 100]], [bl [102, 111, 114, 102, 101, 105, 116]], [bl [114, 101, 100, 101, 101, 109]]])]
theorem tabF_ok : ∀ e, e ∈ tabF → Maps Tryz.prog e.1 e.2.1 e.2.2 := by
  intro e he
  simp only [tabF, List.mem_cons, List.not_mem_nil, or_false] at he
  rcases he with rfl | rfl
  · exact m_fieldsR
  · exact m_fieldsK
end Go.DL
