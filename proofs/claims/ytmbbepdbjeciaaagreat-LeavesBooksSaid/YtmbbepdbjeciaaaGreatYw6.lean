/- slices.Chunk. -/
import Derived.Test.YtmbbepdbjeciaaaGreatYw5
set_option maxRecDepth 100000
set_option maxHeartbeats 16000000
namespace Go.DL
open Go.Proofs Go
section
variable {P : Program} {H : List Blk} {s n : Nat} {al : AL} {tx te : TypeId} {x y z u : Operand} {a b c : Int}
/-- Some elements of a slice, with a limit. -/
theorem f_sl3L {α : Type} {f : α → List D} {l : List α} {lo hi sz : Nat} (hx : unfl (evA n al x) = .sl (l.map f)) (hy : evA n al y = wI a) (hz : evA n al z = wI b) (hu : evA n al u = wI c) (ha : a = lo) (hb : b = hi) (hc : c = hi) (h1 : lo < hi) (h2 : hi ≤ l.length)
    (he : elemT P tx = some (te, sz)) (hf : ∀ w, (f w).length = sz) : Val P H s n al (.slice tx x (some y) (some z) (some u)) (.sl (((l.take hi).drop lo).map f)) := by
  subst ha; subst hb; subst hc
  refine ⟨?_⟩
  simp only [stepD, ev_T, sliceD, he, hx, Option.map_some, hy, hz, hu, bndD, intD, Option.isSome_some, reduceCtorEq, and_false, if_false]
  rw [if_neg (by omega), if_pos ⟨by omega, by omega, by omega, by rw [List.length_map]; omega, by rw [List.all_map, List.all_eq_true]; intro x _; simp [hf]⟩]
  simp [keepD, List.map_drop, List.map_take]
/-- A slice of words as an array. -/
theorem f_arrP {len : Nat} {l : List Int} (hx : unfl (evA n al x) = .sl (l.map eI)) (hu : P.underlying tx = some (.array len te)) (h0 : 0 < len) (h1 : len ≤ l.length) : Val P H s n al (.sliceToArrayPointer tx x) (.rp (l.map wI)) := by
  refine ⟨?_⟩
  have e : (l.map eI).flatten = l.map wI := by
    clear hx h1
    induction l with
    | nil => rfl
    | cons x r ih => simp only [List.map_cons, List.flatten_cons, ih]; rfl
  simp only [stepD, ev_T, arrPtrD, hu, hx]
  rw [if_pos ⟨h0, by rw [List.length_map]; exact h1, by rw [List.all_map, List.all_eq_true]; intro x _; rfl⟩, e]
  rfl
theorem f_minL {tys : Array TypeId} (hx : evA n al x = wI a) (hy : evA n al y = wI b) (h : a ≤ b) : Val P H s n al (.call { callee := .builtin .min, args := #[x, y], argTypes := tys }) (wI a) := by
  have h1 := f_min (P := P) (H := H) (s := s) hx hy (tys := tys)
  rwa [Int.min_eq_left h] at h1
end
def cseq (w : List Int) (n : Nat) : List (List D) := (List.range n).map fun i => [D.sl (((w.take (i * 7 + 7)).drop (i * 7)).map eI)]
theorem cseq_len (w : List Int) (n : Nat) : (cseq w n).length = n := by simp [cseq]
theorem cseq_get (w : List Int) {n i : Nat} (h : i < n) : (cseq w n)[i]? = some [D.sl (((w.take (i * 7 + 7)).drop (i * 7)).map eI)] := by
  simp only [cseq, List.getElem?_map, List.getElem?_range h, Option.map_some]
theorem c_chunk {H : List Blk} {b k n c : Nat} : CallSp Tryz.prog 90 [.ms b k n c, wI 7] H fun d H' => d = .fn (.func 141) [] [.mp H.length 0 0, .mp (H.length + 1) 0 0] ∧ H' = H ++ [.live 1 [[.ms b k n c]], .live 1 [[wI 7]]] := by
  refine CallSp.vt pok Tryz.f90 (n := 9) (rs := [.tmp 4]) rfl rfl rfl rfl rfl rfl rfl fun g => ?_
  have hb7 : (H ++ [.live 1 [[.ms b k n c]], .live 1 [[wI 7]]])[H.length + 1]? = some (.live 1 [[wI 7]]) := hg_at (t := 1) rfl rfl
  repeat (any_goals (first | (apply w_any; (first | refine RT.nil ?_ | refine RT.asA ?_ | refine RT.v (f_ldO rfl hb7 rfl rfl rfl) ?_ | refine RT.bnA ?_ | (apply w_bx; (first | refine RT.new (s := H.length + 1) (by simp) (f_boxV rfl rfl rfl) (H' := H ++ [.live 1 [[.ms b k n c]], .live 1 [[wI 7]]]) (by rw [List.append_assoc]; rfl) ?_ | refine RT.nwA ?_)) | refine RT.msA ?_)) | (apply v_any; (first | refine VT.seq rfl ?_ | refine VT.reg rfl ?_ | refine VT.condF rfl rfl ?_ | refine VT.skip rfl ?_ | refine VT.ret rfl ?_)) | (with_reducible refine d_kEr ?_; refine kEr rfl ?_)))
  exact ⟨rfl, rfl⟩
theorem i_chunk (w : List Int) (n : Nat) (hw : w.length = 7 * n) (hn : n ≤ 1000) : Iter Tryz.prog 141 [] [.rp [.sl (w.map eI)], .rp [wI 7]] (cseq w n) := by
  refine Iter.vt pok Tryz.f141 (n := 31) rfl rfl rfl rfl (fun _ => rfl) rfl fun y => ?_
  repeat (any_goals (first | (apply w_any; (first | refine RT.nil ?_ | refine RT.asA ?_)) | (apply v_any; (first | refine VT.seq rfl ?_ | refine VT.reg rfl ?_ | refine VT.block rfl ?_))))
  refine VT.loop (fun j a H g' => ∃ i : Nat, j = n - i ∧ i ≤ n ∧ a = [(0, .fn (.yield y) [] []), (1, .rp [.sl (w.map eI)]), (2, .rp [wI 7]), (4, wI (i * 7 : Nat))] ∧ H = [] ∧ g' = (i, false)) rfl
    ⟨_, _, _, ⟨0, rfl, Nat.zero_le _, rfl, rfl, rfl⟩, fgA⟩ ?_
  rintro j a H g' ⟨i, rfl, hi, rfl, rfl, rfl⟩
  by_cases hlt : i < n
  · have hlen : (w.drop (i * 7)).length = 7 * n - i * 7 := by rw [List.length_drop, hw]
    repeat (any_goals (first | (apply w_any; (first | refine RT.nil ?_ | refine RT.mvA ?_ | refine RT.asA ?_ | refine RT.ldA ?_ | refine RT.bnA ?_ | refine RT.clA ?_ | refine RT.unA ?_ | refine RT.v (f_sl3L (lo := i * 7) (hi := i * 7 + 7) rfl rfl rfl rfl rfl (by omega) (by omega) (by omega) (by omega) rfl (fun _ => rfl)) ?_ | refine RT.yield rfl ⟨rfl, i, rfl, cseq_get w hlt, ?_, ?_⟩)) | (apply v_any; (first | refine VT.seq rfl ?_ | refine VT.reg rfl ?_ | refine VT.condT rfl rfl ?_ | refine VT.condF rfl rfl ?_ | refine VT.block rfl ?_ | refine VT.skip rfl ?_ | refine VT.ret rfl ?_ | refine VT.draw [(0, []), (0, []), (0, []), (0, []), (0, []), (0, []), (0, [])] 1 mixedOk rfl (by decide +kernel) (by decide +kernel) (by decide +kernel) (by first | (simp only [nrm]; rfl) | (simp only [nrm, Nat.reduceAdd, Nat.zero_add]; rfl) | rfl) (by first | (simp only [nrm]; rfl) | (simp only [nrm, Nat.reduceAdd, Nat.zero_add]; rfl) | rfl) ?_ | refine VT.condY rfl rfl (by first | assumption | omega) ?_)) | (apply q_any; (first | refine PT.done (by first | (simp only [nrm]; rfl) | (simp only [nrm, Nat.reduceAdd, Nat.zero_add]; rfl) | rfl) ?_ | refine PT.mvA ?_ | refine PT.asA ?_ | refine PT.ldA ?_ | (apply q_cl; (first | (refine p_call ?_; refine PT.v (f_minL rfl rfl (by omega)) ?_) | refine PT.clA ?_)) | refine PT.msA ?_)) | (with_reducible first | refine kSr ?_ | refine kBr ?_ | refine kLn ?_ | refine kLr ?_) | (with_reducible refine d_kEr ?_; refine kEr rfl ?_)))
    · exact ⟨n - (i + 1), by omega, _, _, ⟨i + 1, rfl, hlt, rfl, rfl, rfl⟩, fgA⟩
    · exact .inr rfl
  · repeat (any_goals (first | (apply w_any; (first | refine RT.nil ?_ | refine RT.mvA ?_ | refine RT.ldA ?_ | refine RT.bnA ?_ | refine RT.clA ?_)) | (apply v_any; (first | refine VT.seq rfl ?_ | refine VT.reg rfl ?_ | refine VT.exit rfl ?_ | refine VT.condN rfl rfl (by first | assumption | omega) ?_)) | (with_reducible first | refine kSe ?_ | refine kBe ?_ | refine kLe ?_) | (with_reducible refine d_kEn ?_; refine kEn rfl ?_)))
    exact .inl (by rw [cseq_len]; exact congrArg (·, false) (by omega))
end Go.DL
