/- Sorted lines, and their digest. -/
import Derived.Test.YtmbbepdbjeciaaaGreatYu2
set_option maxRecDepth 100000
set_option maxHeartbeats 16000000
namespace Go.DL
open Go.Proofs Go
/-- slices.Clone of lines. -/
theorem c_cloneL {H : List Blk} {x : D} {o : List Line} (hx : x = .nil ∨ (∃ es, x = .sl es) ∨ (∃ es, x = .fl es) ∨ ∃ b k m c, x = .ms b k m c) (he : elemsD H x = some (o.map eLine)) (hl : o.length ≤ 1000000) :
    CallSp Tryz.prog 146 [x] H fun d H' => d = .ms (H.length + 1) 0 o.length o.length ∧ H' = H ++ [.dead, .live 4 (o.map eLine)] := by
  refine CallSp.vt pok Tryz.f146 (n := 8) (rs := [.tmp 2]) rfl rfl rfl rfl rfl rfl rfl fun g => ?_
  repeat (any_goals (first | (apply w_any; (first | refine RT.nil ?_ | refine RT.v (f_mv (d := x) rfl) ?_ | refine RT.asA ?_ | refine RT.nilEq rfl hx (fun b hb => ?_))) | (apply v_any; (first | (refine VT.retP (i := 2) 4 rfl rfl ?_) | refine VT.seq rfl ?_ | refine VT.reg rfl ?_ | refine VT.skip rfl ?_ | refine VT.cond rfl rfl (fun hc => ?_) (fun hc => ?_))) | with_reducible (refine kSr ?_) | (with_reducible refine d_kEr ?_; refine kEr rfl ?_)))
  · have ho : o = [] := by simpa using hb hc _ he
    subst ho
    exact ⟨rfl, rfl⟩
  · have he' : elemsD (H ++ [.live 4 []]) x = some (o.map eLine) := by
      rcases hx with rfl | ⟨es, rfl⟩ | ⟨es, rfl⟩ | ⟨b, k, m, c, rfl⟩
      · exact he
      · exact he
      · exact he
      · simp only [elemsD] at he ⊢
        split at he
        · rename_i sz es hb'
          rw [List.getElem?_append_left (List.getElem?_eq_some_iff.1 hb').1, hb']; exact he
        · cases he
    have hap : appendD Tryz.prog (H ++ [.live 4 []]) 55 55 (.ms H.length 0 0 0) x = some (some H.length, 4, o.map eLine) := by
      have e1 : elemsD (H ++ [.live 4 []]) (.ms H.length 0 0 0) = some [] := by simp [elemsD]
      have e2 : elemT Tryz.prog 55 = some (72, 4) := rfl
      have e3 : Tryz.prog.underlying 55 = some (.slice 72) := rfl
      have e4 : Tryz.prog.bytesOf 72 = 32 := rfl
      have e5 : zeroD Tryz.prog 72 = some [wI 0, wI 0, wI 0, wI 0] := rfl
      simp only [appendD, addedD, e2, e3, e1, he']
      rw [if_pos]
      · simp [Blk.hasSz]
      · refine ⟨by decide, by rw [e5]; rfl, rfl, by simp [eLine], List.all_eq_true.2 fun e he => by obtain ⟨a, _, rfl⟩ := List.mem_map.1 he; rfl, ?_, ?_⟩
        · rw [e4]; simp; omega
        · simp; omega
    repeat (any_goals (first | (apply w_any; (first | refine RT.nil ?_ | refine RT.v (f_mv (d := x) rfl) ?_ | refine RT.asA ?_ | refine RT.ap (s := H.length + 1) (m := o.length) (H' := H ++ [.dead, .live 4 (o.map eLine)]) (by simp) (f_app rfl rfl hap (by simp)) (by simp [killO]) ?_ | refine RT.new (by first | (simp only [nrm]; rfl) | (simp only [nrm, Nat.reduceAdd, Nat.zero_add]; rfl) | rfl) (f_bsl (ps := []) (sz := 4) (es := []) rfl) rfl ?_)) | refine VT.ret rfl ?_ | (with_reducible refine d_kEr ?_; refine kEr rfl ?_)))
    exact ⟨rfl, rfl⟩
end Go.DL
