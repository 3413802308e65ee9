/- Sorted: lines and words sorted, at whatever length. -/
import Derived.Test.YtmbbepdbjeciaaaGreatYu4
import Derived.Test.YtmbbepdbjeciaaaGreatYv2
import Derived.Test.YtmbbepdbjeciaaaGreatE6
import Derived.Ground.SlgmProg
set_option maxRecDepth 100000
set_option maxHeartbeats 16000000
namespace Go.Proofs
open Go.Shelf
shelf_lay_g SlLaysM.n5 Slgm 5 at Tryz 133 as Tryz.sortInt
end Go.Proofs
namespace Go.DL
open Go.Proofs Go
theorem c_sortI {H : List Blk} {b cap : Nat} {l : List Int} (hb : H[b]? = some (.live 1 (l.map eI))) (hl : l.length ≤ 1000000) :
    CallSp Tryz.prog 133 [.ms b 0 l.length cap] H fun d H' => d = .tup [] ∧ H' = H.set b (.live 1 ((l.mergeSort fun x y => decide (x ≤ y)).map eI)) :=
  sortInts_ok Tryz.sortInt hb (by omega)
/-- Lines, sorted, over own blocks. -/
theorem c_sortedL {H : List Blk} {x : D} {l : List Line} (hx : x = .nil ∨ (∃ es, x = .sl es) ∨ (∃ es, x = .fl es) ∨ ∃ b k m c, x = .ms b k m c) (he : elemsD H x = some (l.map eLine)) (hl : l.length ≤ 1000000) :
    CallSp Tryz.prog 99 [x] H fun d H' => d = .ms (H.length + 1) 0 l.length l.length ∧ ∃ y, LSrt y ∧ y.Perm l ∧ H' = H ++ [.dead, .live 4 (y.map eLine)] := by
  refine CallSp.vt pok Tryz.f99 (n := 9) (rs := [.tmp 2]) rfl rfl rfl rfl rfl rfl rfl fun g => ?_
  have hq : (H ++ [.dead, .live 4 (l.map eLine)])[H.length + 1]? = some (.live 4 (l.map eLine)) := by
    rw [List.getElem?_append_right (by omega), Nat.add_sub_cancel_left]; rfl
  repeat (any_goals (first | (apply w_any; (first | refine RT.nil ?_ | (apply w_mv; (first | refine RT.v (f_mv (d := x) rfl) ?_ | refine RT.mvA ?_)) | refine RT.asA ?_ | (apply w_cl; (first | (refine d_call ?_; refine RT.callS rfl (c_cloneL hx he hl) rfl (d2 := .ms (H.length + 1) 0 l.length l.length) rfl (H2 := H ++ [.dead, .live 4 (l.map eLine)]) rfl ?_) | (refine d_call ?_; refine RT.callG rfl ((c_sortLn (cap := l.length) hq hl).mono ?_)))))) | (apply v_any; (first | refine VT.seq rfl ?_ | refine VT.reg rfl ?_))))
  rintro d H4 ⟨rfl, y, hy, hp, rfl⟩
  have e : (H ++ [Blk.dead, .live 4 (l.map eLine)]).set (H.length + 1) (.live 4 (y.map eLine)) = H ++ [.dead, .live 4 (y.map eLine)] := by
    rw [List.set_append_right _ _ (by omega), Nat.add_sub_cancel_left]; rfl
  rw [e]
  change RT _ _ _ _ ((7, D.tup []) :: _) _ _ _
  repeat (any_goals (first | (apply w_any; (first | refine RT.nil ?_ | refine RT.mvA ?_ | refine RT.asA ?_)) | (apply v_any; (first | refine VT.seq rfl ?_ | refine VT.reg rfl ?_ | refine VT.ret rfl ?_)) | (with_reducible refine d_kEr ?_; refine kEr rfl ?_)))
  exact ⟨rfl, y, hy, hp, rfl⟩
end Go.DL
