/- Sorting of lines and of leaves, at whatever length. -/
import Derived.Test.YtmbbepdbjeciaaaGreatYu2
import Derived.Test.YtmbbepdbjeciaaaGreatZv1
import Derived.Test.YtmbbepdbjeciaaaGreatE6
import Derived.Ground.SlsfProg
import Derived.Shelf.SlGeneric
set_option maxRecDepth 100000
set_option maxHeartbeats 16000000
namespace Go.Proofs
open Go.Shelf
shelf_lay_g SlLaysF0.n6 Slsf 6 at Tryz 147 as Tryz.sortLn
shelf_lay_g SlLaysF0.n6 Slsf 6 at Tryz 155 as Tryz.sortLf
end Go.Proofs
namespace Go.DL
open Go.Proofs Go
theorem swoL : Go.Sort.SWO (ltOf cmpL) where
  irrefl x := decide_eq_false (by rw [cmpL_lt]; exact fun h => h (.inr ⟨rfl, Int.le_refl _⟩))
  trans x y z h1 h2 := by simp only [ltOf, decide_eq_true_eq, cmpL_lt, LLe] at *; omega
  ntrans x y z h1 h2 := by simp only [ltOf, decide_eq_false_iff_not, cmpL_lt, LLe] at *; omega
theorem c_sortLn {H : List Blk} {b cap : Nat} {l : List Line} (hb : H[b]? = some (.live 4 (l.map eLine))) (hl : l.length ≤ 1000000) :
    CallSp Tryz.prog 147 [.ms b 0 l.length cap, fnL] H fun d H' => d = .tup [] ∧ ∃ y, LSrt y ∧ y.Perm l ∧ H' = H.set b (.live 4 (y.map eLine)) := by
  have h := sortFunc_exact Tryz.sortLn (sz := 4) (cap := cap) rfl rfl eLine cmpL swoL (g := 148) m_cmp hb (by omega) (fun _ => rfl) (fun x d h => by
    simp only [eLine, List.mem_cons, List.not_mem_nil, or_false] at h
    rcases h with h | h | h | h <;> exact ⟨_, h⟩) (fun _ => rfl)
  refine CallSp.mono h ?_
  rintro d H' ⟨rfl, y, ⟨hp, hs⟩, rfl⟩
  refine ⟨rfl, y, hs.imp fun {a b} h => ?_, hp, rfl⟩
  rw [cmpL_lt, LLe] at h
  unfold LLe; omega
/-! ### leaves -/
end Go.DL
