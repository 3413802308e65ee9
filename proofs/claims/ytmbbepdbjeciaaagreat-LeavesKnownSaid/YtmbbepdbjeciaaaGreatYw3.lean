/- Write of both programs. -/
import Derived.Test.YtmbbepdbjeciaaaGreatYw1
set_option maxRecDepth 100000
set_option maxHeartbeats 16000000
namespace Go.DL
open Go.Proofs Go
theorem RQ.other {H : List Blk} {b p : Nat} {qs : List (Nat × List Int)} (h : RQ H b qs) (hb : p ≠ b) (hp : ∀ q, q ∈ qs → p ≠ q.1) (x : Blk) : RQ (H.set p x) b qs :=
  ⟨hg_ne h.rows hb, fun q hq => ⟨hg_ne (h.row q hq).1 (hp q hq), (h.row q hq).2⟩⟩
theorem RQ.app {H : List Blk} {b : Nat} {qs : List (Nat × List Int)} (h : RQ H b qs) (T : List Blk) : RQ (H ++ T) b qs :=
  ⟨hg_app T h.rows, fun q hq => ⟨hg_app T (h.row q hq).1, (h.row q hq).2⟩⟩
theorem resA_cell1 {P : Program} {n b x sz m : Nat} {t : TypeId} {a : AL} {H : List Blk} {e : List D} (h1 : lkN n a b = .mp x 0 0) (h2 : H[x]? = some (.live sz [e])) (ht : isAggD P t = some true) (hs : tsz P t = some m) (hn : e.length = m) : resA P [.cell b t] n a H = some (.agg e) := by
  subst hn
  have h3 : loadD P H t (.mp x 0 0) = some (.agg e) := by
    simp [loadD, peek, takeD, ht, hs, h2]
  simp [resA, resAL, resA1, h1, h3]
end Go.DL
