/- The functions of leaves/words.go and their likes in the reference: values, products, polynomials through points. -/
import Derived.Test.YtmbbepdbjeciaaaGreatZa
set_option maxRecDepth 100000
set_option maxHeartbeats 16000000
namespace Go.DL
open Go.Proofs Go

def allW (l : List Int) : Prop := ∀ x, x ∈ l → W x
theorem allW.get {l : List Int} (h : allW l) {k : Nat} (hk : k < l.length) : 0 ≤ l[k] ∧ l[k] ≤ 65520 := h _ (List.getElem_mem hk)
/-! ### the value of a polynomial -/
theorem allW_of {c : List Int} (h : c.all (fun a => decide (W a)) = true) : allW c := fun x hx => by
  have := List.all_eq_true.1 h x hx; simpa using this
/-! ### the reference's inverse: Euclid's algorithm -/
/-! ### lists that are equal -/
end Go.DL
