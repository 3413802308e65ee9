/- The functions of leaves/words.go and their likes in the reference: values, products, polynomials through points. -/
import Derived.Test.YtmbbepdbjeciaaaGreatZa
set_option maxRecDepth 100000
set_option maxHeartbeats 16000000
namespace Go.DL
open Go.Proofs Go

def allW (l : List Int) : Prop := ∀ x, x ∈ l → W x
theorem allW.get {l : List Int} (h : allW l) {k : Nat} (hk : k < l.length) : 0 ≤ l[k] ∧ l[k] ≤ 65520 := h _ (List.getElem_mem hk)
theorem W_mod (a : Int) : W (a % 65521) := by constructor <;> omega
theorem mulW {a b : Int} (h1 : 0 ≤ a ∧ a ≤ 65520) (h2 : 0 ≤ b ∧ b ≤ 65520) : 0 ≤ a * b ∧ a * b ≤ 4292870400 := mulB h1 h2

/-! ### the value of a polynomial -/
def horner (c : List Int) (x : Int) : Int := c.foldr (fun n o => (o * x + n) % 65521) 0
theorem horner_W (c : List Int) (x : Int) : W (horner c x) := by
  cases c with
  | nil => exact ⟨Int.le_refl 0, by show (0 : Int) ≤ 65520; decide⟩
  | cons n c => exact W_mod _
theorem horner_drop (c : List Int) (x : Int) {k : Nat} (hk : k < c.length) : horner (c.drop k) x = (horner (c.drop (k + 1)) x * x + c[k]) % 65521 := by
  rw [List.drop_eq_getElem_cons hk]; rfl

def bseq (l : List Int) : List (List D) := (List.range l.length).map fun (i : Nat) => [wI ((l.length : Int) - 1 - (i : Int)), wI (l.getD (l.length - 1 - i) 0)]
theorem bseq_len (l : List Int) : (bseq l).length = l.length := by simp [bseq]
theorem bseq_get (l : List Int) {i : Nat} (h : i < l.length) : (bseq l)[i]? = some [wI ((l.length : Int) - 1 - i), wI (l[l.length - 1 - i]'(by omega))] := by
  simp only [bseq, List.getElem?_map, List.getElem?_range h, Option.map_some]
  rw [List.getD_eq_getElem?_getD, List.getElem?_eq_getElem (by omega)]; rfl
theorem c_backward (H : List Blk) (l : List Int) : CallSp Tryz.prog 157 [.sl (l.map eI)] H fun d H' => d = .fn (.func 175) [] [.mp H.length 0 0] ∧ H' = H ++ [.live 1 [[.sl (l.map eI)]]] := by
  refine CallSp.vt pok Tryz.f157 (n := 4) (rs := [.tmp 2]) rfl rfl rfl rfl rfl rfl rfl fun g => ?_
  repeat (any_goals (first | (refine d_RT ?_; (first | refine RT.nil ?_ | refine RT.asA ?_ | refine RT.nwA ?_ | refine RT.msA ?_)) | (refine d_VT ?_; (first | refine VT.seq rfl ?_ | refine VT.reg rfl ?_ | refine VT.ret rfl ?_)) | (with_reducible refine d_kEr ?_; refine kEr rfl ?_)))
  exact ⟨rfl, rfl⟩
theorem i_backward (l : List Int) (hl : l.length ≤ 4611686018427387904) : Iter Tryz.prog 175 [] [.rp [.sl (l.map eI)]] (bseq l) := by
  refine Iter.vt pok Tryz.f175 (n := 19) rfl rfl rfl rfl (fun _ => rfl) rfl fun y => ?_
  repeat (any_goals (first | (refine d_RT ?_; (first | refine RT.nil ?_ | refine RT.asA ?_ | refine RT.ldA ?_ | refine RT.bnA ?_ | refine RT.clA ?_)) | (refine d_VT ?_; (first | refine VT.seq rfl ?_ | refine VT.reg rfl ?_ | refine VT.block rfl ?_))))
  refine VT.loop (fun j a H g' => ∃ i : Nat, j = l.length - i ∧ i ≤ l.length ∧ a = [(0, .fn (.yield y) [] []), (1, .rp [.sl (l.map eI)]), (3, wI ((l.length : Int) - 1 - i))] ∧ H = [] ∧ g' = (i, false)) rfl
    ⟨_, _, _, ⟨0, rfl, Nat.zero_le _, rfl, rfl, rfl⟩, fgA⟩ ?_
  rintro j a H g' ⟨i, rfl, hi, rfl, rfl, rfl⟩
  by_cases hlt : i < l.length
  · have e : (l.length : Int) - 1 - i = ((l.length - 1 - i : Nat) : Int) := by omega
    repeat (any_goals (first | (refine d_RT ?_; (first | refine RT.nil ?_ | refine RT.yield rfl ⟨rfl, i, rfl, bseq_get l hlt, ?_, ?_⟩ | refine RT.mvA ?_ | refine RT.asA ?_ | refine RT.ldA ?_ | refine RT.bnA ?_ | refine RT.ixA ?_ | refine RT.unA ?_)) | (refine d_VT ?_; (first | refine VT.seq rfl ?_ | refine VT.reg rfl ?_ | refine VT.condT rfl rfl ?_ | refine VT.condF rfl rfl ?_ | refine VT.condY rfl rfl (by first | assumption | omega) ?_ | refine VT.block rfl ?_ | refine VT.skip rfl ?_ | refine VT.ret rfl ?_)) | (with_reducible first | refine kSr ?_ | refine kBr ?_ | refine kLn ?_ | refine kLr ?_) | (with_reducible refine d_kEr ?_; refine kEr rfl ?_)))
    · exact ⟨l.length - (i + 1), by omega, _, _, ⟨i + 1, rfl, hlt, rfl, rfl, rfl⟩, fgA⟩
    · exact .inr rfl
  · repeat (any_goals (first | (refine d_RT ?_; (first | refine RT.nil ?_ | refine RT.mvA ?_ | refine RT.bnA ?_)) | (refine d_VT ?_; (first | refine VT.seq rfl ?_ | refine VT.reg rfl ?_ | refine VT.condN rfl rfl (by first | assumption | omega) ?_ | refine VT.exit rfl ?_)) | (with_reducible first | refine kSe ?_ | refine kBe ?_ | refine kLe ?_) | (with_reducible refine d_kEn ?_; refine kEn rfl ?_)))
    exact .inl (by rw [bseq_len]; exact congrArg (·, false) (by omega))
theorem m_value (c : List Int) (x : Int) (hl : c.length ≤ 4611686018427387904) (hc : allW c) (hx : W x) : Maps Tryz.prog 118 [.sl (c.map eI), wI x] (wI (horner c x)) := by
  refine Maps.vt pok Tryz.f118 (n := 19) (rs := [.tmp 4]) rfl rfl rfl rfl rfl rfl fun g => ?_
  repeat (any_goals (first | (refine d_RT ?_; (first | refine RT.nil ?_ | refine RT.mvA ?_ | refine RT.asA ?_ | refine RT.callS rfl (c_backward _ _) rfl (by first | (simp only [nrm]; rfl) | (simp only [nrm, Nat.reduceAdd, Nat.zero_add]; rfl) | rfl) (by first | (simp only [nrm]; rfl) | (simp only [nrm, Nat.reduceAdd, Nat.zero_add]; rfl) | rfl) ?_ | refine RT.stA ?_ | refine RT.nwA ?_)) | (refine d_VT ?_; (first | refine VT.seq rfl ?_ | refine VT.reg rfl ?_ | refine VT.block rfl ?_))))
  refine VT.range (bseq c) [2] (fun i H => H = [.live 1 [[wI x]], .live 1 [[wI (horner (c.drop (c.length - i)) x)]], .dead]) rfl rfl rfl rfl rfl rfl (i_backward c hl) ?_ ?_ ?_ ?_
  · intro i args h
    have hi : i < c.length := by rw [← bseq_len c]; exact (List.getElem?_eq_some_iff.1 h).1
    rw [bseq_get c hi] at h; cases h; exact ⟨rfl, rfl⟩
  · simp only [Nat.sub_zero, List.drop_length]; rfl
  · intro i args H' h hJ
    have hi : i < c.length := by rw [← bseq_len c]; exact (List.getElem?_eq_some_iff.1 h).1
    rw [bseq_get c hi] at h; cases h; subst hJ
    have hw := horner_W (c.drop (c.length - i)) x
    have hn := hc.get (k := c.length - 1 - i) (by omega)
    have hm := mulW hw hx
    have e := horner_drop c x (k := c.length - 1 - i) (by omega)
    rw [show c.length - 1 - i + 1 = c.length - i by omega] at e
    repeat (any_goals (first | (refine d_RT ?_; (first | refine RT.nil ?_ | refine RT.asA ?_)) | refine VT.reg rfl ?_))
    refine ⟨rfl, ?_⟩
    repeat (any_goals (first | (refine d_RT ?_; (first | refine RT.nil ?_ | refine RT.mvA ?_ | refine RT.ldA ?_ | refine RT.bnA ?_ | refine RT.callM rfl (m_mod _) rfl rfl ?_ | refine RT.stA ?_)) | (refine d_VT ?_; (first | refine VT.reg rfl ?_ | refine VT.block rfl ?_)) | with_reducible (refine kBn ?_)))
    rw [show c.length - (i + 1) = c.length - 1 - i by omega, e]; rfl
  · intro H' hJ
    subst hJ
    rw [bseq_len, Nat.sub_self, List.drop_zero]
    repeat (any_goals (first | (refine d_RT ?_; (first | refine RT.nil ?_ | refine RT.asA ?_ | refine RT.ldA ?_)) | (refine d_VT ?_; (first | refine VT.seq rfl ?_ | refine VT.reg rfl ?_ | refine VT.ret rfl ?_)) | (with_reducible refine d_kEr ?_; refine kEr rfl ?_)))
    rfl
theorem allW_of {c : List Int} (h : c.all (fun a => decide (W a)) = true) : allW c := fun x hx => by
  have := List.all_eq_true.1 h x hx; simpa using this
/-! ### the reference's inverse: Euclid's algorithm -/
/-! ### lists that are equal -/
theorem m_same (a b : List Int) (hl : a.length ≤ 4611686018427387904) (hl' : b.length ≤ 4611686018427387904) : Maps Tryz.prog 30 [.sl (a.map eI), .sl (b.map eI)] (wB (decide (a = b))) := by
  refine Maps.vt pok Tryz.f30 (n := 26) (rs := [.tmp 4]) rfl rfl rfl rfl rfl rfl fun g => ?_
  by_cases he : a.length = b.length
  · repeat (any_goals (first | (refine d_RT ?_; (first | refine RT.nil ?_ | refine RT.mvA ?_ | refine RT.asA ?_ | refine RT.bnA ?_ | refine RT.clA ?_)) | (refine d_VT ?_; (first | refine VT.seq rfl ?_ | refine VT.reg rfl ?_ | refine VT.condN rfl rfl (by first | assumption | omega) ?_ | refine VT.block rfl ?_ | refine VT.skip rfl ?_))))
    refine VT.loop (fun j al H g' => ∃ k : Nat, j = a.length - k ∧ k ≤ a.length ∧ a.take k = b.take k ∧ al = [(0, .sl (a.map eI)), (1, .sl (b.map eI)), (5, wI k)] ∧ H = [] ∧ g' = g) rfl
      ⟨_, _, _, ⟨0, rfl, Nat.zero_le _, rfl, rfl, rfl, rfl⟩, fgA⟩ ?_
    rintro j al H g' ⟨k, rfl, hk, hn, rfl, rfl, rfl⟩
    by_cases hlt : k < a.length
    · repeat (any_goals (first | (refine d_RT ?_; (first | refine RT.nil ?_ | refine RT.mvA ?_ | refine RT.asA ?_ | refine RT.bnA ?_ | refine RT.clA ?_)) | (refine d_VT ?_; (first | refine VT.seq rfl ?_ | refine VT.reg rfl ?_ | refine VT.draw [(0, []), (0, []), (0, []), (0, []), (0, []), (0, []), (0, []), (0, []), (0, [])] 1 mixedOk rfl (by decide +kernel) (by decide +kernel) (by decide +kernel) (by first | (simp only [nrm]; rfl) | (simp only [nrm, Nat.reduceAdd, Nat.zero_add]; rfl) | rfl) (by first | (simp only [nrm]; rfl) | (simp only [nrm, Nat.reduceAdd, Nat.zero_add]; rfl) | rfl) ?_ | refine VT.condY rfl rfl (by first | assumption | omega) ?_ | refine VT.condD rfl rfl (fun hc => ?_) (fun hc => ?_) | refine VT.block rfl ?_ | refine VT.skip rfl ?_ | refine VT.ret rfl ?_)) | (refine d_PT ?_; (first | refine PT.done (by first | (simp only [nrm]; rfl) | (simp only [nrm, Nat.reduceAdd, Nat.zero_add]; rfl) | rfl) ?_ | refine PT.mvA ?_ | refine PT.ldA ?_ | refine PT.bnA ?_ | refine PT.ixA ?_)) | (with_reducible first | refine kSr ?_ | refine kBr ?_ | refine kLn ?_ | refine kLr ?_) | (with_reducible refine d_kEr ?_; refine kEr rfl ?_)))
      · have : a ≠ b := fun h => hc (by subst h; rfl)
        rw [decide_eq_false this]; rfl
      · exact ⟨a.length - (k + 1), by omega, _, _, ⟨k + 1, rfl, hlt, by rw [List.take_succ_eq_append_getElem hlt, List.take_succ_eq_append_getElem (show k < b.length by omega), hn, Classical.not_not.1 hc], rfl, rfl, rfl⟩, fgA⟩
    · repeat (any_goals (first | (refine d_RT ?_; (first | refine RT.nil ?_ | refine RT.mvA ?_ | refine RT.asA ?_ | refine RT.bnA ?_ | refine RT.clA ?_)) | (refine d_VT ?_; (first | refine VT.seq rfl ?_ | refine VT.reg rfl ?_ | refine VT.condN rfl rfl (by first | assumption | omega) ?_ | refine VT.exit rfl ?_ | refine VT.ret rfl ?_)) | (with_reducible refine d_kEr ?_; refine kEr rfl ?_)))
      rw [List.take_of_length_le (by omega), List.take_of_length_le (by omega)] at hn
      rw [decide_eq_true hn]; rfl
  · repeat (any_goals (first | (refine d_RT ?_; (first | refine RT.nil ?_ | refine RT.mvA ?_ | refine RT.asA ?_ | refine RT.bnA ?_ | refine RT.clA ?_)) | (refine d_VT ?_; (first | refine VT.seq rfl ?_ | refine VT.reg rfl ?_ | refine VT.condY rfl rfl (by first | assumption | omega) ?_ | refine VT.ret rfl ?_)) | with_reducible (refine kSr ?_) | (with_reducible refine d_kEr ?_; refine kEr rfl ?_)))
    have : a ≠ b := fun h => he (by rw [h])
    rw [decide_eq_false this]; rfl
end Go.DL
