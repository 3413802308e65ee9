/- The functions of leaves/words.go and their likes in the reference: values, products, polynomials through points. -/
import Derived.Test.YtmbbepdbjeciaaaGreatZa
set_option linter.all false
set_option maxRecDepth 100000
set_option maxHeartbeats 16000000
namespace Go.DL
open Go.Proofs Go

def allW (l : List Int) : Prop := ∀ x, x ∈ l → W x
theorem allW.get {l : List Int} (h : allW l) {k : Nat} (hk : k < l.length) : 0 ≤ l[k] ∧ l[k] ≤ 65520 := h _ (List.getElem_mem hk)
theorem W_mod (a : Int) : W (a % 65521) := by constructor <;> omega
theorem mulW {a b : Int} (h1 : 0 ≤ a ∧ a ≤ 65520) (h2 : 0 ≤ b ∧ b ≤ 65520) : 0 ≤ a * b ∧ a * b ≤ 4292870400 := mulB h1 h2

/-! ### the value of a polynomial -/
def horner (c : List Int) (x : Int) : Int := c.foldr (fun n o => (o * x + n) % 65521) 0
theorem horner_W (c : List Int) (x : Int) : W (horner c x) := by
  cases c with
  | nil => exact ⟨Int.le_refl 0, by show (0 : Int) ≤ 65520; decide⟩
  | cons n c => exact W_mod _
theorem horner_drop (c : List Int) (x : Int) {k : Nat} (hk : k < c.length) : horner (c.drop k) x = (horner (c.drop (k + 1)) x * x + c[k]) % 65521 := by
  rw [List.drop_eq_getElem_cons hk]; rfl

def bseq (l : List Int) : List (List D) := (List.range l.length).map fun (i : Nat) => [wI ((l.length : Int) - 1 - (i : Int)), wI (l.getD (l.length - 1 - i) 0)]
theorem bseq_len (l : List Int) : (bseq l).length = l.length := by simp [bseq]
theorem bseq_get (l : List Int) {i : Nat} (h : i < l.length) : (bseq l)[i]? = some [wI ((l.length : Int) - 1 - i), wI (l[l.length - 1 - i]'(by omega))] := by
  simp only [bseq, List.getElem?_map, List.getElem?_range h, Option.map_some]
  rw [List.getD_eq_getElem?_getD, List.getElem?_eq_getElem (by omega)]; rfl
theorem c_backward (H : List Blk) (l : List Int) : CallSp Tryz.prog 157 [.sl (l.map eI)] H fun d H' => d = .fn (.func 175) [] [.mp H.length 0 0] ∧ H' = H ++ [.live 1 [[.sl (l.map eI)]]] := by
  refine CallSp.vt pok Tryz.f157 (n := 4) (rs := [.tmp 2]) rfl rfl rfl rfl rfl rfl rfl fun g => ?_
  repeat (any_goals (first | (refine d_RT ?_; (first | refine RT.nil ?_ | refine RT.asA ?_ | refine RT.nwA ?_ | refine RT.msA ?_)) | (refine d_VT ?_; (first | refine VT.seq rfl ?_ | refine VT.reg rfl ?_ | refine VT.ret rfl ?_)) | (with_reducible refine d_kEr ?_; refine kEr rfl ?_)))
  exact ⟨rfl, rfl⟩
theorem i_backward (l : List Int) (hl : l.length ≤ 4611686018427387904) : Iter Tryz.prog 175 [] [.rp [.sl (l.map eI)]] (bseq l) := by
  refine Iter.vt pok Tryz.f175 (n := 19) rfl rfl rfl rfl (fun _ => rfl) rfl fun y => ?_
  repeat (any_goals (first | (refine d_RT ?_; (first | refine RT.nil ?_ | refine RT.asA ?_ | refine RT.ldA ?_ | refine RT.bnA ?_ | refine RT.clA ?_)) | (refine d_VT ?_; (first | refine VT.seq rfl ?_ | refine VT.reg rfl ?_ | refine VT.block rfl ?_))))
  refine VT.loop (fun j a H g' => ∃ i : Nat, j = l.length - i ∧ i ≤ l.length ∧ a = [(0, .fn (.yield y) [] []), (1, .rp [.sl (l.map eI)]), (3, wI ((l.length : Int) - 1 - i))] ∧ H = [] ∧ g' = (i, false)) rfl
    ⟨_, _, _, ⟨0, rfl, Nat.zero_le _, rfl, rfl, rfl⟩, fgA⟩ ?_
  rintro j a H g' ⟨i, rfl, hi, rfl, rfl, rfl⟩
  by_cases hlt : i < l.length
  · have e : (l.length : Int) - 1 - i = ((l.length - 1 - i : Nat) : Int) := by omega
    repeat (any_goals (first | (refine d_RT ?_; (first | refine RT.nil ?_ | refine RT.yield rfl ⟨rfl, i, rfl, bseq_get l hlt, ?_, ?_⟩ | refine RT.mvA ?_ | refine RT.asA ?_ | refine RT.ldA ?_ | refine RT.bnA ?_ | refine RT.ixA ?_ | refine RT.unA ?_)) | (refine d_VT ?_; (first | refine VT.seq rfl ?_ | refine VT.reg rfl ?_ | refine VT.condT rfl rfl ?_ | refine VT.condF rfl rfl ?_ | refine VT.condY rfl rfl (by first | assumption | omega) ?_ | refine VT.block rfl ?_ | refine VT.skip rfl ?_ | refine VT.ret rfl ?_)) | (with_reducible first | refine kSr ?_ | refine kBr ?_ | refine kLn ?_ | refine kLr ?_) | (with_reducible refine d_kEr ?_; refine kEr rfl ?_)))
    · exact ⟨l.length - (i + 1), by omega, _, _, ⟨i + 1, rfl, hlt, rfl, rfl, rfl⟩, fgA⟩
    · exact .inr rfl
  · repeat (any_goals (first | (refine d_RT ?_; (first | refine RT.nil ?_ | refine RT.mvA ?_ | refine RT.bnA ?_)) | (refine d_VT ?_; (first | refine VT.seq rfl ?_ | refine VT.reg rfl ?_ | refine VT.condN rfl rfl (by first | assumption | omega) ?_ | refine VT.exit rfl ?_)) | (with_reducible first | refine kSe ?_ | refine kBe ?_ | refine kLe ?_) | (with_reducible refine d_kEn ?_; refine kEn rfl ?_)))
    exact .inl (by rw [bseq_len]; exact congrArg (·, false) (by omega))
theorem m_value (c : List Int) (x : Int) (hl : c.length ≤ 4611686018427387904) (hc : allW c) (hx : W x) : Maps Tryz.prog 118 [.sl (c.map eI), wI x] (wI (horner c x)) := by
  refine Maps.vt pok Tryz.f118 (n := 19) (rs := [.tmp 4]) rfl rfl rfl rfl rfl rfl fun g => ?_
  repeat (any_goals (first | (refine d_RT ?_; (first | refine RT.nil ?_ | refine RT.mvA ?_ | refine RT.asA ?_ | refine RT.callS rfl (c_backward _ _) rfl (by first | (simp only [nrm]; rfl) | (simp only [nrm, Nat.reduceAdd, Nat.zero_add]; rfl) | rfl) (by first | (simp only [nrm]; rfl) | (simp only [nrm, Nat.reduceAdd, Nat.zero_add]; rfl) | rfl) ?_ | refine RT.stA ?_ | refine RT.nwA ?_)) | (refine d_VT ?_; (first | refine VT.seq rfl ?_ | refine VT.reg rfl ?_ | refine VT.block rfl ?_))))
  refine VT.range (bseq c) [2] (fun i H => H = [.live 1 [[wI x]], .live 1 [[wI (horner (c.drop (c.length - i)) x)]], .dead]) rfl rfl rfl rfl rfl rfl (i_backward c hl) ?_ ?_ ?_ ?_
  · intro i args h
    have hi : i < c.length := by rw [← bseq_len c]; exact (List.getElem?_eq_some_iff.1 h).1
    rw [bseq_get c hi] at h; cases h; exact ⟨rfl, rfl⟩
  · simp only [Nat.sub_zero, List.drop_length]; rfl
  · intro i args H' h hJ
    have hi : i < c.length := by rw [← bseq_len c]; exact (List.getElem?_eq_some_iff.1 h).1
    rw [bseq_get c hi] at h; cases h; subst hJ
    have hw := horner_W (c.drop (c.length - i)) x
    have hn := hc.get (k := c.length - 1 - i) (by omega)
    have hm := mulW hw hx
    have e := horner_drop c x (k := c.length - 1 - i) (by omega)
    rw [show c.length - 1 - i + 1 = c.length - i by omega] at e
    repeat (any_goals (first | (refine d_RT ?_; (first | refine RT.nil ?_ | refine RT.asA ?_)) | refine VT.reg rfl ?_))
    refine ⟨rfl, ?_⟩
    repeat (any_goals (first | (refine d_RT ?_; (first | refine RT.nil ?_ | refine RT.mvA ?_ | refine RT.ldA ?_ | refine RT.bnA ?_ | refine RT.callM rfl (m_mod _) rfl rfl ?_ | refine RT.stA ?_)) | (refine d_VT ?_; (first | refine VT.reg rfl ?_ | refine VT.block rfl ?_)) | with_reducible (refine kBn ?_)))
    rw [show c.length - (i + 1) = c.length - 1 - i by omega, e]; rfl
  · intro H' hJ
    subst hJ
    rw [bseq_len, Nat.sub_self, List.drop_zero]
    repeat (any_goals (first | (refine d_RT ?_; (first | refine RT.nil ?_ | refine RT.asA ?_ | refine RT.ldA ?_)) | (refine d_VT ?_; (first | refine VT.seq rfl ?_ | refine VT.reg rfl ?_ | refine VT.ret rfl ?_)) | (with_reducible refine d_kEr ?_; refine kEr rfl ?_)))
    rfl
theorem m_rvalue (c : List Int) (x : Int) (hl : c.length ≤ 4611686018427387904) (hc : allW c) (hx : W x) : Maps Tryz.prog 83 [.sl (c.map eI), wI x] (wI (horner c x)) := by
  refine Maps.vt pok Tryz.f83 (n := 24) (rs := [.tmp 4]) rfl rfl rfl rfl rfl rfl fun g => ?_
  repeat (any_goals (first | (refine d_RT ?_; (first | refine RT.nil ?_ | refine RT.mvA ?_ | refine RT.asA ?_ | refine RT.bnA ?_ | refine RT.clA ?_)) | (refine d_VT ?_; (first | refine VT.seq rfl ?_ | refine VT.reg rfl ?_ | refine VT.block rfl ?_))))
  refine VT.loop (fun j a H g' => ∃ k : Nat, j = k ∧ k ≤ c.length ∧ a = [(0, .sl (c.map eI)), (1, wI x), (5, wI (horner (c.drop k) x)), (6, wI ((k : Int) - 1))] ∧ H = [] ∧ g' = g) rfl
    ⟨_, _, _, ⟨c.length, rfl, Nat.le_refl _, rfl, rfl, rfl⟩, Wk.fg ⟨by (repeat first | exact True.intro | refine And.intro ?_ ?_ | exact Or.inr (Or.inl rfl) | exact Or.inl rfl | (refine DLe.i rfl ?_; omega) | (refine DLe.i rfl ?_; rw [List.drop_length]; rfl) | (refine DLe.i rfl ?_; simp; done)), rfl, (by first | decide | exact Nat.zero_le _ | exact Nat.le_refl _ | (first | omega | (simp only [List.length_set, List.length_replicate, List.length_append, List.length_map, List.length_cons, List.length_nil]; omega))), (by first | rfl | simp_all [lowB]), by (repeat first | exact bb_nil | refine bb_cons ?_ ?_ | exact eI_low _ _ | exact eDot_low _ _ | exact bb_dead | exact bb_free | exact bb_lit rfl | (simp [BlkBelow, lowB]; done))⟩⟩ ?_
  rintro j a H g' ⟨k, rfl, hk, rfl, rfl, rfl⟩
  cases j with
  | zero =>
    repeat (any_goals (first | (refine d_RT ?_; (first | refine RT.nil ?_ | refine RT.mvA ?_ | refine RT.asA ?_ | refine RT.bnA ?_)) | (refine d_VT ?_; (first | refine VT.seq rfl ?_ | refine VT.reg rfl ?_ | refine VT.condF rfl rfl ?_ | refine VT.exit rfl ?_ | refine VT.ret rfl ?_)) | (with_reducible refine d_kEr ?_; refine kEr rfl ?_)))
    rfl
  | succ k =>
    have hw := horner_W (c.drop (k + 1)) x
    have hn := hc.get (k := k) (by omega)
    have hm := mulW hw hx
    have e := horner_drop c x (k := k) (by omega)
    have e1 : ((k + 1 : Nat) : Int) - 1 = k := by omega
    rw [e1]
    repeat (any_goals (first | (refine d_RT ?_; (first | refine RT.nil ?_ | refine RT.mvA ?_ | refine RT.asA ?_ | refine RT.ldA ?_ | refine RT.bnA ?_ | refine RT.ixA ?_)) | (refine d_VT ?_; (first | refine VT.seq rfl ?_ | refine VT.reg rfl ?_ | refine VT.condT rfl rfl ?_ | refine VT.block rfl ?_ | refine VT.skip rfl ?_)) | with_reducible (refine kLn ?_)))
    exact ⟨k, by omega, _, _, ⟨k, rfl, by omega, rfl, rfl, rfl⟩, Wk.fg ⟨by (repeat first | exact True.intro | refine And.intro ?_ ?_ | exact Or.inr (Or.inl rfl) | exact Or.inl rfl | (refine DLe.i rfl ?_; omega) | exact DLe.i rfl e | (refine DLe.i rfl ?_; simp; done)), rfl, (by first | decide | exact Nat.zero_le _ | exact Nat.le_refl _ | (first | omega | (simp only [List.length_set, List.length_replicate, List.length_append, List.length_map, List.length_cons, List.length_nil]; omega))), (by first | rfl | simp_all [lowB]), by (repeat first | exact bb_nil | refine bb_cons ?_ ?_ | exact eI_low _ _ | exact eDot_low _ _ | exact bb_dead | exact bb_free | exact bb_lit rfl | (simp [BlkBelow, lowB]; done))⟩⟩
theorem allW_of {c : List Int} (h : c.all (fun a => decide (W a)) = true) : allW c := fun x hx => by
  have := List.all_eq_true.1 h x hx; simpa using this
theorem m_rwords (c : List Int) (hl : c.length ≤ 4611686018427387904) : Maps Tryz.prog 127 [.sl (c.map eI)] (wB (c.all fun a => decide (W a))) := by
  refine Maps.vt pok Tryz.f127 (n := 16) (rs := [.tmp 2]) rfl rfl rfl rfl rfl rfl fun g => ?_
  repeat (any_goals (first | (refine d_RT ?_; (first | refine RT.nil ?_ | refine RT.asA ?_)) | (refine d_VT ?_; (first | refine VT.seq rfl ?_ | refine VT.reg rfl ?_ | refine VT.block rfl ?_))))
  refine VT.loop (fun j a H g' => ∃ k : Nat, j = c.length - k ∧ k ≤ c.length ∧ (c.take k).all (fun a => decide (W a)) = true ∧ a = [(0, .sl (c.map eI)), (3, wI k)] ∧ H = [] ∧ g' = g) rfl
    ⟨_, _, _, ⟨0, rfl, Nat.zero_le _, rfl, rfl, rfl, rfl⟩, fgA⟩ ?_
  rintro j a H g' ⟨k, rfl, hk, hn, rfl, rfl, rfl⟩
  by_cases hlt : k < c.length
  · repeat (any_goals (first | (refine d_RT ?_; (first | refine RT.nil ?_ | refine RT.mvA ?_ | refine RT.asA ?_ | refine RT.ldA ?_ | refine RT.bnA ?_ | (refine d_call ?_; (first | refine RT.callM rfl (m_rword _) rfl rfl ?_ | refine RT.clA ?_)) | refine RT.ixA ?_ | refine RT.unA ?_)) | (refine d_VT ?_; (first | refine VT.seq rfl ?_ | refine VT.reg rfl ?_ | refine VT.condY rfl rfl (by first | assumption | omega) ?_ | refine VT.condD rfl rfl (fun hc => ?_) (fun hc => ?_) | refine VT.block rfl ?_ | refine VT.skip rfl ?_ | refine VT.ret rfl ?_)) | (with_reducible first | refine kSr ?_ | refine kBr ?_ | refine kLn ?_ | refine kLr ?_) | (with_reducible refine d_kEr ?_; refine kEr rfl ?_)))
    · have : c.all (fun a => decide (W a)) = false := List.all_eq_false.2 ⟨c[k], List.getElem_mem hlt, by simpa using hc⟩
      rw [this]; rfl
    · refine ⟨c.length - (k + 1), by omega, _, _, ⟨k + 1, rfl, hlt, ?_, rfl, rfl, rfl⟩, fgA⟩
      rw [List.take_succ_eq_append_getElem hlt, List.all_append, hn]
      simpa using hc
  · repeat (any_goals (first | (refine d_RT ?_; (first | refine RT.nil ?_ | refine RT.mvA ?_ | refine RT.asA ?_ | refine RT.bnA ?_ | refine RT.clA ?_)) | (refine d_VT ?_; (first | refine VT.seq rfl ?_ | refine VT.reg rfl ?_ | refine VT.condN rfl rfl (by first | assumption | omega) ?_ | refine VT.exit rfl ?_ | refine VT.ret rfl ?_)) | (with_reducible refine d_kEr ?_; refine kEr rfl ?_)))
    rw [List.take_of_length_le (by omega)] at hn
    rw [hn]; rfl
/-! ### the reference's inverse: Euclid's algorithm -/
theorem euc_bound {n a b : Nat} {x y : Int} (h : DM.Euc n a b x y) (hb : b ≠ 0) : 0 ≤ ((a / b : Nat) : Int) * b ∧ ((a / b : Nat) : Int) * b ≤ 65521 ∧ -4293001441 ≤ ((a / b : Nat) : Int) * y ∧ ((a / b : Nat) : Int) * y ≤ 4293001441 := by
  have h1 : a / b * b ≤ a := Nat.div_mul_le_self a b
  have h2 := h.la
  have h3 := h.ly
  have h4 : a / b ≤ 65521 := Nat.le_trans (Nat.div_le_self a b) h2
  have h5 : (((a / b : Nat) : Int) * y).natAbs ≤ 65521 * 65521 := by
    rw [Int.natAbs_mul, Int.natAbs_natCast]; exact Nat.mul_le_mul h4 h3
  have h6 : ((a / b : Nat) : Int) * b = ((a / b * b : Nat) : Int) := by rw [Int.natCast_mul]
  rw [h6]
  omega
theorem m_rinverse (x : Int) (hx : 1 ≤ x ∧ x ≤ 65520) : Maps Tryz.prog 170 [wI x] (wI (inv x)) := by
  obtain ⟨n, rfl⟩ : ∃ n : Nat, x = n := ⟨x.toNat, by omega⟩
  have h0 : 0 < n := by omega
  have h1 : n < 65521 := by omega
  refine Maps.vt pok Tryz.f170 (n := 34) (rs := [.tmp 2]) rfl rfl rfl rfl rfl rfl fun g => ?_
  repeat (any_goals (first | (refine d_RT ?_; (first | refine RT.nil ?_ | refine RT.mvA ?_ | refine RT.asA ?_)) | (refine d_VT ?_; (first | refine VT.seq rfl ?_ | refine VT.reg rfl ?_ | refine VT.block rfl ?_))))
  refine VT.loop (fun j a' H g' => ∃ (a b : Nat) (x y : Int), j = b ∧ DM.Euc n a b x y ∧ a' = [(3, wI a), (4, wI b), (5, wI x), (6, wI y)] ∧ H = [] ∧ g' = g) rfl
    ⟨_, _, _, ⟨n, 65521, 1, 0, rfl, DM.Euc.start h0 h1, rfl, rfl, rfl⟩, fgA⟩ ?_
  rintro j a' H g' ⟨a, b, x, y, rfl, he, rfl, rfl, rfl⟩
  have hla := he.la
  have hlb := he.lb
  have hlx := he.lx
  have hly := he.ly
  by_cases hb : j = 0
  · subst hb
    have hl := he.last h0 h1
    have e : (x.tmod 65521 + 65521) % 65521 = inv n := by
      have := tmod_p x
      unfold inv DM.invI
      rw [Int.toNat_natCast, ← hl]
      omega
    have ht := tmod_p x
    repeat (any_goals (first | (refine d_RT ?_; (first | refine RT.nil ?_ | refine RT.v (f_rem rfl rfl (by omega) (by decide)) ?_ | refine RT.v (f_remG rfl rfl (by decide)) ?_ | refine RT.mvA ?_ | refine RT.asA ?_ | refine RT.bnA ?_)) | (refine d_VT ?_; (first | refine VT.seq rfl ?_ | refine VT.reg rfl ?_ | refine VT.condF rfl rfl ?_ | refine VT.exit rfl ?_ | refine VT.ret rfl ?_)) | (with_reducible refine d_kEr ?_; refine kEr rfl ?_)))
    rw [← e]; rfl
  · have hq := euc_bound he hb
    have hm : ((a % j : Nat) : Int) = a - ((a / j : Nat) : Int) * j := by
      have := Nat.div_add_mod a j
      rw [Nat.mul_comm] at this
      have h : ((a / j * j + a % j : Nat) : Int) = a := by rw [this]
      rw [Int.natCast_add, Int.natCast_mul] at h
      omega
    rw [Int.natCast_ediv] at hq hm
    have hs := he.step hb
    rw [Int.natCast_ediv] at hs
    have hlt : a % j < j := Nat.mod_lt _ (by omega)
    repeat (any_goals (first | (refine d_RT ?_; (first | refine RT.nil ?_ | refine RT.mvA ?_ | refine RT.asA ?_ | refine RT.bnA ?_)) | (refine d_VT ?_; (first | refine VT.seq rfl ?_ | refine VT.reg rfl ?_ | refine VT.condY rfl rfl (by first | assumption | omega) ?_ | refine VT.block rfl ?_ | refine VT.skip rfl ?_)) | (with_reducible first | refine kBn ?_ | refine kLn ?_)))
    exact ⟨a % j, hlt, _, _, ⟨j, a % j, y, _, rfl, hs, rfl, rfl, rfl⟩, Wk.fg ⟨by (repeat first | exact True.intro | refine And.intro ?_ ?_ | exact Or.inr (Or.inl rfl) | exact Or.inl rfl | (refine DLe.i rfl ?_; omega) | exact DLe.i rfl hm | (refine DLe.i rfl ?_; simp; done)), rfl, (by first | decide | exact Nat.zero_le _ | exact Nat.le_refl _ | (first | omega | (simp only [List.length_set, List.length_replicate, List.length_append, List.length_map, List.length_cons, List.length_nil]; omega))), (by first | rfl | simp_all [lowB]), by (repeat first | exact bb_nil | refine bb_cons ?_ ?_ | exact eI_low _ _ | exact eDot_low _ _ | exact bb_dead | exact bb_free | exact bb_lit rfl | (simp [BlkBelow, lowB]; done))⟩⟩
/-! ### lists that are equal -/
theorem m_same (a b : List Int) (hl : a.length ≤ 4611686018427387904) (hl' : b.length ≤ 4611686018427387904) : Maps Tryz.prog 30 [.sl (a.map eI), .sl (b.map eI)] (wB (decide (a = b))) := by
  refine Maps.vt pok Tryz.f30 (n := 26) (rs := [.tmp 4]) rfl rfl rfl rfl rfl rfl fun g => ?_
  by_cases he : a.length = b.length
  · repeat (any_goals (first | (refine d_RT ?_; (first | refine RT.nil ?_ | refine RT.mvA ?_ | refine RT.asA ?_ | refine RT.bnA ?_ | refine RT.clA ?_)) | (refine d_VT ?_; (first | refine VT.seq rfl ?_ | refine VT.reg rfl ?_ | refine VT.condN rfl rfl (by first | assumption | omega) ?_ | refine VT.block rfl ?_ | refine VT.skip rfl ?_))))
    refine VT.loop (fun j al H g' => ∃ k : Nat, j = a.length - k ∧ k ≤ a.length ∧ a.take k = b.take k ∧ al = [(0, .sl (a.map eI)), (1, .sl (b.map eI)), (5, wI k)] ∧ H = [] ∧ g' = g) rfl
      ⟨_, _, _, ⟨0, rfl, Nat.zero_le _, rfl, rfl, rfl, rfl⟩, fgA⟩ ?_
    rintro j al H g' ⟨k, rfl, hk, hn, rfl, rfl, rfl⟩
    by_cases hlt : k < a.length
    · repeat (any_goals (first | (refine d_RT ?_; (first | refine RT.nil ?_ | refine RT.mvA ?_ | refine RT.asA ?_ | refine RT.bnA ?_ | refine RT.clA ?_)) | (refine d_VT ?_; (first | refine VT.seq rfl ?_ | refine VT.reg rfl ?_ | refine VT.draw [(0, []), (0, []), (0, []), (0, []), (0, []), (0, []), (0, []), (0, []), (0, [])] 1 mixedOk rfl (by decide +kernel) (by decide +kernel) (by decide +kernel) (by first | (simp only [nrm]; rfl) | (simp only [nrm, Nat.reduceAdd, Nat.zero_add]; rfl) | rfl) (by first | (simp only [nrm]; rfl) | (simp only [nrm, Nat.reduceAdd, Nat.zero_add]; rfl) | rfl) ?_ | refine VT.condY rfl rfl (by first | assumption | omega) ?_ | refine VT.condD rfl rfl (fun hc => ?_) (fun hc => ?_) | refine VT.block rfl ?_ | refine VT.skip rfl ?_ | refine VT.ret rfl ?_)) | (refine d_PT ?_; (first | refine PT.done (by first | (simp only [nrm]; rfl) | (simp only [nrm, Nat.reduceAdd, Nat.zero_add]; rfl) | rfl) ?_ | refine PT.mvA ?_ | refine PT.ldA ?_ | refine PT.bnA ?_ | refine PT.ixA ?_)) | (with_reducible first | refine kSr ?_ | refine kBr ?_ | refine kLn ?_ | refine kLr ?_) | (with_reducible refine d_kEr ?_; refine kEr rfl ?_)))
      · have : a ≠ b := fun h => hc (by subst h; rfl)
        rw [decide_eq_false this]; rfl
      · exact ⟨a.length - (k + 1), by omega, _, _, ⟨k + 1, rfl, hlt, by rw [List.take_succ_eq_append_getElem hlt, List.take_succ_eq_append_getElem (show k < b.length by omega), hn, Classical.not_not.1 hc], rfl, rfl, rfl⟩, fgA⟩
    · repeat (any_goals (first | (refine d_RT ?_; (first | refine RT.nil ?_ | refine RT.mvA ?_ | refine RT.asA ?_ | refine RT.bnA ?_ | refine RT.clA ?_)) | (refine d_VT ?_; (first | refine VT.seq rfl ?_ | refine VT.reg rfl ?_ | refine VT.condN rfl rfl (by first | assumption | omega) ?_ | refine VT.exit rfl ?_ | refine VT.ret rfl ?_)) | (with_reducible refine d_kEr ?_; refine kEr rfl ?_)))
      rw [List.take_of_length_le (by omega), List.take_of_length_le (by omega)] at hn
      rw [decide_eq_true hn]; rfl
  · repeat (any_goals (first | (refine d_RT ?_; (first | refine RT.nil ?_ | refine RT.mvA ?_ | refine RT.asA ?_ | refine RT.bnA ?_ | refine RT.clA ?_)) | (refine d_VT ?_; (first | refine VT.seq rfl ?_ | refine VT.reg rfl ?_ | refine VT.condY rfl rfl (by first | assumption | omega) ?_ | refine VT.ret rfl ?_)) | with_reducible (refine kSr ?_) | (with_reducible refine d_kEr ?_; refine kEr rfl ?_)))
    have : a ≠ b := fun h => he (by rw [h])
    rw [decide_eq_false this]; rfl
end Go.DL
