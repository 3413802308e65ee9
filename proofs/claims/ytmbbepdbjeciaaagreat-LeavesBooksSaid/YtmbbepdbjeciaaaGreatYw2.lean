/- Lines as data. -/
import Derived.Test.YtmbbepdbjeciaaaGreatYw1
set_option maxRecDepth 100000
set_option maxHeartbeats 16000000
namespace Go.DL
open Go.Proofs Go
def padS (n : Nat) (w : List Int) : List Int := w ++ List.replicate (n - w.length) 0
theorem padS_len {n : Nat} {w : List Int} (h : w.length ≤ n) : (padS n w).length = n := by simp [padS]; omega
/-- The rows of some words. -/
def rowsOf (D W : Nat) (w : List Int) : List (List Int) := (List.range D).map fun k => (w.take ((k + 1) * W)).drop (k * W)
theorem rowsOf_succ (k W : Nat) (w : List Int) : rowsOf (k + 1) W w = rowsOf k W w ++ [(w.take ((k + 1) * W)).drop (k * W)] := by simp [rowsOf, List.range_succ]
theorem row_len {D k W : Nat} {w : List Int} (hw : w.length = D * W) (hk : k < D) : ((w.take ((k + 1) * W)).drop (k * W)).length = W := by
  have h1 : (k + 1) * W ≤ D * W := Nat.mul_le_mul_right _ hk
  rw [List.length_drop, List.length_take, hw, Nat.min_eq_left h1, Nat.succ_mul]; omega
def writeS (s : Shape) (l : List Line) : Option (List (List Int)) :=
  if (wordsS l).length ≤ s.Data.toNat * s.Width.toNat then some (rowsOf s.Data.toNat s.Width.toNat (padS (s.Data.toNat * s.Width.toNat) (wordsS l))) else none
def writeD (r : Option (List (List Int))) : D := match r with
  | some r => .tup [.fl (r.map eRow), wB true]
  | none => .tup [.fl [], wB false]
theorem m_write (s : Shape) (h : CkOk s) (l : List Line) (hl : l.length ≤ 60) (hok : ∀ x, x ∈ l → lineOk x) : Maps Tryz.prog 87 [dSh s, .sl (l.map eLine)] (writeD (writeS s l)) := by
  refine Maps.vt pok Tryz.f87 (n := 51) (rs := [.tmp 4, .tmp 5]) rfl rfl rfl rfl rfl rfl fun g => ?_
  obtain ⟨sd, sc, sw⟩ := s
  obtain ⟨⟨h1, h2⟩, h3, h4, h5⟩ := h
  obtain ⟨D, rfl⟩ : ∃ D : Nat, sd = D := Int.eq_ofNat_of_zero_le (by dsimp only at h1; omega)
  obtain ⟨W, rfl⟩ : ∃ W : Nat, sw = W := Int.eq_ofNat_of_zero_le (by dsimp only at h4; omega)
  dsimp only at h1 h2 h4 h5
  have hDW : D * W ≤ 640 := Nat.mul_le_mul (show D ≤ 20 by omega) (show W ≤ 32 by omega)
  have hm : (D : Int) * (W : Int) = ((D * W : Nat) : Int) := (Int.natCast_mul D W).symm
  have hw := c_wordsH (H := [.live 3 [eShape ⟨D, sc, W⟩]]) (x := .sl (l.map eLine)) (l := l) rfl (by omega) hok
  have hw7 := words_len1 (l := l) (by omega)
  unfold writeS
  dsimp only
  rw [Int.toNat_natCast, Int.toNat_natCast]
  generalize wordsS l = w at hw hw7 ⊢
  by_cases hfit : w.length ≤ D * W
  · rw [if_pos hfit]
    have hpad : w ++ List.replicate ((D : Int) * (W : Int) - (w.length : Int)).toNat 0 = padS (D * W) w := by
      rw [hm, show (((D * W : Nat) : Int) - (w.length : Int)).toNat = D * W - w.length by omega]; rfl
    have hpl := padS_len hfit
    repeat (any_goals (first | (apply w_any; (first | refine RT.nil ?_ | refine RT.mvA ?_ | refine RT.asA ?_ | refine RT.ldA ?_ | refine RT.faA ?_ | (apply w_bn; (first | refine RT.v (f_mul (a := (D : Int)) (b := (W : Int)) rfl rfl (by omega) (by omega)) ?_ | refine RT.v (f_gtrF rfl rfl (by omega)) ?_ | refine RT.bnA ?_)) | (apply w_cl; (first | (refine d_call ?_; refine RT.callS rfl hw rfl rfl rfl ?_) | refine RT.ap (by first | (simp only [nrm]; rfl) | (simp only [nrm, Nat.reduceAdd, Nat.zero_add]; rfl) | rfl) (f_appZ (o := w) rfl rfl rfl rfl (by omega) rfl rfl rfl rfl (by omega)) (by first | (simp only [nrm]; rfl) | (simp only [nrm, Nat.reduceAdd, Nat.zero_add]; rfl) | rfl) ?_ | refine RT.clA ?_)) | refine RT.nwA ?_)) | (apply v_any; (first | refine VT.seq rfl ?_ | refine VT.reg rfl ?_ | refine VT.condF rfl rfl ?_ | refine VT.block rfl ?_ | refine VT.skip rfl ?_))))
    rw [hpad]
    generalize padS (D * W) w = pw at hpl ⊢
    refine VT.phantom (i := 7) (s := 4) 1 rfl rfl rfl ?_
    refine VT.loop (fun j a H g' => ∃ (k b m : Nat) (qs : List (Nat × List Int)), j = D - k ∧ k ≤ D ∧ H[0]? = some (.live 3 [[wI D, wI sc, wI W]]) ∧ H[3]? = some (.live 1 (pw.map eI)) ∧ RQ H b qs ∧ 4 ≤ b ∧ m = qs.length ∧ m = k ∧ qs.map (·.2) = rowsOf k W pw ∧ a = [(2, .mp 0 0 0), (6, .ms 3 0 pw.length pw.length), (7, .ms b 0 m m), (30, wI D), (31, wI k)] ∧ g' = g) rfl
      ⟨_, _, _, ⟨0, 4, 0, [], rfl, Nat.zero_le _, rfl, rfl, ⟨rfl, fun _ h => by cases h⟩, by omega, rfl, rfl, rfl, rfl, rfl⟩, Wk.keep (by (repeat first | exact True.intro | refine And.intro ?_ ?_ | exact Or.inr (Or.inl rfl) | exact Or.inl rfl | (refine DLe.i rfl ?_; omega) | (refine DLe.i rfl ?_; simp; done)))⟩ ?_
    rintro j a H g' ⟨k, b, m, qs, rfl, hk, hb0, hb3, hq, hb4, hm1, hmk, hqs, rfl, rfl⟩
    have hH3 := hg_lt hb3
    have hHb := hg_lt hq.rows
    by_cases hlt : k < D
    · have hkW : k * W ≤ D * W := Nat.mul_le_mul_right _ (by omega)
      have hkW1 : (k + 1) * W ≤ D * W := Nat.mul_le_mul_right _ hlt
      have hsub : (k + 1) * W - k * W = W := by rw [Nat.succ_mul]; omega
      have e1 : (k : Int) * (W : Int) = ((k * W : Nat) : Int) := (Int.natCast_mul k W).symm
      have e2 : ((k : Int) + 1) * (W : Int) = (((k + 1) * W : Nat) : Int) := by rw [Int.natCast_mul]; rfl
      have hrl := row_len hpl hlt
      generalize hrow : (pw.take ((k + 1) * W)).drop (k * W) = row at hrl
      have hel : elemsD H (.ms 3 (k * W) ((k + 1) * W - k * W) (pw.length - k * W)) = some (row.map eI) := by
        simp only [elemsD, hb3]
        rw [if_pos (by rw [List.length_map]; omega), show k * W + ((k + 1) * W - k * W) = (k + 1) * W by omega, ← List.map_take, ← List.map_drop, hrow]
      have hcl := c_clone (H := H) (x := .ms 3 (k * W) ((k + 1) * W - k * W) (pw.length - k * W)) (o := row) (.inr (.inr (.inr ⟨_, _, _, _, rfl⟩))) hel (by omega)
      repeat (any_goals (first | (apply w_any; (first | refine RT.nil ?_ | refine RT.mvA ?_ | refine RT.asA ?_ | refine RT.v (f_ldO rfl hb0 rfl rfl rfl) ?_ | refine RT.faA ?_ | (apply w_bn; (first | refine RT.v (f_mul (a := (k : Int)) (b := (W : Int)) rfl rfl (by omega) (by omega)) ?_ | refine RT.v (f_mul (a := (k : Int) + 1) (b := (W : Int)) rfl rfl (by omega) (by omega)) ?_ | refine RT.bnA ?_)) | (apply w_cl; (first | (refine d_call ?_; refine RT.callS rfl hcl rfl (d2 := .ms (H.length + 1) 0 row.length row.length) rfl (H2 := H ++ [.dead, .live 1 (row.map eI)]) rfl ?_) | refine RT.ap (s := H.length + 3) (by simp) (f_appT (f := eQ) (o := qs) (v := [(H.length + 1, row)]) (mm := m + 1) (by' := 24) rfl rfl (hg_app _ hq.rows) (by rw [List.take_of_length_le (by simp; omega)]) (by simp; omega) (hg_at (t := 2) rfl rfl) hm1 rfl (by simp; omega) rfl (by decide) rfl rfl (fun _ => ⟨rfl, rfl⟩) (by simp; omega) (by simp; omega)) rfl ?_)) | refine RT.new (s := H.length + 2) (by simp) (f_bslC1 (d := .ms (H.length + 1) 0 row.length row.length) (z := .nil) rfl rfl rfl rfl rfl) (H' := H ++ [.dead, .live 1 (row.map eI), .live 1 [[.ms (H.length + 1) 0 row.length row.length]]]) (by simp) ?_ | refine RT.v (f_slB (lo := k * W) (hi := (k + 1) * W) rfl rfl rfl e1 e2 (by omega) (by omega) rfl hb3) ?_)) | (apply v_any; (first | refine VT.seq rfl ?_ | refine VT.reg rfl ?_ | refine VT.block rfl ?_ | refine VT.skip rfl ?_ | refine VT.condY rfl rfl (by first | assumption | omega) ?_)) | with_reducible (refine kLn ?_)))
      have hp := hq.push (T := [.dead, .live 1 (row.map eI), .live 1 [[.ms (H.length + 1) 0 row.length row.length]]]) (p := H.length + 1) (row := row) (hg_at (t := 1) rfl rfl) (by omega)
      rw [List.length_append] at hp
      exact ⟨D - (k + 1), by omega, _, _, ⟨k + 1, H.length + 3, m + 1, qs ++ [(H.length + 1, row)], rfl, hlt, hg_app _ (hg_ne (hg_app _ hb0) (by omega)), hg_app _ (hg_ne (hg_app _ hb3) (by omega)), hp, by omega, by simp; omega, by omega, by rw [List.map_append, hqs, rowsOf_succ, hrow]; rfl, rfl, rfl⟩, Wk.keep (by (repeat first | exact True.intro | refine And.intro ?_ ?_ | exact Or.inr (Or.inl rfl) | exact Or.inl rfl | (refine DLe.i rfl ?_; omega) | (refine DLe.i rfl ?_; simp; done)))⟩
    · obtain rfl : k = D := by omega
      repeat (any_goals (first | (apply w_any; (first | refine RT.nil ?_ | refine RT.mvA ?_ | refine RT.asA ?_ | refine RT.bnA ?_)) | (apply v_any; (first | refine VT.seq rfl ?_ | refine VT.reg rfl ?_ | refine VT.exit rfl ?_ | refine VT.ret rfl ?_ | refine VT.condN rfl rfl (by first | assumption | omega) ?_)) | (with_reducible refine d_kEr ?_; refine kEr rfl ?_)))
      exact congrArg (fun x => DL.D.tup [x, wB true]) ((hq.snapR hm1 1).trans (by rw [hqs]))
  · rw [if_neg hfit]
    repeat (any_goals (first | (apply w_any; (first | refine RT.nil ?_ | refine RT.mvA ?_ | refine RT.asA ?_ | refine RT.ldA ?_ | refine RT.faA ?_ | (apply w_bn; (first | refine RT.v (f_mul (a := (D : Int)) (b := (W : Int)) rfl rfl (by omega) (by omega)) ?_ | refine RT.v (f_gtrT rfl rfl (by omega)) ?_)) | (apply w_cl; (first | (refine d_call ?_; refine RT.callS rfl hw rfl rfl rfl ?_) | refine RT.clA ?_)) | refine RT.nwA ?_)) | (apply v_any; (first | refine VT.seq rfl ?_ | refine VT.reg rfl ?_ | refine VT.condT rfl rfl ?_ | refine VT.ret rfl ?_)) | with_reducible (refine kSr ?_) | (with_reducible refine d_kEr ?_; refine kEr rfl ?_)))
    rfl
end Go.DL
