/- The reference's leaves of data. -/
import Derived.Test.YtmbbepdbjeciaaaGreatYa
set_option maxRecDepth 100000
set_option maxHeartbeats 16000000
namespace Go.DL
open Go.Proofs Go


theorem m_column (w : Nat) (d : List (List Int)) (hd : dataW w d) (i : Nat) (hlt : i < w) : Maps Tryz.prog 128 [.sl (d.map eRow), wI i] (.fl ((colS d i).map eI)) := by
  refine Maps.vt pok Tryz.f128 (n := 28) (rs := [.tmp 4]) rfl rfl rfl rfl rfl rfl fun g => ?_
  have hdl := hd.1
  repeat (any_goals (first | (refine d_RT ?_; (first | refine RT.nil ?_ | refine RT.asA ?_)) | (refine d_VT ?_; (first | refine VT.seq rfl ?_ | refine VT.reg rfl ?_ | refine VT.block rfl ?_))))
  refine VT.phantom (i := 5) (s := 0) (H' := [.live 2 []]) 2 rfl rfl rfl ?_
  refine VT.loop (fun j a H g2 => ∃ (k : Nat) (o : List Dot), j = d.length - k ∧ k ≤ d.length ∧ o = dotsC d i k ∧ a = [(0, .sl (d.map eRow)), (1, wI i), (5, .ms 0 0 o.length o.length), (6, wI k)] ∧ H = [.live 2 (o.map eDot)] ∧ g2 = g) rfl
    ⟨_, _, _, ⟨0, [], rfl, Nat.zero_le _, rfl, rfl, rfl, rfl⟩, Wk.fg ⟨by (repeat first | exact True.intro | refine And.intro ?_ ?_ | exact Or.inr (Or.inl rfl) | exact Or.inl rfl | (refine DLe.i rfl ?_; omega) | (refine DLe.i rfl ?_; simp; done)), rfl, (by first | decide | exact Nat.zero_le _ | exact Nat.le_refl _ | (first | omega | (simp only [List.length_set, List.length_replicate, List.length_append, List.length_map, List.length_cons, List.length_nil]; omega))), (by first | rfl | simp_all [lowB]), by (repeat first | exact bb_nil | refine bb_cons ?_ ?_ | exact eI_low _ _ | exact eDot_low _ _ | exact eDot_low _ _ | exact bb_dead | exact bb_free | exact bb_lit rfl | (simp [BlkBelow, lowB]; done))⟩⟩ ?_
  rintro j a H g2 ⟨k, o, rfl, hk, ho, rfl, rfl, rfl⟩
  have hol : o.length = k := by rw [ho, dotsC_len]
  by_cases hlt2 : k < d.length
  · have hrow := (hd.2 d[k] (List.getElem_mem hlt2)).1
    have hi2 : i < d[k].length := by omega
    repeat (any_goals (first | (refine d_RT ?_; (first | refine RT.nil ?_ | (refine d_bld ?_; refine RT.v (f_build (d := .agg [wI ((k : Int) + 1), wI d[k][i]]) rfl) ?_) | refine RT.new (by first | (simp only [nrm]; rfl) | (simp only [nrm, Nat.reduceAdd, Nat.zero_add]; rfl) | rfl) (f_bsl (ps := [(0, .tmp 23)]) (sz := 2) (es := [eDot ⟨(k : Int) + 1, d[k][i]⟩]) rfl) (by first | (simp only [nrm]; rfl) | (simp only [nrm, Nat.reduceAdd, Nat.zero_add]; rfl) | rfl) ?_ | refine RT.ap (by first | (simp only [nrm]; rfl) | (simp only [nrm, Nat.reduceAdd, Nat.zero_add]; rfl) | rfl) (f_appG (f := eDot) (o := o) (v := [⟨(k : Int) + 1, d[k][i]⟩]) (by' := 16) rfl rfl rfl rfl rfl rfl rfl (by decide) rfl rfl (fun _ => ⟨rfl, rfl⟩) (by rw [hol]; simp; omega) (by rw [hol]; simp; omega)) (by first | (simp only [nrm]; rfl) | (simp only [nrm, Nat.reduceAdd, Nat.zero_add]; rfl) | rfl) ?_ | refine RT.mvA ?_ | refine RT.asA ?_ | refine RT.ldA ?_ | refine RT.bnA ?_ | refine RT.clA ?_ | refine RT.ixA ?_)) | (refine d_VT ?_; (first | refine VT.seq rfl ?_ | refine VT.reg rfl ?_ | refine VT.condY rfl rfl (by first | assumption | omega) ?_ | refine VT.block rfl ?_ | refine VT.skip rfl ?_)) | with_reducible (refine kLn ?_)))
    refine ⟨d.length - (k + 1), by omega, _, _, ⟨k + 1, o ++ [⟨(k : Int) + 1, d[k][i]⟩], rfl, hlt2, ?_, rfl, rfl, rfl⟩, (Wk.mv (k := 2) (s := 0) (a' := [(0, .sl (d.map eRow)), (1, wI i), (5, .ms 0 0 (o ++ [Dot.mk ((k : Int) + 1) d[k][i]]).length (o ++ [Dot.mk ((k : Int) + 1) d[k][i]]).length), (6, wI (k + 1 : Nat))]) rfl rfl rfl (by first | decide | exact Nat.zero_le _) (by first | decide | exact Nat.zero_le _) (by (repeat first | exact True.intro | refine And.intro ?_ ?_ | exact Or.inr (Or.inr (Or.inl ⟨_, _, _, rfl, rfl⟩)) | exact Or.inr (Or.inl ⟨rfl, rfl⟩) | exact Or.inl rfl)) (by (repeat first | exact bn_nil | refine bn_cons ?_ ?_ | exact eI_no _ _ _ | exact eDot_no _ _ _ | exact bn_dead | exact bn_free | exact bn_lit rfl)) (by first | (simp only [nrm]; rfl) | (simp only [nrm, Nat.reduceAdd, Nat.zero_add]; rfl) | rfl)).trans <| Wk.fg ⟨by (repeat first | exact True.intro | refine And.intro ?_ ?_ | exact Or.inr (Or.inl rfl) | exact Or.inl rfl | (refine DLe.i rfl ?_; omega) | (refine DLe.i rfl ?_; simp; done)), rfl, (by first | decide | exact Nat.zero_le _ | exact Nat.le_refl _ | (first | omega | (simp only [List.length_set, List.length_replicate, List.length_append, List.length_map, List.length_cons, List.length_nil]; omega))), (by first | rfl | simp_all [lowB]), by (repeat first | exact bb_nil | refine bb_cons ?_ ?_ | exact eI_low _ _ | exact eDot_low _ _ | exact eDot_low _ _ | exact bb_dead | exact bb_free | exact bb_lit rfl | (simp [BlkBelow, lowB]; done))⟩⟩
    rw [ho, dotsC_succ]
    simp [List.getD, hlt2, hi2]
  · obtain rfl : k = d.length := by omega
    have ht := m_rthrough o (by omega) (by rw [ho]; exact dotsC_W hd hlt)
    have e : DM.through (dX o) (dY o) = colS d i := by rw [ho]; rfl
    rw [e] at ht
    repeat (any_goals (first | (refine d_RT ?_; (first | refine RT.nil ?_ | refine RT.callM rfl ht (by rw [List.map_cons, List.map_nil]; exact congrArg (fun d => [d]) (snapDot rfl)) rfl ?_ | refine RT.mvA ?_ | refine RT.asA ?_ | refine RT.bnA ?_ | refine RT.clA ?_)) | (refine d_VT ?_; (first | refine VT.seq rfl ?_ | refine VT.reg rfl ?_ | refine VT.condN rfl rfl (by first | assumption | omega) ?_ | refine VT.exit rfl ?_ | refine VT.ret rfl ?_)) | (with_reducible refine d_kEr ?_; refine kEr rfl ?_)))
    rfl
end Go.DL
