/- The reference's list of wrong leaves. -/
import Derived.Test.YtmbbepdbjeciaaaGreatZn
import Derived.Test.YtmbbepdbjeciaaaGreatYc
set_option linter.all false
set_option maxRecDepth 100000
set_option maxHeartbeats 16000000
namespace Go.DL
open Go.Proofs Go

theorem m_rwrong {k c w : Nat} {l : List Leaf} {d : List (List Int)} (hck : CkOk ⟨k, c, w⟩) (hd : dataW w d) (hl : l.length ≤ 40) (hw : ∀ x, x ∈ l → x.Words.length ≤ 1000) :
    Maps Tryz.prog 84 [dSh ⟨k, c, w⟩, .sl (l.map eLeaf), .sl (d.map eRow)] (.fl ((wrongM (wholeL (k + c) w d) l (k + c)).map eI)) := by
  have hwhole := m_Rwhole ⟨k, c, w⟩ d hck (by simpa using hd)
  have hc3 := hck.2.1
  have hc4 := hck.1
  have hc5 := hck.2.2
  simp only at hc3 hc4 hc5
  rw [show ((⟨k, c, w⟩ : Shape).Data + (⟨k, c, w⟩ : Shape).Checks).toNat = k + c from by simp; omega, show ((⟨k, c, w⟩ : Shape).Width).toNat = w from by simp] at hwhole
  have hRl : (wholeL (k + c) w d).length = k + c := by simp [wholeL]
  have hRw : ∀ x, x ∈ wholeL (k + c) w d → x.Words.length ≤ 1000 := fun x hx => by
    obtain ⟨i, _, rfl⟩ := List.mem_map.1 hx
    simp; omega
  generalize wholeL (k + c) w d = R at hwhole hRl hRw
  change Maps Tryz.prog 84 [.agg [wI k, wI c, wI w], .sl (l.map eLeaf), .sl (d.map eRow)] _
  change Maps Tryz.prog 73 [.agg [wI k, wI c, wI w], .sl (d.map eRow)] _ at hwhole
  refine Maps.vt pok Tryz.f84 (n := 53) (rs := [.tmp 6]) rfl rfl rfl rfl rfl rfl fun g => ?_
  repeat (any_goals (first | (refine d_RT ?_; (first | refine RT.nil ?_ | refine RT.mvA ?_ | refine RT.asA ?_ | refine RT.ldA ?_ | refine RT.callM rfl (hwhole) rfl rfl ?_ | refine RT.nwA ?_)) | (refine d_VT ?_; (first | refine VT.seq rfl ?_ | refine VT.reg rfl ?_ | refine VT.block rfl ?_))))
  refine VT.phantom (i := 8) (s := 1) (H' := [.live 3 [[wI k, wI c, wI w]], .live 1 []]) 1 rfl rfl rfl ?_
  refine VT.loop (fun j a H g' => ∃ (n b m : Nat) (out : List Int), j = k + c - n ∧ n ≤ k + c ∧ out = DM.wrongS Leaf.Number (badM R) l n ∧ m = out.length ∧ H[b]? = some (.live 1 (out.map eI)) ∧ a = [(1, .sl (l.map eLeaf)), (7, .fl (R.map eLeaf)), (8, .ms b 0 m m), (9, wI ((n : Int) + 1))] ∧ g' = g) rfl
    ⟨_, _, [.live 3 [[wI k, wI c, wI w]], .live 1 []], ⟨0, 1, 0, [], rfl, Nat.zero_le _, rfl, rfl, rfl, rfl, rfl⟩, Wk.keep (by (repeat first | exact True.intro | refine And.intro ?_ ?_ | exact Or.inr (Or.inl rfl) | exact Or.inl rfl | (refine DLe.i rfl ?_; omega) | (refine DLe.i rfl ?_; simp; done)))⟩ ?_
  rintro j a H g' ⟨n, b, m, out, rfl, hn, hout, hm, hb, rfl, rfl⟩
  have hol : out.length ≤ 40 := by rw [hout]; exact Nat.le_trans (DM.wrong_len _ _ _ _) hl
  by_cases hlt : n < k + c
  · repeat (any_goals (first | (refine d_RT ?_; (first | refine RT.nil ?_ | refine RT.mvA ?_ | refine RT.asA ?_ | refine RT.bnA ?_ | refine RT.clA ?_)) | (refine d_VT ?_; (first | refine VT.seq rfl ?_ | refine VT.reg rfl ?_ | refine VT.condY rfl rfl (by first | assumption | omega) ?_ | refine VT.block rfl ?_ | refine VT.skip rfl ?_))))
    refine VT.loop (fun j a H2 g2 => ∃ (i b m : Nat) (o : List Int), j = l.length - i ∧ i ≤ l.length ∧ o = out ++ ((l.take i).filter fun x => decide (x.Number = (n : Int) + 1) && badM R x).map Leaf.Number ∧ m = o.length ∧ H2[b]? = some (.live 1 (o.map eI)) ∧ a = [(1, .sl (l.map eLeaf)), (7, .fl (R.map eLeaf)), (8, .ms b 0 m m), (9, wI ((n : Int) + 1)), (10, wI i)] ∧ g2 = g') rfl
      ⟨_, _, H, ⟨0, b, m, out, rfl, Nat.zero_le _, by simp, hm, hb, rfl, rfl⟩, Wk.keep (by (repeat first | exact True.intro | refine And.intro ?_ ?_ | exact Or.inr (Or.inl rfl) | exact Or.inl rfl | (refine DLe.i rfl ?_; omega) | (refine DLe.i rfl ?_; simp; done)))⟩ ?_
    clear hb hm
    rintro j a H2 g2 ⟨i, b, m, o, rfl, hi, ho, hm, hb, rfl, rfl⟩
    have hm80 : m ≤ 80 := by
      rw [hm, ho, List.length_append, List.length_map]
      have := List.length_filter_le (fun x : Leaf => decide (x.Number = (n : Int) + 1) && badM R x) (l.take i)
      rw [List.length_take] at this; omega
    by_cases hli : i < l.length
    · have hfs := filt_snoc (fun x : Leaf => decide (x.Number = (n : Int) + 1) && badM R x) Leaf.Number hli
      have hnR : n < R.length := by omega
      have hwl := hw l[i] (List.getElem_mem hli)
      have hwr := hRw R[n] (List.getElem_mem hnR)
      by_cases hnum : l[i].Number = (n : Int) + 1
      · have hbad : badM R l[i] = !decide (R[n].Words = l[i].Words) := by
          unfold badM
          rw [show (l[i].Number - 1).toNat = n by omega, List.getD_eq_getElem?_getD, List.getElem?_eq_getElem hnR]; rfl
        have hs := m_same l[i].Words R[n].Words (by omega) (by omega)
        by_cases hws : l[i].Words = R[n].Words
        · rw [decide_eq_true hws] at hs
          rw [if_neg (by rw [hbad, decide_eq_true hws.symm]; simp)] at hfs
          repeat (any_goals (first | (refine d_RT ?_; (first | refine RT.nil ?_ | refine RT.mvA ?_ | refine RT.asA ?_ | refine RT.bnA ?_ | refine RT.clA ?_)) | (refine d_VT ?_; (first | refine VT.seq rfl ?_ | refine VT.reg rfl ?_ | refine VT.draw [(0, []), (0, []), (0, []), (0, []), (0, []), (0, []), (0, []), (0, []), (0, []), (0, []), (0, []), (0, []), (0, []), (0, []), (0, []), (0, []), (0, []), (0, []), (0, []), (0, []), (0, []), (0, [])] 1 mixedOk rfl (by decide +kernel) (by decide +kernel) (by decide +kernel) (by first | (simp only [nrm]; rfl) | (simp only [nrm, Nat.reduceAdd, Nat.zero_add]; rfl) | rfl) (by first | (simp only [nrm]; rfl) | (simp only [nrm, Nat.reduceAdd, Nat.zero_add]; rfl) | rfl) ?_ | refine VT.condF rfl rfl ?_ | refine VT.condY rfl rfl (by first | assumption | omega) ?_ | refine VT.block rfl ?_ | refine VT.skip rfl ?_)) | (refine d_PT ?_; (first | refine PT.vI (mask_app (H0 := H2) (T := [_]) rfl) (f_eqlT rfl rfl hnum) ?_ | refine PT.vI (mask_app (H0 := H2) (T := [_]) rfl) (f_ixL (l := l) (f := eLeaf) (k := i) rfl rfl rfl hli rfl rfl) ?_ | refine PT.vI (mask_app (H0 := H2) (T := [_]) rfl) (f_ixL (l := R) (f := eLeaf) (k := n) rfl rfl (by omega) hnR rfl rfl) ?_ | refine PT.done (dropLn H2 [] .free) ?_ | refine PT.gy rfl ?_ | refine PT.mvI ((mask_app (H0 := H2) (T := [_]) rfl)) ?_ | refine PT.ldI ((mask_app (H0 := H2) (T := [_]) rfl)) ?_ | refine PT.faI ((mask_app (H0 := H2) (T := [_]) rfl)) ?_ | refine PT.bnI ((mask_app (H0 := H2) (T := [_]) rfl)) ?_ | refine PT.callI ((mask_app (H0 := H2) (T := [_]) rfl)) rfl (hs) (by first | (simp only [nrm]; rfl) | (simp only [nrm, Nat.reduceAdd, Nat.zero_add]; rfl) | rfl) rfl ?_ | refine PT.pkI ((mask_app (H0 := H2) (T := [_]) rfl)) ?_ | refine PT.unI ((mask_app (H0 := H2) (T := [_]) rfl)) ?_)) | with_reducible (refine kLn ?_)))
          exact ⟨l.length - (i + 1), by omega, _, _, ⟨i + 1, b, m, o, rfl, hli, by rw [hfs]; exact ho, hm, by rw [List.append_nil]; exact hb, rfl, rfl⟩, Wk.keep (by (repeat first | exact True.intro | refine And.intro ?_ ?_ | exact Or.inr (Or.inl rfl) | exact Or.inl rfl | (refine DLe.i rfl ?_; omega) | (refine DLe.i rfl ?_; simp; done)))⟩
        · rw [decide_eq_false hws] at hs
          rw [if_pos (by rw [decide_eq_true hnum, hbad, decide_eq_false (fun e : R[n].Words = l[i].Words => hws e.symm)]; rfl)] at hfs
          have hbl := blk_lt hb
          repeat (any_goals (first | (refine d_RT ?_; (first | refine RT.nil ?_ | refine RT.new (s := H2.length) rfl (f_bslW1 rfl rfl rfl) (H' := H2 ++ [.live 1 ([(n : Int) + 1].map eI)]) rfl ?_ | refine RT.ap (s := H2.length + 1) (by simp) (f_appT (f := eI) (o := o) (v := [(n : Int) + 1]) (mm := m + 1) (by' := 8) rfl rfl (blk_app _ hb) (List.take_of_length_le (by rw [List.length_map]; omega)) (by rw [List.length_map]; omega) (blk_at (t := 0) rfl rfl) hm rfl (by rw [← hm]; rfl) rfl (by decide) rfl rfl (fun _ => ⟨rfl, rfl⟩) (by rw [← hm]; simp; omega) (by rw [← hm]; simp; omega)) (ap2 hbl _ _) ?_ | refine RT.mvA ?_ | refine RT.asA ?_ | refine RT.bnA ?_ | refine RT.clA ?_)) | (refine d_VT ?_; (first | refine VT.seq rfl ?_ | refine VT.reg rfl ?_ | refine VT.draw [(0, []), (0, []), (0, []), (0, []), (0, []), (0, []), (0, []), (0, []), (0, []), (0, []), (0, []), (0, []), (0, []), (0, []), (0, []), (0, []), (0, []), (0, []), (0, []), (0, []), (0, []), (0, [])] 1 mixedOk rfl (by decide +kernel) (by decide +kernel) (by decide +kernel) (by first | (simp only [nrm]; rfl) | (simp only [nrm, Nat.reduceAdd, Nat.zero_add]; rfl) | rfl) (by first | (simp only [nrm]; rfl) | (simp only [nrm, Nat.reduceAdd, Nat.zero_add]; rfl) | rfl) ?_ | refine VT.condT rfl rfl ?_ | refine VT.condY rfl rfl (by first | assumption | omega) ?_ | refine VT.block rfl ?_ | refine VT.skip rfl ?_)) | (refine d_PT ?_; (first | refine PT.vI (mask_app (H0 := H2) (T := [_]) rfl) (f_eqlT rfl rfl hnum) ?_ | refine PT.vI (mask_app (H0 := H2) (T := [_]) rfl) (f_ixL (l := l) (f := eLeaf) (k := i) rfl rfl rfl hli rfl rfl) ?_ | refine PT.vI (mask_app (H0 := H2) (T := [_]) rfl) (f_ixL (l := R) (f := eLeaf) (k := n) rfl rfl (by omega) hnR rfl rfl) ?_ | refine PT.done ((dropLn H2 [] .free).trans (List.append_nil _)) ?_ | refine PT.gy rfl ?_ | refine PT.mvI ((mask_app (H0 := H2) (T := [_]) rfl)) ?_ | refine PT.ldI ((mask_app (H0 := H2) (T := [_]) rfl)) ?_ | refine PT.faI ((mask_app (H0 := H2) (T := [_]) rfl)) ?_ | refine PT.bnI ((mask_app (H0 := H2) (T := [_]) rfl)) ?_ | refine PT.callI ((mask_app (H0 := H2) (T := [_]) rfl)) rfl (hs) (by first | (simp only [nrm]; rfl) | (simp only [nrm, Nat.reduceAdd, Nat.zero_add]; rfl) | rfl) rfl ?_ | refine PT.pkI ((mask_app (H0 := H2) (T := [_]) rfl)) ?_ | refine PT.unI ((mask_app (H0 := H2) (T := [_]) rfl)) ?_)) | with_reducible (refine kLn ?_)))
          refine ⟨l.length - (i + 1), by omega, _, _, ⟨i + 1, H2.length + 1, m + 1, o ++ [(n : Int) + 1], rfl, hli, ?_, by simp [hm], blk_at (t := 1) (by simp) rfl, rfl, rfl⟩, Wk.keep (by (repeat first | exact True.intro | refine And.intro ?_ ?_ | exact Or.inr (Or.inl rfl) | exact Or.inl rfl | (refine DLe.i rfl ?_; omega) | (refine DLe.i rfl ?_; simp; done)))⟩
          rw [hfs, hnum, ho, List.append_assoc]
      · rw [if_neg (by rw [decide_eq_false hnum]; simp)] at hfs
        repeat (any_goals (first | (refine d_RT ?_; (first | refine RT.nil ?_ | refine RT.mvA ?_ | refine RT.asA ?_ | refine RT.bnA ?_ | refine RT.clA ?_)) | (refine d_VT ?_; (first | refine VT.seq rfl ?_ | refine VT.reg rfl ?_ | refine VT.draw [(0, []), (0, []), (0, []), (0, []), (0, []), (0, []), (0, []), (0, []), (0, []), (0, []), (0, []), (0, []), (0, []), (0, []), (0, []), (0, []), (0, []), (0, []), (0, []), (0, []), (0, []), (0, [])] 1 mixedOk rfl (by decide +kernel) (by decide +kernel) (by decide +kernel) (by first | (simp only [nrm]; rfl) | (simp only [nrm, Nat.reduceAdd, Nat.zero_add]; rfl) | rfl) (by first | (simp only [nrm]; rfl) | (simp only [nrm, Nat.reduceAdd, Nat.zero_add]; rfl) | rfl) ?_ | refine VT.condF rfl rfl ?_ | refine VT.condY rfl rfl (by first | assumption | omega) ?_ | refine VT.block rfl ?_ | refine VT.skip rfl ?_)) | (refine d_PT ?_; (first | refine PT.vI (mask_app (H0 := H2) (T := [_]) rfl) (f_eqlF rfl rfl hnum) ?_ | refine PT.vI (mask_app (H0 := H2) (T := [_]) rfl) (f_ixL (l := l) (f := eLeaf) (k := i) rfl rfl rfl hli rfl rfl) ?_ | refine PT.done (dropLn H2 [] .free) ?_ | refine PT.gn rfl rfl ?_ | refine PT.mvI ((mask_app (H0 := H2) (T := [_]) rfl)) ?_ | refine PT.ldI ((mask_app (H0 := H2) (T := [_]) rfl)) ?_ | refine PT.faI ((mask_app (H0 := H2) (T := [_]) rfl)) ?_ | refine PT.pkI ((mask_app (H0 := H2) (T := [_]) rfl)) ?_)) | with_reducible (refine kLn ?_)))
        exact ⟨l.length - (i + 1), by omega, _, _, ⟨i + 1, b, m, o, rfl, hli, by rw [hfs]; exact ho, hm, by rw [List.append_nil]; exact hb, rfl, rfl⟩, Wk.keep (by (repeat first | exact True.intro | refine And.intro ?_ ?_ | exact Or.inr (Or.inl rfl) | exact Or.inl rfl | (refine DLe.i rfl ?_; omega) | (refine DLe.i rfl ?_; simp; done)))⟩
    · obtain rfl : i = l.length := by omega
      rw [List.take_length] at ho
      repeat (any_goals (first | (refine d_RT ?_; (first | refine RT.nil ?_ | refine RT.mvA ?_ | refine RT.asA ?_ | refine RT.bnA ?_ | refine RT.clA ?_)) | (refine d_VT ?_; (first | refine VT.seq rfl ?_ | refine VT.reg rfl ?_ | refine VT.condN rfl rfl (by first | assumption | omega) ?_ | refine VT.exit rfl ?_)) | with_reducible (refine kLn ?_)))
      refine ⟨k + c - (n + 1), by omega, _, _, ⟨n + 1, b, m, o, rfl, hlt, by rw [DM.wrongS_succ, ho, hout], hm, hb, rfl, rfl⟩, Wk.keep (by (repeat first | exact True.intro | refine And.intro ?_ ?_ | exact Or.inr (Or.inl rfl) | exact Or.inl rfl | (refine DLe.i rfl ?_; omega) | (refine DLe.i rfl ?_; simp; done)))⟩
  · obtain rfl : n = k + c := by omega
    repeat (any_goals (first | (refine d_RT ?_; (first | refine RT.nil ?_ | refine RT.mvA ?_ | refine RT.asA ?_ | refine RT.bnA ?_ | refine RT.clA ?_)) | (refine d_VT ?_; (first | refine VT.seq rfl ?_ | refine VT.reg rfl ?_ | refine VT.condN rfl rfl (by first | assumption | omega) ?_ | refine VT.exit rfl ?_ | refine VT.ret rfl ?_)) | (with_reducible refine d_kEr ?_; refine kEr rfl ?_)))
    show snapR _ 5 (.ms b 0 m m) = _
    rw [snapRW (k := 4) hb hm, hout]
    rfl
end Go.DL
