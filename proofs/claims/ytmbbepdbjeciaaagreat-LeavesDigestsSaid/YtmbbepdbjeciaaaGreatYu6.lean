/- The law: digests. -/
import Derived.Test.YtmbbepdbjeciaaaGreatYu5
import Derived.Test.YtmbbepdbjeciaaaGreatE12
import Derived.Test.YtmbbepdbjeciaaaGreatE11
set_option maxRecDepth 100000
set_option maxHeartbeats 16000000
namespace Go.DL
open Go.Proofs Go
theorem elems_slL (H : List Blk) (v : List Line) : elemsD H (.sl (v.map eLine)) = some (v.map eLine) := by
  simp only [elemsD]
  refine congrArg some ?_
  rw [List.map_map]
  exact List.map_congr_left fun x _ => rfl
theorem m_LeavesDigests (hh : Maps Tryz.prog 14 [] (wB true)) (l : List Line) (t what : Int) (hl : l.length ≤ 4611686018427387904) (ht : 0 ≤ t ∧ t ≤ 255) :
    Maps Tryz.prog 7 [.sl (l.map eLine), .v (.int .u8 t), wI what] (wB true) := by
  refine Maps.vt pok Tryz.f7 (n := 90) (rs := [.tmp 6]) rfl rfl rfl rfl rfl rfl fun g => ?_
  by_cases h0 : l.length = 0
  · repeat (any_goals (first | (apply w_any; (first | refine RT.nil ?_ | (apply w_g; (first | refine RT.gn rfl rfl ?_ | refine RT.gcY rfl rfl rfl (by first | assumption | omega) ?_)) | refine RT.mvA ?_ | refine RT.asA ?_ | refine RT.bnA ?_ | (apply w_cl; (first | refine RT.callM rfl (hh) rfl rfl ?_ | refine RT.clA ?_)) | refine RT.pkA ?_)) | (apply v_any; (first | refine VT.seq rfl ?_ | refine VT.reg rfl ?_ | refine VT.condT rfl rfl ?_ | refine VT.ret rfl ?_)) | with_reducible (refine kSr ?_) | (with_reducible refine d_kEr ?_; refine kEr rfl ?_)))
    rfl
  by_cases h8 : 8 < l.length
  · repeat (any_goals (first | (apply w_any; (first | refine RT.nil ?_ | (apply w_g; (first | refine RT.gy rfl ?_ | refine RT.gcN rfl rfl rfl (by first | assumption | omega) ?_)) | refine RT.mvA ?_ | refine RT.asA ?_ | refine RT.bnA ?_ | (apply w_cl; (first | refine RT.callM rfl (hh) rfl rfl ?_ | refine RT.clA ?_)) | refine RT.pkA ?_)) | (apply v_any; (first | refine VT.seq rfl ?_ | refine VT.reg rfl ?_ | refine VT.ret rfl ?_ | refine VT.condY rfl rfl (by first | assumption | omega) ?_)) | with_reducible (refine kSr ?_) | (with_reducible refine d_kEr ?_; refine kEr rfl ?_)))
    rfl
  by_cases hok : LinesOk l
  · have hd := m_Digest hok (by omega) (by omega) (sortL_srt l) (sortL_perm l)
    change Maps _ _ _ (.tup [wI (dig l), wI 0]) at hd
    obtain ⟨k, hk, hke⟩ : ∃ k : Nat, k < l.length ∧ t % (l.length : Int) = k := by
      refine ⟨t.toNat % l.length, Nat.mod_lt _ (by omega), ?_⟩
      rw [Int.natCast_emod, Int.toNat_of_nonneg ht.1]
    have hp := turned_perm l k
    have hd2 := m_Digest (hok.perm hp) (by rw [hp.length_eq]; omega) (by rw [hp.length_eq]; omega) (sortL_srt _) (sortL_perm _)
    change Maps _ _ _ (.tup [wI (dig (l.drop k ++ l.take k)), wI 0]) at hd2
    rw [dig_perm hok hp] at hd2
    repeat (any_goals (first | (apply w_any; (first | refine RT.nil ?_ | (apply w_g; (first | refine RT.gy rfl ?_ | refine RT.gcN rfl rfl rfl (by first | assumption | omega) ?_)) | refine RT.mvA ?_ | refine RT.asA ?_ | refine RT.faA ?_ | (apply w_bn; (first | refine RT.v (f_remE rfl rfl (by omega) (by omega) hke) ?_ | refine RT.bnA ?_)) | (apply w_cl; (first | refine RT.ap (s := 5) rfl (f_appL (f := eLine) (o := []) (v := l) (mm := l.length) (by' := 32) rfl rfl rfl rfl (Nat.zero_le _) (elems_slL _ _) rfl (by simp) rfl (by decide) rfl rfl (fun _ => ⟨rfl, rfl⟩) (by simp; omega) (by simp; omega)) rfl ?_ | refine RT.callM rfl (hh) rfl rfl ?_ | refine RT.callM rfl (hd) rfl rfl ?_ | refine RT.clA ?_)) | refine RT.pkA ?_ | refine RT.exA ?_ | refine RT.ixA ?_ | refine RT.wr (f_stMF (f := eLine) (l := l) (bk := 5) (k := k) (fo := 2) (sz := 4) (a := what) (v := lineW l[k] what) rfl rfl hk rfl rfl (show 3 ≤ 4 by decide) rfl) rfl ?_ | refine RT.new (s := 4) rfl (f_bsl0 (te := 72) (z := [wI 0, wI 0, wI 0, wI 0]) (m := 4) rfl rfl rfl) rfl ?_ | refine RT.v (f_conv rfl rfl rfl (by omega) (by omega)) ?_)) | (apply v_any; (first | refine VT.seq rfl ?_ | refine VT.reg rfl ?_ | refine VT.condF rfl rfl ?_ | refine VT.skip rfl ?_ | refine VT.drawS [] 0 [none, none, none, none, some 0, none, none, none, some 1, none, none, none, none, none, none] [(0, [0, 1, 2, 3], none), (4, [0, 1, 2, 3], none), (4, [0, 1, 2, 3], none), (4, [0, 1, 2, 3], none), (1, [1, 2, 3], some 0), (4, [0, 1, 2, 3, 0], none), (4, [0, 1, 2, 3, 0], none), (4, [0, 1, 2, 3, 0], none), (2, [2, 3], some 1), (3, [3], none), (4, [], none), (4, [], none), (4, [], none), (4, [], none), (4, [], none)] 5 rfl (by first | (simp; done) | (simp; omega)) (by first | (simp; done) | (simp; omega)) mixedOk rfl (by decide +kernel) (by decide +kernel) (by decide +kernel) rfl (H1 := [] ++ [.free, .free, .free, .free, .free]) rfl ?_ | refine VT.condN rfl rfl (by first | assumption | omega) ?_)) | (apply s_any; (first | refine ST.done rfl ?_ | refine ST.mvA ?_ | refine ST.asA ?_ | (apply s_cl; (first | refine ST.ap (q := 0) (b := 0) rfl rfl (s' := 1) rfl (f_appL (f := eLine) (o := []) (v := l.drop k) (mm := (l.drop k).length) (by' := 32) rfl rfl rfl rfl (Nat.zero_le _) (elems_slL _ _) rfl (by simp) rfl (by decide) rfl rfl (fun _ => ⟨rfl, rfl⟩) (by simp; omega) (by simp; omega)) rfl ?_ | refine ST.ap (q := 1) (b := 1) rfl rfl (s' := 2) rfl (f_appL (f := eLine) (o := l.drop k) (v := l.take k) (mm := l.length) (by' := 32) rfl rfl rfl (by rw [List.take_of_length_le (by simp)]; rfl) (by simp) (elems_slL _ _) rfl (by simp; omega) rfl (by decide) rfl rfl (fun _ => ⟨rfl, rfl⟩) (by simp; omega) (by simp; omega)) rfl ?_ | refine ST.callM rfl hd2 (congrArg (fun x => [x]) (snapLn (k := 4) rfl (by simp; omega))) rfl ?_)) | refine ST.exA ?_ | refine ST.new rfl (s' := 0) rfl (f_bsl0 (te := 72) (z := [wI 0, wI 0, wI 0, wI 0]) (m := 4) rfl rfl rfl) rfl ?_ | refine ST.msA ?_))))
    have hm1 : (l.set k (lineW l[k] what)).length = l.length := by simp
    by_cases ho : LinesOk (l.set k (lineW l[k] what))
    · have hd3 := m_Digest ho (by omega) (by omega) (sortL_srt _) (sortL_perm _)
      change Maps _ _ _ (.tup [wI (dig (l.set k (lineW l[k] what))), wI 0]) at hd3
      have hiff := dig_other hk hok ho
      generalize dig (l.set k (lineW l[k] what)) = c at hd3 hiff
      repeat (any_goals (first | (apply w_any; (first | refine RT.nil ?_ | refine RT.gy rfl ?_ | refine RT.mvA ?_ | refine RT.asA ?_ | refine RT.ldA ?_ | refine RT.faA ?_ | (apply w_bn; (first | refine RT.v (f_eqlB rfl rfl rfl) ?_ | refine RT.bnA ?_)) | (refine d_call ?_; refine RT.callM rfl hd3 (congrArg (fun x => [x]) (snapLn (k := 4) rfl (by simp))) rfl ?_) | refine RT.pkA ?_ | refine RT.exA ?_ | refine RT.ixA ?_)) | (apply v_any; (first | refine VT.seq rfl ?_ | refine VT.reg rfl ?_ | refine VT.ret rfl ?_)) | (with_reducible refine d_kEr ?_; refine kEr rfl ?_)))
      exact congrArg wB (decide_eq_true (decide_eq_decide.2 hiff))
    · have hne : ¬ CheckLinesS (l.set k (lineW l[k] what)) = 0 := fun h => ho ((checkLines_iff _).1 h)
      have hd3 := m_DigestNo hne (by omega)
      repeat (any_goals (first | (apply w_any; (first | refine RT.nil ?_ | (apply w_g; (first | refine RT.gy rfl ?_ | refine RT.gn rfl rfl ?_ | refine RT.gcY rfl rfl rfl (by first | assumption | omega) ?_)) | refine RT.mvA ?_ | refine RT.asA ?_ | refine RT.bnA ?_ | (refine d_call ?_; refine RT.callM rfl hd3 (congrArg (fun x => [x]) (snapLn (k := 4) rfl (by simp))) rfl ?_) | refine RT.pkA ?_ | refine RT.exA ?_)) | (apply v_any; (first | refine VT.seq rfl ?_ | refine VT.reg rfl ?_ | refine VT.ret rfl ?_)) | (with_reducible refine d_kEr ?_; refine kEr rfl ?_)))
      rfl
  · have hne : ¬ CheckLinesS l = 0 := fun h => hok ((checkLines_iff l).1 h)
    have hd := m_DigestNo hne (by omega)
    repeat (any_goals (first | (apply w_any; (first | refine RT.nil ?_ | (apply w_g; (first | refine RT.gy rfl ?_ | refine RT.gcN rfl rfl rfl (by first | assumption | omega) ?_)) | refine RT.mvA ?_ | refine RT.asA ?_ | refine RT.bnA ?_ | (apply w_cl; (first | refine RT.callM rfl (hh) rfl rfl ?_ | refine RT.callM rfl (hd) rfl rfl ?_ | refine RT.clA ?_)) | refine RT.pkA ?_ | refine RT.exA ?_)) | (apply v_any; (first | refine VT.seq rfl ?_ | refine VT.reg rfl ?_ | refine VT.skip rfl ?_ | refine VT.ret rfl ?_ | refine VT.condY rfl rfl (by first | assumption | omega) ?_ | refine VT.condN rfl rfl (by first | assumption | omega) ?_)) | with_reducible (refine kSr ?_) | (with_reducible refine d_kEr ?_; refine kEr rfl ?_)))
    rfl
end Go.DL
