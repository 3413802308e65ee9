/- A polynomial divided by another. -/
import Derived.Test.YtmbbepdbjeciaaaGreatZe
import Derived.Test.YtmbbepdbjeciaaaGreatP2
set_option linter.all false
set_option maxRecDepth 100000
set_option maxHeartbeats 16000000
namespace Go.DL
open Go.Proofs Go

theorem m_over1 (n : Int) : Maps Tryz.prog 179 ([wI n] ++ []) (wB (decide (n = 0))) := by
  refine Maps.vt pok Tryz.f179 (n := 5) (rs := [.tmp 2]) rfl rfl rfl rfl rfl rfl fun g => ?_
  repeat (any_goals (first | (refine d_RT ?_; (first | refine RT.nil ?_ | refine RT.mvA ?_ | refine RT.asA ?_ | refine RT.bnA ?_)) | (refine d_VT ?_; (first | refine VT.seq rfl ?_ | refine VT.reg rfl ?_ | refine VT.ret rfl ?_)) | (with_reducible refine d_kEr ?_; refine kEr rfl ?_)))
  rfl
section
variable {P : Program} {n s : Nat} {al : AL} {H : List Blk} {x : Operand} {tx : TypeId}
theorem f_ldWE {bk k : Nat} {o : List Int} {v : Int} (hx : evA n al x = .mp bk k 0) (hb : H[bk]? = some (.live 1 (o.map eI))) (ht : isAggD P tx = some false) (hv : o[k]? = some v) : Val P H s n al (.load tx x) (wI v) := by
  obtain ⟨hk, rfl⟩ := List.getElem?_eq_some_iff.1 hv
  exact f_ldW hx hb hk ht
end
theorem getD_some {l : List Int} {i : Nat} (h : i < l.length) : l[i]? = some (l.getD i 0) := by
  simp [List.getD_eq_getElem?_getD, h]
theorem m_over {k e : Nat} {a b : List Int} (hs : k + e ≤ 1000) (al : a.length = k + e) (aW : allW a) (bl : b.length = e + 1) (bW : allW b) (mon : b.getD e 0 = 1) :
    Maps Tryz.prog 167 [.sl (a.map eI), .sl (b.map eI)] (.tup [.fl ((DM.dvS k e a b k).1.map eI), wB ((DM.dvS k e a b k).2.all fun n => decide (n = 0))]) := by
  refine Maps.vt pok Tryz.f167 (n := 68) (rs := [.tmp 4, .tmp 5]) rfl rfl rfl rfl rfl rfl fun g => ?_
  repeat (any_goals (first | (refine d_RT ?_; (first | refine RT.nil ?_ | refine RT.new (by first | (simp only [nrm]; rfl) | (simp only [nrm, Nat.reduceAdd, Nat.zero_add]; rfl) | rfl) (f_make (z := [wI 0]) (sz := 1) (m := k) (by' := 8) rfl rfl rfl rfl rfl (by decide) rfl (by omega) (by omega) (by omega)) (by first | (simp only [nrm]; rfl) | (simp only [nrm, Nat.reduceAdd, Nat.zero_add]; rfl) | rfl) ?_ | refine RT.mvA ?_ | refine RT.asA ?_ | refine RT.bnA ?_ | (refine d_call ?_; (first | refine RT.callS rfl (c_clone (o := a) (.inr (.inl ⟨_, rfl⟩)) (by simp only [elemsD]; exact congrArg some (eI_map _ _ fun x => rfl)) (by omega)) rfl (by first | (simp only [nrm]; rfl) | (simp only [nrm, Nat.reduceAdd, Nat.zero_add]; rfl) | rfl) (by first | (simp only [nrm]; rfl) | (simp only [nrm, Nat.reduceAdd, Nat.zero_add]; rfl) | rfl) ?_ | refine RT.clA ?_)))) | (refine d_VT ?_; (first | refine VT.seq rfl ?_ | refine VT.reg rfl ?_ | refine VT.block rfl ?_))))
  refine VT.loop (fun j aa H g' => ∃ (m : Nat) (o r : List Int), j = k - m ∧ m ≤ k ∧ DM.dvS k e a b m = (o, r) ∧ aa = [(0, .ms 1 0 (k + e) (k + e)), (1, .sl (b.map eI)), (6, .ms 2 0 k k), (7, wI ((k : Int) - 1 - m))] ∧ H = [.dead, .live 1 (r.map eI), .live 1 (o.map eI)] ∧ g' = g) rfl
    ⟨_, _, _, ⟨0, List.replicate k 0, a, rfl, Nat.zero_le _, rfl, rfl, rfl, rfl⟩, ?_⟩ ?_
  · rw [al]
    have e0 : (List.replicate k [wI 0] : List (List D)) = (List.replicate k 0).map eI := by simp [eI]
    rw [e0]
    exact fgA
  rintro j aa H g' ⟨m, o, r, rfl, hm, hd, rfl, rfl, rfl⟩
  have hv := DM.dv_ok al aW bl mon m hm
  rw [hd] at hv
  have hol := hv.ol
  have hrl := hv.rl
  simp only at hol hrl
  by_cases hlt : m < k
  · obtain ⟨i, hi⟩ : ∃ i : Nat, i = k - (m + 1) := ⟨_, rfl⟩
    have e1 : (k : Int) - 1 - m = (i : Int) := by omega
    have hie : i + e < r.length := by omega
    have hf : r.getD (i + e) 0 = r[i + e] := by simp [List.getD_eq_getElem?_getD, hie]
    have hfW := hv.rW _ (List.getElem_mem hie)
    rw [e1]
    repeat (any_goals (first | (refine d_RT ?_; (first | refine RT.nil ?_ | refine RT.v (f_ixO0 (k := i + e) rfl rfl (by omega) rfl rfl (by omega)) ?_ | refine RT.v (f_ixO0 (k := i) rfl rfl rfl rfl rfl (by omega)) ?_ | refine RT.v (f_ldW (k := i + e) rfl rfl hie rfl) ?_ | refine RT.wr (f_stW (k := i) rfl rfl (by omega) rfl rfl) (by first | (simp only [nrm]; rfl) | (simp only [nrm, Nat.reduceAdd, Nat.zero_add]; rfl) | rfl) ?_ | refine RT.mvA ?_ | refine RT.bnA ?_ | refine RT.clA ?_)) | (refine d_VT ?_; (first | refine VT.seq rfl ?_ | refine VT.reg rfl ?_ | refine VT.condT rfl rfl ?_ | refine VT.block rfl ?_ | refine VT.skip rfl ?_))))
    rw [← hf]
    rw [← hf] at hfW
    generalize hF : r.getD (i + e) 0 = f at hfW
    refine VT.loop (fun j aa H g2 => ∃ (q : Nat) (r' : List Int), j = b.length - q ∧ q ≤ b.length ∧ r' = DM.subA f (b.take q) i r ∧ aa = [(0, .ms 1 0 (k + e) (k + e)), (1, .sl (b.map eI)), (6, .ms 2 0 k k), (7, wI i), (38, .sl (b.map eI)), (39, wI b.length), (40, wI q)] ∧ H = [.dead, .live 1 (r'.map eI), .live 1 ((o.set i f).map eI)] ∧ g2 = g') rfl
      ⟨_, _, _, ⟨0, r, rfl, Nat.zero_le _, by simp [DM.subP, DM.subA_nil], rfl, rfl, rfl⟩, fgA⟩ ?_
    rintro j aa H g2 ⟨q, r', rfl, hq, hr', rfl, rfl, rfl⟩
    have hfit : i + b.length ≤ r.length := by omega
    have hrl' : r'.length = r.length := by rw [hr', DM.subA_len]
    by_cases hlq : q < b.length
    · have hbq : b.getD q 0 = b[q] := by simp [List.getD_eq_getElem?_getD, hlq]
      have hbW := bW _ (List.getElem_mem hlq)
      have hg1 : r'[i + q]? = some (r.getD (i + q) 0) := by
        rw [getD_some (by omega), hr', DM.subA_same f hfit hlq]
      have hg2 : (o.set i f)[i]? = some f := by rw [List.getElem?_set_self (by omega)]
      have hrW : 0 ≤ r.getD (i + q) 0 ∧ r.getD (i + q) 0 ≤ 65520 := hv.rW _ (List.mem_of_getElem? (getD_some (show i + q < r.length by omega)))
      have hmul : 0 ≤ f * b[q] ∧ f * b[q] ≤ 4292870400 := mulB hfW hbW
      repeat (any_goals (first | (refine d_RT ?_; (first | refine RT.nil ?_ | refine RT.mvA ?_ | refine RT.asA ?_ | refine RT.ldA ?_ | refine RT.bnA ?_ | refine RT.ixA ?_)) | (refine d_VT ?_; (first | refine VT.seq rfl ?_ | refine VT.reg rfl ?_ | refine VT.draw [(1, [0]), (1, [0]), (1, [0]), (1, [0]), (1, [0]), (1, [0]), (1, [0]), (1, [0]), (1, [0]), (1, [0]), (1, [0]), (1, [0]), (1, [0]), (1, [0]), (1, [0]), (1, [0]), (1, [0]), (1, [0]), (1, [0]), (0, [0])] 2 mixedOk rfl (by decide +kernel) (by decide +kernel) (by decide +kernel) (by first | (simp only [nrm]; rfl) | (simp only [nrm, Nat.reduceAdd, Nat.zero_add]; rfl) | rfl) (by first | (simp only [nrm]; rfl) | (simp only [nrm, Nat.reduceAdd, Nat.zero_add]; rfl) | rfl) ?_ | refine VT.condY rfl rfl (by first | assumption | omega) ?_ | refine VT.block rfl ?_ | refine VT.skip rfl ?_)) | (refine d_PT ?_; (first | refine PT.done (by first | (simp only [nrm]; rfl) | (simp only [nrm, Nat.reduceAdd, Nat.zero_add]; rfl) | rfl) ?_ | refine PT.v (f_ixO0 (k := i + q) rfl rfl (by omega) rfl rfl (by omega)) ?_ | refine PT.v (f_ixO0 (k := i) rfl rfl rfl rfl rfl (by omega)) ?_ | refine PT.v (f_ldWE rfl rfl rfl hg1) ?_ | refine PT.v (f_ldWE rfl rfl rfl hg2) ?_ | refine PT.wr (f_stW (k := i + q) rfl rfl (by omega) rfl rfl) (by first | (simp only [nrm]; rfl) | (simp only [nrm, Nat.reduceAdd, Nat.zero_add]; rfl) | rfl) ?_ | refine PT.mvA ?_ | refine PT.bnA ?_ | refine PT.callG rfl (m_mod _) rfl rfl ?_)) | with_reducible (refine kLn ?_)))
      refine ⟨b.length - (q + 1), by omega, _, _, ⟨q + 1, r'.set (i + q) ((r.getD (i + q) 0 - f * b[q]) % 65521), rfl, hlq, ?_, rfl, rfl, rfl⟩, fgA⟩
      rw [hr', ← hbq]
      exact DM.subA_step f hfit hlq
    · obtain rfl : q = b.length := by omega
      rw [List.take_length] at hr'
      repeat (any_goals (first | (refine d_RT ?_; (first | refine RT.nil ?_ | refine RT.mvA ?_ | refine RT.asA ?_ | refine RT.bnA ?_)) | (refine d_VT ?_; (first | refine VT.seq rfl ?_ | refine VT.reg rfl ?_ | refine VT.condN rfl rfl (by first | assumption | omega) ?_ | refine VT.exit rfl ?_)) | with_reducible (refine kLn ?_)))
      refine ⟨k - (m + 1), by omega, _, _, ⟨m + 1, o.set i f, r', rfl, hlt, ?_, rfl, rfl, rfl⟩, fgA⟩
      simp only [DM.dvS, hd]
      rw [← hi, hF, hr']
  · obtain rfl : m = k := by omega
    have ha := m_all_Int (p := fun n => decide (n = 0)) (F := 179) (cs := []) (l := r) (by omega) rfl fun y _ => m_over1 y
    rw [hd]
    repeat (any_goals (first | (refine d_RT ?_; (first | refine RT.nil ?_ | refine RT.callM rfl ha (by rw [List.map_cons, List.map_cons, List.map_nil]; exact congrArg (fun d => [d, _]) (snapW rfl hrl.symm)) rfl ?_ | refine RT.mvA ?_ | refine RT.asA ?_ | refine RT.bnA ?_)) | (refine d_VT ?_; (first | refine VT.seq rfl ?_ | refine VT.reg rfl ?_ | refine VT.condN rfl rfl (by first | assumption | omega) ?_ | refine VT.exit rfl ?_ | refine VT.ret rfl ?_)) | (with_reducible refine d_kEr ?_; refine kEr rfl ?_)))
    show D.tup [snapR _ 4 (.ms 2 0 m m), _] = _
    rw [snapRW (o := o) rfl hol.symm]
    rfl
end Go.DL
