/- The reference's power and division. -/
import Derived.Test.YtmbbepdbjeciaaaGreatZz
import Derived.Test.YtmbbepdbjeciaaaGreatZp1
set_option maxRecDepth 100000
set_option maxHeartbeats 16000000
namespace Go.DL
open Go.Proofs Go

theorem pw_succ {x : Int} (hx : 0 ≤ x) (i : Nat) : DM.pw x (i + 1) = DM.pw x i * x % 65521 := by
  obtain ⟨m, rfl⟩ := Int.eq_ofNat_of_zero_le hx
  simp only [DM.pw, DM.powN, Int.toNat_natCast, Nat.pow_succ]
  have h1 : ((m ^ i * m % 65521 : Nat) : Int) = ((m ^ i % 65521 * m % 65521 : Nat) : Int) := by
    rw [Nat.mod_mul_mod]
  have h2 : ((m ^ i % 65521 * m % 65521 : Nat) : Int) = ((m ^ i % 65521 : Nat) : Int) * (m : Int) % 65521 := by
    rw [Int.natCast_emod, Int.natCast_mul]; rfl
  exact h1.trans h2
theorem m_rpower {x : Int} (hX : W x) (n : Nat) (hn : n ≤ 4611686018427387904) : Maps Tryz.prog 134 [wI x, wI n] (wI (DM.pw x n)) := by
  refine Maps.vt pok Tryz.f134 (n := 17) (rs := [.tmp 4]) rfl rfl rfl rfl rfl rfl fun g => ?_
  repeat (any_goals (first | (refine d_RT ?_; (first | refine RT.nil ?_ | refine RT.asA ?_)) | (refine d_VT ?_; (first | refine VT.seq rfl ?_ | refine VT.reg rfl ?_ | refine VT.block rfl ?_))))
  refine VT.loop (fun j a H g' => ∃ i : Nat, j = n - i ∧ i ≤ n ∧ a = [(0, wI x), (1, wI n), (5, wI (DM.pw x i)), (6, wI i)] ∧ H = [] ∧ g' = g) rfl
    ⟨_, _, _, ⟨0, rfl, Nat.zero_le _, rfl, rfl, rfl⟩, fgA⟩ ?_
  rintro j a H g' ⟨i, rfl, hi, rfl, rfl, rfl⟩
  by_cases hlt : i < n
  · have hmul := mulB (DM.pw_W x i) hX
    repeat (any_goals (first | (refine d_RT ?_; (first | refine RT.nil ?_ | refine RT.mvA ?_ | refine RT.asA ?_ | refine RT.bnA ?_)) | (refine d_VT ?_; (first | refine VT.seq rfl ?_ | refine VT.reg rfl ?_ | refine VT.condY rfl rfl (by first | assumption | omega) ?_ | refine VT.block rfl ?_ | refine VT.skip rfl ?_)) | with_reducible (refine kLn ?_)))
    exact ⟨n - (i + 1), by omega, _, _, ⟨i + 1, rfl, hlt, by rw [pw_succ hX.1], rfl, rfl⟩, fgA⟩
  · obtain rfl : i = n := by omega
    repeat (any_goals (first | (refine d_RT ?_; (first | refine RT.nil ?_ | refine RT.mvA ?_ | refine RT.asA ?_ | refine RT.bnA ?_)) | (refine d_VT ?_; (first | refine VT.seq rfl ?_ | refine VT.reg rfl ?_ | refine VT.condN rfl rfl (by first | assumption | omega) ?_ | refine VT.exit rfl ?_ | refine VT.ret rfl ?_)) | (with_reducible refine d_kEr ?_; refine kEr rfl ?_)))
    rfl
theorem f_appSl {P : Program} {H : List Blk} {s n : Nat} {al : AL} {tx : TypeId} {x y : Operand} {te : TypeId} {m mm c b1 : Nat} {o v : List Int} (hx : evA n al x = .ms b1 0 m c) (hy : evA n al y = .sl (v.map eI)) (hb1 : H[b1]? = some (.live 1 (o.map eI))) (hm : m = o.length)
    (hmm : o.length + v.length = mm) (he : elemT P tx = some (te, 1)) (hz : zeroD P te = some [wI 0]) (hby : P.bytesOf te = 8) (hl : o.length + v.length ≤ 17592186044416) :
    Ap P H s n al (.call { callee := .builtin .append, args := #[x, y], argTypes := #[tx, tx] }) mm (some b1) (.live 1 ((o ++ v).map eI)) := by
  subst hm; subst hmm
  have hu : P.underlying tx = some (.slice te) := by
    unfold elemT at he
    split at he
    · rename_i e hu; simp only [Option.map_eq_some_iff] at he; obtain ⟨_, _, h⟩ := he; cases h; exact hu
    · cases he
  refine f_app hx hy ?_ (by simp)
  have e1 : elemsD H (.ms b1 0 o.length c) = some (o.map eI) := by
    simp only [elemsD, hb1, Nat.zero_add, List.length_map, Nat.le_refl, if_true, List.drop_zero]
    rw [List.take_of_length_le (by simp)]
  have e2 : elemsD H (.sl (v.map eI)) = some (v.map eI) := by
    simp only [elemsD]; exact congrArg some (eI_map _ _ fun x => rfl)
  have e3 : ∀ l : List Int, (l.map eI).all (fun e => e.length == 1) = true := fun l => List.all_eq_true.2 fun e he => by
    obtain ⟨a, _, rfl⟩ := List.mem_map.1 he; rfl
  have e4 : (v.map eI).all (fun e => e.all isCell) = true := List.all_eq_true.2 fun e he => by
    obtain ⟨a, _, rfl⟩ := List.mem_map.1 he; rfl
  simp only [appendD, addedD, he, hu, e1, e2]
  rw [if_pos]
  · simp only [hb1, Blk.hasSz]; simp
  · refine ⟨by decide, by rw [hz]; rfl, e3 o, e3 v, e4, ?_, ?_⟩
    · rw [hby, List.length_map, List.length_map]; omega
    · rw [List.length_map, List.length_map]; omega
theorem m_rdivided {k e : Nat} {a b : List Int} (hs : k + e ≤ 1000) (al : a.length = k + e) (aW : allW a) (bl : b.length = e + 1) (bW : allW b) (mon : b.getD e 0 = 1) :
    ((DM.dvS k e a b k).2.all (fun n => decide (n = 0)) = true → Maps Tryz.prog 136 [.sl (a.map eI), .sl (b.map eI)] (.tup [.fl ((DM.dvS k e a b k).1.map eI), wB true])) ∧ ((DM.dvS k e a b k).2.all (fun n => decide (n = 0)) = false → Maps Tryz.prog 136 [.sl (a.map eI), .sl (b.map eI)] (.tup [.fl [], wB false])) := by
  suffices h : ∀ res, res = (if (DM.dvS k e a b k).2.all (fun n => decide (n = 0)) = true then D.tup [.fl ((DM.dvS k e a b k).1.map eI), wB true] else .tup [.fl [], wB false]) → Maps Tryz.prog 136 [.sl (a.map eI), .sl (b.map eI)] res from
    ⟨fun hc => h _ (by rw [if_pos hc]), fun hc => h _ (by rw [if_neg (by rw [hc]; decide)])⟩
  intro res hres
  refine Maps.vt pok Tryz.f136 (n := 80) (rs := [.tmp 4, .tmp 5]) rfl rfl rfl rfl rfl rfl fun g => ?_
  repeat (any_goals (first | (refine d_RT ?_; (first | refine RT.nil ?_ | refine RT.new rfl (f_bsl (ps := []) (sz := 1) (es := []) rfl) rfl ?_ | refine RT.ap (s := 1) rfl (f_appSl (o := []) (v := a) (mm := k + e) rfl rfl rfl rfl (by rw [al]; simp) rfl rfl rfl (by rw [al]; simp; omega)) (H' := [.dead, .live 1 (a.map eI)]) rfl ?_ | refine RT.new rfl (f_make (z := [wI 0]) (sz := 1) (m := k) (by' := 8) rfl rfl rfl rfl rfl (by decide) rfl (by omega) (by omega) (by omega)) (by first | (simp only [nrm]; rfl) | (simp only [nrm, Nat.reduceAdd, Nat.zero_add]; rfl) | rfl) ?_ | refine RT.mvA ?_ | refine RT.asA ?_ | refine RT.bnA ?_ | refine RT.clA ?_)) | (refine d_VT ?_; (first | refine VT.seq rfl ?_ | refine VT.reg rfl ?_ | refine VT.block rfl ?_))))
  have hk0 : ((k : Int) - 1 - (0 : Nat)) = k - 1 := by omega
  refine VT.loop (fun j aa H g' => ∃ (m : Nat) (o r : List Int), j = k - m ∧ m ≤ k ∧ DM.dvS k e a b m = (o, r) ∧ aa = [(1, .sl (b.map eI)), (6, .ms 1 0 (k + e) (k + e)), (7, .ms 2 0 k k), (8, wI ((k : Int) - 1 - m))] ∧ H = [.dead, .live 1 (r.map eI), .live 1 (o.map eI)] ∧ g' = g) rfl
    ⟨_, _, _, ⟨0, List.replicate k 0, a, rfl, Nat.zero_le _, rfl, by rw [hk0], rfl, rfl⟩, ?_⟩ ?_
  · have e0 : (List.replicate k [wI 0] : List (List D)) = (List.replicate k 0).map eI := by simp [eI]
    rw [e0]
    exact Wk.keep (by (repeat first | exact True.intro | refine And.intro ?_ ?_ | exact Or.inr (Or.inl rfl) | exact Or.inl rfl | (refine DLe.i rfl ?_; omega) | (refine DLe.i rfl ?_; simp; done)))
  rintro j aa H g' ⟨m, o, r, rfl, hm, hd, rfl, rfl, rfl⟩
  have hv := DM.dv_ok al aW bl mon m hm
  rw [hd] at hv
  have hol := hv.ol
  have hrl := hv.rl
  simp only at hol hrl
  by_cases hlt : m < k
  · obtain ⟨i, hi⟩ : ∃ i : Nat, i = k - (m + 1) := ⟨_, rfl⟩
    have e1 : (k : Int) - 1 - m = (i : Int) := by omega
    have hie : i + e < r.length := by omega
    have hf : r.getD (i + e) 0 = r[i + e] := by simp [List.getD_eq_getElem?_getD, hie]
    have hfW := hv.rW _ (List.getElem_mem hie)
    rw [e1]
    repeat (any_goals (first | (refine d_RT ?_; (first | refine RT.nil ?_ | refine RT.v (f_ixO0 (k := i + e) rfl rfl (by omega) rfl rfl (by omega)) ?_ | refine RT.v (f_ixO0 (k := i) rfl rfl rfl rfl rfl (by omega)) ?_ | refine RT.v (f_ldW (k := i + e) rfl rfl hie rfl) ?_ | refine RT.wr (f_stW (k := i) rfl rfl (by omega) rfl rfl) (by first | (simp only [nrm]; rfl) | (simp only [nrm, Nat.reduceAdd, Nat.zero_add]; rfl) | rfl) ?_ | refine RT.mvA ?_ | refine RT.asA ?_ | refine RT.bnA ?_ | refine RT.clA ?_)) | (refine d_VT ?_; (first | refine VT.seq rfl ?_ | refine VT.reg rfl ?_ | refine VT.condT rfl rfl ?_ | refine VT.block rfl ?_ | refine VT.skip rfl ?_))))
    rw [← hf]
    rw [← hf] at hfW
    generalize hF : r.getD (i + e) 0 = f at hfW
    refine VT.loop (fun j aa H g2 => ∃ (q : Nat) (r' : List Int), j = b.length - q ∧ q ≤ b.length ∧ r' = DM.subA f (b.take q) i r ∧ aa = [(1, .sl (b.map eI)), (6, .ms 1 0 (k + e) (k + e)), (7, .ms 2 0 k k), (8, wI i), (9, wI f), (10, wI q)] ∧ H = [.dead, .live 1 (r'.map eI), .live 1 ((o.set i f).map eI)] ∧ g2 = g') rfl
      ⟨_, _, _, ⟨0, r, rfl, Nat.zero_le _, by simp [DM.subP, DM.subA_nil], rfl, rfl, rfl⟩, fgA⟩ ?_
    rintro j aa H g2 ⟨q, r', rfl, hq, hr', rfl, rfl, rfl⟩
    have hfit : i + b.length ≤ r.length := by omega
    have hrl' : r'.length = r.length := by rw [hr', DM.subA_len]
    by_cases hlq : q < b.length
    · have hbq : b.getD q 0 = b[q] := by simp [List.getD_eq_getElem?_getD, hlq]
      have hbW := bW _ (List.getElem_mem hlq)
      have hg1 : r'[i + q]? = some (r.getD (i + q) 0) := by
        rw [getD_some (by omega), hr', DM.subA_same f hfit hlq]
      have hrW : 0 ≤ r.getD (i + q) 0 ∧ r.getD (i + q) 0 ≤ 65520 := hv.rW _ (List.mem_of_getElem? (getD_some (show i + q < r.length by omega)))
      have hmul : 0 ≤ (65521 - f) * b[q] ∧ (65521 - f) * b[q] ≤ 4292935920 := ⟨Int.mul_nonneg (by omega) hbW.1, Int.le_trans (Int.mul_le_mul (show 65521 - f ≤ 65521 by omega) hbW.2 hbW.1 (by decide)) (by decide)⟩
      have heq : (r.getD (i + q) 0 + (65521 - f) * b[q]) % 65521 = (r.getD (i + q) 0 - f * b[q]) % 65521 := by
        rw [show r.getD (i + q) 0 + (65521 - f) * b[q] = (r.getD (i + q) 0 - f * b[q]) + b[q] * 65521 by rw [Int.sub_mul]; omega, Int.add_mul_emod_self_right]
      repeat (any_goals (first | (refine d_RT ?_; (first | refine RT.nil ?_ | refine RT.mvA ?_ | refine RT.asA ?_ | refine RT.bnA ?_ | refine RT.clA ?_)) | (refine d_VT ?_; (first | refine VT.seq rfl ?_ | refine VT.reg rfl ?_ | refine VT.draw [(1, [0]), (1, [0]), (1, [0]), (1, [0]), (1, [0]), (1, [0]), (1, [0]), (1, [0]), (1, [0]), (1, [0]), (1, [0]), (1, [0]), (1, [0]), (1, [0]), (1, [0]), (1, [0]), (1, [0]), (1, [0]), (1, [0]), (1, [0]), (0, [0])] 2 mixedOk rfl (by decide +kernel) (by decide +kernel) (by decide +kernel) (by first | (simp only [nrm]; rfl) | (simp only [nrm, Nat.reduceAdd, Nat.zero_add]; rfl) | rfl) (by first | (simp only [nrm]; rfl) | (simp only [nrm, Nat.reduceAdd, Nat.zero_add]; rfl) | rfl) ?_ | refine VT.condY rfl rfl (by first | assumption | omega) ?_ | refine VT.block rfl ?_ | refine VT.skip rfl ?_)) | (refine d_PT ?_; (first | refine PT.done (by first | (simp only [nrm]; rfl) | (simp only [nrm, Nat.reduceAdd, Nat.zero_add]; rfl) | rfl) ?_ | refine PT.v (f_ixO0 (k := i + q) rfl rfl (by omega) rfl rfl (by omega)) ?_ | refine PT.v (f_ldWE rfl rfl rfl hg1) ?_ | refine PT.wr (f_stW (k := i + q) rfl rfl (by omega) rfl rfl) (by first | (simp only [nrm]; rfl) | (simp only [nrm, Nat.reduceAdd, Nat.zero_add]; rfl) | rfl) ?_ | refine PT.mvA ?_ | refine PT.ldA ?_ | refine PT.bnA ?_ | refine PT.ixA ?_)) | with_reducible (refine kLn ?_)))
      refine ⟨b.length - (q + 1), by omega, _, _, ⟨q + 1, r'.set (i + q) ((r.getD (i + q) 0 + (65521 - f) * b[q]) % 65521), rfl, hlq, ?_, rfl, rfl, rfl⟩, fgA⟩
      rw [hr', heq, ← hbq]
      exact DM.subA_step f hfit hlq
    · obtain rfl : q = b.length := by omega
      rw [List.take_length] at hr'
      repeat (any_goals (first | (refine d_RT ?_; (first | refine RT.nil ?_ | refine RT.mvA ?_ | refine RT.asA ?_ | refine RT.bnA ?_ | refine RT.clA ?_)) | (refine d_VT ?_; (first | refine VT.seq rfl ?_ | refine VT.reg rfl ?_ | refine VT.condN rfl rfl (by first | assumption | omega) ?_ | refine VT.exit rfl ?_)) | with_reducible (refine kLn ?_)))
      refine ⟨k - (m + 1), by omega, _, _, ⟨m + 1, o.set i f, r', rfl, hlt, ?_, rfl, rfl, rfl⟩, fgA⟩
      simp only [DM.dvS, hd]
      rw [← hi, hF, hr']
  · obtain rfl : m = k := by omega
    rw [hd] at hres
    simp only at hres
    repeat (any_goals (first | (refine d_RT ?_; (first | refine RT.nil ?_ | refine RT.mvA ?_ | refine RT.asA ?_ | refine RT.bnA ?_)) | (refine d_VT ?_; (first | refine VT.seq rfl ?_ | refine VT.reg rfl ?_ | refine VT.condN rfl rfl (by first | assumption | omega) ?_ | refine VT.block rfl ?_ | refine VT.exit rfl ?_))))
    refine VT.loop (fun j aa H g2 => ∃ i : Nat, j = r.length - i ∧ i ≤ r.length ∧ (r.take i).all (fun n => decide (n = 0)) = true ∧ aa = [(6, .ms 1 0 (m + e) (m + e)), (7, .ms 2 0 m m), (11, wI i)] ∧ H = [.dead, .live 1 (r.map eI), .live 1 (o.map eI)] ∧ g2 = g') rfl
      ⟨_, _, _, ⟨0, rfl, Nat.zero_le _, by simp, rfl, rfl, rfl⟩, fgA⟩ ?_
    rintro j aa H g2 ⟨i, rfl, hi, hz, rfl, rfl, rfl⟩
    by_cases hli : i < r.length
    · have hri := getD_some hli
      by_cases h0 : r.getD i 0 = 0
      · repeat (any_goals (first | (refine d_RT ?_; (first | refine RT.nil ?_ | refine RT.v (f_ixO0 (k := i) rfl rfl rfl rfl rfl (by omega)) ?_ | refine RT.v (f_ldWE rfl rfl rfl hri) ?_ | refine RT.v (f_neqF rfl rfl h0) ?_ | refine RT.mvA ?_ | refine RT.asA ?_ | refine RT.bnA ?_ | refine RT.clA ?_)) | (refine d_VT ?_; (first | refine VT.seq rfl ?_ | refine VT.reg rfl ?_ | refine VT.condF rfl rfl ?_ | refine VT.condY rfl rfl (by first | assumption | omega) ?_ | refine VT.block rfl ?_ | refine VT.skip rfl ?_)) | with_reducible (refine kLn ?_)))
        refine ⟨r.length - (i + 1), by omega, _, _, ⟨i + 1, rfl, hli, ?_, rfl, rfl, rfl⟩, fgA⟩
        rw [List.take_add_one, List.all_append, hz, hri, h0]; rfl
      · repeat (any_goals (first | (refine d_RT ?_; (first | refine RT.nil ?_ | refine RT.v (f_ixO0 (k := i) rfl rfl rfl rfl rfl (by omega)) ?_ | refine RT.v (f_ldWE rfl rfl rfl hri) ?_ | refine RT.v (f_neqT rfl rfl h0) ?_ | refine RT.mvA ?_ | refine RT.asA ?_ | refine RT.bnA ?_ | refine RT.clA ?_)) | (refine d_VT ?_; (first | refine VT.seq rfl ?_ | refine VT.reg rfl ?_ | refine VT.condT rfl rfl ?_ | refine VT.condY rfl rfl (by first | assumption | omega) ?_ | refine VT.block rfl ?_ | refine VT.skip rfl ?_ | refine VT.ret rfl ?_)) | (with_reducible first | refine kSr ?_ | refine kBr ?_ | refine kLr ?_) | (with_reducible refine d_kEr ?_; refine kEr rfl ?_)))
        rw [hres, if_neg]
        · rfl
        · intro h
          have := List.all_eq_true.1 h _ (List.mem_of_getElem? hri)
          exact h0 (of_decide_eq_true this)
    · obtain rfl : i = r.length := by omega
      rw [List.take_length] at hz
      repeat (any_goals (first | (refine d_RT ?_; (first | refine RT.nil ?_ | refine RT.mvA ?_ | refine RT.asA ?_ | refine RT.bnA ?_ | refine RT.clA ?_)) | (refine d_VT ?_; (first | refine VT.seq rfl ?_ | refine VT.reg rfl ?_ | refine VT.condN rfl rfl (by first | assumption | omega) ?_ | refine VT.exit rfl ?_ | refine VT.ret rfl ?_)) | (with_reducible refine d_kEr ?_; refine kEr rfl ?_)))
      rw [hres, if_pos hz]
      show D.tup [snapR _ 4 (.ms 2 0 m m), _] = _
      rw [snapRW (o := o) rfl hol.symm]
      rfl
end Go.DL
