/- Linear equations, solved in place: the walk. -/
import Derived.Test.YtmbbepdbjeciaaaGreatZo1
import Derived.Test.YtmbbepdbjeciaaaGreatZx
set_option linter.all false
set_option maxRecDepth 100000
set_option maxHeartbeats 16000000
namespace Go.DL
open Go.Proofs Go

theorem m_solve1 {n : Nat} {r : List Int} (h : r.length = n + 1) : Maps Tryz.prog 178 ([D.sl (r.map eI)] ++ [.rp [wI n]]) (wB (decide (r.getD n 0 ≠ 0))) := by
  have e : r.getD n 0 = r[n] := by simp [List.getD_eq_getElem?_getD, h]
  rw [e]
  refine Maps.vt pok Tryz.f178 (n := 9) (rs := [.tmp 3]) rfl rfl rfl rfl rfl rfl fun g => ?_
  repeat (any_goals (first | (refine d_RT ?_; (first | refine RT.nil ?_ | refine RT.mvA ?_ | refine RT.asA ?_ | refine RT.ldA ?_ | refine RT.bnA ?_ | refine RT.ixA ?_)) | (refine d_VT ?_; (first | refine VT.seq rfl ?_ | refine VT.reg rfl ?_ | refine VT.ret rfl ?_)) | (with_reducible refine d_kEr ?_; refine kEr rfl ?_)))
  rfl
theorem c_solve {H0 : List Blk} {b n L : Nat} {ps : List Nat} {M0 : List (List Int)} (hL : ps.length = L) (hn : n ≤ 1000) (hLb : L ≤ 1000) (hM : M0.length = L) (hrl : ∀ r, r ∈ M0 → r.length = n + 1 ∧ allW r)
    (hb : H0[b]? = some (.live 1 (ps.map fun p => [.ms p 0 (n + 1) (n + 1)]))) (hr : ∀ i, i < L → H0[ps.getD i 0]? = some (.live 1 ((M0.getD i []).map eI))) (hd : ∀ i, i < L → ps.getD i 0 ≠ b) (hnd : ∀ i j, i < L → j < L → ps.getD i 0 = ps.getD j 0 → i = j) :
    CallSp Tryz.prog 166 [.ms b 0 L L, wI n] H0 fun d H => (∃ q x, d = .tup [.ms q 0 n n, wB true] ∧ H[q]? = some (.live 1 (x.map eI)) ∧ DM.Sol n M0 x ∧ allW x) ∨ (∃ y, d = .tup [y, wB false] ∧ ∀ x, ¬ DM.Sol n M0 x) := by
  refine CallSp.vt pok Tryz.f166 (n := 179) (rs := [.tmp 4, .tmp 5]) rfl rfl rfl rfl rfl rfl rfl fun g => ?_
  have hbl : b < H0.length := (List.getElem?_eq_some_iff.1 hb).1
  have hpl : ∀ i, i < L → ps.getD i 0 < H0.length := fun i hi => (List.getElem?_eq_some_iff.1 (hr i hi)).1
  have hbox : (H0 ++ [Blk.live 1 [[wI n]]])[H0.length]? = some (.live 1 [[wI n]]) := by simp
  have hbox2 : (H0 ++ [Blk.live 1 [[wI n]]] ++ [Blk.live 1 ((List.replicate n 0).map eI)])[H0.length]? = some (.live 1 [[wI n]]) := by simp
  repeat (any_goals (first | (refine d_RT ?_; (first | refine RT.nil ?_ | refine RT.v (f_ldO rfl hbox rfl rfl rfl) ?_ | refine RT.v (f_ldO rfl hbox2 rfl rfl rfl) ?_ | refine RT.mvA ?_ | refine RT.asA ?_ | refine RT.nwA ?_)) | (refine d_VT ?_; (first | refine VT.seq rfl ?_ | refine VT.reg rfl ?_ | refine VT.block rfl ?_))))
  have hbt : (H0 ++ [Blk.live 1 [[wI n]]]).length = H0.length + 1 := by simp
  rw [hbt]
  have hlow : ∀ {i x}, i < H0.length → H0[i]? = some x → (H0 ++ [Blk.live 1 [[wI n]]] ++ [Blk.live 1 ((List.replicate n 0).map eI)])[i]? = some x := fun {i x} hi h => by
    rw [List.append_assoc, List.getElem?_append_left hi]; exact h
  have hS0 : SH (H0 ++ [Blk.live 1 [[wI n]]] ++ [Blk.live 1 ((List.replicate n 0).map eI)]) H0.length (H0.length + 1) b n ps M0 (List.replicate n 0) := by
    refine ⟨hbox2, by simp, hlow hbl hb, fun i hi => hlow (hpl i (by omega)) (hr i (by omega)), ⟨by omega, by omega, by omega⟩, fun i hi => ?_, fun i j hi hj => hnd i j (by omega) (by omega), by omega⟩
    have := hpl i (by omega)
    exact ⟨by omega, by omega, hd i (by omega)⟩
  have hE0 := DM.Elim.start hM hrl
  generalize H0.length = bx at hS0
  generalize bx + 1 = bt at hS0
  refine VT.loop (fun j a H g' => ∃ (c used : Nat) (at' : List Int) (M : List (List Int)) (ps : List Nat), j = n - c ∧ c ≤ n ∧ DM.Elim L n M0 c used at' M ∧ a = [(0, .ms b 0 L L), (3, .mp bx 0 0), (6, .ms bt 0 n n), (7, wI used), (21, wI n), (22, wI c)] ∧ SH H bx bt b n ps M at' ∧ ps.length = L ∧ g' = g) rfl
    ⟨_, _, _, ⟨0, 0, _, M0, ps, rfl, Nat.zero_le _, hE0, rfl, hS0, hL, rfl⟩, Wk.keep (by (repeat first | exact True.intro | refine And.intro ?_ ?_ | exact Or.inr (Or.inl rfl) | exact Or.inl rfl | (refine DLe.i rfl ?_; omega) | (refine DLe.i rfl ?_; simp; done)))⟩ ?_
  clear hS0 hE0 hlow hbox hbox2 hpl hbl hr hb hd hnd hL
  rintro j a H g' ⟨c, used, at', M, ps, rfl, hc, hE, rfl, hS, hL, rfl⟩
  by_cases hlt : c < n
  · repeat (any_goals (first | (refine d_RT ?_; (first | refine RT.nil ?_ | refine RT.mvA ?_ | refine RT.asA ?_ | refine RT.bnA ?_)) | (refine d_VT ?_; (first | refine VT.seq rfl ?_ | refine VT.reg rfl ?_ | refine VT.condY rfl rfl (by first | assumption | omega) ?_ | refine VT.block rfl ?_ | refine VT.skip rfl ?_ | refine VT.label rfl ?_ | refine VT.scope rfl ?_))))
    refine VT.loop (fun j a H2 g2 => ∃ r : Nat, j = L - r ∧ used ≤ r ∧ r ≤ L ∧ (∀ i, used ≤ i → i < r → DM.ent M i c = 0) ∧ a = [(0, .ms b 0 L L), (3, .mp bx 0 0), (6, .ms bt 0 n n), (7, wI used), (21, wI n), (22, wI c), (8, wI c), (9, wI (-1)), (10, wI r)] ∧ H2 = H ∧ g2 = g') rfl
      ⟨_, _, _, ⟨used, rfl, Nat.le_refl _, hE.ul, fun i h1 h2 => absurd h2 (by omega), rfl, rfl, rfl⟩, Wk.keep (by (repeat first | exact True.intro | refine And.intro ?_ ?_ | exact Or.inr (Or.inl rfl) | exact Or.inl rfl | (refine DLe.i rfl ?_; omega) | (refine DLe.i rfl ?_; simp; done)))⟩ ?_
    rintro j a H2 g2 ⟨r, rfl, hur, hr, hz, rfl, rfl, rfl⟩
    by_cases hlr : r < L
    · by_cases hne : DM.ent M r c = 0
      · repeat (any_goals (first | (refine d_RT ?_; (first | refine RT.nil ?_ | refine RT.v (f_ixO0 (k := r) rfl rfl rfl hS.rows rfl (by omega)) ?_ | refine RT.v (f_ldO rfl hS.rows (hS.ptr (by omega)) rfl rfl) ?_ | refine RT.v (f_ixO0 (k := c) rfl rfl rfl (hS.row r (by omega)) rfl (by omega)) ?_ | refine RT.v (f_ldWE rfl (hS.row r (by omega)) rfl (hS.get hE hL hlr (by omega))) ?_ | refine RT.mvA ?_ | refine RT.asA ?_ | refine RT.bnA ?_ | refine RT.clA ?_)) | (refine d_VT ?_; (first | refine VT.seq rfl ?_ | refine VT.reg rfl ?_ | refine VT.condY rfl rfl (by first | assumption | omega) ?_ | refine VT.condN rfl rfl (by first | assumption | omega) ?_ | refine VT.block rfl ?_ | refine VT.skip rfl ?_)) | with_reducible (refine kLn ?_)))
        refine ⟨L - (r + 1), by omega, _, _, ⟨r + 1, rfl, by omega, by omega, fun i h1 h2 => ?_, rfl, rfl, rfl⟩, Wk.keep (by (repeat first | exact True.intro | refine And.intro ?_ ?_ | exact Or.inr (Or.inl rfl) | exact Or.inl rfl | (refine DLe.i rfl ?_; omega) | (refine DLe.i rfl ?_; simp; done)))⟩
        rcases Nat.lt_or_ge i r with h3 | h3
        · exact hz i h1 h3
        · obtain rfl : i = r := by omega
          exact hne
      · have hS3 := hS.app [.free, .free, .free]
        have hbl := hS.lt.2.2.1
        let X1 : Blk := .live 1 ((ps.map fun p => [D.ms p 0 (n + 1) (n + 1)]).set used [.ms (ps.getD r 0) 0 (n + 1) (n + 1)])
        let X2 : Blk := .live 1 (((ps.map fun p => [D.ms p 0 (n + 1) (n + 1)]).set used [.ms (ps.getD r 0) 0 (n + 1) (n + 1)]).set r [.ms (ps.getD used 0) 0 (n + 1) (n + 1)])
        have hX1 : (H2.set b X1 ++ [Blk.free, .free, .free])[b]? = some X1 := by
          rw [List.getElem?_append_left (by rw [List.length_set]; exact hbl), List.getElem?_set_self hbl]
        have hX1r : ∃ w, ((ps.map fun p => [D.ms p 0 (n + 1) (n + 1)]).set used [.ms (ps.getD r 0) 0 (n + 1) (n + 1)])[r]? = some [w] := by
          by_cases e : used = r
          · subst e; exact ⟨_, by rw [List.getElem?_set_self (by simp; omega)]⟩
          · exact ⟨_, by rw [List.getElem?_set_ne e]; exact hS.ptr (by omega)⟩
        obtain ⟨w0, hw0⟩ := hX1r
        have hm1 : ∀ hs : List Nat, hs.all (freeAt [.free, .free, .free]) = true → maskL H2.length hs (H2.set b X1 ++ [.free, .free, .free]) = H2.set b X1 ++ [.free, .free, .free] := fun hs h => by
          have := mask_app (H0 := H2.set b X1) h
          rwa [List.length_set] at this
        repeat (any_goals (first | (refine d_RT ?_; (first | refine RT.nil ?_ | refine RT.v (f_ixO0 (k := r) rfl rfl rfl hS.rows rfl (by omega)) ?_ | refine RT.v (f_ldO rfl hS.rows (hS.ptr (by omega)) rfl rfl) ?_ | refine RT.v (f_ixO0 (k := c) rfl rfl rfl (hS.row r (by omega)) rfl (by omega)) ?_ | refine RT.v (f_ldWE rfl (hS.row r (by omega)) rfl (hS.get hE hL hlr (by omega))) ?_ | refine RT.mvA ?_ | refine RT.asA ?_ | refine RT.bnA ?_ | refine RT.clA ?_)) | (refine d_VT ?_; (first | refine VT.seq rfl ?_ | refine VT.reg rfl ?_ | refine VT.draw [(2, [0, 1]), (2, [0, 1]), (2, [0, 1]), (2, [0, 1]), (2, [0, 1]), (2, [0, 1]), (2, [0, 1]), (2, [0, 1]), (2, [0, 1]), (2, [0, 1]), (2, [0, 1]), (2, [0, 1]), (2, [0, 1]), (0, [0, 1]), (2, [1]), (1, [1])] 3 mixedOk rfl (by decide +kernel) (by decide +kernel) (by decide +kernel) (by first | (simp only [nrm]; rfl) | (simp only [nrm, Nat.reduceAdd, Nat.zero_add]; rfl) | rfl) (by first | (simp only [nrm]; rfl) | (simp only [nrm, Nat.reduceAdd, Nat.zero_add]; rfl) | rfl) ?_ | refine VT.condF rfl rfl ?_ | refine VT.condY rfl rfl (by first | assumption | omega) ?_ | refine VT.block rfl ?_ | refine VT.skip rfl ?_ | refine VT.exit rfl ?_)) | (refine d_PT ?_; (first | refine PT.vI (mask_app (H0 := H2) (T := [_, _, _]) rfl) (f_ixO0 (k := r) rfl rfl rfl hS3.rows rfl (by omega)) ?_ | refine PT.vI (mask_app (H0 := H2) (T := [_, _, _]) rfl) (f_ixO0 (k := used) rfl rfl rfl hS3.rows rfl (by omega)) ?_ | refine PT.vI (mask_app (H0 := H2) (T := [_, _, _]) rfl) (f_ldO rfl hS3.rows (hS.ptr (by omega)) rfl rfl) ?_ | refine PT.wrI (mask_app (H0 := H2) (T := [_, _, _]) rfl) (f_stV rfl hS3.rows (hS.ptr (by omega)) rfl rfl rfl rfl) (H' := H2.set b X1 ++ [.free, .free, .free]) (by show (H2 ++ _).set b X1 = _; rw [List.set_append_left _ _ hbl]) ?_ | refine PT.vI (hm1 _ rfl) (f_ixO0 (k := r) rfl rfl rfl hX1 rfl (by omega)) ?_ | refine PT.wrI (hm1 _ rfl) (f_stV rfl hX1 hw0 rfl rfl rfl rfl) (H' := H2.set b X2 ++ [.free, .free, .free]) (by show (H2.set b X1 ++ _).set b X2 = _; rw [List.set_append_left _ _ (by rw [List.length_set]; exact hbl), List.set_set]) ?_ | refine PT.done (H' := H2.set b X2 ++ [.free, .free]) (by simp [List.dropLast]) ?_ | refine PT.mvI (mask_app (H0 := H2) (T := [_, _, _]) rfl) ?_))))
        have hS4 : SH (H2.set b X2 ++ [.free, .free]) bx bt b n _ _ at' := (hS.swap (u := used) (p := r) (by omega) (by omega)).app [.free, .free]
        obtain ⟨ps', hps'⟩ : ∃ p, p = ((ps.set used (ps.getD r 0)).set r (ps.getD used 0)) := ⟨_, rfl⟩
        obtain ⟨M', hM'⟩ : ∃ p, p = ((M.set used (M.getD r [])).set r (M.getD used [])) := ⟨_, rfl⟩
        rw [← hps', ← hM'] at hS4
        have hL' : ps'.length = L := by rw [hps']; simp [hL]
        have hML : M'.length = L := by rw [hS4.len, hL']
        have hO : ∀ i, M'.getD i [] = DM.origR M used r i := fun i => by
          rw [hM', swapM_get (by rw [hE.ml]; omega) (by rw [hE.ml]; omega)]
          unfold DM.origR
          by_cases h1 : i = r
          · subst h1
            by_cases h2 : i = used
            · subst h2; simp
            · simp [h2]
          · simp [h1]
        generalize hH4 : H2.set b X2 ++ [Blk.free, .free] = H4 at hS4
        clear hX1 hm1 hw0 hS3 hH4
        obtain ⟨R, hR⟩ : ∃ R, R = M.getD r [] := ⟨_, rfl⟩
        have hMu : M'.getD used [] = R := by rw [hO, DM.origR, if_pos rfl, hR]
        obtain ⟨hRl, hRW⟩ := hE.row hlr
        rw [← hR] at hRl
        have hent : ∀ j, DM.ent M r j = R.getD j 0 := fun j => by rw [hR]; rfl
        have hr4 := hS4.row used (by omega)
        rw [hMu] at hr4
        have hpv : R[c]? = some (DM.ent M r c) := by rw [hent]; exact getD_some (by omega)
        repeat (any_goals (first | (refine d_RT ?_; (first | refine RT.nil ?_ | refine RT.v (f_ixO0 (k := used) rfl rfl rfl hS4.rows rfl (by omega)) ?_ | refine RT.v (f_ldO rfl hS4.rows (hS4.ptr (by omega)) rfl rfl) ?_ | refine RT.v (f_ixO0 (k := c) rfl rfl rfl hr4 rfl (by omega)) ?_ | refine RT.v (f_ldWE rfl hr4 rfl hpv) ?_ | refine RT.mvA ?_ | refine RT.asA ?_ | (refine d_call ?_; (first | refine RT.callM rfl (m_inverse _ (hRW c)) rfl rfl ?_ | refine RT.clA ?_)))) | (refine d_VT ?_; (first | refine VT.seq rfl ?_ | refine VT.reg rfl ?_ | refine VT.block rfl ?_))))
        obtain ⟨s, hs⟩ : ∃ s, s = inv (DM.ent M r c) := ⟨_, rfl⟩
        have hsW : 0 ≤ s ∧ s ≤ 65520 := by rw [hs]; exact inv_W _
        have hpivR : DM.pivR M c r = DM.scaleR s R := by rw [hs, hR]; rfl
        rw [← hs]
        have hsl : (DM.scaleR s R).length = R.length := by rw [DM.scaleR, List.length_map]
        refine VT.loop (fun j a H g3 => ∃ k : Nat, j = n + 1 - k ∧ k ≤ n + 1 ∧ a = [(0, .ms b 0 L L), (3, .mp bx 0 0), (6, .ms bt 0 n n), (7, wI used), (21, wI n), (22, wI c), (8, wI c), (11, wI s), (69, wI (n + 1 : Nat)), (70, wI k)] ∧ SH H bx bt b n ps' (M'.set used (mixL (DM.scaleR s R) R k)) at' ∧ g3 = g2) rfl
          ⟨_, _, _, ⟨0, rfl, Nat.zero_le _, rfl, by rw [mixL_zero, ← hMu, setD_self]; exact hS4, rfl⟩, Wk.keep (by (repeat first | exact True.intro | refine And.intro ?_ ?_ | exact Or.inr (Or.inl rfl) | exact Or.inl rfl | (refine DLe.i rfl ?_; omega) | (refine DLe.i rfl ?_; simp; done)))⟩ ?_
        clear hS4 hr4 hpv
        rintro j a H3 g3 ⟨k, rfl, hk, rfl, hS3, rfl⟩
        by_cases hlk : k < n + 1
        · have hS5 := hS3.app [.free, .free]
          have hrow := hS5.row used (by omega)
          have hul : ps'.getD used 0 < H3.length := hS3.lt.2.2.2 used (by omega)
          rw [setD_get (by omega)] at hrow
          have hvk := mixL_get hsl (k := k) (by omega)
          have hmul : 0 ≤ R.getD k 0 * s ∧ R.getD k 0 * s ≤ 4292870400 := mulB (by rw [← hent]; exact hRW k) hsW
          have hset := hS3.setRow (i := used) (by omega) (mixL (DM.scaleR s R) R (k + 1))
          rw [List.set_set, ← mixL_set hsl (by omega), DM.getD_scale] at hset
          repeat (any_goals (first | (refine d_RT ?_; (first | refine RT.nil ?_ | refine RT.mvA ?_ | refine RT.asA ?_ | refine RT.bnA ?_)) | (refine d_VT ?_; (first | refine VT.seq rfl ?_ | refine VT.reg rfl ?_ | refine VT.draw [(1, [0]), (1, [0]), (1, [0]), (1, [0]), (1, [0]), (1, [0]), (1, [0]), (1, [0]), (1, [0]), (1, [0]), (1, [0]), (1, [0]), (1, [0]), (1, [0]), (1, [0]), (1, [0]), (0, [0])] 2 mixedOk rfl (by decide +kernel) (by decide +kernel) (by decide +kernel) (by first | (simp only [nrm]; rfl) | (simp only [nrm, Nat.reduceAdd, Nat.zero_add]; rfl) | rfl) (by first | (simp only [nrm]; rfl) | (simp only [nrm, Nat.reduceAdd, Nat.zero_add]; rfl) | rfl) ?_ | refine VT.condY rfl rfl (by first | assumption | omega) ?_ | refine VT.block rfl ?_ | refine VT.skip rfl ?_)) | (refine d_PT ?_; (first | refine PT.vI (mask_app (H0 := H3) (T := [_, _]) rfl) (f_ixO0 (k := used) rfl rfl rfl hS5.rows rfl (by omega)) ?_ | refine PT.vI (mask_app (H0 := H3) (T := [_, _]) rfl) (f_ldO rfl hS5.rows (hS5.ptr (by omega)) rfl rfl) ?_ | refine PT.vI (mask_app (H0 := H3) (T := [_, _]) rfl) (f_ixO0 (k := k) rfl rfl rfl hrow rfl (by omega)) ?_ | refine PT.vI (mask_app (H0 := H3) (T := [_, _]) rfl) (f_ldWE rfl hrow rfl hvk) ?_ | refine PT.wrI (mask_app (H0 := H3) (T := [_, _]) rfl) (f_stW (k := k) rfl hrow (by rw [mixL_len hsl (by omega)]; omega) rfl rfl) (List.set_append_left _ _ hul) ?_ | refine PT.done (dropL2 _ _ _) ?_ | refine PT.mvI (mask_app (H0 := H3) (T := [_, _]) rfl) ?_ | refine PT.bnI (mask_app (H0 := H3) (T := [_, _]) rfl) ?_ | refine PT.callI (mask_app (H0 := H3) (T := [_, _]) rfl) rfl (m_mod _) (by first | (simp only [nrm]; rfl) | (simp only [nrm, Nat.reduceAdd, Nat.zero_add]; rfl) | rfl) rfl ?_)) | with_reducible (refine kLn ?_)))
          exact ⟨n + 1 - (k + 1), by omega, _, _, ⟨k + 1, rfl, by omega, rfl, by rw [← mixL_set hsl (by omega), DM.getD_scale]; exact hset.app [.free], rfl⟩, Wk.keep (by (repeat first | exact True.intro | refine And.intro ?_ ?_ | exact Or.inr (Or.inl rfl) | exact Or.inl rfl | (refine DLe.i rfl ?_; omega) | (refine DLe.i rfl ?_; simp; done)))⟩
        · obtain rfl : k = n + 1 := by omega
          rw [mixL_all' hsl hRl, ← hpivR] at hS3
          have hQ0 : ∀ q, q < L → (M'.set used (DM.pivR M c r)).getD q [] = if q < 0 ∨ q = used then DM.rowA M c used r q else DM.origR M used r q := fun q hq => by
            by_cases e : q = used
            · subst e; rw [setD_get (by omega), if_pos (.inr rfl), DM.rowA, if_pos rfl]
            · rw [setD_ne (fun x => e x.symm), if_neg (by omega), hO]
          have hpl : (DM.pivR M c r).length = n + 1 := by rw [hpivR, hsl, hRl]
          have hpW : ∀ j, 0 ≤ (DM.pivR M c r).getD j 0 ∧ (DM.pivR M c r).getD j 0 ≤ 65520 := fun j => by rw [hpivR, DM.getD_scale]; omega
          have hml0 : (M'.set used (DM.pivR M c r)).length = L := by rw [List.length_set, hML]
          have hog : ∀ i, i < L → _ := fun i hi => hE.orig hur hlr (i := i) hi
          generalize hu : DM.pivR M c r = u at *
          repeat (any_goals (first | (refine d_RT ?_; (first | refine RT.nil ?_ | refine RT.mvA ?_ | refine RT.bnA ?_ | refine RT.clA ?_)) | (refine d_VT ?_; (first | refine VT.seq rfl ?_ | refine VT.reg rfl ?_ | refine VT.condN rfl rfl (by first | assumption | omega) ?_ | refine VT.block rfl ?_ | refine VT.exit rfl ?_))))
          refine VT.loop (fun j a H g4 => ∃ (i : Nat) (M2 : List (List Int)), j = L - i ∧ i ≤ L ∧ M2.length = L ∧ (∀ q, q < L → M2.getD q [] = if q < i ∨ q = used then DM.rowA M c used r q else DM.origR M used r q) ∧ a = [(0, .ms b 0 L L), (3, .mp bx 0 0), (6, .ms bt 0 n n), (7, wI used), (21, wI n), (22, wI c), (8, wI c), (91, wI L), (92, wI i)] ∧ SH H bx bt b n ps' M2 at' ∧ g4 = g3) rfl
            ⟨_, _, _, ⟨0, _, rfl, Nat.zero_le _, hml0, hQ0, rfl, hS3, rfl⟩, Wk.keep (by (repeat first | exact True.intro | refine And.intro ?_ ?_ | exact Or.inr (Or.inl rfl) | exact Or.inl rfl | (refine DLe.i rfl ?_; omega) | (refine DLe.i rfl ?_; simp; done)))⟩ ?_
          clear hS3 hQ0 hml0 hs hsl hpivR
          rintro j a H5 g4 ⟨i, M2, rfl, hi, hm2, hQ, rfl, hS6, rfl⟩
          by_cases hli : i < L
          · by_cases hiu : i = used
            · repeat (any_goals (first | (refine d_RT ?_; (first | refine RT.nil ?_ | refine RT.v (f_ixO0 (k := i) rfl rfl rfl hS6.rows rfl (by omega)) ?_ | refine RT.v (f_ldO rfl hS6.rows (hS6.ptr (by omega)) rfl rfl) ?_ | refine RT.v (f_ixO0 (k := c) rfl rfl rfl (hS6.row i (by omega)) rfl (by omega)) ?_ | refine RT.v (f_ldWE rfl (hS6.row i (by omega)) rfl (getD_some (by rw [hQ _ hli, if_pos (.inr hiu), DM.rowA, if_pos hiu, hu]; omega))) ?_ | refine RT.v (f_eqlT rfl rfl (by omega)) ?_ | refine RT.gn rfl rfl ?_ | refine RT.mvA ?_ | refine RT.asA ?_ | refine RT.bnA ?_ | refine RT.pkA ?_)) | (refine d_VT ?_; (first | refine VT.seq rfl ?_ | refine VT.reg rfl ?_ | refine VT.condT rfl rfl ?_ | refine VT.condY rfl rfl (by first | assumption | omega) ?_ | refine VT.block rfl ?_ | refine VT.skip rfl ?_ | refine VT.exit rfl ?_)) | with_reducible (refine kLn ?_)))
              exact ⟨L - (i + 1), by omega, _, _, ⟨i + 1, M2, rfl, hli, hm2, fun q hq => by rw [hQ q hq]; simp only [show (q < i ∨ q = used) ↔ (q < i + 1 ∨ q = used) by omega], rfl, hS6, rfl⟩, Wk.keep (by (repeat first | exact True.intro | refine And.intro ?_ ?_ | exact Or.inr (Or.inl rfl) | exact Or.inl rfl | (refine DLe.i rfl ?_; omega) | (refine DLe.i rfl ?_; simp; done)))⟩
            · obtain ⟨r0, hr0⟩ : ∃ r0, r0 = DM.origR M used r i := ⟨_, rfl⟩
              obtain ⟨hol, hoW⟩ := hog i hli
              rw [← hr0] at hol hoW
              have hMi : M2.getD i [] = r0 := by rw [hQ i hli, if_neg (by omega), hr0]
              have hr6 := hS6.row i (by omega)
              rw [hMi] at hr6
              have hA : DM.rowA M c used r i = DM.elimR (r0.getD c 0) u r0 := by rw [DM.rowA, if_neg hiu, hr0, hu]
              have hQ1 : ∀ M3 : List (List Int), M3 = M2.set i (DM.elimR (r0.getD c 0) u r0) → M3.length = L ∧ ∀ q, q < L → M3.getD q [] = if q < i + 1 ∨ q = used then DM.rowA M c used r q else DM.origR M used r q := fun M3 h3 => by
                subst h3
                refine ⟨by rw [List.length_set, hm2], fun q hq => ?_⟩
                by_cases e : q = i
                · subst e; rw [setD_get (by omega), if_pos (by omega), hA]
                · rw [setD_ne (fun x => e x.symm), hQ q hq]; simp only [show (q < i ∨ q = used) ↔ (q < i + 1 ∨ q = used) by omega]
              have hcv : r0[c]? = some (r0.getD c 0) := getD_some (by omega)
              generalize hf : r0.getD c 0 = f at hcv hQ1 hA
              have hfW := hoW c
              rw [hf] at hfW
              by_cases hf0 : f = 0
              · repeat (any_goals (first | (refine d_RT ?_; (first | refine RT.nil ?_ | refine RT.v (f_ixO0 (k := i) rfl rfl rfl hS6.rows rfl (by omega)) ?_ | refine RT.v (f_ldO rfl hS6.rows (hS6.ptr (by omega)) rfl rfl) ?_ | refine RT.v (f_ixO0 (k := c) rfl rfl rfl hr6 rfl (by omega)) ?_ | refine RT.v (f_ldWE rfl hr6 rfl hcv) ?_ | refine RT.v (f_eqlF rfl rfl (by omega)) ?_ | refine RT.v (f_eqlT rfl rfl (by omega)) ?_ | refine RT.gy rfl ?_ | refine RT.mvA ?_ | refine RT.asA ?_ | refine RT.bnA ?_ | refine RT.pkA ?_)) | (refine d_VT ?_; (first | refine VT.seq rfl ?_ | refine VT.reg rfl ?_ | refine VT.condT rfl rfl ?_ | refine VT.condY rfl rfl (by first | assumption | omega) ?_ | refine VT.block rfl ?_ | refine VT.skip rfl ?_ | refine VT.exit rfl ?_)) | with_reducible (refine kLn ?_)))
                have h3 := hQ1 M2 (by rw [elim_zero hf0 (by omega) hoW, ← hMi, setD_self])
                exact ⟨L - (i + 1), by omega, _, _, ⟨i + 1, M2, rfl, hli, h3.1, h3.2, rfl, hS6, rfl⟩, Wk.keep (by (repeat first | exact True.intro | refine And.intro ?_ ?_ | exact Or.inr (Or.inl rfl) | exact Or.inl rfl | (refine DLe.i rfl ?_; omega) | (refine DLe.i rfl ?_; simp; done)))⟩
              · repeat (any_goals (first | (refine d_RT ?_; (first | refine RT.nil ?_ | refine RT.v (f_ixO0 (k := i) rfl rfl rfl hS6.rows rfl (by omega)) ?_ | refine RT.v (f_ldO rfl hS6.rows (hS6.ptr (by omega)) rfl rfl) ?_ | refine RT.v (f_ixO0 (k := c) rfl rfl rfl hr6 rfl (by omega)) ?_ | refine RT.v (f_ldWE rfl hr6 rfl hcv) ?_ | refine RT.v (f_eqlF rfl rfl (by omega)) ?_ | refine RT.gy rfl ?_ | refine RT.mvA ?_ | refine RT.asA ?_ | refine RT.bnA ?_ | refine RT.clA ?_ | refine RT.pkA ?_)) | (refine d_VT ?_; (first | refine VT.seq rfl ?_ | refine VT.reg rfl ?_ | refine VT.condF rfl rfl ?_ | refine VT.condY rfl rfl (by first | assumption | omega) ?_ | refine VT.block rfl ?_ | refine VT.skip rfl ?_))))
                have hel : (DM.elimR f u r0).length = r0.length := by rw [DM.elimR, List.length_zipWith]; omega
                refine VT.loop (fun j a H g5 => ∃ k : Nat, j = n + 1 - k ∧ k ≤ n + 1 ∧ a = [(0, .ms b 0 L L), (3, .mp bx 0 0), (6, .ms bt 0 n n), (7, wI used), (21, wI n), (22, wI c), (8, wI c), (91, wI L), (92, wI i), (13, wI i), (14, wI f), (113, wI (n + 1 : Nat)), (114, wI k)] ∧ SH H bx bt b n ps' (M2.set i (mixL (DM.elimR f u r0) r0 k)) at' ∧ g5 = g4) rfl
                  ⟨_, _, _, ⟨0, rfl, Nat.zero_le _, rfl, by rw [mixL_zero, ← hMi, setD_self]; exact hS6, rfl⟩, Wk.keep (by (repeat first | exact True.intro | refine And.intro ?_ ?_ | exact Or.inr (Or.inl rfl) | exact Or.inl rfl | (refine DLe.i rfl ?_; omega) | (refine DLe.i rfl ?_; simp; done)))⟩ ?_
                have hMu2 : M2.getD used [] = u := by rw [hQ used (by omega), if_pos (.inr rfl), DM.rowA, if_pos rfl, hu]
                clear hS6 hr6
                rintro j a H6 g5 ⟨k, rfl, hk2, rfl, hS7, rfl⟩
                by_cases hlk2 : k < n + 1
                · have hS8 := hS7.app [.free, .free]
                  have hrow := hS8.row i (by omega)
                  have hrowu := hS8.row used (by omega)
                  have hul : ps'.getD i 0 < H6.length := hS7.lt.2.2.2 i (by omega)
                  rw [setD_get (by omega)] at hrow
                  rw [setD_ne hiu, hMu2] at hrowu
                  have hvk := mixL_get hel (k := k) (by omega)
                  have hvu : u[k]? = some (u.getD k 0) := getD_some (by omega)
                  have hmul : 0 ≤ f * u.getD k 0 ∧ f * u.getD k 0 ≤ 4292870400 := mulB hfW (hpW k)
                  have hrk := hoW k
                  have hset := hS7.setRow (i := i) (by omega) (mixL (DM.elimR f u r0) r0 (k + 1))
                  rw [List.set_set, ← mixL_set hel (by omega), DM.getD_elim f (by omega)] at hset
                  repeat (any_goals (first | (refine d_RT ?_; (first | refine RT.nil ?_ | refine RT.mvA ?_ | refine RT.asA ?_ | refine RT.bnA ?_)) | (refine d_VT ?_; (first | refine VT.seq rfl ?_ | refine VT.reg rfl ?_ | refine VT.draw [(1, [0]), (1, [0]), (1, [0]), (1, [0]), (1, [0]), (1, [0]), (1, [0]), (1, [0]), (1, [0]), (1, [0]), (1, [0]), (1, [0]), (1, [0]), (1, [0]), (1, [0]), (1, [0]), (1, [0]), (1, [0]), (1, [0]), (1, [0]), (1, [0]), (1, [0]), (1, [0]), (1, [0]), (0, [0])] 2 mixedOk rfl (by decide +kernel) (by decide +kernel) (by decide +kernel) (by first | (simp only [nrm]; rfl) | (simp only [nrm, Nat.reduceAdd, Nat.zero_add]; rfl) | rfl) (by first | (simp only [nrm]; rfl) | (simp only [nrm, Nat.reduceAdd, Nat.zero_add]; rfl) | rfl) ?_ | refine VT.condY rfl rfl (by first | assumption | omega) ?_ | refine VT.block rfl ?_ | refine VT.skip rfl ?_)) | (refine d_PT ?_; (first | refine PT.vI (mask_app (H0 := H6) (T := [_, _]) rfl) (f_ixO0 (k := i) rfl rfl rfl hS8.rows rfl (by omega)) ?_ | refine PT.vI (mask_app (H0 := H6) (T := [_, _]) rfl) (f_ixO0 (k := used) rfl rfl rfl hS8.rows rfl (by omega)) ?_ | refine PT.vI (mask_app (H0 := H6) (T := [_, _]) rfl) (f_ldO rfl hS8.rows (hS8.ptr (i := i) (by omega)) rfl rfl) ?_ | refine PT.vI (mask_app (H0 := H6) (T := [_, _]) rfl) (f_ldO rfl hS8.rows (hS8.ptr (i := used) (by omega)) rfl rfl) ?_ | refine PT.vI (mask_app (H0 := H6) (T := [_, _]) rfl) (f_ixO0 (k := k) rfl rfl rfl hrow rfl (by omega)) ?_ | refine PT.vI (mask_app (H0 := H6) (T := [_, _]) rfl) (f_ixO0 (k := k) rfl rfl rfl hrowu rfl (by omega)) ?_ | refine PT.vI (mask_app (H0 := H6) (T := [_, _]) rfl) (f_ldWE rfl hrow rfl hvk) ?_ | refine PT.vI (mask_app (H0 := H6) (T := [_, _]) rfl) (f_ldWE rfl hrowu rfl hvu) ?_ | refine PT.wrI (mask_app (H0 := H6) (T := [_, _]) rfl) (f_stW (k := k) rfl hrow (by rw [mixL_len hel (by omega)]; omega) rfl rfl) (List.set_append_left _ _ hul) ?_ | refine PT.done (dropL2 _ _ _) ?_ | refine PT.mvI (mask_app (H0 := H6) (T := [_, _]) rfl) ?_ | refine PT.bnI (mask_app (H0 := H6) (T := [_, _]) rfl) ?_ | refine PT.callI (mask_app (H0 := H6) (T := [_, _]) rfl) rfl (m_mod _) (by first | (simp only [nrm]; rfl) | (simp only [nrm, Nat.reduceAdd, Nat.zero_add]; rfl) | rfl) rfl ?_)) | with_reducible (refine kLn ?_)))
                  exact ⟨n + 1 - (k + 1), by omega, _, _, ⟨k + 1, rfl, by omega, rfl, by rw [← mixL_set hel (by omega), DM.getD_elim f (by omega)]; exact hset.app [.free], rfl⟩, Wk.keep (by (repeat first | exact True.intro | refine And.intro ?_ ?_ | exact Or.inr (Or.inl rfl) | exact Or.inl rfl | (refine DLe.i rfl ?_; omega) | (refine DLe.i rfl ?_; simp; done)))⟩
                · obtain rfl : k = n + 1 := by omega
                  rw [mixL_all' hel hol] at hS7
                  repeat (any_goals (first | (refine d_RT ?_; (first | refine RT.nil ?_ | refine RT.mvA ?_ | refine RT.bnA ?_)) | (refine d_VT ?_; (first | refine VT.seq rfl ?_ | refine VT.reg rfl ?_ | refine VT.condN rfl rfl (by first | assumption | omega) ?_ | refine VT.exit rfl ?_)) | with_reducible (refine kLn ?_)))
                  have h3 := hQ1 _ rfl
                  exact ⟨L - (i + 1), by omega, _, _, ⟨i + 1, _, rfl, hli, h3.1, h3.2, rfl, hS7, rfl⟩, Wk.keep (by (repeat first | exact True.intro | refine And.intro ?_ ?_ | exact Or.inr (Or.inl rfl) | exact Or.inl rfl | (refine DLe.i rfl ?_; omega) | (refine DLe.i rfl ?_; simp; done)))⟩
          · have hst := step_eq hm2 hQ (by omega)
            subst hst
            have hP := hE.pivot hlt hur hlr hne
            have hS9 := hS6.setAt (at'.set c ((used : Int) + 1))
            repeat (any_goals (first | (refine d_RT ?_; (first | refine RT.nil ?_ | refine RT.v (f_ixO0 (k := c) rfl rfl rfl hS6.att rfl (by omega)) ?_ | refine RT.wr (f_stW (k := c) rfl hS6.att (by rw [hE.al]; omega) rfl rfl) rfl ?_ | refine RT.mvA ?_ | refine RT.asA ?_ | refine RT.bnA ?_)) | (refine d_VT ?_; (first | refine VT.seq rfl ?_ | refine VT.reg rfl ?_ | refine VT.condN rfl rfl (by first | assumption | omega) ?_ | refine VT.exit rfl ?_)) | with_reducible (refine kLn ?_)))
            exact ⟨n - (c + 1), by omega, _, _, ⟨c + 1, used + 1, _, _, ps', rfl, hlt, hP, rfl, hS9, hL', rfl⟩, Wk.keep (by (repeat first | exact True.intro | refine And.intro ?_ ?_ | exact Or.inr (Or.inl rfl) | exact Or.inl rfl | (refine DLe.i rfl ?_; omega) | (refine DLe.i rfl ?_; simp; done)))⟩
    · obtain rfl : r = L := by omega
      repeat (any_goals (first | (refine d_RT ?_; (first | refine RT.nil ?_ | refine RT.mvA ?_ | refine RT.bnA ?_ | refine RT.clA ?_)) | (refine d_VT ?_; (first | refine VT.seq rfl ?_ | refine VT.reg rfl ?_ | refine VT.condT rfl rfl ?_ | refine VT.condN rfl rfl (by first | assumption | omega) ?_ | refine VT.exit rfl ?_)) | with_reducible (refine kLn ?_)))
      exact ⟨n - (c + 1), by omega, _, _, ⟨c + 1, used, at', M, ps, rfl, hlt, hE.skip hlt hz, rfl, hS, hL, rfl⟩, Wk.keep (by (repeat first | exact True.intro | refine And.intro ?_ ?_ | exact Or.inr (Or.inl rfl) | exact Or.inl rfl | (refine DLe.i rfl ?_; omega) | (refine DLe.i rfl ?_; simp; done)))⟩
  · obtain rfl : c = n := by omega
    have hul := hE.ul
    have hany := m_has_Row (p := fun r => decide (r.getD c 0 ≠ 0)) (F := 178) (cs := [.rp [wI c]]) (l := M.drop used) (by simp; have := hE.ml; omega) rfl fun r hr => m_solve1 (hE.rl r (List.mem_of_mem_drop hr)).1
    have hsn : ([.ms b used (L - used) (L - used), .fn (.func 178) [] [.mp bx 0 0]] : List D).map (snap (fun b => H[b]?) 5) = [.sl ((M.drop used).map eRow), .fn (.func 178) [] [.rp [wI c]]] := by
      have h1 := snapRows hS (fun i hi => (hE.row (by omega)).1) (u := used) (by omega)
      rw [hL] at h1
      have h2 := hS.box
      rw [List.map_cons, h1]
      simp [snap, h2]
    repeat (any_goals (first | (refine d_RT ?_; (first | refine RT.nil ?_ | (refine d_call ?_; refine RT.callM rfl hany hsn rfl ?_) | refine RT.v (f_slLo0 rfl rfl rfl (by omega) (by omega) rfl hS.rows) ?_ | refine RT.v (f_ldO rfl hS.box rfl rfl rfl) ?_ | refine RT.mvA ?_ | refine RT.asA ?_ | refine RT.bnA ?_ | refine RT.clA ?_ | refine RT.nwA ?_ | refine RT.msA ?_)) | (refine d_VT ?_; (first | refine VT.seq rfl ?_ | refine VT.reg rfl ?_ | refine VT.condN rfl rfl (by first | assumption | omega) ?_ | refine VT.cond rfl rfl (fun hc => ?_) (fun hc => ?_) | refine VT.block rfl ?_ | refine VT.skip rfl ?_ | refine VT.exit rfl ?_ | refine VT.ret rfl ?_)) | with_reducible (refine kSr ?_) | (with_reducible refine d_kEr ?_; refine kEr rfl ?_)))
    · refine .inr ⟨_, rfl, ?_⟩
      obtain ⟨r, hr, hr2⟩ := List.any_eq_true.1 hc
      obtain ⟨i, hi, rfl⟩ := List.mem_iff_getElem.1 hr
      rw [List.length_drop, hE.ml] at hi
      refine hE.no (i := used + i) (by omega) (by omega) ?_
      rw [DM.ent, show M.getD (used + i) [] = (M.drop used)[i] by
        rw [List.getElem_drop]; simp [List.getD_eq_getElem?_getD, show used + i < M.length by rw [hE.ml]; omega]]
      exact of_decide_eq_true hr2
    · have hz : ∀ i, used ≤ i → i < L → DM.ent M i c = 0 := fun i h1 h2 => by
        have h3 := List.any_eq_false.1 hc (M.getD i []) (by
          refine List.mem_iff_getElem.2 ⟨i - used, by rw [List.length_drop, hE.ml]; omega, ?_⟩
          rw [List.getElem_drop]
          simp [List.getD_eq_getElem?_getD, show used + (i - used) = i by omega, show i < M.length by rw [hE.ml]; omega])
        show (M.getD i []).getD c 0 = 0
        simpa using h3
      obtain ⟨hsol, hsW⟩ := hE.yes hz
      have hxl : (DM.readX c at' M).length = c := hsol.1
      have hxg : ∀ k, k < c → _ := fun k hk => readX_get (at' := at') (M := M) (k := k) hk
      obtain ⟨X, hX⟩ : ∃ X, X = DM.readX c at' M := ⟨_, rfl⟩
      rw [← hX] at hsol hsW hxl
      simp only [← hX] at hxg
      have hSq := hS.app [Blk.live 1 (List.map eI (List.replicate c 0))]
      obtain ⟨l1, l2, l3, l4⟩ := hS.lt
      have hqn : H.length ≠ bx ∧ H.length ≠ bt ∧ H.length ≠ b ∧ ∀ i, i < ps.length → H.length ≠ ps.getD i 0 := ⟨by omega, by omega, by omega, fun i hi => by have := l4 i hi; omega⟩
      have hq0 : (H ++ [Blk.live 1 (List.map eI (List.replicate c 0))])[H.length]? = some (.live 1 ((mixL X (List.replicate c 0) 0).map eI)) := by rw [mixL_zero]; simp
      have hrz : (List.replicate c (0 : Int)).length = c := by simp
      have hz0 : ∀ k, (List.replicate c (0 : Int)).getD k 0 = 0 := fun k => by simp only [List.getD_eq_getElem?_getD, List.getElem?_replicate]; split <;> rfl
      have hxz : X.length = (List.replicate c (0 : Int)).length := by rw [hxl, hrz]
      generalize hq : H.length = q at hqn hq0
      clear hq hsn hany
      generalize H ++ [Blk.live 1 (List.map eI (List.replicate c 0))] = H1 at hSq hq0
      clear hS l1 l2 l3 l4
      refine VT.loop (fun j a H g2 => ∃ k : Nat, j = c - k ∧ k ≤ c ∧ a = [(0, .ms b 0 L L), (3, .mp bx 0 0), (16, .ms q 0 c c), (157, .ms bt 0 c c), (158, wI c), (159, wI k)] ∧ SH H bx bt b c ps M at' ∧ H[q]? = some (.live 1 ((mixL X (List.replicate c 0) k).map eI)) ∧ g2 = g') rfl
        ⟨_, _, _, ⟨0, rfl, Nat.zero_le _, rfl, hSq, hq0, rfl⟩, Wk.keep (by (repeat first | exact True.intro | refine And.intro ?_ ?_ | exact Or.inr (Or.inl rfl) | exact Or.inl rfl | (refine DLe.i rfl ?_; omega) | (refine DLe.i rfl ?_; simp; done)))⟩ ?_
      clear hSq hq0
      rintro j a H2 g2 ⟨k, rfl, hk, rfl, hS, hq, rfl⟩
      have hql := (List.getElem?_eq_some_iff.1 hq).1
      by_cases hlk : k < c
      · have hav : at'[k]? = some (at'.getD k 0) := getD_some (by rw [hE.al]; exact hlk)
        have hxk := hxg k hlk
        rcases hE.a0 k hlk with h0 | ⟨_, r, hru, h1⟩
        · repeat (any_goals (first | (refine d_RT ?_; (first | refine RT.nil ?_ | refine RT.v (f_ixO0 (k := k) rfl rfl rfl hS.att rfl (by omega)) ?_ | refine RT.v (f_ldWE rfl hS.att rfl hav) ?_ | refine RT.mvA ?_ | refine RT.asA ?_ | refine RT.bnA ?_)) | (refine d_VT ?_; (first | refine VT.seq rfl ?_ | refine VT.reg rfl ?_ | refine VT.condY rfl rfl (by first | assumption | omega) ?_ | refine VT.condN rfl rfl (by first | assumption | omega) ?_ | refine VT.block rfl ?_ | refine VT.skip rfl ?_)) | with_reducible (refine kLn ?_)))
          rw [if_neg (by omega)] at hxk
          exact ⟨c - (k + 1), by omega, _, _, ⟨k + 1, rfl, hlk, rfl, hS, by rw [mixL_skip hxz (by omega) (by rw [hxk, hz0])]; exact hq, rfl⟩, Wk.keep (by (repeat first | exact True.intro | refine And.intro ?_ ?_ | exact Or.inr (Or.inl rfl) | exact Or.inl rfl | (refine DLe.i rfl ?_; omega) | (refine DLe.i rfl ?_; simp; done)))⟩
        · have hS5 := hS.app [.free, .free]
          have hrow := hS5.row r (by omega)
          have hrv : (M.getD r [])[c]? = some (DM.ent M r c) := hS.get hE hL (by omega) (by omega)
          have hq5 : (H2 ++ [Blk.free, .free])[q]? = some (.live 1 ((mixL X (List.replicate c 0) k).map eI)) := by rw [List.getElem?_append_left hql]; exact hq
          rw [if_pos (by omega), h1, show ((r : Int) + 1 - 1).toNat = r by omega] at hxk
          rw [h1] at hav
          repeat (any_goals (first | (refine d_RT ?_; (first | refine RT.nil ?_ | refine RT.v (f_ixO0 (k := k) rfl rfl rfl hS.att rfl (by omega)) ?_ | refine RT.v (f_ldWE rfl hS.att rfl hav) ?_ | refine RT.mvA ?_ | refine RT.asA ?_ | refine RT.bnA ?_)) | (refine d_VT ?_; (first | refine VT.seq rfl ?_ | refine VT.reg rfl ?_ | refine VT.draw [(1, [0]), (1, [0]), (1, [0]), (1, [0]), (1, [0]), (1, [0]), (1, [0]), (1, [0]), (1, [0]), (1, [0]), (1, [0]), (0, [0])] 2 mixedOk rfl (by decide +kernel) (by decide +kernel) (by decide +kernel) (by first | (simp only [nrm]; rfl) | (simp only [nrm, Nat.reduceAdd, Nat.zero_add]; rfl) | rfl) (by first | (simp only [nrm]; rfl) | (simp only [nrm, Nat.reduceAdd, Nat.zero_add]; rfl) | rfl) ?_ | refine VT.condY rfl rfl (by first | assumption | omega) ?_ | refine VT.block rfl ?_ | refine VT.skip rfl ?_)) | (refine d_PT ?_; (first | refine PT.vI (mask_app (H0 := H2) (T := [_, _]) rfl) (f_ldO rfl hS5.box rfl rfl rfl) ?_ | refine PT.vI (mask_app (H0 := H2) (T := [_, _]) rfl) (f_ixO0 (k := r) rfl rfl (by omega) hS5.rows rfl (by omega)) ?_ | refine PT.vI (mask_app (H0 := H2) (T := [_, _]) rfl) (f_ldO rfl hS5.rows (hS5.ptr (by omega)) rfl rfl) ?_ | refine PT.vI (mask_app (H0 := H2) (T := [_, _]) rfl) (f_ixO0 (k := c) rfl rfl rfl hrow rfl (by omega)) ?_ | refine PT.vI (mask_app (H0 := H2) (T := [_, _]) rfl) (f_ldWE rfl hrow rfl hrv) ?_ | refine PT.vI (mask_app (H0 := H2) (T := [_, _]) rfl) (f_ixO0 (k := k) rfl rfl rfl hq5 rfl (by omega)) ?_ | refine PT.wrI (mask_app (H0 := H2) (T := [_, _]) rfl) (f_stW (k := k) rfl hq5 (by rw [mixL_len hxz (by omega)]; omega) rfl rfl) (List.set_append_left _ _ hql) ?_ | refine PT.done (dropL2 _ _ _) ?_ | refine PT.mvI (mask_app (H0 := H2) (T := [_, _]) rfl) ?_ | refine PT.bnI (mask_app (H0 := H2) (T := [_, _]) rfl) ?_)) | with_reducible (refine kLn ?_)))
          exact ⟨c - (k + 1), by omega, _, _, ⟨k + 1, rfl, hlk, rfl, (hS.other hqn _).app [.free], by
            rw [List.getElem?_append_left (by rw [List.length_set]; exact hql), List.getElem?_set_self hql, ← mixL_set hxz (by omega), hxk], rfl⟩, Wk.keep (by (repeat first | exact True.intro | refine And.intro ?_ ?_ | exact Or.inr (Or.inl rfl) | exact Or.inl rfl | (refine DLe.i rfl ?_; omega) | (refine DLe.i rfl ?_; simp; done)))⟩
      · obtain rfl : k = c := by omega
        rw [mixL_all' hxz hrz] at hq
        repeat (any_goals (first | (refine d_RT ?_; (first | refine RT.nil ?_ | refine RT.mvA ?_ | refine RT.asA ?_ | refine RT.bnA ?_)) | (refine d_VT ?_; (first | refine VT.seq rfl ?_ | refine VT.reg rfl ?_ | refine VT.condN rfl rfl (by first | assumption | omega) ?_ | refine VT.exit rfl ?_ | refine VT.ret rfl ?_)) | (with_reducible refine d_kEr ?_; refine kEr rfl ?_)))
        exact .inl ⟨q, X, rfl, hq, hsol, hsW⟩
end Go.DL
