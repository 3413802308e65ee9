/- The law LeavesOne. -/
import Derived.Test.YtmbbepdbjeciaaaLq4
set_option maxRecDepth 100000
set_option maxHeartbeats 16000000
namespace Go.DL
open Go.Proofs Go

abbrev eU8 (n : Int) : List D := [.v (.int .u8 n)]
theorem snap_Lf {lk : Nat → Option Blk} {b m cap : Nat} {o : List Leaf} (h : lk b = some (.live 2 (o.map eLeaf))) (hm : m = o.length) : snap lk 5 (.ms b 0 m cap) = .sl (o.map eLeaf) := by
  subst hm
  simp only [snap, h, Nat.zero_add, List.length_map, Nat.le_refl, if_true, List.drop_zero]
  rw [List.take_of_length_le (by simp), List.map_map]
  exact congrArg D.sl (List.map_congr_left fun x _ => rfl)
theorem judge_no {s : Shape} {l : List Leaf} {d : List (List Int)} {wr : List Int} (hsm : CheckLeavesS s l = 0 → l.length ≤ 12) (h : ¬ ((MendS s l).2 = 0 ∧ (MendS s l).1.1 = d ∧ (MendS s l).1.2 = wr)) : JudgeS s l d wr ≠ 0 := by
  unfold JudgeS
  split
  · rename_i h0
    rw [if_neg fun q => h ((judge_iff h0 (hsm h0)).2 q)]
    decide
  · assumption
theorem judge_yes {s : Shape} {l : List Leaf} {d : List (List Int)} {wr : List Int} (hsm : CheckLeavesS s l = 0 → l.length ≤ 12) (h : MendS s l = ((d, wr), 0)) : JudgeS s l d wr = 0 ∧ 2 * (wr.length : Int) + s.Data ≤ l.length := by
  have h0 : CheckLeavesS s l = 0 := (MendS_data s l (by rw [h])).2
  have hj := (judge_iff (d := d) (wr := wr) h0 (hsm h0)).1 ⟨by rw [h], by rw [h], by rw [h]⟩
  unfold JudgeS
  rw [if_pos h0, if_pos hj]
  exact ⟨rfl, hj.2.2⟩
theorem m_LeavesOne (hh : Maps Try.prog 7 [] (wB true)) (s : Shape) (l : List Leaf) (d : List (List Int)) (wr ts : List Int) (hl : l.length ≤ 4611686018427387904) (hw : ∀ x, x ∈ l → x.Words.length ≤ 4611686018427387904)
    (hd : d.length ≤ 4611686018427387904) (hdw : ∀ x, x ∈ d → x.length ≤ 4611686018427387904) (hwr : wr.length ≤ 4611686018427387904) (hts : ts.length ≤ 4611686018427387904) (htb : ∀ t, t ∈ ts → 0 ≤ t ∧ t ≤ 255) :
    Maps Try.prog 6 [dSh s, .sl (l.map eLeaf), dMi d wr, .sl (ts.map eU8)] (wB true) := by
  refine Maps.vt pok Try.f6 (n := 166) (rs := [.tmp 8]) rfl rfl rfl rfl rfl rfl fun g => ?_
  have h1 := m_small1 s
  have h2 := m_few l hl
  have h3 := m_rows d hd
  cases q1 : SmallS s with
  | false =>
    rw [q1] at h1
    repeat (any_goals (first | (apply w_any; (first | refine RT.nil ?_ | refine RT.gn rfl rfl ?_ | refine RT.mvA ?_ | refine RT.asA ?_ | refine RT.ldA ?_ | (apply w_cl; (first | refine RT.callM rfl (hh) rfl rfl ?_ | refine RT.callM rfl (h1) rfl rfl ?_)) | refine RT.pkA ?_ | refine RT.unA ?_ | refine RT.nwA ?_)) | (apply v_any; (first | refine VT.seq rfl ?_ | refine VT.reg rfl ?_ | refine VT.condT rfl rfl ?_ | refine VT.ret rfl ?_)) | with_reducible (refine kSr ?_) | (with_reducible refine d_kEr ?_; refine kEr rfl ?_)))
    rfl
  | true =>
  cases q2 : fewS l with
  | false =>
    rw [q1] at h1; rw [q2] at h2
    repeat (any_goals (first | (apply w_any; (first | refine RT.nil ?_ | (apply w_g; (first | refine RT.gy rfl ?_ | refine RT.gn rfl rfl ?_)) | refine RT.mvA ?_ | refine RT.asA ?_ | refine RT.ldA ?_ | (apply w_cl; (first | refine RT.callM rfl (hh) rfl rfl ?_ | refine RT.callM rfl (h1) rfl rfl ?_ | refine RT.callM rfl (h2) rfl rfl ?_)) | refine RT.pkA ?_ | refine RT.unA ?_ | refine RT.nwA ?_)) | (apply v_any; (first | refine VT.seq rfl ?_ | refine VT.reg rfl ?_ | refine VT.condT rfl rfl ?_ | refine VT.ret rfl ?_)) | with_reducible (refine kSr ?_) | (with_reducible refine d_kEr ?_; refine kEr rfl ?_)))
    rfl
  | true =>
  cases q3 : rowsS d with
  | false =>
    rw [q1] at h1; rw [q2] at h2; rw [q3] at h3
    repeat (any_goals (first | (apply w_any; (first | refine RT.nil ?_ | (apply w_g; (first | refine RT.gy rfl ?_ | refine RT.gn rfl rfl ?_)) | refine RT.mvA ?_ | refine RT.asA ?_ | refine RT.ldA ?_ | refine RT.faA ?_ | (apply w_cl; (first | refine RT.callM rfl (hh) rfl rfl ?_ | refine RT.callM rfl (h1) rfl rfl ?_ | refine RT.callM rfl (h2) rfl rfl ?_ | refine RT.callM rfl (h3) rfl rfl ?_)) | refine RT.pkA ?_ | refine RT.unA ?_ | refine RT.nwA ?_)) | (apply v_any; (first | refine VT.seq rfl ?_ | refine VT.reg rfl ?_ | refine VT.condT rfl rfl ?_ | refine VT.ret rfl ?_)) | with_reducible (refine kSr ?_) | (with_reducible refine d_kEr ?_; refine kEr rfl ?_)))
    rfl
  | true =>
  rw [q1] at h1; rw [q2] at h2; rw [q3] at h3
  by_cases q4 : 40 < (wr.length : Int)
  · repeat (any_goals (first | (apply w_any; (first | refine RT.nil ?_ | (apply w_g; (first | refine RT.gy rfl ?_ | refine RT.gn rfl rfl ?_)) | refine RT.mvA ?_ | refine RT.asA ?_ | refine RT.ldA ?_ | refine RT.faA ?_ | refine RT.v (f_gtrT rfl rfl q4) ?_ | (apply w_cl; (first | refine RT.callM rfl (hh) rfl rfl ?_ | refine RT.callM rfl (h1) rfl rfl ?_ | refine RT.callM rfl (h2) rfl rfl ?_ | refine RT.callM rfl (h3) rfl rfl ?_ | refine RT.clA ?_)) | refine RT.pkA ?_ | refine RT.unA ?_ | refine RT.nwA ?_)) | (apply v_any; (first | refine VT.seq rfl ?_ | refine VT.reg rfl ?_ | refine VT.condT rfl rfl ?_ | refine VT.ret rfl ?_)) | with_reducible (refine kSr ?_) | (with_reducible refine d_kEr ?_; refine kEr rfl ?_)))
    rfl
  by_cases q5 : 10 < (ts.length : Int)
  · repeat (any_goals (first | (apply w_any; (first | refine RT.nil ?_ | refine RT.gy rfl ?_ | refine RT.mvA ?_ | refine RT.asA ?_ | refine RT.ldA ?_ | refine RT.faA ?_ | (apply w_bn; (first | refine RT.v (f_gtrF rfl rfl q4) ?_ | refine RT.v (f_gtrT rfl rfl q5) ?_)) | (apply w_cl; (first | refine RT.callM rfl (hh) rfl rfl ?_ | refine RT.callM rfl (h1) rfl rfl ?_ | refine RT.callM rfl (h2) rfl rfl ?_ | refine RT.callM rfl (h3) rfl rfl ?_ | refine RT.clA ?_)) | refine RT.pkA ?_ | refine RT.unA ?_ | refine RT.nwA ?_)) | (apply v_any; (first | refine VT.seq rfl ?_ | refine VT.reg rfl ?_ | refine VT.condT rfl rfl ?_ | refine VT.ret rfl ?_)) | with_reducible (refine kSr ?_) | (with_reducible refine d_kEr ?_; refine kEr rfl ?_)))
    rfl
  have hsm : CheckLeavesS s l = 0 → l.length ≤ 12 := few_small q2
  obtain ⟨z1, z2, z3⟩ := MendS_small s l
  have w1 := m_Mend s l hl hw hsm
  have wS := m_Spare s l hl hw hsm
  have wJ := m_CheckMend s l d wr hl hw hsm hd hdw hwr
  have hjn := judge_no (d := d) (wr := wr) hsm
  have hjy := fun D W => judge_yes (d := D) (wr := W) hsm
  have hml := MendS_data s l
  have hone := fun D W => one_law (s := s) (l := l) (D := D) (W := W)
  unfold SpareS at wS
  generalize MendS s l = r at w1 wS z1 z2 z3 hjn hjy hml hone
  obtain ⟨⟨D', W⟩, e⟩ := r
  dsimp only at w1 wS z1 z2 z3 hjn hjy hml hone
  change Maps Try.prog 19 [dSh s, .sl (l.map eLeaf)] (.tup [.agg [.fl (D'.map eRow), .fl (W.map eI)], wI e]) at w1
  by_cases he : e = 0
  · subst he
    obtain ⟨hjx, hlen⟩ := hjy D' W rfl
    obtain ⟨hck, hck0⟩ := hml rfl
    have hl12 := hsm hck0
    obtain ⟨⟨c1, c2⟩, _, _⟩ := hck
    have wX := m_CheckMend s l D' W hl hw hsm (by omega) (fun x hx => by have := z2 x hx; omega) (by omega)
    rw [hjx] at wX
    rw [if_pos rfl] at wS
    change Maps Try.prog 20 [dSh s, .sl (l.map eLeaf)] (.tup [wI ((l.length : Int) - s.Data - 2 * (W.length : Int)), wI 0]) at wS
    obtain ⟨sp, hsp⟩ : ∃ sp : Int, sp = (l.length : Int) - s.Data - 2 * (W.length : Int) := ⟨_, rfl⟩
    rw [← hsp] at wS
    have wR := m_sameRowsG d D' hd (by omega) hdw (fun x hx => by have := z2 x hx; omega)
    have wE := m_same wr W hwr (by omega)
    have hj : (decide (d = D') = true ∧ decide (wr = W) = true ∧ JudgeS s l d wr = 0) ∨ (decide (d = D') = true ∧ decide (wr = W) = false ∧ ¬ JudgeS s l d wr = 0) ∨ (decide (d = D') = false ∧ ¬ JudgeS s l d wr = 0) := by
      by_cases e1 : d = D'
      · by_cases e2 : wr = W
        · exact .inl ⟨decide_eq_true e1, decide_eq_true e2, by rw [e1, e2]; exact hjx⟩
        · exact .inr (.inl ⟨decide_eq_true e1, decide_eq_false e2, hjn fun q => e2 q.2.2.symm⟩)
      · exact .inr (.inr ⟨decide_eq_false e1, hjn fun q => e1 q.2.1.symm⟩)
    clear hjn hjy hml
    generalize JudgeS s l d wr = j at wJ hj
    generalize decide (d = D') = b1 at wR hj
    generalize decide (wr = W) = b2 at wE hj
    have hn0 : 0 < l.length := by omega
    rcases hj with ⟨rfl, rfl, e3⟩ | ⟨rfl, rfl, e3⟩ | ⟨rfl, e3⟩
    repeat (any_goals (first | (apply w_any; (first | refine RT.nil ?_ | (apply w_g; (first | refine RT.gy rfl ?_ | refine RT.gn rfl rfl ?_)) | refine RT.mvA ?_ | (apply w_as; (first | refine RT.asA ?_ | refine RT.asM ?_)) | refine RT.ldA ?_ | refine RT.faA ?_ | (apply w_bn; (first | refine RT.v (f_gtrF rfl rfl q4) ?_ | refine RT.v (f_gtrF rfl rfl q5) ?_ | refine RT.v (f_eqlT rfl rfl e3) ?_ | refine RT.v (f_eqlF rfl rfl e3) ?_ | refine RT.v (f_neqF rfl rfl rfl) ?_ | refine RT.v (f_lssF rfl rfl (by omega)) ?_)) | (apply w_cl; (first | refine RT.callM rfl (hh) rfl rfl ?_ | refine RT.callM rfl (h1) rfl rfl ?_ | refine RT.callM rfl (h2) rfl rfl ?_ | refine RT.callM rfl (h3) rfl rfl ?_ | refine RT.callM rfl (w1) rfl rfl ?_ | refine RT.callM rfl (wJ) rfl rfl ?_ | refine RT.callM rfl (wX) rfl rfl ?_ | refine RT.callM rfl (wS) rfl rfl ?_ | refine RT.callM rfl (wR) rfl rfl ?_ | refine RT.callM rfl (wE) rfl rfl ?_ | refine RT.clA ?_)) | refine RT.pkA ?_ | refine RT.exA ?_ | refine RT.unA ?_ | refine RT.stA ?_ | refine RT.nwA ?_ | refine RT.nwA ?_ | refine RT.mkH ?_)) | (apply v_any; (first | refine VT.seq rfl ?_ | refine VT.reg rfl ?_ | refine VT.condF rfl rfl ?_ | refine VT.block rfl ?_ | refine VT.skip rfl ?_))))
    all_goals
      refine VT.loop (fun jj a H g' => ∃ (i : Nat) (kv : KV), jj = ts.length - i ∧ i ≤ ts.length ∧ kv.length = (tornS l.length (ts.take i)).length ∧ (∀ k : Nat, aget kv k = if k ∈ tornS l.length (ts.take i) then some (wB true) else none) ∧ H = [.live 3 [eShape s], .live 2 [[.sl (d.map eRow), .sl (wr.map eI)]], .live 2 [[.fl (D'.map eRow), .fl (W.map eI)]], tabB kv] ∧ a = [(1, .sl (l.map eLeaf)), (3, .sl (ts.map eU8)), (4, .mp 0 0 0), (9, wB true), (10, .mp 2 0 0), (14, wI sp), (16, .mm 3), (17, wI i)] ∧ g' = g) rfl
        ⟨_, _, _, ⟨0, [], rfl, Nat.zero_le _, rfl, fun k => rfl, rfl, rfl, rfl⟩, Wk.keep (by (repeat first | exact True.intro | refine And.intro ?_ ?_ | exact Or.inr (Or.inl rfl) | exact Or.inl rfl | (refine DLe.i rfl ?_; omega) | (refine DLe.i rfl ?_; simp; done)))⟩ ?_
      rintro jj a H g' ⟨i, kv, rfl, hi, hkl, hk, rfl, rfl, rfl⟩
      by_cases hlt : i < ts.length
      · obtain ⟨t, hq⟩ : ∃ t, ts[i]? = some t := ⟨_, List.getElem?_eq_getElem hlt⟩
        obtain ⟨t0, t1⟩ := htb t (List.mem_of_getElem? hq)
        have hnx := tornS_snoc (n := l.length) hq
        generalize tornS l.length (ts.take i) = T at hkl hk hnx
        obtain ⟨k, hk0⟩ : ∃ k : Nat, k = t.toNat % l.length := ⟨_, rfl⟩
        have hkc : t % ((l.length : Nat) : Int) = (k : Int) := by
          rw [hk0, Int.natCast_emod]; congr 1; omega
        repeat (any_goals (first | (apply w_any; (first | refine RT.nil ?_ | (apply w_g; (first | refine RT.gy rfl ?_ | refine RT.gcY rfl rfl rfl (by first | assumption | omega) ?_)) | (apply w_mv; (first | refine RT.mvA ?_ | refine RT.mvM ?_)) | refine RT.asA ?_ | refine RT.ldA ?_ | (apply w_bn; (first | refine RT.v (f_gtrT rfl rfl (by omega)) ?_ | refine RT.v (f_remE rfl rfl t0 (by omega) hkc) ?_ | refine RT.bnA ?_)) | refine RT.clA ?_ | refine RT.pkA ?_ | refine RT.v (f_ixQ (f := eU8) rfl rfl rfl hq rfl rfl) ?_ | refine RT.v (f_conv (a := t) rfl rfl rfl (by omega) (by omega)) ?_ | refine RT.wr (f_mupd (d := wB true) rfl rfl rfl rfl rfl) rfl ?_)) | (apply v_any; (first | refine VT.seq rfl ?_ | refine VT.reg rfl ?_ | refine VT.condT rfl rfl ?_ | refine VT.block rfl ?_ | refine VT.skip rfl ?_)) | with_reducible (refine kLn ?_)))
        refine ⟨ts.length - (i + 1), by omega, _, _, ⟨i + 1, aset kv k (wB true), rfl, hlt, ?_, ?_, rfl, rfl, rfl⟩, Wk.keep (by (repeat first | exact True.intro | refine And.intro ?_ ?_ | exact Or.inr (Or.inl rfl) | exact Or.inl rfl | (refine DLe.i rfl ?_; omega) | (refine DLe.i rfl ?_; simp; done)))⟩
        · rw [hnx, aset_len]; unfold tornF
          rw [← hk0]
          have h0 := hk k
          unfold aget at h0
          by_cases hm : k ∈ T
          · rw [if_pos hm] at h0 ⊢
            cases hf : afind kv k with
            | none => rw [hf] at h0; cases h0
            | some q => simp [hkl]
          · rw [if_neg hm] at h0 ⊢
            cases hf : afind kv k with
            | some q => rw [hf] at h0; cases h0
            | none => simp [hkl]
        · intro j'
          rw [hnx, aget_set, hk j']; unfold tornF
          rw [← hk0]
          by_cases e : j' = k
          · subst e
            rw [if_pos rfl, if_pos]
            split
            · assumption
            · exact List.mem_cons_self ..
          · rw [if_neg fun h => e (by exact_mod_cast h)]
            by_cases hm : k ∈ T
            · rw [if_pos hm]
            · rw [if_neg hm]; simp [e]
      · obtain rfl : i = ts.length := by omega
        rw [List.take_length] at hkl hk
        obtain ⟨ht1, ht2⟩ := tornS_ok hn0 ts
        have hkeep := keepL_len l ht1 ht2
        have hksub := keepL_sub l (tornS l.length ts)
        generalize tornS l.length ts = T at hkl hk ht1 ht2 hkeep hksub
        by_cases hgt : (sp : Int) < (kv.length : Int)
        · repeat (any_goals (first | (apply w_any; (first | refine RT.nil ?_ | (apply w_g; (first | refine RT.gn rfl rfl ?_ | refine RT.gcN rfl rfl rfl (by first | assumption | omega) ?_)) | (apply w_mv; (first | refine RT.mvA ?_ | refine RT.mvM ?_)) | refine RT.asA ?_ | (apply w_bn; (first | refine RT.v (f_gtrT rfl rfl hgt) ?_ | refine RT.bnA ?_)) | (apply w_cl; (first | refine RT.lenM rfl rfl rfl ?_ | refine RT.clA ?_)) | refine RT.pkA ?_)) | (apply v_any; (first | refine VT.seq rfl ?_ | refine VT.reg rfl ?_ | refine VT.condT rfl rfl ?_ | refine VT.condF rfl rfl ?_ | refine VT.exit rfl ?_ | refine VT.ret rfl ?_)) | with_reducible (refine kSr ?_) | (with_reducible refine d_kEr ?_; refine kEr rfl ?_)))
          rfl
        · repeat (any_goals (first | (apply w_any; (first | refine RT.nil ?_ | (apply w_g; (first | refine RT.gn rfl rfl ?_ | refine RT.gcN rfl rfl rfl (by first | assumption | omega) ?_)) | (apply w_mv; (first | refine RT.mvA ?_ | refine RT.mvM ?_)) | refine RT.asA ?_ | (apply w_bn; (first | refine RT.v (f_gtrF rfl rfl hgt) ?_ | refine RT.bnA ?_)) | (apply w_cl; (first | refine RT.lenM rfl rfl rfl ?_ | refine RT.clA ?_)) | refine RT.pkA ?_)) | (apply v_any; (first | refine VT.seq rfl ?_ | refine VT.reg rfl ?_ | refine VT.condF rfl rfl ?_ | refine VT.block rfl ?_ | refine VT.skip rfl ?_ | refine VT.exit rfl ?_))))
          refine VT.phantom (i := 18) (s := 4) 2 rfl rfl rfl ?_
          refine VT.loop (fun jj a H g2 => ∃ (i m bl : Nat), jj = l.length - i ∧ i ≤ l.length ∧ H[0]? = some (.live 3 [eShape s]) ∧ H[2]? = some (.live 2 [[.fl (D'.map eRow), .fl (W.map eI)]]) ∧ H[3]? = some (tabB kv) ∧ H[bl]? = some (.live 2 ((keepL l T i).map eLeaf)) ∧ 4 ≤ bl ∧ m = (keepL l T i).length ∧ a = [(1, .sl (l.map eLeaf)), (4, .mp 0 0 0), (9, wB true), (10, .mp 2 0 0), (16, .mm 3), (18, .ms bl 0 m m), (19, wI i)] ∧ g2 = g') rfl
            ⟨_, _, [.live 3 [eShape s], .live 2 [[.sl (d.map eRow), .sl (wr.map eI)]], .live 2 [[.fl (D'.map eRow), .fl (W.map eI)]], tabB kv, .live 2 []], ⟨0, 0, 4, rfl, Nat.zero_le _, rfl, rfl, rfl, rfl, Nat.le_refl _, rfl, rfl, rfl⟩, Wk.keep (by (repeat first | exact True.intro | refine And.intro ?_ ?_ | exact Or.inr (Or.inl rfl) | exact Or.inl rfl | (refine DLe.i rfl ?_; omega) | (refine DLe.i rfl ?_; simp; done)))⟩ ?_
          rintro jj a H g2 ⟨i, m, bl, rfl, hi, hA, hB, hC, hL, hb4, hm, rfl, rfl⟩
          have hll := hg_lt hL
          have hmi := keepL_le l T i
          by_cases hlt : i < l.length
          · have hq : l[i]? = some l[i] := List.getElem?_eq_getElem hlt
            have hks := keepL_succ l T i
            rw [getD_q hq] at hks
            generalize l[i] = x at hq hks
            by_cases hTm : i ∈ T
            · have hlook : (aget kv (i : Int)).orElse (fun _ => zvD Try.prog 4) = some (wB true) := by rw [hk i, if_pos hTm]; rfl
              rw [if_pos (by simpa using hTm)] at hks
              repeat (any_goals (first | (apply w_any; (first | refine RT.nil ?_ | (apply w_mv; (first | refine RT.mvA ?_ | refine RT.mvM ?_)) | refine RT.asA ?_ | refine RT.bnA ?_ | refine RT.clA ?_ | refine RT.unA ?_ | refine RT.v (f_look (d := wB true) rfl rfl hC rfl hlook) ?_)) | (apply v_any; (first | refine VT.seq rfl ?_ | refine VT.reg rfl ?_ | refine VT.condF rfl rfl ?_ | refine VT.block rfl ?_ | refine VT.skip rfl ?_ | refine VT.condY rfl rfl (by first | assumption | omega) ?_)) | with_reducible (refine kLn ?_)))
              exact ⟨l.length - (i + 1), by omega, _, _, ⟨i + 1, m, bl, rfl, hlt, hA, hB, hC, by rw [hks]; exact hL, hb4, by rw [hks]; exact hm, rfl, rfl⟩, Wk.keep (by (repeat first | exact True.intro | refine And.intro ?_ ?_ | exact Or.inr (Or.inl rfl) | exact Or.inl rfl | (refine DLe.i rfl ?_; omega) | (refine DLe.i rfl ?_; simp; done)))⟩
            · have hlook : (aget kv (i : Int)).orElse (fun _ => zvD Try.prog 4) = some (wB false) := by rw [hk i, if_neg hTm]; rfl
              rw [if_neg (by simpa using hTm)] at hks
              repeat (any_goals (first | (apply w_any; (first | refine RT.nil ?_ | (apply w_mv; (first | refine RT.mvA ?_ | refine RT.mvM ?_)) | refine RT.asA ?_ | refine RT.v (f_ldA (ds := eLeaf x) rfl rfl rfl rfl rfl) ?_ | refine RT.bnA ?_ | (apply w_cl; (first | refine RT.ap (s := H.length + 1) (by simp) (f_appT (f := eLeaf) (o := keepL l T i) (v := [x]) (mm := m + 1) (by' := 32) rfl rfl (hg_app _ hL) (List.take_of_length_le (by rw [List.length_map]; omega)) (by rw [List.length_map]; omega) (hg_at (t := 0) rfl rfl) hm rfl (by simp; omega) rfl (by decide) rfl rfl (fun _ => ⟨rfl, rfl⟩) (by simp; omega) (by simp; omega)) (ap2 hll _ _) ?_ | refine RT.clA ?_)) | refine RT.v (f_ixQ (f := eLeaf) rfl rfl rfl hq rfl rfl) ?_ | refine RT.unA ?_ | refine RT.new (s := H.length) rfl (f_bslA1 rfl rfl rfl rfl rfl rfl) (H' := H ++ [.live 2 [eLeaf x]]) rfl ?_ | refine RT.v (f_look (d := wB false) rfl rfl hC rfl hlook) ?_)) | (apply v_any; (first | refine VT.seq rfl ?_ | refine VT.reg rfl ?_ | refine VT.condT rfl rfl ?_ | refine VT.block rfl ?_ | refine VT.skip rfl ?_ | refine VT.condY rfl rfl (by first | assumption | omega) ?_)) | with_reducible (refine kLn ?_)))
              exact ⟨l.length - (i + 1), by omega, _, _, ⟨i + 1, m + 1, H.length + 1, rfl, hlt, (by repeat (first | assumption | exact hg_at (by first | rfl | simp) rfl | exact hg_self (by first | assumption | omega | (simp only [List.length_set, List.length_append, List.length_cons, List.length_nil, List.length_map, List.length_replicate]; omega)) | refine hg_app _ ?_ | refine hg_ne ?_ (by first | assumption | omega) | refine mskR ?_ (by first | (simp [rho, -List.length_eq_zero_iff]; done) | (simp [rho, -List.length_eq_zero_iff]; omega)))), (by repeat (first | assumption | exact hg_at (by first | rfl | simp) rfl | exact hg_self (by first | assumption | omega | (simp only [List.length_set, List.length_append, List.length_cons, List.length_nil, List.length_map, List.length_replicate]; omega)) | refine hg_app _ ?_ | refine hg_ne ?_ (by first | assumption | omega) | refine mskR ?_ (by first | (simp [rho, -List.length_eq_zero_iff]; done) | (simp [rho, -List.length_eq_zero_iff]; omega)))), (by repeat (first | assumption | exact hg_at (by first | rfl | simp) rfl | exact hg_self (by first | assumption | omega | (simp only [List.length_set, List.length_append, List.length_cons, List.length_nil, List.length_map, List.length_replicate]; omega)) | refine hg_app _ ?_ | refine hg_ne ?_ (by first | assumption | omega) | refine mskR ?_ (by first | (simp [rho, -List.length_eq_zero_iff]; done) | (simp [rho, -List.length_eq_zero_iff]; omega)))), by rw [hks]; exact hg_at (t := 1) (by simp) rfl, by omega, by rw [hks, List.length_append, ← hm]; rfl, rfl, rfl⟩, Wk.keep (by (repeat first | exact True.intro | refine And.intro ?_ ?_ | exact Or.inr (Or.inl rfl) | exact Or.inl rfl | (refine DLe.i rfl ?_; omega) | (refine DLe.i rfl ?_; simp; done)))⟩
          · obtain rfl : i = l.length := by omega
            obtain ⟨W', hM2, hck2⟩ := hone D' W rfl hl12 hksub (by omega)
            generalize keepL l T l.length = lf at hL hm hM2 hck2 hkeep hksub hmi
            have w2 := m_Mend s lf (by omega) (fun x hx => hw x (hksub.subset hx)) fun _ => by omega
            rw [hM2] at w2
            change Maps Try.prog 19 [dSh s, .sl (lf.map eLeaf)] (.tup [.agg [.fl (D'.map eRow), .fl (W'.map eI)], wI 0]) at w2
            have w3 := m_sameRowsG D' D' (by omega) (by omega) (fun x hx => by have := z2 x hx; omega) (fun x hx => by have := z2 x hx; omega)
            rw [decide_eq_true rfl] at w3
            have hsn : ([dSh s, .ms bl 0 m m] : List D).map (snap (fun b => H[b]?) 5) = [dSh s, .sl (lf.map eLeaf)] := snap2 rfl (snap_Lf hL hm)
            have hmk : (H ++ [.live 2 [[.nil, .nil]]])[H.length]? = some (.live 2 [[.nil, .nil]]) := hg_at (t := 0) rfl rfl
            have hst : (H ++ [.live 2 [[.fl (D'.map eRow), .fl (W'.map eI)]]])[H.length]? = some (.live 2 [[.fl (D'.map eRow), .fl (W'.map eI)]]) := hg_at (t := 0) rfl rfl
            repeat (any_goals (first | (apply w_any; (first | refine RT.nil ?_ | refine RT.gy rfl ?_ | refine RT.mvA ?_ | refine RT.asA ?_ | refine RT.ldH ?_ | refine RT.faA ?_ | (apply w_bn; (first | refine RT.v (f_eqlT rfl rfl rfl) ?_ | refine RT.bnA ?_)) | (apply w_cl; (first | refine RT.callM rfl w2 hsn rfl ?_ | refine RT.callM rfl (w3) rfl rfl ?_ | refine RT.clA ?_)) | refine RT.pkA ?_ | refine RT.exA ?_ | refine RT.wr (f_stA rfl hmk rfl rfl rfl rfl rfl (by decide) rfl) (setLen (i := 0) (T' := [.live 2 [[.fl (D'.map eRow), .fl (W'.map eI)]]]) rfl rfl) ?_ | refine RT.new (s := H.length) rfl (f_allocL (z := [.nil, .nil]) (m := 2) rfl rfl) (H' := H ++ [.live 2 [[.nil, .nil]]]) rfl ?_)) | (apply v_any; (first | refine VT.seq rfl ?_ | refine VT.reg rfl ?_ | refine VT.exit rfl ?_ | refine VT.ret rfl ?_ | refine VT.condN rfl rfl (by first | assumption | omega) ?_)) | (with_reducible refine d_kEr ?_; refine kEr rfl ?_)))
            all_goals rfl
  · have hjz := hjn fun q => he q.1
    repeat (any_goals (first | (apply w_any; (first | refine RT.nil ?_ | refine RT.gy rfl ?_ | refine RT.mvA ?_ | refine RT.asA ?_ | refine RT.ldA ?_ | refine RT.faA ?_ | (apply w_bn; (first | refine RT.v (f_gtrF rfl rfl q4) ?_ | refine RT.v (f_gtrF rfl rfl q5) ?_ | refine RT.v (f_eqlF rfl rfl hjz) ?_ | refine RT.v (f_neqT rfl rfl he) ?_)) | (apply w_cl; (first | refine RT.callM rfl (hh) rfl rfl ?_ | refine RT.callM rfl (h1) rfl rfl ?_ | refine RT.callM rfl (h2) rfl rfl ?_ | refine RT.callM rfl (h3) rfl rfl ?_ | refine RT.callM rfl (w1) rfl rfl ?_ | refine RT.callM rfl (wJ) rfl rfl ?_ | refine RT.clA ?_)) | refine RT.pkA ?_ | refine RT.exA ?_ | refine RT.unA ?_ | refine RT.stA ?_ | refine RT.nwA ?_ | refine RT.nwA ?_)) | (apply v_any; (first | refine VT.seq rfl ?_ | refine VT.reg rfl ?_ | refine VT.condT rfl rfl ?_ | refine VT.condF rfl rfl ?_ | refine VT.skip rfl ?_ | refine VT.ret rfl ?_)) | with_reducible (refine kSr ?_) | (with_reducible refine d_kEr ?_; refine kEr rfl ?_)))
    rfl
end Go.DL
