/- The law LeavesRecover. -/
import Derived.Test.YtmbbepdbjeciaaaLq3
import Derived.Test.YtmbbepdbjeciaaaLv
set_option maxRecDepth 100000
set_option maxHeartbeats 16000000
namespace Go.DL
open Go.Proofs Go

theorem m_LeavesRecover (hh : Maps Try.prog 7 [] (wB true)) (s : Shape) (d : List (List Int)) (hs : List Harm) (hd : d.length ≤ 4611686018427387904) (hdw : ∀ x, x ∈ d → x.length ≤ 4611686018427387904) (hsl : hs.length ≤ 4611686018427387904) (hho : ∀ h, h ∈ hs → hOk h) :
    Maps Try.prog 5 [dSh s, .sl (d.map eRow), .sl (hs.map eHarm)] (wB true) := by
  refine Maps.vt pok Try.f5 (n := 174) (rs := [.tmp 6]) rfl rfl rfl rfl rfl rfl fun g => ?_
  have h1 := m_small1 s
  have h2 := m_rows d hd
  have h3 := m_Whole s d hd hdw
  cases q1 : SmallS s with
  | false =>
    rw [q1] at h1
    repeat (any_goals (first | (apply w_any; (first | refine RT.nil ?_ | refine RT.gn rfl rfl ?_ | refine RT.mvA ?_ | refine RT.asA ?_ | refine RT.ldA ?_ | (apply w_cl; (first | refine RT.callM rfl (hh) rfl rfl ?_ | refine RT.callM rfl (h1) rfl rfl ?_)) | refine RT.pkA ?_ | refine RT.unA ?_ | refine RT.nwA ?_)) | (apply v_any; (first | refine VT.seq rfl ?_ | refine VT.reg rfl ?_ | refine VT.condT rfl rfl ?_ | refine VT.ret rfl ?_)) | with_reducible (refine kSr ?_) | (with_reducible refine d_kEr ?_; refine kEr rfl ?_)))
    rfl
  | true =>
  cases q2 : rowsS d with
  | false =>
    rw [q1] at h1; rw [q2] at h2
    repeat (any_goals (first | (apply w_any; (first | refine RT.nil ?_ | (apply w_g; (first | refine RT.gy rfl ?_ | refine RT.gn rfl rfl ?_)) | refine RT.mvA ?_ | refine RT.asA ?_ | refine RT.ldA ?_ | (apply w_cl; (first | refine RT.callM rfl (hh) rfl rfl ?_ | refine RT.callM rfl (h1) rfl rfl ?_ | refine RT.callM rfl (h2) rfl rfl ?_)) | refine RT.pkA ?_ | refine RT.unA ?_ | refine RT.nwA ?_)) | (apply v_any; (first | refine VT.seq rfl ?_ | refine VT.reg rfl ?_ | refine VT.condT rfl rfl ?_ | refine VT.ret rfl ?_)) | with_reducible (refine kSr ?_) | (with_reducible refine d_kEr ?_; refine kEr rfl ?_)))
    rfl
  | true =>
  by_cases q3 : 10 < (hs.length : Int)
  · rw [q1] at h1; rw [q2] at h2
    repeat (any_goals (first | (apply w_any; (first | refine RT.nil ?_ | refine RT.gy rfl ?_ | refine RT.mvA ?_ | refine RT.asA ?_ | refine RT.ldA ?_ | refine RT.v (f_gtrT rfl rfl q3) ?_ | (apply w_cl; (first | refine RT.callM rfl (hh) rfl rfl ?_ | refine RT.callM rfl (h1) rfl rfl ?_ | refine RT.callM rfl (h2) rfl rfl ?_ | refine RT.clA ?_)) | refine RT.pkA ?_ | refine RT.unA ?_ | refine RT.nwA ?_)) | (apply v_any; (first | refine VT.seq rfl ?_ | refine VT.reg rfl ?_ | refine VT.condT rfl rfl ?_ | refine VT.ret rfl ?_)) | with_reducible (refine kSr ?_) | (with_reducible refine d_kEr ?_; refine kEr rfl ?_)))
    rfl
  rw [q1] at h1; rw [q2] at h2
  unfold WholeS at h3
  rcases CheckS_cases s with ⟨e, hc⟩ | ⟨e, hc⟩
  · rw [e, if_pos rfl] at h3
    cases q : DataS s d with
    | true =>
      rw [q, if_pos rfl] at h3
      have hsm := of_decide_eq_true q1 hc
      obtain ⟨⟨c1, c2⟩, ⟨c3, c4⟩, c5, c6⟩ := id hc
      obtain ⟨N, hN⟩ : ∃ N, N = s.Data.toNat + s.Checks.toNat := ⟨_, rfl⟩
      obtain ⟨w, hw⟩ : ∃ w, w = s.Width.toNat := ⟨_, rfl⟩
      have hNe : (s.Data + s.Checks).toNat = N := by omega
      have hN0 : 0 < N := by omega
      have hw0 : 0 < w := by omega
      have hdW := dataW_of hc q
      have hdl : (d.length : Int) = s.Data := by
        unfold DataS at q
        rw [Bool.and_eq_true] at q
        exact of_decide_eq_true q.1
      have hlaw := recover_law hc q (hs := hs) (by omega) hho
      have hwl := wholeL_wl N w d
      have hlen := wholeL_len N w d
      have hget := fun i (h : i < N) => wholeL_get (w := w) d h
      have hrow := fun i (h : i < d.length) => whole_row (w := w) (by rw [hw]; exact hdW) h
      rw [hNe, ← hw] at h3
      dsimp only at hlaw
      rw [← hN, ← hw] at hlaw
      have hlm := left_mem (d := d) hw0 hN0 hho
      have h4 := m_harmed (w := w) (wholeL N w d) hs (by omega) (by omega) hw0 (by omega) hwl hho (by omega)
      rw [hlen] at h4
      have hll := leftS_len (harmS (wholeL N w d) hs) N
      have hbl := badS_len (wholeL N w d) (harmS (wholeL N w d) hs) N
      generalize badS (wholeL N w d) (harmS (wholeL N w d) hs) N = b at hlaw h4 hbl
      generalize leftS (harmS (wholeL N w d) hs) N = lf at hlaw h4 hll hlm
      generalize wholeL N w d = L at h3 h4 hwl hlen hget
      change Maps Try.prog 17 [dSh s, .sl (d.map eRow)] (.tup [.fl (L.map eLeaf), wI 0]) at h3
      repeat (any_goals (first | (apply w_any; (first | refine RT.nil ?_ | refine RT.gy rfl ?_ | refine RT.mvA ?_ | refine RT.asA ?_ | refine RT.ldA ?_ | refine RT.faA ?_ | (apply w_bn; (first | refine RT.v (f_gtrF rfl rfl q3) ?_ | refine RT.v (f_neqF rfl rfl (by omega)) ?_ | refine RT.v (f_eqlF rfl rfl (by omega)) ?_ | refine RT.bnA ?_)) | (apply w_cl; (first | refine RT.callM rfl (hh) rfl rfl ?_ | refine RT.callM rfl (h1) rfl rfl ?_ | refine RT.callM rfl (h2) rfl rfl ?_ | refine RT.callM rfl (h3) rfl rfl ?_ | refine RT.clA ?_)) | refine RT.pkA ?_ | refine RT.exA ?_ | refine RT.unA ?_ | refine RT.nwA ?_)) | (apply v_any; (first | refine VT.seq rfl ?_ | refine VT.reg rfl ?_ | refine VT.condF rfl rfl ?_ | refine VT.block rfl ?_ | refine VT.skip rfl ?_))))
      refine VT.loop (fun jj a H g' => ∃ i : Nat, jj = N - i ∧ i ≤ N ∧ H = [.live 3 [eShape s]] ∧ a = [(1, .sl (d.map eRow)), (2, .sl (hs.map eHarm)), (3, .mp 0 0 0), (7, wB true), (8, .fl (L.map eLeaf)), (10, wI i)] ∧ g' = g) rfl
        ⟨_, _, _, ⟨0, rfl, Nat.zero_le _, rfl, rfl, rfl⟩, Wk.keep (by (repeat first | exact True.intro | refine And.intro ?_ ?_ | exact Or.inr (Or.inl rfl) | exact Or.inl rfl | (refine DLe.i rfl ?_; omega) | (refine DLe.i rfl ?_; simp; done)))⟩ ?_
      rintro jj a H g' ⟨i, rfl, hi, rfl, rfl, rfl⟩
      by_cases hlt : i < N
      · have hq := hget i hlt
        obtain ⟨ws, hws⟩ : ∃ ws, ws = (List.range w).map fun q : Nat => horner (colS d q) ((i : Int) + 1) := ⟨_, rfl⟩
        rw [← hws] at hq
        have hwsl : ws.length = w := by rw [hws]; simp
        by_cases hiD : (i : Int) < s.Data
        · have hid : i < d.length := by omega
          have hr := hrow i hid
          rw [← hws] at hr
          have hdq : d[i]? = some ws := by rw [hr, List.getD_eq_getElem?_getD, List.getElem?_eq_getElem hid]; rfl
          have hsame := m_same ws ws (by omega) (by omega)
          rw [decide_eq_true rfl] at hsame
          repeat (any_goals (first | (apply w_any; (first | refine RT.nil ?_ | refine RT.mvA ?_ | refine RT.asA ?_ | refine RT.bnA ?_ | refine RT.clA ?_)) | (apply v_any; (first | refine VT.seq rfl ?_ | refine VT.reg rfl ?_ | refine VT.condF rfl rfl ?_ | refine VT.block rfl ?_ | refine VT.skip rfl ?_ | refine VT.draw [(0, []), (0, []), (0, []), (0, []), (0, []), (0, []), (0, []), (0, []), (0, []), (0, []), (0, []), (0, []), (0, []), (0, []), (0, []), (0, []), (0, []), (0, []), (0, []), (0, []), (0, []), (0, []), (0, []), (0, []), (0, []), (0, []), (0, []), (0, []), (0, []), (0, []), (0, []), (0, []), (0, []), (0, []), (0, []), (0, []), (0, []), (0, []), (0, []), (0, []), (0, []), (0, []), (0, [])] 1 mixedOk rfl (by decide +kernel) (by decide +kernel) (by decide +kernel) (by first | (simp only [nrm]; rfl) | (simp only [nrm, Nat.reduceAdd, Nat.zero_add]; rfl) | rfl) (by first | (simp only [nrm]; rfl) | (simp only [nrm, Nat.reduceAdd, Nat.zero_add]; rfl) | rfl) ?_ | refine VT.condY rfl rfl (by first | assumption | omega) ?_)) | (apply q_any; (first | refine PT.done (by first | (simp only [nrm]; rfl) | (simp only [nrm, Nat.reduceAdd, Nat.zero_add]; rfl) | rfl) ?_ | refine PT.gy rfl ?_ | refine PT.mvA ?_ | refine PT.ldA ?_ | refine PT.faA ?_ | (apply q_bn; (first | refine PT.v (f_neqF (a := (ws.length : Int)) rfl rfl (by omega)) ?_ | refine PT.v (f_neqF rfl rfl rfl) ?_ | refine PT.v (f_eqlF rfl rfl (by omega)) ?_ | refine PT.v (f_lssT rfl rfl hiD) ?_ | refine PT.bnA ?_)) | (apply q_cl; (first | refine PT.callG rfl (hsame) rfl rfl ?_ | refine PT.clA ?_)) | refine PT.pkA ?_ | (apply q_ix; (first | refine PT.v (f_ixQ (z := ⟨(i : Int) + 1, ws⟩) rfl rfl rfl hq rfl rfl) ?_ | refine PT.v (f_ixQ (f := eRow) (z := ws) rfl rfl rfl hdq rfl rfl) ?_)) | refine PT.unA ?_)) | with_reducible (refine kLn ?_)))
          exact ⟨N - (i + 1), by omega, _, _, ⟨i + 1, rfl, hlt, rfl, rfl, rfl⟩, Wk.keep (by (repeat first | exact True.intro | refine And.intro ?_ ?_ | exact Or.inr (Or.inl rfl) | exact Or.inl rfl | (refine DLe.i rfl ?_; omega) | (refine DLe.i rfl ?_; simp; done)))⟩
        · repeat (any_goals (first | (apply w_any; (first | refine RT.nil ?_ | refine RT.mvA ?_ | refine RT.asA ?_ | refine RT.bnA ?_ | refine RT.clA ?_)) | (apply v_any; (first | refine VT.seq rfl ?_ | refine VT.reg rfl ?_ | refine VT.condF rfl rfl ?_ | refine VT.block rfl ?_ | refine VT.skip rfl ?_ | refine VT.draw [(0, []), (0, []), (0, []), (0, []), (0, []), (0, []), (0, []), (0, []), (0, []), (0, []), (0, []), (0, []), (0, []), (0, []), (0, []), (0, []), (0, []), (0, []), (0, []), (0, []), (0, []), (0, []), (0, []), (0, []), (0, []), (0, []), (0, []), (0, []), (0, []), (0, []), (0, []), (0, []), (0, []), (0, []), (0, []), (0, []), (0, []), (0, []), (0, []), (0, []), (0, []), (0, []), (0, [])] 1 mixedOk rfl (by decide +kernel) (by decide +kernel) (by decide +kernel) (by first | (simp only [nrm]; rfl) | (simp only [nrm, Nat.reduceAdd, Nat.zero_add]; rfl) | rfl) (by first | (simp only [nrm]; rfl) | (simp only [nrm, Nat.reduceAdd, Nat.zero_add]; rfl) | rfl) ?_ | refine VT.condY rfl rfl (by first | assumption | omega) ?_)) | (apply q_any; (first | refine PT.done (by first | (simp only [nrm]; rfl) | (simp only [nrm, Nat.reduceAdd, Nat.zero_add]; rfl) | rfl) ?_ | (apply q_g; (first | refine PT.gy rfl ?_ | refine PT.gn rfl rfl ?_)) | refine PT.mvA ?_ | refine PT.ldA ?_ | refine PT.faA ?_ | (apply q_bn; (first | refine PT.v (f_neqF (a := (ws.length : Int)) rfl rfl (by omega)) ?_ | refine PT.v (f_neqF rfl rfl rfl) ?_ | refine PT.v (f_eqlF rfl rfl (by omega)) ?_ | refine PT.v (f_lssF rfl rfl hiD) ?_ | refine PT.bnA ?_)) | refine PT.clA ?_ | refine PT.pkA ?_ | refine PT.v (f_ixQ (z := ⟨(i : Int) + 1, ws⟩) rfl rfl rfl hq rfl rfl) ?_)) | with_reducible (refine kLn ?_)))
          exact ⟨N - (i + 1), by omega, _, _, ⟨i + 1, rfl, hlt, rfl, rfl, rfl⟩, Wk.keep (by (repeat first | exact True.intro | refine And.intro ?_ ?_ | exact Or.inr (Or.inl rfl) | exact Or.inl rfl | (refine DLe.i rfl ?_; omega) | (refine DLe.i rfl ?_; simp; done)))⟩
      · obtain rfl : i = N := by omega
        by_cases hf : s.Data + 2 * (b.length : Int) ≤ (lf.length : Int)
        · obtain ⟨l0, l1, l2⟩ := hlaw hf
          have w1 := m_Mend s lf (by omega) (fun x hx => by have := (hlm x hx).2.1; omega) fun _ => by omega
          have w2 := m_Spare s lf (by omega) (fun x hx => by have := (hlm x hx).2.1; omega) fun _ => by omega
          have hrs : rowsS d = true := q2
          unfold rowsS at hrs
          rw [Bool.and_eq_true, List.all_eq_true] at hrs
          obtain ⟨r1, r2⟩ := hrs
          have r2' := of_decide_eq_true r2
          have w3 := m_CheckMend s lf d b (by omega) (fun x hx => by have := (hlm x hx).2.1; omega) (fun _ => by omega) hd hdw (by omega)
          have w4 := m_sameRows d (by omega) fun x hx => by have := of_decide_eq_true (r1 x hx); omega
          have w5 := m_same b b (by omega) (by omega)
          rw [decide_eq_true rfl] at w5
          rw [l2] at w3
          unfold SpareS at w2
          rw [l1] at w1 w2
          rw [if_pos rfl] at w2
          change Maps Try.prog 19 [dSh s, .sl (lf.map eLeaf)] (.tup [.agg [.fl (d.map eRow), .fl (b.map eI)], wI 0]) at w1
          change Maps Try.prog 20 [dSh s, .sl (lf.map eLeaf)] (.tup [wI ((lf.length : Int) - s.Data - 2 * (b.length : Int)), wI 0]) at w2
          repeat (any_goals (first | (apply w_any; (first | refine RT.nil ?_ | refine RT.gy rfl ?_ | refine RT.mvA ?_ | refine RT.asA ?_ | refine RT.ldA ?_ | refine RT.faA ?_ | (apply w_bn; (first | refine RT.v (f_eqlT rfl rfl rfl) ?_ | refine RT.bnA ?_)) | (apply w_cl; (first | refine RT.callM rfl (h4) rfl rfl ?_ | refine RT.callM rfl (w1) rfl rfl ?_ | refine RT.callM rfl (w2) rfl rfl ?_ | refine RT.callM rfl (w3) rfl rfl ?_ | refine RT.callM rfl (w4) rfl rfl ?_ | refine RT.callM rfl (w5) rfl rfl ?_ | refine RT.clA ?_)) | refine RT.pkA ?_ | refine RT.exA ?_ | refine RT.stA ?_ | refine RT.nwA ?_)) | (apply v_any; (first | refine VT.seq rfl ?_ | refine VT.reg rfl ?_ | refine VT.skip rfl ?_ | refine VT.exit rfl ?_ | refine VT.ret rfl ?_ | refine VT.condN rfl rfl (by first | assumption | omega) ?_)) | (with_reducible refine d_kEr ?_; refine kEr rfl ?_)))
          rfl
        · repeat (any_goals (first | (apply w_any; (first | refine RT.nil ?_ | refine RT.mvA ?_ | refine RT.asA ?_ | refine RT.ldA ?_ | refine RT.faA ?_ | refine RT.bnA ?_ | (apply w_cl; (first | refine RT.callM rfl (h4) rfl rfl ?_ | refine RT.clA ?_)) | refine RT.exA ?_)) | (apply v_any; (first | refine VT.seq rfl ?_ | refine VT.reg rfl ?_ | refine VT.exit rfl ?_ | refine VT.ret rfl ?_ | refine VT.condY rfl rfl (by first | assumption | omega) ?_ | refine VT.condN rfl rfl (by first | assumption | omega) ?_)) | with_reducible (refine kSr ?_) | (with_reducible refine d_kEr ?_; refine kEr rfl ?_)))
          rfl
    | false =>
      rw [q, if_neg Bool.false_ne_true] at h3
      repeat (any_goals (first | (apply w_any; (first | refine RT.nil ?_ | refine RT.gy rfl ?_ | refine RT.mvA ?_ | refine RT.asA ?_ | refine RT.ldA ?_ | (apply w_bn; (first | refine RT.v (f_gtrF rfl rfl q3) ?_ | refine RT.bnA ?_)) | (apply w_cl; (first | refine RT.callM rfl (hh) rfl rfl ?_ | refine RT.callM rfl (h1) rfl rfl ?_ | refine RT.callM rfl (h2) rfl rfl ?_ | refine RT.callM rfl (h3) rfl rfl ?_ | refine RT.clA ?_)) | refine RT.pkA ?_ | refine RT.exA ?_ | refine RT.unA ?_ | refine RT.nwA ?_)) | (apply v_any; (first | refine VT.seq rfl ?_ | refine VT.reg rfl ?_ | refine VT.condT rfl rfl ?_ | refine VT.condF rfl rfl ?_ | refine VT.skip rfl ?_ | refine VT.ret rfl ?_)) | with_reducible (refine kSr ?_) | (with_reducible refine d_kEr ?_; refine kEr rfl ?_)))
      rfl
  · rw [e, if_neg (by decide)] at h3
    repeat (any_goals (first | (apply w_any; (first | refine RT.nil ?_ | refine RT.gy rfl ?_ | refine RT.mvA ?_ | refine RT.asA ?_ | refine RT.ldA ?_ | (apply w_bn; (first | refine RT.v (f_gtrF rfl rfl q3) ?_ | refine RT.bnA ?_)) | (apply w_cl; (first | refine RT.callM rfl (hh) rfl rfl ?_ | refine RT.callM rfl (h1) rfl rfl ?_ | refine RT.callM rfl (h2) rfl rfl ?_ | refine RT.callM rfl (h3) rfl rfl ?_ | refine RT.clA ?_)) | refine RT.pkA ?_ | refine RT.exA ?_ | refine RT.unA ?_ | refine RT.nwA ?_)) | (apply v_any; (first | refine VT.seq rfl ?_ | refine VT.reg rfl ?_ | refine VT.condT rfl rfl ?_ | refine VT.condF rfl rfl ?_ | refine VT.skip rfl ?_ | refine VT.ret rfl ?_)) | with_reducible (refine kSr ?_) | (with_reducible refine d_kEr ?_; refine kEr rfl ?_)))
    rfl
end Go.DL
