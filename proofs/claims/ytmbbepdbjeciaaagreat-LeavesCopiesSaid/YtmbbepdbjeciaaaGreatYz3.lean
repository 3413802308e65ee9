/- The law LeavesCopies. -/
import Derived.Test.YtmbbepdbjeciaaaGreatYv9
import Derived.Test.YtmbbepdbjeciaaaGreatE14
set_option maxRecDepth 100000
set_option maxHeartbeats 16000000
namespace Go.DL
open Go.Proofs Go
abbrev eHs (hs : List Harm) : List D := [.sl (hs.map eHarm)]
abbrev eLvF (l : List Leaf) : List D := [.fl (l.map eLeaf)]
/-- A map of numbers. -/
def KVi (z : D) (e : Int → D) (kv : KV) : Prop := ∀ n, (aget kv n).orElse (fun _ => some z) = some (e n)
theorem KVi.upd {z v : D} {e : Int → D} {kv : KV} {k : Int} (h : KVi z e kv) : KVi z (fun n => if n = k then v else e n) (aset kv k v) := fun n => by
  rw [aget_set]
  by_cases hn : n = k
  · rw [if_pos hn]; dsimp only; rw [if_pos hn]; rfl
  · rw [if_neg hn]; dsimp only; rw [if_neg hn]; exact h n
theorem KVi.congr {z : D} {e e' : Int → D} {kv : KV} (h : KVi z e kv) (k : ∀ n, e n = e' n) : KVi z e' kv := fun n => by rw [← k n]; exact h n
theorem cntN_succ {l : List Leaf} {k : Nat} {x : Leaf} (h : l[k]? = some x) (n : Int) : cntN (l.take (k + 1)) n = cntN (l.take k) n + if n = x.Number then 1 else 0 := by
  unfold cntN
  rw [List.take_add_one, h, List.countP_append]
  congr 1
  show [x].countP _ = _
  rw [List.countP_singleton]
  by_cases e : n = x.Number
  · rw [if_pos e, if_pos (by simp [e])]
  · rw [if_neg e, if_neg (by simpa using fun h => e h.symm)]
theorem count_succ {l : List Int} {k : Nat} {x : Int} (h : l[k]? = some x) (n : Int) : (l.take (k + 1)).count n = (l.take k).count n + if n = x then 1 else 0 := by
  rw [List.take_add_one, h, List.count_append]
  congr 1
  show [x].count n = _
  rw [List.count_singleton]
  by_cases e : n = x
  · rw [if_pos e, if_pos (by simp [e])]
  · rw [if_neg e, if_neg (by simpa using fun h => e h.symm)]
theorem rtC_small {L : List Leaf} {N : Nat} (hs : List Harm) (n : Int) : -2 * (N : Int) ≤ rtC L N hs n ∧ rtC L N hs n ≤ N := by
  have h1 := leftS_len (harmS L hs) N
  have h2 := badS_len L (harmS L hs) N
  have h3 : cntN (leftS (harmS L hs) N) n ≤ (leftS (harmS L hs) N).length := List.countP_le_length
  have h4 : (badS L (harmS L hs) N).count n ≤ (badS L (harmS L hs) N).length := List.count_le_length
  unfold rtC
  omega
theorem rtS_small {L : List Leaf} {N : Nat} (n : Int) : ∀ (hss : List (List Harm)), -2 * (N : Int) * hss.length ≤ rtS L N hss n ∧ rtS L N hss n ≤ N * hss.length
  | [] => by simp [rtS]
  | hs :: r => by
    have h1 := rtC_small (L := L) (N := N) hs n
    have h2 := rtS_small (L := L) (N := N) n r
    have e1 : -2 * (N : Int) * ((hs :: r).length : Nat) = -2 * (N : Int) * (r.length : Nat) + -2 * (N : Int) := by
      rw [List.length_cons]; push_cast; rw [Int.mul_add, Int.mul_one]
    have e2 : (N : Int) * ((hs :: r).length : Nat) = (N : Int) * (r.length : Nat) + N := by
      rw [List.length_cons]; push_cast; rw [Int.mul_add, Int.mul_one]
    rw [e1, e2, rtS]
    omega
theorem snap_rows {lk : Nat → Option Blk} {b m cap k : Nat} {cs : List (List Leaf)} (h : lk b = some (.live 1 (cs.map eLvF))) (hm : m = cs.length) : snap lk (k + 2) (.ms b 0 m cap) = .sl (cs.map eLvs) := by
  subst hm
  simp only [snap, h, Nat.zero_add, List.length_map, Nat.le_refl, if_true, List.drop_zero]
  rw [List.take_of_length_le (by simp), List.map_map]
  exact congrArg D.sl (List.map_congr_left fun x _ => rfl)
theorem JoinS_of {s : Shape} {cs : List (List Leaf)} {N : Nat} (hc : CheckS s = 0) (h5 : cs.length ≤ 5) (h : ∀ l, l ∈ cs → CheckLeavesS s l = 0) (hN : (s.Data + s.Checks).toNat = N) : JoinS s cs = (joinL cs N, 0) := by
  unfold JoinS
  rw [if_pos hc, if_neg (by omega), if_pos (ckAll_of h), hN]
theorem num_succ {l : List Leaf} {k : Nat} {x : Leaf} (h : l[k]? = some x) (n : Int) : n ∈ (l.take (k + 1)).map Leaf.Number ↔ n ∈ (l.take k).map Leaf.Number ∨ n = x.Number := by
  rw [List.take_add_one, h]; simp [eq_comm]
theorem mem_joinL {cs : List (List Leaf)} {N : Nat} {x : Leaf} : x ∈ joinL cs N ↔ ∃ i : Nat, i < N ∧ x ∈ jPick cs ((i : Int) + 1) := by
  unfold joinL
  rw [List.mem_flatMap]
  exact ⟨fun ⟨i, h1, h2⟩ => ⟨i, List.mem_range.1 h1, h2⟩, fun ⟨i, h1, h2⟩ => ⟨i, List.mem_range.2 h1, h2⟩⟩
theorem m_LeavesCopies (hh : Maps Tryz.prog 14 [] (wB true)) (s : Shape) (d : List (List Int)) (hss : List (List Harm)) (turn : Int) (hd : d.length ≤ 4611686018427387904) (hdw : ∀ x, x ∈ d → x.length ≤ 4611686018427387904)
    (hsl : hss.length ≤ 4611686018427387904) (hsl2 : ∀ hs, hs ∈ hss → hs.length ≤ 4611686018427387904) (hho : ∀ hs, hs ∈ hss → ∀ h, h ∈ hs → hOk h) (ht : 0 ≤ turn ∧ turn ≤ 255) :
    Maps Tryz.prog 9 [dSh s, .sl (d.map eRow), .sl (hss.map eHs), .v (.int .u8 turn)] (wB true) := by
  refine Maps.vt pok Tryz.f9 (n := 222) (rs := [.tmp 8]) rfl rfl rfl rfl rfl rfl fun g => ?_
  have h1 := m_small1 s
  have h2 := m_rows d hd
  have h3 := m_Whole s d hd hdw
  cases q1 : SmallS s with
  | false =>
    rw [q1] at h1
    repeat (any_goals (first | (apply w_any; (first | refine RT.nil ?_ | refine RT.gn rfl rfl ?_ | refine RT.mvA ?_ | refine RT.asA ?_ | refine RT.ldA ?_ | (apply w_cl; (first | refine RT.callM rfl (hh) rfl rfl ?_ | refine RT.callM rfl (h1) rfl rfl ?_)) | refine RT.pkA ?_ | refine RT.unA ?_ | refine RT.nwA ?_)) | (apply v_any; (first | refine VT.seq rfl ?_ | refine VT.reg rfl ?_ | refine VT.condT rfl rfl ?_ | refine VT.ret rfl ?_)) | with_reducible (refine kSr ?_) | (with_reducible refine d_kEr ?_; refine kEr rfl ?_)))
    rfl
  | true =>
  cases q2 : rowsS d with
  | false =>
    rw [q1] at h1; rw [q2] at h2
    repeat (any_goals (first | (apply w_any; (first | refine RT.nil ?_ | (apply w_g; (first | refine RT.gy rfl ?_ | refine RT.gn rfl rfl ?_)) | refine RT.mvA ?_ | refine RT.asA ?_ | refine RT.ldA ?_ | (apply w_cl; (first | refine RT.callM rfl (hh) rfl rfl ?_ | refine RT.callM rfl (h1) rfl rfl ?_ | refine RT.callM rfl (h2) rfl rfl ?_)) | refine RT.pkA ?_ | refine RT.unA ?_ | refine RT.nwA ?_)) | (apply v_any; (first | refine VT.seq rfl ?_ | refine VT.reg rfl ?_ | refine VT.condT rfl rfl ?_ | refine VT.ret rfl ?_)) | with_reducible (refine kSr ?_) | (with_reducible refine d_kEr ?_; refine kEr rfl ?_)))
    rfl
  | true =>
  by_cases q3 : hss.length = 0
  · rw [q1] at h1; rw [q2] at h2
    repeat (any_goals (first | (apply w_any; (first | refine RT.nil ?_ | (apply w_g; (first | refine RT.gy rfl ?_ | refine RT.gn rfl rfl ?_ | refine RT.gcY rfl rfl rfl (by first | assumption | omega) ?_)) | refine RT.mvA ?_ | refine RT.asA ?_ | refine RT.ldA ?_ | refine RT.bnA ?_ | (apply w_cl; (first | refine RT.callM rfl (hh) rfl rfl ?_ | refine RT.callM rfl (h1) rfl rfl ?_ | refine RT.callM rfl (h2) rfl rfl ?_ | refine RT.clA ?_)) | refine RT.pkA ?_ | refine RT.unA ?_ | refine RT.nwA ?_)) | (apply v_any; (first | refine VT.seq rfl ?_ | refine VT.reg rfl ?_ | refine VT.condT rfl rfl ?_ | refine VT.ret rfl ?_)) | with_reducible (refine kSr ?_) | (with_reducible refine d_kEr ?_; refine kEr rfl ?_)))
    rfl
  by_cases q4 : 5 < hss.length
  · rw [q1] at h1; rw [q2] at h2
    repeat (any_goals (first | (apply w_any; (first | refine RT.nil ?_ | (apply w_g; (first | refine RT.gy rfl ?_ | refine RT.gcN rfl rfl rfl (by first | assumption | omega) ?_)) | refine RT.mvA ?_ | refine RT.asA ?_ | refine RT.ldA ?_ | refine RT.bnA ?_ | (apply w_cl; (first | refine RT.callM rfl (hh) rfl rfl ?_ | refine RT.callM rfl (h1) rfl rfl ?_ | refine RT.callM rfl (h2) rfl rfl ?_ | refine RT.clA ?_)) | refine RT.pkA ?_ | refine RT.unA ?_ | refine RT.nwA ?_)) | (apply v_any; (first | refine VT.seq rfl ?_ | refine VT.reg rfl ?_ | refine VT.ret rfl ?_ | refine VT.condY rfl rfl (by first | assumption | omega) ?_)) | with_reducible (refine kSr ?_) | (with_reducible refine d_kEr ?_; refine kEr rfl ?_)))
    rfl
  rw [q1] at h1; rw [q2] at h2
  unfold WholeS at h3
  rcases CheckS_cases s with ⟨e, hc⟩ | ⟨e, hc⟩
  · rw [e, if_pos rfl] at h3
    cases q : DataS s d with
    | true =>
      rw [q, if_pos rfl] at h3
      have hsm := of_decide_eq_true q1 hc
      obtain ⟨⟨c1, c2⟩, ⟨c3, c4⟩, c5, c6⟩ := id hc
      obtain ⟨N, hN⟩ : ∃ N, N = s.Data.toNat + s.Checks.toNat := ⟨_, rfl⟩
      obtain ⟨w, hw⟩ : ∃ w, w = s.Width.toNat := ⟨_, rfl⟩
      have hNe : (s.Data + s.Checks).toNat = N := by omega
      have hN0 : 0 < N := by omega
      have hN8 : N ≤ 8 := by omega
      have hw0 : 0 < w := by omega
      have hwl := wholeL_wl N w d
      have hlen := wholeL_len N w d
      have hget := fun i (h : i < N) => wholeL_get (w := w) d h
      rw [hNe, ← hw] at h3
      have hcsok := lefts_ok (d := d) (hss := hss) hc hNe hw0 (by omega) hN0 (by omega) hho
      have hright := fun (i : Nat) (hi : i < N) => pick_right (d := d) (hss := hss) hw0 hN0 hho hi
      have hharm := fun hs (hm : hs ∈ hss) (hle : hs.length ≤ 1000) => m_harmed (w := w) (wholeL N w d) hs (by omega) (by omega) hw0 (by omega) hwl (hho hs hm) hle
      have hlm := fun hs (hm : hs ∈ hss) => left_mem (d := d) hw0 hN0 (hho hs hm)
      rw [hlen] at hharm
      generalize wholeL N w d = L at h3 hwl hlen hget hcsok hright hharm hlm
      change Maps Tryz.prog 18 [dSh s, .sl (d.map eRow)] (.tup [.fl (L.map eLeaf), wI 0]) at h3
      have hL0 := hget 0 hN0
      obtain ⟨ws0, hws0⟩ : ∃ ws, ws = (List.range w).map fun q : Nat => horner (colS d q) (((0 : Nat) : Int) + 1) := ⟨_, rfl⟩
      rw [← hws0] at hL0
      have hws0l : ws0.length = w := by rw [hws0]; simp
      clear hws0
      repeat (any_goals (first | (apply w_any; (first | refine RT.nil ?_ | (apply w_g; (first | refine RT.gy rfl ?_ | refine RT.gcN rfl rfl rfl (by first | assumption | omega) ?_)) | refine RT.mvA ?_ | (apply w_as; (first | refine RT.asA ?_ | refine RT.asM ?_)) | refine RT.ldA ?_ | refine RT.faA ?_ | (apply w_bn; (first | refine RT.v (f_eqlF (a := (L.length : Int)) rfl rfl (by omega)) ?_ | refine RT.v (f_eqlF (a := (ws0.length : Int)) rfl rfl (by omega)) ?_ | refine RT.bnA ?_)) | (apply w_cl; (first | refine RT.callM rfl (hh) rfl rfl ?_ | refine RT.callM rfl (h1) rfl rfl ?_ | refine RT.callM rfl (h2) rfl rfl ?_ | refine RT.callM rfl (h3) rfl rfl ?_ | refine RT.clA ?_)) | refine RT.pkA ?_ | refine RT.exA ?_ | refine RT.v (f_ixQ rfl rfl rfl hL0 rfl rfl) ?_ | refine RT.unA ?_ | refine RT.nwA ?_ | refine RT.mkH ?_)) | (apply v_any; (first | refine VT.seq rfl ?_ | refine VT.reg rfl ?_ | refine VT.condF rfl rfl ?_ | refine VT.block rfl ?_ | refine VT.skip rfl ?_ | refine VT.condN rfl rfl (by first | assumption | omega) ?_))))
      refine VT.phantom (i := 12) (s := 2) (H' := [.live 3 [eShape s], tabB [], .live 1 []]) 1 rfl rfl rfl ?_
      refine VT.loop (fun jj a H g' => ∃ (i b : Nat) (kv : KV), jj = hss.length - i ∧ i ≤ hss.length ∧ H[0]? = some (.live 3 [eShape s]) ∧ H[1]? = some (tabB kv) ∧ KVi (wI 0) (fun n => wI (rtS L N (hss.take i) n)) kv ∧ H[b]? = some (.live 1 ((leftsS L N (hss.take i)).map eLvF)) ∧ 2 ≤ b ∧ a = [(2, .sl (hss.map eHs)), (3, .v (.int .u8 turn)), (4, .mp 0 0 0), (9, wB true), (10, .fl (L.map eLeaf)), (12, .ms b 0 i i), (13, .mm 1), (14, wI i)] ∧ g' = g) rfl
        ⟨_, _, [.live 3 [eShape s], tabB [], .live 1 []], ⟨0, 2, [], rfl, Nat.zero_le _, rfl, rfl, fun n => rfl, rfl, Nat.le_refl _, rfl, rfl⟩, Wk.keep (by (repeat first | exact True.intro | refine And.intro ?_ ?_ | exact Or.inr (Or.inl rfl) | exact Or.inl rfl | (refine DLe.i rfl ?_; omega) | (refine DLe.i rfl ?_; simp; done)))⟩ ?_
      rintro jj a H g' ⟨i, b, kv, rfl, hi, g0, g1, hkv, hb, hb2, rfl, rfl⟩
      have hbl := hg_lt hb
      have hrs := fun n => rtS_small (L := L) (N := N) n (hss.take i)
      have hti : (hss.take i).length = i := by rw [List.length_take]; omega
      have hNi : (N : Int) * (i : Int) ≤ 40 := by
        have : N * i ≤ 8 * 5 := Nat.mul_le_mul hN8 (by omega)
        exact_mod_cast this
      have hrs2 : ∀ n, -100 ≤ rtS L N (hss.take i) n ∧ rtS L N (hss.take i) n ≤ 100 := fun n => by
        have := hrs n
        rw [hti, Int.mul_assoc] at this
        omega
      clear hrs
      by_cases hlt : i < hss.length
      · obtain ⟨hs, hsq⟩ : ∃ hs, hss[i]? = some hs := ⟨_, List.getElem?_eq_getElem hlt⟩
        have hsm' := List.mem_of_getElem? hsq
        have hsle := hsl2 hs hsm'
        by_cases h10 : 10 < hs.length
        · repeat (any_goals (first | (apply w_any; (first | refine RT.nil ?_ | refine RT.mvA ?_ | refine RT.asA ?_ | refine RT.ldA ?_ | refine RT.bnA ?_ | refine RT.clA ?_ | refine RT.v (f_ixQ (f := eHs) rfl rfl rfl hsq rfl rfl) ?_)) | (apply v_any; (first | refine VT.seq rfl ?_ | refine VT.reg rfl ?_ | refine VT.block rfl ?_ | refine VT.skip rfl ?_ | refine VT.ret rfl ?_ | refine VT.condY rfl rfl (by first | assumption | omega) ?_)) | (with_reducible first | refine kSr ?_ | refine kBr ?_ | refine kLr ?_) | (with_reducible refine d_kEr ?_; refine kEr rfl ?_)))
          rfl
        · have hh4 := hharm hs hsm' (by omega)
          have htk : hss.take (i + 1) = hss.take i ++ [hs] := by rw [List.take_add_one, hsq]; rfl
          have hrt : ∀ n, rtS L N (hss.take (i + 1)) n = rtS L N (hss.take i) n + ((cntN (leftS (harmS L hs) N) n : Int) - 2 * ((badS L (harmS L hs) N).count n : Nat)) := fun n => by rw [htk, rtS_snoc]; rfl
          have hls : leftsS L N (hss.take (i + 1)) = leftsS L N (hss.take i) ++ [leftS (harmS L hs) N] := by rw [htk]; simp [leftsS]
          have hlsl : (leftsS L N (hss.take i)).length = i := by rw [leftsS, List.length_map, hti]
          have hll := leftS_len (harmS L hs) N
          have hbdl := badS_len L (harmS L hs) N
          generalize leftS (harmS L hs) N = lf at hh4 hrt hls hll
          generalize badS L (harmS L hs) N = bd at hh4 hrt hbdl
          repeat (any_goals (first | (apply w_any; (first | refine RT.nil ?_ | refine RT.mvA ?_ | refine RT.asA ?_ | refine RT.ldA ?_ | refine RT.bnA ?_ | (apply w_cl; (first | refine RT.ap (s := H.length + 1) (by simp) (f_appT (f := eLvF) (o := leftsS L N (hss.take i)) (v := [lf]) (mm := i + 1) (by' := 24) rfl rfl (by repeat (first | assumption | exact hg_new | exact hg_at (by first | rfl | simp) rfl | exact hg_self (by first | assumption | omega | (simp only [List.length_set, List.length_append, List.length_cons, List.length_nil, List.length_map, List.length_replicate]; omega)) | refine hg_app _ ?_ | refine hg_ne ?_ (by first | assumption | omega) | refine mskR ?_ (by first | (simp [rho, -List.length_eq_zero_iff]; done) | (simp [rho, -List.length_eq_zero_iff]; omega)))) (List.take_of_length_le (by rw [List.length_map]; omega)) (by rw [List.length_map]; omega) (by repeat (first | assumption | exact hg_new | exact hg_at (by first | rfl | simp) rfl | exact hg_self (by first | assumption | omega | (simp only [List.length_set, List.length_append, List.length_cons, List.length_nil, List.length_map, List.length_replicate]; omega)) | refine hg_app _ ?_ | refine hg_ne ?_ (by first | assumption | omega) | refine mskR ?_ (by first | (simp [rho, -List.length_eq_zero_iff]; done) | (simp [rho, -List.length_eq_zero_iff]; omega)))) hlsl.symm rfl (by rw [hlsl]; rfl) rfl (by decide) rfl rfl (fun _ => ⟨rfl, rfl⟩) (by rw [hlsl]; simp; omega) (by rw [hlsl]; simp; omega)) (ap2 hbl _ _) ?_ | refine RT.callM rfl (hh4) rfl rfl ?_ | refine RT.clA ?_)) | refine RT.exA ?_ | refine RT.v (f_ixQ (f := eHs) rfl rfl rfl hsq rfl rfl) ?_ | refine RT.new (s := H.length) rfl (f_bslC1 (d := .fl (lf.map eLeaf)) rfl rfl rfl rfl rfl) rfl ?_)) | (apply v_any; (first | refine VT.seq rfl ?_ | refine VT.reg rfl ?_ | refine VT.block rfl ?_ | refine VT.skip rfl ?_ | refine VT.condY rfl rfl (by first | assumption | omega) ?_ | refine VT.condN rfl rfl (by first | assumption | omega) ?_))))
          obtain ⟨H2, hH2⟩ : ∃ H2, H2 = H.set b .dead ++ [Blk.live 1 [[D.fl (lf.map eLeaf)]], Blk.live 1 ((leftsS L N (hss.take i) ++ [lf]).map eLvF)] := ⟨_, rfl⟩
          have k0 : H2[0]? = some (.live 3 [eShape s]) := by rw [hH2]; exact (by repeat (first | assumption | exact hg_new | exact hg_at (by first | rfl | simp) rfl | exact hg_self (by first | assumption | omega | (simp only [List.length_set, List.length_append, List.length_cons, List.length_nil, List.length_map, List.length_replicate]; omega)) | refine hg_app _ ?_ | refine hg_ne ?_ (by first | assumption | omega) | refine mskR ?_ (by first | (simp [rho, -List.length_eq_zero_iff]; done) | (simp [rho, -List.length_eq_zero_iff]; omega))))
          have k1 : H2[1]? = some (tabB kv) := by rw [hH2]; exact (by repeat (first | assumption | exact hg_new | exact hg_at (by first | rfl | simp) rfl | exact hg_self (by first | assumption | omega | (simp only [List.length_set, List.length_append, List.length_cons, List.length_nil, List.length_map, List.length_replicate]; omega)) | refine hg_app _ ?_ | refine hg_ne ?_ (by first | assumption | omega) | refine mskR ?_ (by first | (simp [rho, -List.length_eq_zero_iff]; done) | (simp [rho, -List.length_eq_zero_iff]; omega))))
          have kb : H2[H.length + 1]? = some (.live 1 ((leftsS L N (hss.take (i + 1))).map eLvF)) := by rw [hH2, hls]; exact hg_at (t := 1) (by simp) rfl
          refine VT.loop (fun jj a H3 g2 => ∃ (j : Nat) (kv : KV), jj = lf.length - j ∧ j ≤ lf.length ∧ H3[0]? = some (.live 3 [eShape s]) ∧ H3[1]? = some (tabB kv) ∧ KVi (wI 0) (fun n => wI (rtS L N (hss.take i) n + (cntN (lf.take j) n : Int))) kv ∧ H3[H.length + 1]? = some (.live 1 ((leftsS L N (hss.take (i + 1))).map eLvF)) ∧ a = [(2, .sl (hss.map eHs)), (3, .v (.int .u8 turn)), (4, .mp 0 0 0), (9, wB true), (10, .fl (L.map eLeaf)), (12, .ms (H.length + 1) 0 (i + 1) (i + 1)), (13, .mm 1), (14, wI i), (15, .fl (lf.map eLeaf)), (16, .fl (bd.map eI)), (17, wI j)] ∧ g2 = g') rfl
            ⟨_, _, H2, ⟨0, kv, rfl, Nat.zero_le _, k0, k1, hkv.congr fun n => by show wI _ = wI (_ + 0); rw [Int.add_zero], kb, rfl, rfl⟩, by rw [hH2]; exact Wk.keep (by (repeat first | exact True.intro | refine And.intro ?_ ?_ | exact Or.inr (Or.inl rfl) | exact Or.inl rfl | (refine DLe.i rfl ?_; omega) | (refine DLe.i rfl ?_; simp; done)))⟩ ?_
          have hcn : ∀ j n, cntN (lf.take j) n ≤ 8 := fun j n => Nat.le_trans List.countP_le_length (by rw [List.length_take]; omega)
          have hcb : ∀ j n, (bd.take j).count n ≤ 8 := fun j n => Nat.le_trans List.count_le_length (by rw [List.length_take]; omega)
          clear k0 k1 kb hh4
          rintro jj a H3 g2 ⟨j, kv2, rfl, hj, k0, k1, hkv2, kb, rfl, rfl⟩
          have kbl := hg_lt kb
          by_cases hlj : j < lf.length
          · obtain ⟨x, hx⟩ : ∃ x, lf[j]? = some x := ⟨_, List.getElem?_eq_getElem hlj⟩
            have e1 := hrs2 x.Number
            have e2 := hcn j x.Number
            repeat (any_goals (first | (apply w_any; (first | refine RT.nil ?_ | (apply w_mv; (first | refine RT.mvA ?_ | refine RT.mvM ?_)) | refine RT.asA ?_ | refine RT.ldA ?_ | refine RT.faA ?_ | refine RT.bnA ?_ | refine RT.clA ?_ | refine RT.v (f_ixQ (f := eLeaf) rfl rfl rfl hx rfl rfl) ?_ | refine RT.v (f_look (d := wI (rtS L N (hss.take i) x.Number + (cntN (lf.take j) x.Number : Int))) rfl rfl (by repeat (first | assumption | exact hg_new | exact hg_at (by first | rfl | simp) rfl | exact hg_self (by first | assumption | omega | (simp only [List.length_set, List.length_append, List.length_cons, List.length_nil, List.length_map, List.length_replicate]; omega)) | refine hg_app _ ?_ | refine hg_ne ?_ (by first | assumption | omega) | refine mskR ?_ (by first | (simp [rho, -List.length_eq_zero_iff]; done) | (simp [rho, -List.length_eq_zero_iff]; omega)))) rfl (hkv2 x.Number)) ?_ | refine RT.wr (f_mupd (d := wI (rtS L N (hss.take i) x.Number + (cntN (lf.take j) x.Number : Int) + 1)) rfl rfl rfl (by repeat (first | assumption | exact hg_new | exact hg_at (by first | rfl | simp) rfl | exact hg_self (by first | assumption | omega | (simp only [List.length_set, List.length_append, List.length_cons, List.length_nil, List.length_map, List.length_replicate]; omega)) | refine hg_app _ ?_ | refine hg_ne ?_ (by first | assumption | omega) | refine mskR ?_ (by first | (simp [rho, -List.length_eq_zero_iff]; done) | (simp [rho, -List.length_eq_zero_iff]; omega)))) rfl) rfl ?_)) | (apply v_any; (first | refine VT.seq rfl ?_ | refine VT.reg rfl ?_ | refine VT.block rfl ?_ | refine VT.skip rfl ?_ | refine VT.condY rfl rfl (by first | assumption | omega) ?_)) | with_reducible (refine kLn ?_)))
            refine ⟨lf.length - (j + 1), by omega, _, _, ⟨j + 1, _, rfl, hlj, (by repeat (first | assumption | exact hg_new | exact hg_at (by first | rfl | simp) rfl | exact hg_self (by first | assumption | omega | (simp only [List.length_set, List.length_append, List.length_cons, List.length_nil, List.length_map, List.length_replicate]; omega)) | refine hg_app _ ?_ | refine hg_ne ?_ (by first | assumption | omega) | refine mskR ?_ (by first | (simp [rho, -List.length_eq_zero_iff]; done) | (simp [rho, -List.length_eq_zero_iff]; omega)))), (by repeat (first | assumption | exact hg_new | exact hg_at (by first | rfl | simp) rfl | exact hg_self (by first | assumption | omega | (simp only [List.length_set, List.length_append, List.length_cons, List.length_nil, List.length_map, List.length_replicate]; omega)) | refine hg_app _ ?_ | refine hg_ne ?_ (by first | assumption | omega) | refine mskR ?_ (by first | (simp [rho, -List.length_eq_zero_iff]; done) | (simp [rho, -List.length_eq_zero_iff]; omega)))), hkv2.upd.congr fun n => ?_, (by repeat (first | assumption | exact hg_new | exact hg_at (by first | rfl | simp) rfl | exact hg_self (by first | assumption | omega | (simp only [List.length_set, List.length_append, List.length_cons, List.length_nil, List.length_map, List.length_replicate]; omega)) | refine hg_app _ ?_ | refine hg_ne ?_ (by first | assumption | omega) | refine mskR ?_ (by first | (simp [rho, -List.length_eq_zero_iff]; done) | (simp [rho, -List.length_eq_zero_iff]; omega)))), rfl, rfl⟩, Wk.keep (by (repeat first | exact True.intro | refine And.intro ?_ ?_ | exact Or.inr (Or.inl rfl) | exact Or.inl rfl | (refine DLe.i rfl ?_; omega) | (refine DLe.i rfl ?_; simp; done)))⟩
            rw [cntN_succ hx n]
            by_cases hn : n = x.Number
            · rw [if_pos hn, if_pos hn, hn]; exact congrArg wI (by push_cast; omega)
            · rw [if_neg hn, if_neg hn]; rfl
          · obtain rfl : j = lf.length := by omega
            rw [List.take_length] at hkv2
            repeat (any_goals (first | (apply w_any; (first | refine RT.nil ?_ | refine RT.mvA ?_ | refine RT.asA ?_ | refine RT.bnA ?_ | refine RT.clA ?_)) | (apply v_any; (first | refine VT.seq rfl ?_ | refine VT.reg rfl ?_ | refine VT.block rfl ?_ | refine VT.exit rfl ?_ | refine VT.condN rfl rfl (by first | assumption | omega) ?_))))
            refine VT.loop (fun jj a H4 g3 => ∃ (j : Nat) (kv : KV), jj = bd.length - j ∧ j ≤ bd.length ∧ H4[0]? = some (.live 3 [eShape s]) ∧ H4[1]? = some (tabB kv) ∧ KVi (wI 0) (fun n => wI (rtS L N (hss.take i) n + (cntN lf n : Int) - 2 * ((bd.take j).count n : Nat))) kv ∧ H4[H.length + 1]? = some (.live 1 ((leftsS L N (hss.take (i + 1))).map eLvF)) ∧ a = [(2, .sl (hss.map eHs)), (3, .v (.int .u8 turn)), (4, .mp 0 0 0), (9, wB true), (10, .fl (L.map eLeaf)), (12, .ms (H.length + 1) 0 (i + 1) (i + 1)), (13, .mm 1), (14, wI i), (16, .fl (bd.map eI)), (18, wI j)] ∧ g3 = g2) rfl
              ⟨_, _, H3, ⟨0, kv2, rfl, Nat.zero_le _, k0, k1, hkv2.congr fun n => by exact congrArg wI (by show _ = _ - 2 * ((0 : Nat) : Int); omega), kb, rfl, rfl⟩, Wk.keep (by (repeat first | exact True.intro | refine And.intro ?_ ?_ | exact Or.inr (Or.inl rfl) | exact Or.inl rfl | (refine DLe.i rfl ?_; omega) | (refine DLe.i rfl ?_; simp; done)))⟩ ?_
            clear k0 k1 kb kbl hkv2
            rintro jj a H4 g3 ⟨j, kv2, rfl, hj, k0, k1, hkv2, kb, rfl, rfl⟩
            have kbl := hg_lt kb
            by_cases hlj : j < bd.length
            · obtain ⟨x, hx⟩ : ∃ x, bd[j]? = some x := ⟨_, List.getElem?_eq_getElem hlj⟩
              have e1 := hrs2 x
              have e2 := hcn lf.length x
              rw [List.take_length] at e2
              have e3 := hcb j x
              repeat (any_goals (first | (apply w_any; (first | refine RT.nil ?_ | refine RT.mvA ?_ | refine RT.asA ?_ | refine RT.bnA ?_ | refine RT.clA ?_)) | (apply v_any; (first | refine VT.seq rfl ?_ | refine VT.reg rfl ?_ | refine VT.block rfl ?_ | refine VT.skip rfl ?_ | refine VT.drawS [1] 1 [none, none, none, none, none, none, none, none, none, none, none, none, some 0] [(1, [1], none), (1, [1], none), (1, [1], none), (1, [1], none), (1, [1], none), (1, [1], none), (1, [1], none), (1, [1], none), (1, [1], none), (1, [1], none), (1, [1], none), (1, [1], none), (0, [1], some 0)] 2 rfl (by first | (simp; done) | (simp; omega)) (by first | (simp; done) | (simp; omega)) mixedOk rfl (by decide +kernel) (by decide +kernel) (by decide +kernel) rfl (H1 := H4 ++ [.free, .free]) rfl ?_ | refine VT.condY rfl rfl (by first | assumption | omega) ?_)) | (apply s_any; (first | refine ST.done (dropLn (H4.set 1 _) [_] .free) ?_ | (apply s_mv; (first | refine ST.mvA ?_ | refine ST.mvM ?_)) | refine ST.ldA ?_ | refine ST.bnA ?_ | refine ST.v (f_ixQ (f := eI) rfl rfl rfl hx rfl rfl) ?_ | refine ST.v (f_look (d := wI (rtS L N (hss.take i) x + (cntN lf x : Int) - 2 * ((bd.take j).count x : Nat))) rfl rfl (by repeat (first | assumption | exact hg_new | exact hg_at (by first | rfl | simp) rfl | exact hg_self (by first | assumption | omega | (simp only [List.length_set, List.length_append, List.length_cons, List.length_nil, List.length_map, List.length_replicate]; omega)) | refine hg_app _ ?_ | refine hg_ne ?_ (by first | assumption | omega) | refine mskR ?_ (by first | (simp [rho, -List.length_eq_zero_iff]; done) | (simp [rho, -List.length_eq_zero_iff]; omega)))) rfl (hkv2 x)) ?_ | refine ST.wr (q := 0) (b := 1) rfl rfl (f_mupd (d := wI (rtS L N (hss.take i) x + (cntN lf x : Int) - 2 * ((bd.take j).count x : Nat) - 2)) rfl rfl rfl (by repeat (first | assumption | exact hg_new | exact hg_at (by first | rfl | simp) rfl | exact hg_self (by first | assumption | omega | (simp only [List.length_set, List.length_append, List.length_cons, List.length_nil, List.length_map, List.length_replicate]; omega)) | refine hg_app _ ?_ | refine hg_ne ?_ (by first | assumption | omega) | refine mskR ?_ (by first | (simp [rho, -List.length_eq_zero_iff]; done) | (simp [rho, -List.length_eq_zero_iff]; omega)))) rfl) (List.set_append_left _ _ (by omega)) ?_)) | with_reducible (refine kLn ?_)))
              refine ⟨bd.length - (j + 1), by omega, _, _, ⟨j + 1, _, rfl, hlj, (by repeat (first | assumption | exact hg_new | exact hg_at (by first | rfl | simp) rfl | exact hg_self (by first | assumption | omega | (simp only [List.length_set, List.length_append, List.length_cons, List.length_nil, List.length_map, List.length_replicate]; omega)) | refine hg_app _ ?_ | refine hg_ne ?_ (by first | assumption | omega) | refine mskR ?_ (by first | (simp [rho, -List.length_eq_zero_iff]; done) | (simp [rho, -List.length_eq_zero_iff]; omega)))), (by repeat (first | assumption | exact hg_new | exact hg_at (by first | rfl | simp) rfl | exact hg_self (by first | assumption | omega | (simp only [List.length_set, List.length_append, List.length_cons, List.length_nil, List.length_map, List.length_replicate]; omega)) | refine hg_app _ ?_ | refine hg_ne ?_ (by first | assumption | omega) | refine mskR ?_ (by first | (simp [rho, -List.length_eq_zero_iff]; done) | (simp [rho, -List.length_eq_zero_iff]; omega)))), hkv2.upd.congr fun n => ?_, (by repeat (first | assumption | exact hg_new | exact hg_at (by first | rfl | simp) rfl | exact hg_self (by first | assumption | omega | (simp only [List.length_set, List.length_append, List.length_cons, List.length_nil, List.length_map, List.length_replicate]; omega)) | refine hg_app _ ?_ | refine hg_ne ?_ (by first | assumption | omega) | refine mskR ?_ (by first | (simp [rho, -List.length_eq_zero_iff]; done) | (simp [rho, -List.length_eq_zero_iff]; omega)))), rfl, rfl⟩, Wk.keep (by (repeat first | exact True.intro | refine And.intro ?_ ?_ | exact Or.inr (Or.inl rfl) | exact Or.inl rfl | (refine DLe.i rfl ?_; omega) | (refine DLe.i rfl ?_; simp; done)))⟩
              rw [count_succ hx n]
              by_cases hn : n = x
              · rw [if_pos hn, if_pos hn, hn]; exact congrArg wI (by push_cast; omega)
              · rw [if_neg hn, if_neg hn]; rfl
            · obtain rfl : j = bd.length := by omega
              rw [List.take_length] at hkv2
              repeat (any_goals (first | (apply w_any; (first | refine RT.nil ?_ | refine RT.mvA ?_ | refine RT.asA ?_ | refine RT.bnA ?_ | refine RT.clA ?_)) | (apply v_any; (first | refine VT.seq rfl ?_ | refine VT.reg rfl ?_ | refine VT.exit rfl ?_ | refine VT.condN rfl rfl (by first | assumption | omega) ?_)) | with_reducible (refine kLn ?_)))
              exact ⟨hss.length - (i + 1), by omega, _, _, ⟨i + 1, H.length + 1, kv2, rfl, hlt, k0, k1, hkv2.congr fun n => by rw [hrt n]; exact congrArg wI (by omega), kb, by omega, rfl, rfl⟩, Wk.keep (by (repeat first | exact True.intro | refine And.intro ?_ ?_ | exact Or.inr (Or.inl rfl) | exact Or.inl rfl | (refine DLe.i rfl ?_; omega) | (refine DLe.i rfl ?_; simp; done)))⟩
      · obtain rfl : i = hss.length := by omega
        rw [List.take_length] at hkv hb hrs2
        have hcl : (leftsS L N hss).length = hss.length := List.length_map ..
        generalize leftsS L N hss = cs at hb hcsok hright hcl
        generalize rtS L N hss = rt at hkv hright hrs2
        have hlv := fun l hl => (lvs_of (hcsok l hl)).2
        have hj1 := m_Join s cs (by omega) (fun l hl => by have := (hlv l hl).len; omega) (fun l hl x hx => by have := ((hlv l hl).wl x hx).1; omega)
        rw [JoinS_of e (by omega) hcsok hNe] at hj1
        have hsr := joinL_srt cs N
        have hjl := joinL_len cs N
        have hjw : ∀ x, x ∈ joinL cs N → x.Words.length ≤ 32 := fun x hx => by
          obtain ⟨l, hl1, hl2⟩ := List.mem_flatten.1 (hsr.2 x hx).2
          have := ((hlv l hl1).wl x hl2).1
          omega
        obtain ⟨k, hk, hke⟩ : ∃ k : Nat, k < hss.length ∧ turn % (hss.length : Int) = k := by
          refine ⟨turn.toNat % hss.length, Nat.mod_lt _ (by omega), ?_⟩
          rw [Int.natCast_emod, Int.toNat_of_nonneg ht.1]
        have hmem2 : ∀ l, l ∈ cs.drop k ++ cs.take k → l ∈ cs := fun l hl => (List.mem_append.1 hl).elim List.mem_of_mem_drop List.mem_of_mem_take
        have hcl2 : (cs.drop k ++ cs.take k).length = hss.length := by rw [List.length_append, List.length_drop, List.length_take]; omega
        have hj2 := m_Join s (cs.drop k ++ cs.take k) (by omega) (fun l hl => by have := (hlv l (hmem2 l hl)).len; omega) (fun l hl x hx => by have := ((hlv l (hmem2 l hl)).wl x hx).1; omega)
        rw [JoinS_of e (by omega) (fun l hl => hcsok l (hmem2 l hl)) hNe, ← joinL_perm (turn_perm cs k) N] at hj2
        have hsl0 := m_SameLeaves (joinL cs N) (joinL cs N) (by omega) (by omega) (fun x hx => by have := hjw x hx; omega) (fun x hx => by have := hjw x hx; omega)
        rw [decide_eq_true rfl] at hsl0
        have hpick : ∀ i : Nat, i < N → 0 < rt ((i : Int) + 1) → ∀ x, x ∈ joinL cs N → x.Number = (i : Int) + 1 → x = L.getD i ⟨0, []⟩ := fun i hi hr x hx hxn => by
          obtain ⟨i', hi', hx'⟩ := mem_joinL.1 hx
          have h5 := (jPick_num hx').1
          obtain rfl : i' = i := by omega
          rw [hright i' hi hr] at hx'
          exact List.mem_singleton.1 hx'
        have hhave : ∀ i : Nat, i < N → 0 < rt ((i : Int) + 1) → ((i : Int) + 1) ∈ (joinL cs N).map Leaf.Number := fun i hi hr => by
          have h5 := hright i hi hr
          refine List.mem_map.2 ⟨L.getD i ⟨0, []⟩, mem_joinL.2 ⟨i, hi, by rw [h5]; exact List.mem_singleton.2 rfl⟩, ?_⟩
          rw [getD_q (hget i hi)]
        generalize joinL cs N = J at hj1 hj2 hsl0 hsr hjl hjw hpick hhave
        have hsn1 : ([.agg (eShape s), .ms b 0 hss.length hss.length] : List D).map (snap (fun b => H[b]?) 5) = [dSh s, .sl (cs.map eLvs)] := congrArg (fun x => [D.agg (eShape s), x]) (snap_rows (lk := fun b => H[b]?) (k := 3) hb hcl.symm)
        repeat (any_goals (first | (apply w_any; (first | refine RT.nil ?_ | refine RT.gy rfl ?_ | refine RT.mvA ?_ | (apply w_as; (first | refine RT.asA ?_ | refine RT.asM ?_)) | refine RT.ldH ?_ | (apply w_bn; (first | refine RT.v (f_remE rfl rfl (by omega) (by omega) hke) ?_ | refine RT.bnA ?_)) | (apply w_cl; (first | (refine d_call ?_; refine RT.callM rfl hj1 hsn1 rfl ?_) | refine RT.callM rfl (hsl0) rfl rfl ?_ | refine RT.clA ?_)) | refine RT.pkA ?_ | refine RT.exA ?_ | refine RT.unA ?_ | refine RT.v (f_conv (a := turn) rfl rfl rfl (by omega) (by omega)) ?_ | refine RT.mkH ?_)) | (apply v_any; (first | refine VT.seq rfl ?_ | refine VT.reg rfl ?_ | refine VT.condF rfl rfl ?_ | refine VT.block rfl ?_ | refine VT.skip rfl ?_ | refine VT.exit rfl ?_ | refine VT.drawS [] 0 [none, none, none, none, none, some 0, none, none, none, some 1, none, none, none, none, none, none] [(4, [0, 1, 2, 3, 0, 1], none), (0, [0, 1, 2, 3], none), (4, [0, 1, 2, 3], none), (4, [0, 1, 2, 3], none), (4, [0, 1, 2, 3], none), (1, [1, 2, 3], some 0), (4, [0, 1, 2, 3, 0], none), (4, [0, 1, 2, 3, 0], none), (4, [0, 1, 2, 3, 0], none), (2, [2, 3], some 1), (3, [3], none), (4, [], none), (4, [], none), (4, [], none), (4, [], none), (4, [], none)] 5 rfl (by first | (simp; done) | (simp; omega)) (by first | (simp; done) | (simp; omega)) mixedOk rfl (by decide +kernel) (by decide +kernel) (by decide +kernel) rfl (H1 := H ++ [.free, .free, .free, .free, .free]) rfl ?_ | refine VT.condN rfl rfl (by first | assumption | omega) ?_)) | (apply s_any; (first | refine ST.done (dropLn H [_, _, _, _] .free) ?_ | refine ST.mvA ?_ | refine ST.asA ?_ | refine ST.ldH ?_ | (apply s_cl; (first | refine ST.ap (q := 0) (b := H.length + 0) rfl rfl (s' := H.length + 1) rfl (f_appL (f := eLvF) (o := []) (v := cs.drop k) (mm := (cs.drop k).length) (by' := 24) rfl rfl (by repeat (first | assumption | exact hg_new | exact hg_at (by first | rfl | simp) rfl | exact hg_self (by first | assumption | omega | (simp only [List.length_set, List.length_append, List.length_cons, List.length_nil, List.length_map, List.length_replicate]; omega)) | refine hg_app _ ?_ | refine hg_ne ?_ (by first | assumption | omega) | refine mskR ?_ (by first | (simp [rho, -List.length_eq_zero_iff]; done) | (simp [rho, -List.length_eq_zero_iff]; omega)))) rfl (Nat.zero_le _) (elems_drop (by repeat (first | assumption | exact hg_new | exact hg_at (by first | rfl | simp) rfl | exact hg_self (by first | assumption | omega | (simp only [List.length_set, List.length_append, List.length_cons, List.length_nil, List.length_map, List.length_replicate]; omega)) | refine hg_app _ ?_ | refine hg_ne ?_ (by first | assumption | omega) | refine mskR ?_ (by first | (simp [rho, -List.length_eq_zero_iff]; done) | (simp [rho, -List.length_eq_zero_iff]; omega)))) (by omega)) rfl (by simp) rfl (by decide) rfl rfl (fun _ => ⟨rfl, rfl⟩) (by simp; omega) (by simp; omega)) (killSet (i := 0) (j := 1) (T'' := [.dead, .live 1 ((cs.drop k).map eLvF), .free, .free, .free]) rfl rfl rfl) ?_ | refine ST.ap (q := 1) (b := H.length + 1) rfl rfl (s' := H.length + 2) rfl (f_appL (f := eLvF) (o := cs.drop k) (v := cs.take k) (mm := hss.length) (by' := 24) rfl rfl (by repeat (first | assumption | exact hg_new | exact hg_at (by first | rfl | simp) rfl | exact hg_self (by first | assumption | omega | (simp only [List.length_set, List.length_append, List.length_cons, List.length_nil, List.length_map, List.length_replicate]; omega)) | refine hg_app _ ?_ | refine hg_ne ?_ (by first | assumption | omega) | refine mskR ?_ (by first | (simp [rho, -List.length_eq_zero_iff]; done) | (simp [rho, -List.length_eq_zero_iff]; omega)))) (List.take_of_length_le (by simp)) (by simp) (elems_take (by repeat (first | assumption | exact hg_new | exact hg_at (by first | rfl | simp) rfl | exact hg_self (by first | assumption | omega | (simp only [List.length_set, List.length_append, List.length_cons, List.length_nil, List.length_map, List.length_replicate]; omega)) | refine hg_app _ ?_ | refine hg_ne ?_ (by first | assumption | omega) | refine mskR ?_ (by first | (simp [rho, -List.length_eq_zero_iff]; done) | (simp [rho, -List.length_eq_zero_iff]; omega)))) (by omega)) rfl (by simp; omega) rfl (by decide) rfl rfl (fun _ => ⟨rfl, rfl⟩) (by simp; omega) (by simp; omega)) (killSet (i := 1) (j := 2) (T'' := [.dead, .dead, .live 1 ((cs.drop k ++ cs.take k).map eLvF), .free, .free]) rfl rfl rfl) ?_ | refine ST.callM rfl hj2 (congrArg (fun x => [D.agg (eShape s), x]) (snap_rows (k := 3) (by repeat (first | assumption | exact hg_new | exact hg_at (by first | rfl | simp) rfl | exact hg_self (by first | assumption | omega | (simp only [List.length_set, List.length_append, List.length_cons, List.length_nil, List.length_map, List.length_replicate]; omega)) | refine hg_app _ ?_ | refine hg_ne ?_ (by first | assumption | omega) | refine mskR ?_ (by first | (simp [rho, -List.length_eq_zero_iff]; done) | (simp [rho, -List.length_eq_zero_iff]; omega)))) hcl2.symm)) rfl ?_)) | refine ST.exA ?_ | refine ST.new rfl (s' := H.length + 0) rfl (f_bsl0 (te := 24) (z := [.nil]) (m := 1) rfl rfl rfl) (setLen (i := 0) (T' := [.live 1 [], .free, .free, .free, .free]) rfl rfl) ?_ | (apply s_sl; (first | refine ST.v (f_slLo0 (k := k) rfl rfl rfl (by omega) (Nat.le_refl _) rfl (by repeat (first | assumption | exact hg_new | exact hg_at (by first | rfl | simp) rfl | exact hg_self (by first | assumption | omega | (simp only [List.length_set, List.length_append, List.length_cons, List.length_nil, List.length_map, List.length_replicate]; omega)) | refine hg_app _ ?_ | refine hg_ne ?_ (by first | assumption | omega) | refine mskR ?_ (by first | (simp [rho, -List.length_eq_zero_iff]; done) | (simp [rho, -List.length_eq_zero_iff]; omega))))) ?_ | refine ST.v (f_slHiO (hi := k) rfl rfl rfl (by omega) rfl (by repeat (first | assumption | exact hg_new | exact hg_at (by first | rfl | simp) rfl | exact hg_self (by first | assumption | omega | (simp only [List.length_set, List.length_append, List.length_cons, List.length_nil, List.length_map, List.length_replicate]; omega)) | refine hg_app _ ?_ | refine hg_ne ?_ (by first | assumption | omega) | refine mskR ?_ (by first | (simp [rho, -List.length_eq_zero_iff]; done) | (simp [rho, -List.length_eq_zero_iff]; omega))))) ?_))))))
        clear hj1 hj2 hsl0 hsn1
        obtain ⟨H2, hH2⟩ : ∃ H2, H2 = H ++ [Blk.dead, Blk.dead, Blk.live 1 ((cs.drop k ++ cs.take k).map eLvF), Blk.free] := ⟨_, rfl⟩
        have k0 : H2[0]? = some (.live 3 [eShape s]) := by rw [hH2]; exact (by repeat (first | assumption | exact hg_new | exact hg_at (by first | rfl | simp) rfl | exact hg_self (by first | assumption | omega | (simp only [List.length_set, List.length_append, List.length_cons, List.length_nil, List.length_map, List.length_replicate]; omega)) | refine hg_app _ ?_ | refine hg_ne ?_ (by first | assumption | omega) | refine mskR ?_ (by first | (simp [rho, -List.length_eq_zero_iff]; done) | (simp [rho, -List.length_eq_zero_iff]; omega))))
        have k1 : H2[1]? = some (tabB kv) := by rw [hH2]; exact (by repeat (first | assumption | exact hg_new | exact hg_at (by first | rfl | simp) rfl | exact hg_self (by first | assumption | omega | (simp only [List.length_set, List.length_append, List.length_cons, List.length_nil, List.length_map, List.length_replicate]; omega)) | refine hg_app _ ?_ | refine hg_ne ?_ (by first | assumption | omega) | refine mskR ?_ (by first | (simp [rho, -List.length_eq_zero_iff]; done) | (simp [rho, -List.length_eq_zero_iff]; omega))))
        have k2 : 2 ≤ H2.length := by have := hg_lt k1; omega
        refine VT.loop (fun jj a H3 g2 => ∃ (i p : Nat) (kv2 : KV), jj = J.length - i ∧ i ≤ J.length ∧ H3[0]? = some (.live 3 [eShape s]) ∧ H3[1]? = some (tabB kv) ∧ H3[p]? = some (tabB kv2) ∧ 2 ≤ p ∧ KVi (wB false) (fun n => wB (decide (n ∈ (J.take i).map Leaf.Number))) kv2 ∧ a = [(9, wB true), (10, .fl (L.map eLeaf)), (13, .mm 1), (19, .fl (J.map eLeaf)), (25, .mm p), (26, wI i)] ∧ g2 = g') rfl
          ⟨_, _, H2 ++ [tabB []], ⟨0, H2.length, [], rfl, Nat.zero_le _, (by repeat (first | assumption | exact hg_new | exact hg_at (by first | rfl | simp) rfl | exact hg_self (by first | assumption | omega | (simp only [List.length_set, List.length_append, List.length_cons, List.length_nil, List.length_map, List.length_replicate]; omega)) | refine hg_app _ ?_ | refine hg_ne ?_ (by first | assumption | omega) | refine mskR ?_ (by first | (simp [rho, -List.length_eq_zero_iff]; done) | (simp [rho, -List.length_eq_zero_iff]; omega)))), (by repeat (first | assumption | exact hg_new | exact hg_at (by first | rfl | simp) rfl | exact hg_self (by first | assumption | omega | (simp only [List.length_set, List.length_append, List.length_cons, List.length_nil, List.length_map, List.length_replicate]; omega)) | refine hg_app _ ?_ | refine hg_ne ?_ (by first | assumption | omega) | refine mskR ?_ (by first | (simp [rho, -List.length_eq_zero_iff]; done) | (simp [rho, -List.length_eq_zero_iff]; omega)))), (by repeat (first | assumption | exact hg_new | exact hg_at (by first | rfl | simp) rfl | exact hg_self (by first | assumption | omega | (simp only [List.length_set, List.length_append, List.length_cons, List.length_nil, List.length_map, List.length_replicate]; omega)) | refine hg_app _ ?_ | refine hg_ne ?_ (by first | assumption | omega) | refine mskR ?_ (by first | (simp [rho, -List.length_eq_zero_iff]; done) | (simp [rho, -List.length_eq_zero_iff]; omega)))), k2, fun n => rfl, rfl, rfl⟩, by rw [hH2]; exact Wk.keep (by (repeat first | exact True.intro | refine And.intro ?_ ?_ | exact Or.inr (Or.inl rfl) | exact Or.inl rfl | (refine DLe.i rfl ?_; omega) | (refine DLe.i rfl ?_; simp; done)))⟩ ?_
        clear k0 k1 k2 hH2 g0 g1 hb hbl hb2
        rintro jj a H3 g2 ⟨i, p, kv2, rfl, hi2, k0, k1, kp, hp2, hkv2, rfl, rfl⟩
        have kpl := hg_lt kp
        by_cases hlt : i < J.length
        · obtain ⟨x, hx⟩ : ∃ x, J[i]? = some x := ⟨_, List.getElem?_eq_getElem hlt⟩
          have hxm := List.mem_of_getElem? hx
          obtain ⟨⟨xn1, xn2⟩, _⟩ := hsr.2 x hxm
          have hxw := hjw x hxm
          obtain ⟨i', hi'⟩ : ∃ i' : Nat, x.Number = (i' : Int) + 1 := ⟨(x.Number - 1).toNat, by omega⟩
          have hq := hget i' (by omega)
          obtain ⟨y, hy⟩ : ∃ y : Leaf, L[i']? = some y := ⟨_, hq⟩
          have hyw := (hwl y (List.mem_of_getElem? hy)).1
          have hnew : KVi (wB false) (fun n => wB (decide (n ∈ (J.take (i + 1)).map Leaf.Number))) (aset kv2 x.Number (wB true)) := hkv2.upd.congr fun n => by
            have hm := num_succ hx n
            by_cases hn : n = x.Number
            · rw [if_pos hn]; exact congrArg wB (decide_eq_true (hm.2 (.inr hn))).symm
            · rw [if_neg hn]; exact congrArg wB (decide_eq_decide.2 ⟨fun h => hm.2 (.inl h), fun h => (hm.1 h).elim id fun h => absurd h hn⟩)
          obtain ⟨H4, hH4⟩ : ∃ H4, H4 = H3.set p (tabB (aset kv2 x.Number (wB true))) := ⟨_, rfl⟩
          have l0 : H4[0]? = some (.live 3 [eShape s]) := by rw [hH4]; exact (by repeat (first | assumption | exact hg_new | exact hg_at (by first | rfl | simp) rfl | exact hg_self (by first | assumption | omega | (simp only [List.length_set, List.length_append, List.length_cons, List.length_nil, List.length_map, List.length_replicate]; omega)) | refine hg_app _ ?_ | refine hg_ne ?_ (by first | assumption | omega) | refine mskR ?_ (by first | (simp [rho, -List.length_eq_zero_iff]; done) | (simp [rho, -List.length_eq_zero_iff]; omega))))
          have l1 : H4[1]? = some (tabB kv) := by rw [hH4]; exact (by repeat (first | assumption | exact hg_new | exact hg_at (by first | rfl | simp) rfl | exact hg_self (by first | assumption | omega | (simp only [List.length_set, List.length_append, List.length_cons, List.length_nil, List.length_map, List.length_replicate]; omega)) | refine hg_app _ ?_ | refine hg_ne ?_ (by first | assumption | omega) | refine mskR ?_ (by first | (simp [rho, -List.length_eq_zero_iff]; done) | (simp [rho, -List.length_eq_zero_iff]; omega))))
          have lp : H4[p]? = some (tabB (aset kv2 x.Number (wB true))) := by rw [hH4]; exact (by repeat (first | assumption | exact hg_new | exact hg_at (by first | rfl | simp) rfl | exact hg_self (by first | assumption | omega | (simp only [List.length_set, List.length_append, List.length_cons, List.length_nil, List.length_map, List.length_replicate]; omega)) | refine hg_app _ ?_ | refine hg_ne ?_ (by first | assumption | omega) | refine mskR ?_ (by first | (simp [rho, -List.length_eq_zero_iff]; done) | (simp [rho, -List.length_eq_zero_iff]; omega))))
          have hr2 := hrs2 x.Number
          by_cases hr : 0 < rt x.Number
          · rw [hi'] at hr
            have hxy := hpick i' (by omega) hr x hxm hi'
            rw [getD_q hy] at hxy
            rw [← hi'] at hr
            have hs := m_same x.Words y.Words (by omega) (by omega)
            rw [decide_eq_true (by rw [hxy])] at hs
            repeat (any_goals (first | (apply w_any; (first | refine RT.nil ?_ | refine RT.gy rfl ?_ | (apply w_mv; (first | refine RT.mvA ?_ | refine RT.mvM ?_)) | refine RT.asA ?_ | refine RT.ldA ?_ | refine RT.faA ?_ | (apply w_bn; (first | refine RT.v (f_lssF rfl rfl (by omega)) ?_ | refine RT.v (f_gtrF rfl rfl (by omega)) ?_ | refine RT.bnA ?_)) | refine RT.clA ?_ | refine RT.pkA ?_ | refine RT.v (f_ixQ (f := eLeaf) rfl rfl rfl hx rfl rfl) ?_ | refine RT.wr (f_mupd (d := wB true) rfl rfl rfl (by repeat (first | assumption | exact hg_new | exact hg_at (by first | rfl | simp) rfl | exact hg_self (by first | assumption | omega | (simp only [List.length_set, List.length_append, List.length_cons, List.length_nil, List.length_map, List.length_replicate]; omega)) | refine hg_app _ ?_ | refine hg_ne ?_ (by first | assumption | omega) | refine mskR ?_ (by first | (simp [rho, -List.length_eq_zero_iff]; done) | (simp [rho, -List.length_eq_zero_iff]; omega)))) rfl) (Eq.trans rfl hH4.symm) ?_)) | (apply v_any; (first | refine VT.seq rfl ?_ | refine VT.reg rfl ?_ | refine VT.condF rfl rfl ?_ | refine VT.block rfl ?_ | refine VT.skip rfl ?_ | refine VT.draw [(0, []), (0, []), (0, []), (0, []), (0, []), (0, []), (0, []), (0, []), (0, []), (0, []), (0, []), (0, []), (0, []), (0, []), (0, []), (0, []), (0, []), (0, []), (0, [])] 1 mixedOk rfl (by decide +kernel) (by decide +kernel) (by decide +kernel) (by first | (simp only [nrm]; rfl) | (simp only [nrm, Nat.reduceAdd, Nat.zero_add]; rfl) | rfl) (by first | (simp only [nrm]; rfl) | (simp only [nrm, Nat.reduceAdd, Nat.zero_add]; rfl) | rfl) ?_ | refine VT.condY rfl rfl (by first | assumption | omega) ?_)) | (apply q_any; (first | refine PT.done ((dropLn H4 [] .free).trans (List.append_nil _)) ?_ | refine PT.gy rfl ?_ | (apply q_mv; (first | refine PT.mvI ((mask_app (H0 := H4) (T := [_]) rfl)) ?_ | refine PT.mvMI ((mask_app (H0 := H4) (T := [_]) rfl)) ?_)) | refine PT.ldI ((mask_app (H0 := H4) (T := [_]) rfl)) ?_ | refine PT.faI ((mask_app (H0 := H4) (T := [_]) rfl)) ?_ | (apply q_bn; (first | refine PT.vI ((mask_app (H0 := H4) (T := [_]) rfl)) (f_gtrT rfl rfl hr) ?_ | refine PT.bnI ((mask_app (H0 := H4) (T := [_]) rfl)) ?_)) | refine PT.callI ((mask_app (H0 := H4) (T := [_]) rfl)) rfl (hs) (by first | (simp only [nrm]; rfl) | (simp only [nrm, Nat.reduceAdd, Nat.zero_add]; rfl) | rfl) rfl ?_ | refine PT.pkI ((mask_app (H0 := H4) (T := [_]) rfl)) ?_ | (apply q_ix; (first | refine PT.vI ((mask_app (H0 := H4) (T := [_]) rfl)) (f_ixQ (f := eLeaf) rfl rfl rfl hx rfl rfl) ?_ | refine PT.vI ((mask_app (H0 := H4) (T := [_]) rfl)) (f_ixQ (f := eLeaf) (k := i') rfl rfl (by omega) hy rfl rfl) ?_)) | refine PT.unI ((mask_app (H0 := H4) (T := [_]) rfl)) ?_ | refine PT.vI ((mask_app (H0 := H4) (T := [_]) rfl)) (f_look (d := wI (rt x.Number)) rfl rfl (hg_app _ l1) rfl (hkv x.Number)) ?_)) | with_reducible (refine kLn ?_)))
            exact ⟨J.length - (i + 1), by omega, _, _, ⟨i + 1, p, _, rfl, hlt, l0, l1, lp, hp2, hnew, rfl, rfl⟩, Wk.keep (by (repeat first | exact True.intro | refine And.intro ?_ ?_ | exact Or.inr (Or.inl rfl) | exact Or.inl rfl | (refine DLe.i rfl ?_; omega) | (refine DLe.i rfl ?_; simp; done)))⟩
          · repeat (any_goals (first | (apply w_any; (first | refine RT.nil ?_ | refine RT.gy rfl ?_ | (apply w_mv; (first | refine RT.mvA ?_ | refine RT.mvM ?_)) | refine RT.asA ?_ | refine RT.ldA ?_ | refine RT.faA ?_ | (apply w_bn; (first | refine RT.v (f_lssF rfl rfl (by omega)) ?_ | refine RT.v (f_gtrF rfl rfl (by omega)) ?_ | refine RT.bnA ?_)) | refine RT.clA ?_ | refine RT.pkA ?_ | refine RT.v (f_ixQ (f := eLeaf) rfl rfl rfl hx rfl rfl) ?_ | refine RT.wr (f_mupd (d := wB true) rfl rfl rfl (by repeat (first | assumption | exact hg_new | exact hg_at (by first | rfl | simp) rfl | exact hg_self (by first | assumption | omega | (simp only [List.length_set, List.length_append, List.length_cons, List.length_nil, List.length_map, List.length_replicate]; omega)) | refine hg_app _ ?_ | refine hg_ne ?_ (by first | assumption | omega) | refine mskR ?_ (by first | (simp [rho, -List.length_eq_zero_iff]; done) | (simp [rho, -List.length_eq_zero_iff]; omega)))) rfl) (Eq.trans rfl hH4.symm) ?_)) | (apply v_any; (first | refine VT.seq rfl ?_ | refine VT.reg rfl ?_ | refine VT.condF rfl rfl ?_ | refine VT.block rfl ?_ | refine VT.skip rfl ?_ | refine VT.draw [(0, []), (0, []), (0, []), (0, []), (0, []), (0, []), (0, []), (0, []), (0, []), (0, []), (0, []), (0, []), (0, []), (0, []), (0, []), (0, []), (0, []), (0, []), (0, [])] 1 mixedOk rfl (by decide +kernel) (by decide +kernel) (by decide +kernel) (by first | (simp only [nrm]; rfl) | (simp only [nrm, Nat.reduceAdd, Nat.zero_add]; rfl) | rfl) (by first | (simp only [nrm]; rfl) | (simp only [nrm, Nat.reduceAdd, Nat.zero_add]; rfl) | rfl) ?_ | refine VT.condY rfl rfl (by first | assumption | omega) ?_)) | (apply q_any; (first | refine PT.done ((dropLn H4 [] .free).trans (List.append_nil _)) ?_ | refine PT.gn rfl rfl ?_ | (apply q_mv; (first | refine PT.mvI ((mask_app (H0 := H4) (T := [_]) rfl)) ?_ | refine PT.mvMI ((mask_app (H0 := H4) (T := [_]) rfl)) ?_)) | refine PT.vI ((mask_app (H0 := H4) (T := [_]) rfl)) (f_gtrF rfl rfl hr) ?_ | refine PT.pkI ((mask_app (H0 := H4) (T := [_]) rfl)) ?_ | refine PT.vI ((mask_app (H0 := H4) (T := [_]) rfl)) (f_look (d := wI (rt x.Number)) rfl rfl (hg_app _ l1) rfl (hkv x.Number)) ?_)) | with_reducible (refine kLn ?_)))
            exact ⟨J.length - (i + 1), by omega, _, _, ⟨i + 1, p, _, rfl, hlt, l0, l1, lp, hp2, hnew, rfl, rfl⟩, Wk.keep (by (repeat first | exact True.intro | refine And.intro ?_ ?_ | exact Or.inr (Or.inl rfl) | exact Or.inl rfl | (refine DLe.i rfl ?_; omega) | (refine DLe.i rfl ?_; simp; done)))⟩
        · obtain rfl : i = J.length := by omega
          rw [List.take_length] at hkv2
          repeat (any_goals (first | (apply w_any; (first | refine RT.nil ?_ | refine RT.mvA ?_ | refine RT.asA ?_ | refine RT.bnA ?_ | refine RT.clA ?_)) | (apply v_any; (first | refine VT.seq rfl ?_ | refine VT.reg rfl ?_ | refine VT.block rfl ?_ | refine VT.exit rfl ?_ | refine VT.condN rfl rfl (by first | assumption | omega) ?_))))
          refine VT.loop (fun jj a H4 g3 => ∃ (n : Nat), jj = N - n ∧ n ≤ N ∧ H4[1]? = some (tabB kv) ∧ H4[p]? = some (tabB kv2) ∧ a = [(9, wB true), (10, .fl (L.map eLeaf)), (13, .mm 1), (25, .mm p), (28, wI ((n : Int) + 1))] ∧ g3 = g2) rfl
            ⟨_, _, H3, ⟨0, rfl, Nat.zero_le _, k1, kp, rfl, rfl⟩, Wk.keep (by (repeat first | exact True.intro | refine And.intro ?_ ?_ | exact Or.inr (Or.inl rfl) | exact Or.inl rfl | (refine DLe.i rfl ?_; omega) | (refine DLe.i rfl ?_; simp; done)))⟩ ?_
          rintro jj a H4 g3 ⟨n, rfl, hn, l1, lp, rfl, rfl⟩
          by_cases hlt : n < N
          · by_cases hr : 0 < rt ((n : Int) + 1)
            · have hv := (hkv2 ((n : Int) + 1)).trans (congrArg (fun b => some (wB b)) (decide_eq_true (hhave n hlt hr)))
              repeat (any_goals (first | (apply w_any; (first | refine RT.nil ?_ | refine RT.gy rfl ?_ | (apply w_mv; (first | refine RT.mvA ?_ | refine RT.mvM ?_)) | refine RT.asA ?_ | (apply w_bn; (first | refine RT.v (f_leqT rfl rfl (by omega)) ?_ | refine RT.v (f_gtrT rfl rfl hr) ?_ | refine RT.bnA ?_)) | refine RT.clA ?_ | refine RT.pkA ?_ | refine RT.unA ?_ | (apply w_lk; (first | refine RT.v (f_look (d := wI (rt ((n : Int) + 1))) rfl rfl l1 rfl (hkv _)) ?_ | refine RT.v (f_look (d := wB true) rfl rfl lp rfl hv) ?_)))) | (apply v_any; (first | refine VT.seq rfl ?_ | refine VT.reg rfl ?_ | refine VT.condT rfl rfl ?_ | refine VT.condF rfl rfl ?_ | refine VT.block rfl ?_ | refine VT.skip rfl ?_)) | with_reducible (refine kLn ?_)))
              exact ⟨N - (n + 1), by omega, _, _, ⟨n + 1, rfl, hlt, l1, lp, rfl, rfl⟩, Wk.keep (by (repeat first | exact True.intro | refine And.intro ?_ ?_ | exact Or.inr (Or.inl rfl) | exact Or.inl rfl | (refine DLe.i rfl ?_; omega) | (refine DLe.i rfl ?_; simp; done)))⟩
            · repeat (any_goals (first | (apply w_any; (first | refine RT.nil ?_ | refine RT.gn rfl rfl ?_ | (apply w_mv; (first | refine RT.mvA ?_ | refine RT.mvM ?_)) | refine RT.asA ?_ | (apply w_bn; (first | refine RT.v (f_leqT rfl rfl (by omega)) ?_ | refine RT.v (f_gtrF rfl rfl hr) ?_ | refine RT.bnA ?_)) | refine RT.clA ?_ | refine RT.pkA ?_ | refine RT.v (f_look (d := wI (rt ((n : Int) + 1))) rfl rfl l1 rfl (hkv _)) ?_)) | (apply v_any; (first | refine VT.seq rfl ?_ | refine VT.reg rfl ?_ | refine VT.condT rfl rfl ?_ | refine VT.condF rfl rfl ?_ | refine VT.block rfl ?_ | refine VT.skip rfl ?_)) | with_reducible (refine kLn ?_)))
              exact ⟨N - (n + 1), by omega, _, _, ⟨n + 1, rfl, hlt, l1, lp, rfl, rfl⟩, Wk.keep (by (repeat first | exact True.intro | refine And.intro ?_ ?_ | exact Or.inr (Or.inl rfl) | exact Or.inl rfl | (refine DLe.i rfl ?_; omega) | (refine DLe.i rfl ?_; simp; done)))⟩
          · obtain rfl : n = N := by omega
            repeat (any_goals (first | (apply w_any; (first | refine RT.nil ?_ | refine RT.mvA ?_ | refine RT.asA ?_ | refine RT.v (f_leqF rfl rfl (by omega)) ?_ | refine RT.clA ?_)) | (apply v_any; (first | refine VT.seq rfl ?_ | refine VT.reg rfl ?_ | refine VT.condF rfl rfl ?_ | refine VT.exit rfl ?_ | refine VT.ret rfl ?_)) | (with_reducible refine d_kEr ?_; refine kEr rfl ?_)))
            rfl
    | false =>
      rw [q, if_neg (by simp)] at h3
      repeat (any_goals (first | (apply w_any; (first | refine RT.nil ?_ | (apply w_g; (first | refine RT.gy rfl ?_ | refine RT.gcN rfl rfl rfl (by first | assumption | omega) ?_)) | refine RT.mvA ?_ | refine RT.asA ?_ | refine RT.ldA ?_ | refine RT.bnA ?_ | (apply w_cl; (first | refine RT.callM rfl (hh) rfl rfl ?_ | refine RT.callM rfl (h1) rfl rfl ?_ | refine RT.callM rfl (h2) rfl rfl ?_ | refine RT.callM rfl (h3) rfl rfl ?_ | refine RT.clA ?_)) | refine RT.pkA ?_ | refine RT.exA ?_ | refine RT.unA ?_ | refine RT.nwA ?_)) | (apply v_any; (first | refine VT.seq rfl ?_ | refine VT.reg rfl ?_ | refine VT.condT rfl rfl ?_ | refine VT.skip rfl ?_ | refine VT.ret rfl ?_ | refine VT.condN rfl rfl (by first | assumption | omega) ?_)) | with_reducible (refine kSr ?_) | (with_reducible refine d_kEr ?_; refine kEr rfl ?_)))
      rfl
  · rw [e, if_neg (by decide)] at h3
    repeat (any_goals (first | (apply w_any; (first | refine RT.nil ?_ | (apply w_g; (first | refine RT.gy rfl ?_ | refine RT.gcN rfl rfl rfl (by first | assumption | omega) ?_)) | refine RT.mvA ?_ | refine RT.asA ?_ | refine RT.ldA ?_ | refine RT.bnA ?_ | (apply w_cl; (first | refine RT.callM rfl (hh) rfl rfl ?_ | refine RT.callM rfl (h1) rfl rfl ?_ | refine RT.callM rfl (h2) rfl rfl ?_ | refine RT.callM rfl (h3) rfl rfl ?_ | refine RT.clA ?_)) | refine RT.pkA ?_ | refine RT.exA ?_ | refine RT.unA ?_ | refine RT.nwA ?_)) | (apply v_any; (first | refine VT.seq rfl ?_ | refine VT.reg rfl ?_ | refine VT.condT rfl rfl ?_ | refine VT.skip rfl ?_ | refine VT.ret rfl ?_ | refine VT.condN rfl rfl (by first | assumption | omega) ?_)) | with_reducible (refine kSr ?_) | (with_reducible refine d_kEr ?_; refine kEr rfl ?_)))
    rfl
end Go.DL
