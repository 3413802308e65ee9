/- Forks of two lists of lines. -/
import Derived.Test.YtmbbepdbjeciaaaGreatYa3
import Derived.Test.YtmbbepdbjeciaaaGreatYw4
set_option maxRecDepth 100000
set_option maxHeartbeats 16000000
namespace Go.DL
open Go.Proofs Go
theorem m_orE (a b : Int) : Maps Tryz.prog 152 [.sl [eI a, eI b]] (wI (if a = 0 then b else a)) := by
  change Maps Tryz.prog 152 [.sl ([a, b].map eI)] _
  refine Maps.vt pok Tryz.f152 (n := 18) (rs := [.tmp 2]) rfl rfl rfl rfl rfl rfl fun g => ?_
  repeat (any_goals (first | (apply w_any; (first | refine RT.nil ?_ | refine RT.mvA ?_ | refine RT.asA ?_ | refine RT.clA ?_)) | (apply v_any; (first | refine VT.seq rfl ?_ | refine VT.reg rfl ?_ | refine VT.block rfl ?_))))
  refine VT.loop (fun j al H g' => ∃ k : Nat, j = 2 - k ∧ (k = 0 ∨ k ≤ 2 ∧ a = 0 ∧ (k = 2 → b = 0)) ∧ al = [(0, .sl ([a, b].map eI)), (3, wI 0), (6, .sl ([a, b].map eI)), (7, wI 2), (8, wI k)] ∧ H = [] ∧ g' = g) rfl
    ⟨_, _, _, ⟨0, rfl, .inl rfl, rfl, rfl, rfl⟩, fgA⟩ ?_
  rintro j al H g' ⟨k, rfl, hk, rfl, rfl, rfl⟩
  rcases Nat.lt_or_ge k 2 with hlt | hge
  · match k, hk, hlt with
    | 0, _, _ =>
      by_cases h : a = 0
      · repeat (any_goals (first | (apply w_any; (first | refine RT.nil ?_ | refine RT.mvA ?_ | refine RT.asA ?_ | refine RT.ldA ?_ | refine RT.bnA ?_ | refine RT.ixA ?_)) | (apply v_any; (first | refine VT.seq rfl ?_ | refine VT.reg rfl ?_ | refine VT.condT rfl rfl ?_ | refine VT.block rfl ?_ | refine VT.skip rfl ?_ | refine VT.ret rfl ?_ | refine VT.condD rfl rfl (fun hc => ?_) (fun hc => ?_))) | (with_reducible first | refine kSr ?_ | refine kBr ?_ | refine kLn ?_ | refine kLr ?_) | (with_reducible refine d_kEr ?_; refine kEr rfl ?_)))
        · exact absurd h hc
        exact ⟨1, by omega, _, _, ⟨1, rfl, .inr ⟨by omega, h, by omega⟩, rfl, rfl, rfl⟩, fgA⟩
      · rw [if_neg h]
        repeat (any_goals (first | (apply w_any; (first | refine RT.nil ?_ | refine RT.mvA ?_ | refine RT.asA ?_ | refine RT.ldA ?_ | refine RT.bnA ?_ | refine RT.ixA ?_)) | (apply v_any; (first | refine VT.seq rfl ?_ | refine VT.reg rfl ?_ | refine VT.condT rfl rfl ?_ | refine VT.block rfl ?_ | refine VT.skip rfl ?_ | refine VT.ret rfl ?_ | refine VT.condY rfl rfl (by first | assumption | omega) ?_)) | (with_reducible first | refine kSr ?_ | refine kBr ?_ | refine kLr ?_) | (with_reducible refine d_kEr ?_; refine kEr rfl ?_)))
        rfl
    | 1, hk, _ =>
      have h : a = 0 := by omega
      rw [if_pos h]
      by_cases h2 : b = 0
      · repeat (any_goals (first | (apply w_any; (first | refine RT.nil ?_ | refine RT.mvA ?_ | refine RT.asA ?_ | refine RT.ldA ?_ | refine RT.bnA ?_ | refine RT.ixA ?_)) | (apply v_any; (first | refine VT.seq rfl ?_ | refine VT.reg rfl ?_ | refine VT.condT rfl rfl ?_ | refine VT.block rfl ?_ | refine VT.skip rfl ?_ | refine VT.ret rfl ?_ | refine VT.condD rfl rfl (fun hc => ?_) (fun hc => ?_))) | (with_reducible first | refine kSr ?_ | refine kBr ?_ | refine kLn ?_ | refine kLr ?_) | (with_reducible refine d_kEr ?_; refine kEr rfl ?_)))
        · exact absurd h2 hc
        exact ⟨0, by omega, _, _, ⟨2, rfl, .inr ⟨by omega, h, fun _ => h2⟩, rfl, rfl, rfl⟩, fgA⟩
      · repeat (any_goals (first | (apply w_any; (first | refine RT.nil ?_ | refine RT.mvA ?_ | refine RT.asA ?_ | refine RT.ldA ?_ | refine RT.bnA ?_ | refine RT.ixA ?_)) | (apply v_any; (first | refine VT.seq rfl ?_ | refine VT.reg rfl ?_ | refine VT.condT rfl rfl ?_ | refine VT.block rfl ?_ | refine VT.skip rfl ?_ | refine VT.ret rfl ?_ | refine VT.condY rfl rfl (by first | assumption | omega) ?_)) | (with_reducible first | refine kSr ?_ | refine kBr ?_ | refine kLr ?_) | (with_reducible refine d_kEr ?_; refine kEr rfl ?_)))
        rfl
  · obtain ⟨rfl⟩ : k = 2 := by omega
    have h : a = 0 := by omega
    have h2 : b = 0 := by omega
    rw [if_pos h]
    repeat (any_goals (first | (apply w_any; (first | refine RT.nil ?_ | refine RT.mvA ?_ | refine RT.asA ?_ | refine RT.bnA ?_)) | (apply v_any; (first | refine VT.seq rfl ?_ | refine VT.reg rfl ?_ | refine VT.condF rfl rfl ?_ | refine VT.exit rfl ?_ | refine VT.ret rfl ?_)) | (with_reducible refine d_kEr ?_; refine kEr rfl ?_)))
    rw [h2]; rfl
def lined (a b : List Line) : Int := if CheckLinesS a = 0 then CheckLinesS b else CheckLinesS a
theorem m_lined (a b : List Line) (hl : a.length ≤ 4611686018427387904) (hl' : b.length ≤ 4611686018427387904) : Maps Tryz.prog 106 [.sl (a.map eLine), .sl (b.map eLine)] (wI (lined a b)) := by
  refine Maps.vt pok Tryz.f106 (n := 11) (rs := [.tmp 4]) rfl rfl rfl rfl rfl rfl fun g => ?_
  repeat (any_goals (first | (apply w_any; (first | refine RT.nil ?_ | refine RT.mvA ?_ | refine RT.asA ?_ | (apply w_cl; (first | refine RT.callM rfl (m_CheckLines a hl) rfl rfl ?_ | refine RT.callM rfl (m_CheckLines b hl') rfl rfl ?_ | refine RT.callM rfl (m_orE _ _) rfl rfl ?_)) | refine RT.new (s := 0) rfl (f_bslW2 rfl rfl rfl rfl) rfl ?_)) | (apply v_any; (first | refine VT.seq rfl ?_ | refine VT.reg rfl ?_ | refine VT.ret rfl ?_)) | (with_reducible refine d_kEr ?_; refine kEr rfl ?_)))
  rfl
/-- Is there another line with this number? -/
def fkB (a : List Line) (y : Line) : Bool := match a.find? (fun x => decide (x.ID = y.ID)) with
  | some x => !decide (y = x)
  | none => false
def forkW (a b : List Line) : List Int := (b.filter (fkB a)).map Line.ID
abbrev sortI (l : List Int) : List Int := l.mergeSort fun x y => decide (x ≤ y)
theorem find_snoc {l : List Line} {k : Nat} (hk : k < l.length) (h : l.Pairwise (fun x y => ¬ x.ID = y.ID)) (n : Int) :
    (l.take (k + 1)).find? (fun x => decide (x.ID = n)) = if n = l[k].ID then some l[k] else (l.take k).find? (fun x => decide (x.ID = n)) := by
  rw [List.take_succ_eq_append_getElem hk, List.find?_append]
  by_cases e : n = l[k].ID
  · subst e
    rw [if_pos rfl]
    have : (l.take k).find? (fun x => decide (x.ID = l[k].ID)) = none := by
      rw [List.find?_eq_none]
      intro x hx
      obtain ⟨i, hi, rfl⟩ := List.mem_take_iff_getElem.1 hx
      have := List.pairwise_iff_getElem.1 h i k (by omega) hk (by omega)
      simpa using this
    rw [this]; simp
  · rw [if_neg e]
    have : ([l[k]] : List Line).find? (fun x => decide (x.ID = n)) = none := by
      rw [List.find?_eq_none]; intro x hx; rw [List.mem_singleton.1 hx]; simpa using fun h => e h.symm
    rw [this, Option.or_none]
theorem m_forks (a b : List Line) (ha : LinesOk a) (hb : b.length ≤ 1000) : Maps Tryz.prog 107 [.sl (a.map eLine), .sl (b.map eLine)] (.fl ((sortI (forkW a b)).map eI)) := by
  refine Maps.vt pok Tryz.f107 (n := 53) (rs := [.tmp 4]) rfl rfl rfl rfl rfl rfl fun g => ?_
  have hal := ha.1
  repeat (any_goals (first | (apply w_any; (first | refine RT.nil ?_ | refine RT.mvA ?_ | (apply w_as; (first | refine RT.asA ?_ | refine RT.asM ?_)) | refine RT.clA ?_ | refine RT.new (s := 0) rfl f_mkmap rfl ?_)) | (apply v_any; (first | refine VT.seq rfl ?_ | refine VT.reg rfl ?_ | refine VT.block rfl ?_))))
  refine VT.loop (fun j al H g' => ∃ (k : Nat) (kv : KV), j = a.length - k ∧ k ≤ a.length ∧ H[0]? = some (tabB kv) ∧ (∀ n, aget kv n = ((a.take k).find? (fun x => decide (x.ID = n))).map fun x => .agg (eLine x)) ∧ al = [(0, .sl (a.map eLine)), (1, .sl (b.map eLine)), (5, .mm 0), (14, .sl (a.map eLine)), (15, wI a.length), (16, wI k)] ∧ g' = g) rfl
    ⟨_, _, _, ⟨0, [], rfl, Nat.zero_le _, rfl, fun n => rfl, rfl, rfl⟩, Wk.keep (by (repeat first | exact True.intro | refine And.intro ?_ ?_ | exact Or.inr (Or.inl rfl) | exact Or.inl rfl | (refine DLe.i rfl ?_; omega) | (refine DLe.i rfl ?_; simp; done)))⟩ ?_
  rintro j al H g' ⟨k, kv, rfl, hk, h0, hkv, rfl, rfl⟩
  by_cases hlt : k < a.length
  · obtain ⟨x, hx⟩ : ∃ x, a[k]? = some x := ⟨_, List.getElem?_eq_getElem hlt⟩
    have h0l := hg_lt h0
    have hxe : a[k] = x := (List.getElem?_eq_some_iff.1 hx).2
    repeat (any_goals (first | (apply w_any; (first | refine RT.nil ?_ | (apply w_mv; (first | refine RT.mvA ?_ | refine RT.mvM ?_)) | (apply w_ld; (first | refine RT.ldA ?_ | refine RT.ldH ?_)) | refine RT.faA ?_ | refine RT.bnA ?_ | refine RT.v (f_ixQ rfl rfl rfl hx rfl rfl) ?_ | refine RT.stH ?_ | refine RT.new (s := H.length) rfl (f_allocL (z := [wI 0, wI 0, wI 0, wI 0]) (m := 4) rfl rfl) rfl ?_ | refine RT.wr (f_mupd (d := .agg (eLine x)) rfl rfl rfl (by repeat (first | assumption | exact hg_new | exact hg_at (by first | rfl | simp) rfl | exact hg_self (by first | assumption | omega | (simp only [List.length_set, List.length_append, List.length_cons, List.length_nil, List.length_map, List.length_replicate]; omega)) | refine hg_app _ ?_ | refine hg_ne ?_ (by first | assumption | omega) | refine mskR ?_ (by first | (simp [rho, -List.length_eq_zero_iff]; done) | (simp [rho, -List.length_eq_zero_iff]; omega)))) rfl) rfl ?_)) | (apply v_any; (first | refine VT.seq rfl ?_ | refine VT.reg rfl ?_ | refine VT.block rfl ?_ | refine VT.skip rfl ?_ | refine VT.condY rfl rfl (by first | assumption | omega) ?_)) | with_reducible (refine kLn ?_)))
    exact ⟨a.length - (k + 1), by omega, _, _, ⟨k + 1, aset kv x.ID (.agg (eLine x)), rfl, hlt, hg_self (by simp), (fun n => by
      rw [aget_set, find_snoc hlt ha.2.2 n, hxe, hkv n]
      by_cases e : n = x.ID
      · rw [if_pos e, if_pos e]; rfl
      · rw [if_neg e, if_neg e]), rfl, rfl⟩, Wk.keep (by (repeat first | exact True.intro | refine And.intro ?_ ?_ | exact Or.inr (Or.inl rfl) | exact Or.inl rfl | (refine DLe.i rfl ?_; omega) | (refine DLe.i rfl ?_; simp; done)))⟩
  · obtain rfl : k = a.length := by omega
    rw [List.take_length] at hkv
    have h0l := hg_lt h0
    repeat (any_goals (first | (apply w_any; (first | refine RT.nil ?_ | refine RT.mvA ?_ | refine RT.asA ?_ | refine RT.bnA ?_ | refine RT.clA ?_)) | (apply v_any; (first | refine VT.seq rfl ?_ | refine VT.reg rfl ?_ | refine VT.block rfl ?_ | refine VT.exit rfl ?_ | (refine VT.phantom (i := 8) (s := H.length) 1 rfl rfl rfl ?_) | refine VT.condN rfl rfl (by first | assumption | omega) ?_))))
    refine VT.loop (fun j al H2 g2 => ∃ (k bb m : Nat) (o : List Int), j = b.length - k ∧ k ≤ b.length ∧ H2[0]? = some (tabB kv) ∧ H2[bb]? = some (.live 1 (o.map eI)) ∧ 0 < bb ∧ m = o.length ∧ m ≤ k ∧ o = forkW a (b.take k) ∧ al = [(5, .mm 0), (8, .ms bb 0 m m), (25, .sl (b.map eLine)), (26, wI b.length), (27, wI k)] ∧ g2 = g') rfl
      ⟨_, _, _, ⟨0, H.length, 0, [], rfl, Nat.zero_le _, hg_app _ h0, hg_at (t := 0) rfl rfl, by omega, rfl, by omega, rfl, rfl, rfl⟩, Wk.keep (by (repeat first | exact True.intro | refine And.intro ?_ ?_ | exact Or.inr (Or.inl rfl) | exact Or.inl rfl | (refine DLe.i rfl ?_; omega) | (refine DLe.i rfl ?_; simp; done)))⟩ ?_
    rintro j al H2 g2 ⟨k, bb, m, o, rfl, hk, h0, hbb, hb0, hm, hmk, ho, rfl, rfl⟩
    have h0l := hg_lt h0
    have hbl := hg_lt hbb
    by_cases hlt : k < b.length
    · obtain ⟨y, hy⟩ : ∃ y, b[k]? = some y := ⟨_, List.getElem?_eq_getElem hlt⟩
      have hst : forkW a (b.take (k + 1)) = o ++ (if fkB a y then [y.ID] else []) := by
        unfold forkW at ho ⊢
        rw [List.take_add_one, hy, List.filter_append, List.map_append, ← ho]
        cases hfy : fkB a y <;> simp [hfy]
      have hk1 := hkv y.ID
      cases hf : a.find? (fun x => decide (x.ID = y.ID)) with
      | none =>
        have hfk : fkB a y = false := by unfold fkB; rw [hf]
        rw [hfk, if_neg (by simp), List.append_nil] at hst
        rw [hf] at hk1
        have hz : (aget kv y.ID).orElse (fun _ => zvD Tryz.prog 72) = some (.agg [wI 0, wI 0, wI 0, wI 0]) := by rw [hk1]; rfl
        have ho2 : (aget kv y.ID).isSome = false := by rw [hk1]; rfl
        repeat (any_goals (first | (apply w_any; (first | refine RT.nil ?_ | refine RT.gn rfl rfl ?_ | (apply w_mv; (first | refine RT.mvA ?_ | refine RT.mvM ?_)) | refine RT.asA ?_ | (apply w_ld; (first | refine RT.ldA ?_ | refine RT.ldH ?_)) | refine RT.faA ?_ | refine RT.bnA ?_ | refine RT.pkA ?_ | refine RT.exA ?_ | refine RT.v (f_ixQ rfl rfl rfl hy rfl rfl) ?_ | (apply w_st; (first | refine RT.wr (f_stA rfl (hg_at (t := 0) rfl rfl) rfl rfl rfl rfl rfl (by decide) rfl) (H' := H2 ++ [.live 4 [eLine y]]) (setLen (i := 0) rfl rfl) ?_ | refine RT.wr (f_stA rfl (hg_at (t := 1) rfl rfl) rfl rfl rfl rfl rfl (by decide) rfl) (H' := H2 ++ [.live 4 [eLine y], .live 4 [[wI 0, wI 0, wI 0, wI 0]]]) (setLen (i := 1) rfl rfl) ?_)) | (apply w_al; (first | refine RT.new (s := H2.length) rfl (f_allocL (z := [wI 0, wI 0, wI 0, wI 0]) (m := 4) rfl rfl) rfl ?_ | refine RT.new (s := H2.length + 1) (by simp) (f_allocL (z := [wI 0, wI 0, wI 0, wI 0]) (m := 4) rfl rfl) (H' := H2 ++ [.live 4 [eLine y], .live 4 [[wI 0, wI 0, wI 0, wI 0]]]) (by simp) ?_)) | refine RT.v (f_look2 (d := .agg [wI 0, wI 0, wI 0, wI 0]) (o := false) rfl rfl (by repeat (first | assumption | exact hg_new | exact hg_at (by first | rfl | simp) rfl | exact hg_self (by first | assumption | omega | (simp only [List.length_set, List.length_append, List.length_cons, List.length_nil, List.length_map, List.length_replicate]; omega)) | refine hg_app _ ?_ | refine hg_ne ?_ (by first | assumption | omega) | refine mskR ?_ (by first | (simp [rho, -List.length_eq_zero_iff]; done) | (simp [rho, -List.length_eq_zero_iff]; omega)))) rfl ho2 hz) ?_)) | (apply v_any; (first | refine VT.seq rfl ?_ | refine VT.reg rfl ?_ | refine VT.condF rfl rfl ?_ | refine VT.block rfl ?_ | refine VT.skip rfl ?_ | refine VT.condY rfl rfl (by first | assumption | omega) ?_)) | with_reducible (refine kLn ?_)))
        exact ⟨b.length - (k + 1), by omega, _, _, ⟨k + 1, bb, m, o, rfl, hlt, (by repeat (first | assumption | exact hg_new | exact hg_at (by first | rfl | simp) rfl | exact hg_self (by first | assumption | omega | (simp only [List.length_set, List.length_append, List.length_cons, List.length_nil, List.length_map, List.length_replicate]; omega)) | refine hg_app _ ?_ | refine hg_ne ?_ (by first | assumption | omega) | refine mskR ?_ (by first | (simp [rho, -List.length_eq_zero_iff]; done) | (simp [rho, -List.length_eq_zero_iff]; omega)))), (by repeat (first | assumption | exact hg_new | exact hg_at (by first | rfl | simp) rfl | exact hg_self (by first | assumption | omega | (simp only [List.length_set, List.length_append, List.length_cons, List.length_nil, List.length_map, List.length_replicate]; omega)) | refine hg_app _ ?_ | refine hg_ne ?_ (by first | assumption | omega) | refine mskR ?_ (by first | (simp [rho, -List.length_eq_zero_iff]; done) | (simp [rho, -List.length_eq_zero_iff]; omega)))), hb0, hm, by omega, hst.symm, rfl, rfl⟩, Wk.keep (by (repeat first | exact True.intro | refine And.intro ?_ ?_ | exact Or.inr (Or.inl rfl) | exact Or.inl rfl | (refine DLe.i rfl ?_; omega) | (refine DLe.i rfl ?_; simp; done)))⟩
      | some x =>
        have hfk : fkB a y = !decide (y = x) := by unfold fkB; rw [hf]
        rw [hfk] at hst
        rw [hf] at hk1
        have hz : (aget kv y.ID).orElse (fun _ => zvD Tryz.prog 72) = some (.agg (eLine x)) := by rw [hk1]; rfl
        have ho2 : (aget kv y.ID).isSome = true := by rw [hk1]; rfl
        have hag := agg_line y x
        by_cases hyx : y = x
        · rw [decide_eq_true hyx] at hst hag
          rw [if_neg (by simp), List.append_nil] at hst
          repeat (any_goals (first | (apply w_any; (first | refine RT.nil ?_ | refine RT.gy rfl ?_ | (apply w_mv; (first | refine RT.mvA ?_ | refine RT.mvM ?_)) | refine RT.asA ?_ | (apply w_ld; (first | refine RT.v (f_ldOW rfl (hg_at (t := 0) rfl rfl) rfl rfl rfl rfl) ?_ | refine RT.v (f_ldOW rfl (hg_at (t := 1) rfl rfl) rfl rfl rfl rfl) ?_ | refine RT.ldA ?_ | refine RT.ldH ?_)) | refine RT.faA ?_ | refine RT.bnA ?_ | refine RT.pkA ?_ | refine RT.exA ?_ | refine RT.v (f_ixQ rfl rfl rfl hy rfl rfl) ?_ | (apply w_st; (first | refine RT.wr (f_stA rfl (hg_at (t := 0) rfl rfl) rfl rfl rfl rfl rfl (by decide) rfl) (H' := H2 ++ [.live 4 [eLine y]]) (setLen (i := 0) rfl rfl) ?_ | refine RT.wr (f_stA rfl (hg_at (t := 1) rfl rfl) rfl rfl rfl rfl rfl (by decide) rfl) (H' := H2 ++ [.live 4 [eLine y], .live 4 [(eLine x)]]) (setLen (i := 1) rfl rfl) ?_)) | (apply w_al; (first | refine RT.new (s := H2.length) rfl (f_allocL (z := [wI 0, wI 0, wI 0, wI 0]) (m := 4) rfl rfl) rfl ?_ | refine RT.new (s := H2.length + 1) (by simp) (f_allocL (z := [wI 0, wI 0, wI 0, wI 0]) (m := 4) rfl rfl) (H' := H2 ++ [.live 4 [eLine y], .live 4 [[wI 0, wI 0, wI 0, wI 0]]]) (by simp) ?_)) | refine RT.v (f_look2 (d := .agg (eLine x)) (o := true) rfl rfl (by repeat (first | assumption | exact hg_new | exact hg_at (by first | rfl | simp) rfl | exact hg_self (by first | assumption | omega | (simp only [List.length_set, List.length_append, List.length_cons, List.length_nil, List.length_map, List.length_replicate]; omega)) | refine hg_app _ ?_ | refine hg_ne ?_ (by first | assumption | omega) | refine mskR ?_ (by first | (simp [rho, -List.length_eq_zero_iff]; done) | (simp [rho, -List.length_eq_zero_iff]; omega)))) rfl ho2 hz) ?_ | refine RT.v (f_neqAgg rfl rfl hag) ?_)) | (apply v_any; (first | refine VT.seq rfl ?_ | refine VT.reg rfl ?_ | refine VT.condF rfl rfl ?_ | refine VT.block rfl ?_ | refine VT.skip rfl ?_ | refine VT.condY rfl rfl (by first | assumption | omega) ?_)) | with_reducible (refine kLn ?_)))
          exact ⟨b.length - (k + 1), by omega, _, _, ⟨k + 1, bb, m, o, rfl, hlt, (by repeat (first | assumption | exact hg_new | exact hg_at (by first | rfl | simp) rfl | exact hg_self (by first | assumption | omega | (simp only [List.length_set, List.length_append, List.length_cons, List.length_nil, List.length_map, List.length_replicate]; omega)) | refine hg_app _ ?_ | refine hg_ne ?_ (by first | assumption | omega) | refine mskR ?_ (by first | (simp [rho, -List.length_eq_zero_iff]; done) | (simp [rho, -List.length_eq_zero_iff]; omega)))), (by repeat (first | assumption | exact hg_new | exact hg_at (by first | rfl | simp) rfl | exact hg_self (by first | assumption | omega | (simp only [List.length_set, List.length_append, List.length_cons, List.length_nil, List.length_map, List.length_replicate]; omega)) | refine hg_app _ ?_ | refine hg_ne ?_ (by first | assumption | omega) | refine mskR ?_ (by first | (simp [rho, -List.length_eq_zero_iff]; done) | (simp [rho, -List.length_eq_zero_iff]; omega)))), hb0, hm, by omega, hst.symm, rfl, rfl⟩, Wk.keep (by (repeat first | exact True.intro | refine And.intro ?_ ?_ | exact Or.inr (Or.inl rfl) | exact Or.inl rfl | (refine DLe.i rfl ?_; omega) | (refine DLe.i rfl ?_; simp; done)))⟩
        · rw [decide_eq_false hyx] at hst hag
          rw [if_pos (show (!false) = true from rfl)] at hst
          repeat (any_goals (first | (apply w_any; (first | refine RT.nil ?_ | refine RT.gy rfl ?_ | (apply w_mv; (first | refine RT.mvA ?_ | refine RT.mvM ?_)) | refine RT.asA ?_ | (apply w_ld; (first | refine RT.v (f_ldOW rfl (hg_at (t := 0) rfl rfl) rfl rfl rfl rfl) ?_ | refine RT.v (f_ldOW rfl (hg_at (t := 1) rfl rfl) rfl rfl rfl rfl) ?_ | refine RT.ldA ?_ | refine RT.ldH ?_)) | refine RT.faA ?_ | refine RT.bnA ?_ | refine RT.ap (s := H2.length + 3) (by simp) (f_appL (f := eI) (o := o) (v := [y.ID]) (mm := m + 1) (by' := 8) rfl rfl (hg_app _ hbb) (List.take_of_length_le (by rw [List.length_map]; omega)) (by rw [List.length_map]; omega) (elems_take (k := 1) (l := [y.ID]) (hg_at (t := 2) rfl rfl) (Nat.le_refl _)) hm (by rw [← hm]; rfl) rfl (by decide) rfl rfl (fun _ => ⟨rfl, rfl⟩) (by rw [← hm]; simp; omega) (by rw [← hm]; simp; omega)) (H' := H2.set bb .dead ++ [.live 4 [eLine y], .live 4 [eLine x], .live 1 ([y.ID].map eI), .live 1 ((o ++ [y.ID]).map eI)]) (by rw [killO, List.set_append_left _ _ hbl, List.append_assoc]; rfl) ?_ | refine RT.pkA ?_ | refine RT.exA ?_ | refine RT.v (f_ixQ rfl rfl rfl hy rfl rfl) ?_ | (apply w_st; (first | refine RT.wr (f_stA rfl (hg_at (t := 0) rfl rfl) rfl rfl rfl rfl rfl (by decide) rfl) (H' := H2 ++ [.live 4 [eLine y]]) (setLen (i := 0) rfl rfl) ?_ | refine RT.wr (f_stA rfl (hg_at (t := 1) rfl rfl) rfl rfl rfl rfl rfl (by decide) rfl) (H' := H2 ++ [.live 4 [eLine y], .live 4 [(eLine x)]]) (setLen (i := 1) rfl rfl) ?_)) | refine RT.new (s := H2.length + 2) (by simp) (f_bslW1 rfl rfl rfl) (H' := H2 ++ [.live 4 [eLine y], .live 4 [eLine x], .live 1 ([y.ID].map eI)]) (by simp) ?_ | (apply w_al; (first | refine RT.new (s := H2.length) rfl (f_allocL (z := [wI 0, wI 0, wI 0, wI 0]) (m := 4) rfl rfl) rfl ?_ | refine RT.new (s := H2.length + 1) (by simp) (f_allocL (z := [wI 0, wI 0, wI 0, wI 0]) (m := 4) rfl rfl) (H' := H2 ++ [.live 4 [eLine y], .live 4 [[wI 0, wI 0, wI 0, wI 0]]]) (by simp) ?_)) | refine RT.v (f_look2 (d := .agg (eLine x)) (o := true) rfl rfl (by repeat (first | assumption | exact hg_new | exact hg_at (by first | rfl | simp) rfl | exact hg_self (by first | assumption | omega | (simp only [List.length_set, List.length_append, List.length_cons, List.length_nil, List.length_map, List.length_replicate]; omega)) | refine hg_app _ ?_ | refine hg_ne ?_ (by first | assumption | omega) | refine mskR ?_ (by first | (simp [rho, -List.length_eq_zero_iff]; done) | (simp [rho, -List.length_eq_zero_iff]; omega)))) rfl ho2 hz) ?_ | refine RT.v (f_neqAgg rfl rfl hag) ?_)) | (apply v_any; (first | refine VT.seq rfl ?_ | refine VT.reg rfl ?_ | refine VT.condT rfl rfl ?_ | refine VT.block rfl ?_ | refine VT.skip rfl ?_ | refine VT.condY rfl rfl (by first | assumption | omega) ?_)) | with_reducible (refine kLn ?_)))
          exact ⟨b.length - (k + 1), by omega, _, _, ⟨k + 1, H2.length + 3, m + 1, o ++ [y.ID], rfl, hlt, hg_app _ (hg_ne h0 (by omega)), hg_at (t := 3) (by simp) rfl, by omega, by simp [hm], by omega, hst.symm, rfl, rfl⟩, Wk.keep (by (repeat first | exact True.intro | refine And.intro ?_ ?_ | exact Or.inr (Or.inl rfl) | exact Or.inl rfl | (refine DLe.i rfl ?_; omega) | (refine DLe.i rfl ?_; simp; done)))⟩
    · obtain rfl : k = b.length := by omega
      rw [List.take_length] at ho
      subst hm
      repeat (any_goals (first | (apply w_any; (first | refine RT.nil ?_ | refine RT.mvA ?_ | refine RT.bnA ?_ | (refine d_call ?_; refine RT.callG rfl ((c_sortI (cap := o.length) hbb (by omega)).mono ?_)))) | (apply v_any; (first | refine VT.seq rfl ?_ | refine VT.reg rfl ?_ | refine VT.exit rfl ?_ | refine VT.condN rfl rfl (by first | assumption | omega) ?_))))
      rintro d H4 ⟨rfl, rfl⟩
      change RT _ _ _ _ ((51, D.tup []) :: _) _ _ _
      repeat (any_goals (first | (apply w_any; (first | refine RT.nil ?_ | refine RT.mvA ?_ | refine RT.asA ?_)) | (apply v_any; (first | refine VT.seq rfl ?_ | refine VT.reg rfl ?_ | refine VT.ret rfl ?_)) | (with_reducible refine d_kEr ?_; refine kEr rfl ?_)))
      show snapR _ 5 (.ms bb 0 o.length o.length) = _
      rw [snapRW (k := 4) (hg_self hbl) (by rw [List.length_mergeSort]), ho]
end Go.DL
