/- Sorted lines, and their digest. -/
import Derived.Test.YtmbbepdbjeciaaaGreatYu2
set_option maxRecDepth 100000
set_option maxHeartbeats 16000000
namespace Go.DL
open Go.Proofs Go
/-- slices.Clone of lines. -/
theorem c_cloneL {H : List Blk} {x : D} {o : List Line} (hx : x = .nil ∨ (∃ es, x = .sl es) ∨ (∃ es, x = .fl es) ∨ ∃ b k m c, x = .ms b k m c) (he : elemsD H x = some (o.map eLine)) (hl : o.length ≤ 1000000) :
    CallSp Tryz.prog 146 [x] H fun d H' => d = .ms (H.length + 1) 0 o.length o.length ∧ H' = H ++ [.dead, .live 4 (o.map eLine)] := by
  refine CallSp.vt pok Tryz.f146 (n := 8) (rs := [.tmp 2]) rfl rfl rfl rfl rfl rfl rfl fun g => ?_
  repeat (any_goals (first | (apply w_any; (first | refine RT.nil ?_ | refine RT.v (f_mv (d := x) rfl) ?_ | refine RT.asA ?_ | refine RT.nilEq rfl hx (fun b hb => ?_))) | (apply v_any; (first | (refine VT.retP (i := 2) 4 rfl rfl ?_) | refine VT.seq rfl ?_ | refine VT.reg rfl ?_ | refine VT.skip rfl ?_ | refine VT.cond rfl rfl (fun hc => ?_) (fun hc => ?_))) | with_reducible (refine kSr ?_) | (with_reducible refine d_kEr ?_; refine kEr rfl ?_)))
  · have ho : o = [] := by simpa using hb hc _ he
    subst ho
    exact ⟨rfl, rfl⟩
  · have he' : elemsD (H ++ [.live 4 []]) x = some (o.map eLine) := by
      rcases hx with rfl | ⟨es, rfl⟩ | ⟨es, rfl⟩ | ⟨b, k, m, c, rfl⟩
      · exact he
      · exact he
      · exact he
      · simp only [elemsD] at he ⊢
        split at he
        · rename_i sz es hb'
          rw [List.getElem?_append_left (List.getElem?_eq_some_iff.1 hb').1, hb']; exact he
        · cases he
    have hap : appendD Tryz.prog (H ++ [.live 4 []]) 55 55 (.ms H.length 0 0 0) x = some (some H.length, 4, o.map eLine) := by
      have e1 : elemsD (H ++ [.live 4 []]) (.ms H.length 0 0 0) = some [] := by simp [elemsD]
      have e2 : elemT Tryz.prog 55 = some (72, 4) := rfl
      have e3 : Tryz.prog.underlying 55 = some (.slice 72) := rfl
      have e4 : Tryz.prog.bytesOf 72 = 32 := rfl
      have e5 : zeroD Tryz.prog 72 = some [wI 0, wI 0, wI 0, wI 0] := rfl
      simp only [appendD, addedD, e2, e3, e1, he']
      rw [if_pos]
      · simp [Blk.hasSz]
      · refine ⟨by decide, by rw [e5]; rfl, rfl, by simp [eLine], List.all_eq_true.2 fun e he => by obtain ⟨a, _, rfl⟩ := List.mem_map.1 he; rfl, ?_, ?_⟩
        · rw [e4]; simp; omega
        · simp; omega
    repeat (any_goals (first | (apply w_any; (first | refine RT.nil ?_ | refine RT.v (f_mv (d := x) rfl) ?_ | refine RT.asA ?_ | refine RT.ap (s := H.length + 1) (m := o.length) (H' := H ++ [.dead, .live 4 (o.map eLine)]) (by simp) (f_app rfl rfl hap (by simp)) (by simp [killO]) ?_ | refine RT.new (by first | (simp only [nrm]; rfl) | (simp only [nrm, Nat.reduceAdd, Nat.zero_add]; rfl) | rfl) (f_bsl (ps := []) (sz := 4) (es := []) rfl) rfl ?_)) | refine VT.ret rfl ?_ | (with_reducible refine d_kEr ?_; refine kEr rfl ?_)))
    exact ⟨rfl, rfl⟩
def dsum : Nat → List Int → Int
  | _, [] => 0
  | i, x :: r => x * (DM.powN 7 i : Nat) + dsum (i + 1) r
theorem dsum_append : ∀ (i : Nat) (a b : List Int), dsum i (a ++ b) = dsum i a + dsum (i + a.length) b
  | i, [], b => by simp [dsum]
  | i, x :: a, b => by
    rw [List.cons_append, dsum, dsum, dsum_append (i + 1) a b, List.length_cons, show i + 1 + a.length = i + (a.length + 1) by omega, Int.add_assoc]
def digS (w : List Int) : Int := dsum 0 w % 65521
abbrev fnD : D := .fn (.func 100) [] [.rp [.fn (.func 143) [] [.rp [wI 7]]]]
theorem pow_lt (i : Nat) : DM.powN 7 i < 65521 := Nat.mod_lt _ (by decide)
theorem m_dig1 (i : Nat) (x : Int) (hx : W x) (hi : i ≤ 1000000) : Maps Tryz.prog 100 [wI i, wI x, .rp [.fn (.func 143) [] [.rp [wI 7]]]] (wI (x * (DM.powN 7 i : Nat))) := by
  refine Maps.vt pok Tryz.f100 (n := 11) (rs := [.tmp 5]) rfl rfl rfl rfl rfl rfl fun g => ?_
  have hp := pow_lt i
  have hm := mulB hx (b := (DM.powN 7 i : Nat)) ⟨by omega, by omega⟩
  repeat (any_goals (first | (apply w_any; (first | refine RT.nil ?_ | refine RT.mvA ?_ | refine RT.asA ?_ | refine RT.v (f_ldG rfl rfl rfl) ?_ | refine RT.bnA ?_ | refine RT.callM rfl (m_power1 7 i (by decide) (by omega)) rfl rfl ?_)) | (apply v_any; (first | refine VT.seq rfl ?_ | refine VT.reg rfl ?_ | refine VT.ret rfl ?_)) | (with_reducible refine d_kEr ?_; refine kEr rfl ?_)))
  rfl
theorem m_sumD (w : List Int) (hw : ∀ x, x ∈ w → W x) (hl : w.length ≤ 1000000) : Maps Tryz.prog 97 [.sl (w.map eI), fnD] (wI (digS w)) := by
  refine Maps.vt pok Tryz.f97 (n := 24) (rs := [.tmp 4]) rfl rfl rfl rfl rfl rfl fun g => ?_
  repeat (any_goals (first | (apply w_any; (first | refine RT.nil ?_ | refine RT.mvA ?_ | refine RT.asA ?_ | refine RT.clA ?_)) | (apply v_any; (first | refine VT.seq rfl ?_ | refine VT.reg rfl ?_ | refine VT.block rfl ?_))))
  refine VT.loop (fun j al H g' => ∃ k : Nat, j = w.length - k ∧ k ≤ w.length ∧ al = [(1, fnD), (5, wI (digS (w.take k))), (8, .sl (w.map eI)), (9, wI w.length), (10, wI k)] ∧ H = [] ∧ g' = g) rfl
    ⟨_, _, _, ⟨0, rfl, Nat.zero_le _, rfl, rfl, rfl⟩, fgA⟩ ?_
  rintro j al H g' ⟨k, rfl, hk, rfl, rfl, rfl⟩
  by_cases hlt : k < w.length
  · have hx := hw w[k] (List.getElem_mem hlt)
    have hp := pow_lt k
    have hm := mulB hx (b := (DM.powN 7 k : Nat)) ⟨by omega, by omega⟩
    have hd : 0 ≤ digS (w.take k) ∧ digS (w.take k) < 65521 := ⟨Int.emod_nonneg _ (by decide), Int.emod_lt_of_pos _ (by decide)⟩
    have e : (digS (w.take k) + w[k] * (DM.powN 7 k : Nat)) % 65521 = digS (w.take (k + 1)) := by
      unfold digS
      rw [List.take_succ_eq_append_getElem hlt, dsum_append, Int.emod_add_emod, List.length_take, Nat.min_eq_left (by omega), Nat.zero_add]
      simp [dsum]
    have h1 := m_mod (digS (w.take k) + w[k] * (DM.powN 7 k : Nat))
    rw [e] at h1
    repeat (any_goals (first | (apply w_any; (first | refine RT.nil ?_ | refine RT.mvA ?_ | refine RT.asA ?_ | refine RT.ldA ?_ | refine RT.bnA ?_ | (apply w_cl; (first | refine RT.callM rfl (m_dig1 k _ hx (by omega)) rfl rfl ?_ | refine RT.callM rfl (h1) rfl rfl ?_)) | refine RT.ixA ?_)) | (apply v_any; (first | refine VT.seq rfl ?_ | refine VT.reg rfl ?_ | refine VT.block rfl ?_ | refine VT.skip rfl ?_ | refine VT.condY rfl rfl (by first | assumption | omega) ?_)) | with_reducible (refine kLn ?_)))
    exact ⟨w.length - (k + 1), by omega, _, _, ⟨k + 1, rfl, hlt, rfl, rfl, rfl⟩, fgA⟩
  · repeat (any_goals (first | (apply w_any; (first | refine RT.nil ?_ | refine RT.mvA ?_ | refine RT.asA ?_ | refine RT.bnA ?_)) | (apply v_any; (first | refine VT.seq rfl ?_ | refine VT.reg rfl ?_ | refine VT.exit rfl ?_ | refine VT.ret rfl ?_ | refine VT.condN rfl rfl (by first | assumption | omega) ?_)) | (with_reducible refine d_kEr ?_; refine kEr rfl ?_)))
    rw [List.take_of_length_le (by omega)]; rfl
end Go.DL
