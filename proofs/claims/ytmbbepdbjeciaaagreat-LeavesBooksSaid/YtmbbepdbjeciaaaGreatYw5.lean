/- slices.Concat and slices.Chunk. -/
import Derived.Test.YtmbbepdbjeciaaaGreatYw4
import Derived.Test.YtmbbepdbjeciaaaGreatE6
set_option maxRecDepth 100000
set_option maxHeartbeats 16000000
namespace Go.DL
open Go.Proofs Go
/-- Room for words. -/
theorem c_grow {H : List Blk} {k : Nat} (h1 : 1 ≤ k) (hk : k ≤ 1000000) : CallSp Tryz.prog 140 [.nil, wI k] H fun d H' => d = .ms H.length 0 0 k ∧ H' = H ++ [.live 1 ((List.replicate k (0 : Int)).map eI)] := by
  refine CallSp.vt pok Tryz.f140 (n := 27) (rs := [.tmp 4]) rfl rfl rfl rfl rfl rfl rfl fun g => ?_
  have hb : (H ++ [.live 1 ((List.replicate k (0 : Int)).map eI)])[H.length]? = some (.live 1 ((List.replicate k (0 : Int)).map eI)) := hg_at (t := 0) rfl rfl
  repeat (any_goals (first | (apply w_any; (first | refine RT.nil ?_ | refine RT.mvA ?_ | refine RT.asA ?_ | refine RT.bnA ?_ | (apply w_cl; (first | (refine d_call ?_; refine RT.capN rfl rfl ?_) | refine RT.ap (s := H.length) rfl (f_appZ0 (k := k) rfl rfl rfl rfl rfl rfl (by omega)) rfl ?_ | refine RT.clA ?_)) | (apply w_sl; (first | refine RT.v (f_slNil0 rfl rfl rfl) ?_ | refine RT.v (f_slHiO (hi := 0) rfl rfl rfl (by omega) rfl hb) ?_)))) | (apply v_any; (first | refine VT.seq rfl ?_ | refine VT.reg rfl ?_ | refine VT.condF rfl rfl ?_ | refine VT.skip rfl ?_ | refine VT.ret rfl ?_ | refine VT.condY rfl rfl (by first | assumption | omega) ?_)) | (with_reducible refine d_kEr ?_; refine kEr rfl ?_)))
  exact ⟨rfl, rfl⟩
theorem c_concat0 (d : List (List Int)) (w : Nat) (hd : d.length ≤ 20) (hw : ∀ r, r ∈ d → r.length = w) (h1 : 1 ≤ d.length) (hw1 : 1 ≤ w) (hw2 : w ≤ 32) : CallSp Tryz.prog 89 [.sl (d.map eRow)] [] fun x H => x = .ms d.length 0 d.flatten.length d.flatten.length ∧ H[d.length]? = some (.live 1 (d.flatten.map eI)) := by
  refine CallSp.vt pok Tryz.f89 (n := 36) (rs := [.tmp 2]) rfl rfl rfl rfl rfl rfl rfl fun g => ?_
  repeat (any_goals (first | (apply w_any; (first | refine RT.nil ?_ | refine RT.mvA ?_ | refine RT.asA ?_ | refine RT.clA ?_)) | (apply v_any; (first | refine VT.seq rfl ?_ | refine VT.reg rfl ?_ | refine VT.block rfl ?_))))
  refine VT.loop (fun j a H g' => ∃ k : Nat, j = d.length - k ∧ k ≤ d.length ∧ a = [(0, .sl (d.map eRow)), (3, wI (k * w : Nat)), (9, .sl (d.map eRow)), (10, wI d.length), (11, wI k)] ∧ H = [] ∧ g' = g) rfl
    ⟨_, _, _, ⟨0, rfl, Nat.zero_le _, by rw [Nat.zero_mul], rfl, rfl⟩, fgA⟩ ?_
  rintro j a H g' ⟨k, rfl, hk, rfl, rfl, rfl⟩
  have hkw : k * w ≤ 640 := Nat.mul_le_mul (show k ≤ 20 by omega) hw2
  by_cases hlt : k < d.length
  · have hr := hw d[k] (List.getElem_mem hlt)
    have e : (k + 1) * w = k * w + d[k].length := by rw [Nat.succ_mul, hr]
    repeat (any_goals (first | (apply w_any; (first | refine RT.nil ?_ | refine RT.mvA ?_ | refine RT.asA ?_ | refine RT.ldA ?_ | refine RT.bnA ?_ | refine RT.clA ?_ | refine RT.ixA ?_)) | (apply v_any; (first | refine VT.seq rfl ?_ | refine VT.reg rfl ?_ | refine VT.condF rfl rfl ?_ | refine VT.block rfl ?_ | refine VT.skip rfl ?_ | refine VT.condY rfl rfl (by first | assumption | omega) ?_)) | with_reducible (refine kLn ?_)))
    exact ⟨d.length - (k + 1), by omega, _, _, ⟨k + 1, rfl, hlt, rfl, rfl, rfl⟩, fgA⟩
  · obtain rfl : k = d.length := by omega
    have hk1 : 1 ≤ d.length * w := Nat.mul_le_mul h1 hw1
    repeat (any_goals (first | (apply w_any; (first | refine RT.nil ?_ | refine RT.mvA ?_ | refine RT.asA ?_ | refine RT.bnA ?_ | (apply w_cl; (first | (refine d_call ?_; refine RT.callS rfl (c_grow (H := []) hk1 (by omega)) rfl (d2 := .ms 0 0 0 (d.length * w)) rfl (H2 := [.live 1 ((List.replicate (d.length * w) (0 : Int)).map eI)]) rfl ?_) | refine RT.clA ?_)))) | (apply v_any; (first | refine VT.seq rfl ?_ | refine VT.reg rfl ?_ | refine VT.block rfl ?_ | refine VT.exit rfl ?_ | refine VT.condN rfl rfl (by first | assumption | omega) ?_))))
    have hfl : ∀ k, k ≤ d.length → ((d.take k).flatten).length = k * w := fun k hk => by
      rw [List.length_flatten, show (d.take k).map List.length = List.replicate k w from by
        refine List.eq_replicate_iff.2 ⟨by simp; omega, fun x hx => ?_⟩
        obtain ⟨r, hr, rfl⟩ := List.mem_map.1 hx
        exact hw r (List.mem_of_mem_take hr)]
      simp
    refine VT.loop (fun j a H g2 => ∃ (k b m c : Nat) (es : List (List D)), j = d.length - k ∧ k ≤ d.length ∧ H[b]? = some (.live 1 es) ∧ es.take m = ((d.take k).flatten).map eI ∧ m ≤ es.length ∧ m = ((d.take k).flatten).length ∧ (b = k ∧ H.length = k + 1) ∧ (0 < k → es = ((d.take k).flatten).map eI ∧ c = m) ∧ a = [(6, .ms b 0 m c), (25, .sl (d.map eRow)), (26, wI d.length), (27, wI k)] ∧ g2 = g') rfl
      ⟨_, _, _, ⟨0, 0, 0, d.length * w, _, rfl, Nat.zero_le _, rfl, rfl, Nat.zero_le _, rfl, ⟨rfl, rfl⟩, fun h => absurd h (Nat.lt_irrefl 0), rfl, rfl⟩, Wk.keep (by (repeat first | exact True.intro | refine And.intro ?_ ?_ | exact Or.inr (Or.inl rfl) | exact Or.inl rfl | (refine DLe.i rfl ?_; omega) | (refine DLe.i rfl ?_; simp; done)))⟩ ?_
    rintro j a H g2 ⟨k, b, m, c, es, rfl, hk, hb, hes, hle, hm, hc, he, rfl, rfl⟩
    have hlen := hfl k hk
    have hkw : k * w ≤ 640 := Nat.mul_le_mul (show k ≤ 20 by omega) hw2
    by_cases hlt : k < d.length
    · have hr := hw d[k] (List.getElem_mem hlt)
      have hf2 : (d.take (k + 1)).flatten = (d.take k).flatten ++ d[k] := by rw [List.take_succ_eq_append_getElem hlt, List.flatten_append, List.flatten_cons, List.flatten_nil, List.append_nil]
      repeat (any_goals (first | (apply w_any; (first | refine RT.nil ?_ | refine RT.mvA ?_ | refine RT.asA ?_ | refine RT.ldA ?_ | refine RT.bnA ?_ | refine RT.ap (s := H.length) rfl (f_appL (f := eI) (o := (d.take k).flatten) (v := d[k]) (mm := ((d.take k).flatten ++ d[k]).length) (by' := 8) rfl rfl hb hes hle (elems_sl _ _) hm (by simp) rfl (by decide) rfl rfl (fun _ => ⟨rfl, rfl⟩) (by omega) (by omega)) rfl ?_ | refine RT.ixA ?_)) | (apply v_any; (first | refine VT.seq rfl ?_ | refine VT.reg rfl ?_ | refine VT.block rfl ?_ | refine VT.skip rfl ?_ | refine VT.condY rfl rfl (by first | assumption | omega) ?_)) | with_reducible (refine kLn ?_)))
      exact ⟨d.length - (k + 1), by omega, _, _, ⟨k + 1, H.length, ((d.take k).flatten ++ d[k]).length, ((d.take k).flatten ++ d[k]).length, _, rfl, hlt, (by
        show (H.set b .dead ++ _)[H.length]? = _
        exact hg_at (t := 0) (by simp) rfl), by rw [List.take_of_length_le (by rw [List.length_map]; exact Nat.le_refl _), hf2], by rw [List.length_map]; exact Nat.le_refl _, by rw [hf2], ⟨hc.2, by show (H.set b .dead ++ _).length = _; rw [List.length_append, List.length_set, hc.2]; rfl⟩, fun _ => ⟨by rw [hf2], rfl⟩, rfl, rfl⟩, Wk.keep (by (repeat first | exact True.intro | refine And.intro ?_ ?_ | exact Or.inr (Or.inl rfl) | exact Or.inl rfl | (refine DLe.i rfl ?_; omega) | (refine DLe.i rfl ?_; simp; done)))⟩
    · obtain rfl : k = d.length := by omega
      repeat (any_goals (first | (apply w_any; (first | refine RT.nil ?_ | refine RT.mvA ?_ | refine RT.asA ?_ | refine RT.bnA ?_)) | (apply v_any; (first | refine VT.seq rfl ?_ | refine VT.reg rfl ?_ | refine VT.exit rfl ?_ | refine VT.ret rfl ?_ | refine VT.condN rfl rfl (by first | assumption | omega) ?_)) | (with_reducible refine d_kEr ?_; refine kEr rfl ?_)))
      obtain ⟨he, hcm⟩ := he (by omega)
      rw [List.take_length] at he hm
      rw [he, hc.1] at hb
      rw [hcm, hm, hc.1]
      exact ⟨rfl, hb⟩
/-- slices.Concat, over any own blocks. -/
theorem c_concat {H : List Blk} (d : List (List Int)) (w : Nat) (hd : d.length ≤ 20) (hw : ∀ r, r ∈ d → r.length = w) (h1 : 1 ≤ d.length) (hw1 : 1 ≤ w) (hw2 : w ≤ 32) :
    CallSp Tryz.prog 89 [.sl (d.map eRow)] H fun x H' => x = .ms (H.length + 1) 0 d.flatten.length d.flatten.length ∧ H' = H ++ [.dead, .live 1 (d.flatten.map eI)] :=
  CallSp.frame (k := d.length) (by rw [List.map_cons, List.map_nil]; exact c_concat0 d w hd hw h1 hw1 hw2) fun e he d hd => by
    obtain ⟨z, _, rfl⟩ := List.mem_map.1 he
    obtain rfl : d = wI z := by simpa [eI] using hd
    rfl
end Go.DL
