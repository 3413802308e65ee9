/- slices.Clone of pieces and of deeds; what the interpreter knows of them. -/
import Derived.Test.YtignbealfpbpoaaGreatDoorWb
set_option linter.all false
set_option maxRecDepth 100000
set_option maxHeartbeats 16000000
namespace Go.DL
open Go.Proofs Go

theorem c_clone178 {H : List Blk} {x : D} {es : List (List D)} (hx : x = .nil ∨ (∃ es, x = .sl es) ∨ (∃ es, x = .fl es) ∨ ∃ b k m c, x = .ms b k m c) (he : elemsD H x = some es) (hl : es.length ≤ 1000000) (h1 : es.all (fun e => e.length == 8) = true) (h2 : es.all (fun e => e.all isCell) = true) :
    CallSp Tryz.prog 178 [x] H fun d H' => d = .ms (H.length + 1) 0 es.length es.length ∧ H' = H ++ [.dead, .live 8 es] := by
  refine CallSp.vt pok Tryz.f178 (n := 8) (rs := [.tmp 2]) rfl rfl rfl rfl rfl rfl rfl fun g => ?_
  repeat (any_goals (first
      | (refine d_RT ?_; (first | refine RT.nil ?_ | refine RT.v (f_mv (d := x) rfl) ?_ | refine RT.nilEq rfl hx (fun b hb => ?_) | refine RT.mvA ?_ | refine RT.asA ?_ | refine RT.bnA ?_ | refine RT.nwA ?_))
      | (refine d_VT ?_; (first | (refine VT.retP (i := 2) 8 rfl rfl ?_) | refine VT.seq rfl ?_ | refine VT.reg rfl ?_ | refine VT.condT rfl rfl ?_ | refine VT.condF rfl rfl ?_ | refine VT.condY rfl rfl (by first | assumption | omega) ?_ | refine VT.condN rfl rfl (by first | assumption | omega) ?_ | refine VT.condD rfl rfl (fun hc => ?_) (fun hc => ?_) | refine VT.cond rfl rfl (fun hc => ?_) (fun hc => ?_) | refine VT.block rfl ?_ | refine VT.skip rfl ?_ | refine VT.label rfl ?_ | refine VT.scope rfl ?_ | refine VT.exit rfl ?_ | refine VT.ret rfl ?_))
      | (with_reducible first | refine kSn ?_ | refine kSr ?_ | refine kBn ?_ | refine kBr ?_ | refine kSe ?_ | refine kBe ?_ | refine kLn ?_ | refine kCn ?_ | refine kCr ?_ | refine kCe ?_ | refine kLr ?_ | refine kLe ?_)
      | with_reducible (refine kBx (by decide) ?_)
      | (with_reducible refine d_kEr ?_; refine kEr rfl ?_)
      | (with_reducible refine d_kEn ?_; refine kEn rfl ?_)))
  · have ho : es = [] := hb hc _ he
    subst ho
    exact ⟨rfl, rfl⟩
  · have he' : elemsD (H ++ [.live 8 []]) x = some es := by
      rcases hx with rfl | ⟨es, rfl⟩ | ⟨es, rfl⟩ | ⟨b, k, m, c, rfl⟩
      · exact he
      · exact he
      · exact he
      · simp only [elemsD] at he ⊢
        split at he
        · rename_i sz es hb'
          rw [List.getElem?_append_left (List.getElem?_eq_some_iff.1 hb').1, hb']; exact he
        · cases he
    have hap : appendD Tryz.prog (H ++ [.live 8 []]) 154 154 (.ms H.length 0 0 0) x = some (some H.length, 8, es) := by
      have e1 : elemsD (H ++ [.live 8 []]) (.ms H.length 0 0 0) = some [] := by simp [elemsD]
      have e2 : elemT Tryz.prog 154 = some (156, 8) := rfl
      have e3 : Tryz.prog.underlying 154 = some (.slice 156) := rfl
      have e4 : Tryz.prog.bytesOf 156 = 80 := rfl
      have e5 : (zeroD Tryz.prog 156).map List.length = some 8 := rfl
      simp only [appendD, addedD, e2, e3, e1, he']
      rw [if_pos]
      · simp [Blk.hasSz]
      · refine ⟨by decide, e5, rfl, h1, h2, ?_, ?_⟩
        · rw [e4]; simp; omega
        · simp; omega
    repeat (any_goals (first
        | (refine d_RT ?_; (first | refine RT.nil ?_ | refine RT.new (by first | (simp only [nrm]; rfl) | (simp only [nrm, Nat.reduceAdd, Nat.zero_add]; rfl) | rfl) (f_bsl (ps := []) (sz := 8) (es := []) rfl) rfl ?_ | refine RT.v (f_mv (d := x) rfl) ?_ | refine RT.ap (s := H.length + 1) (m := es.length) (H' := H ++ [.dead, .live 8 es]) (by simp) (f_app rfl rfl hap (by simp) (sameB_full (Nat.le_refl _))) (by simp [killO]) ?_ | refine RT.mvA ?_ | refine RT.asA ?_ | refine RT.bnA ?_ | refine RT.nwA ?_))
        | (refine d_VT ?_; (first | refine VT.seq rfl ?_ | refine VT.reg rfl ?_ | refine VT.condT rfl rfl ?_ | refine VT.condF rfl rfl ?_ | refine VT.condY rfl rfl (by first | assumption | omega) ?_ | refine VT.condN rfl rfl (by first | assumption | omega) ?_ | refine VT.condD rfl rfl (fun hc => ?_) (fun hc => ?_) | refine VT.cond rfl rfl (fun hc => ?_) (fun hc => ?_) | refine VT.block rfl ?_ | refine VT.skip rfl ?_ | refine VT.label rfl ?_ | refine VT.scope rfl ?_ | refine VT.exit rfl ?_ | refine VT.ret rfl ?_))
        | (with_reducible first | refine kSn ?_ | refine kSr ?_ | refine kBn ?_ | refine kBr ?_ | refine kSe ?_ | refine kBe ?_ | refine kLn ?_ | refine kCn ?_ | refine kCr ?_ | refine kCe ?_ | refine kLr ?_ | refine kLe ?_)
        | with_reducible (refine kBx (by decide) ?_)
        | (with_reducible refine d_kEr ?_; refine kEr rfl ?_)
        | (with_reducible refine d_kEn ?_; refine kEn rfl ?_)))
    exact ⟨rfl, rfl⟩
theorem c_clone102 {H : List Blk} {x : D} {es : List (List D)} (hx : x = .nil ∨ (∃ es, x = .sl es) ∨ (∃ es, x = .fl es) ∨ ∃ b k m c, x = .ms b k m c) (he : elemsD H x = some es) (hl : es.length ≤ 1000000) (h1 : es.all (fun e => e.length == 8) = true) (h2 : es.all (fun e => e.all isCell) = true) :
    CallSp Tryz.prog 102 [x] H fun d H' => d = .ms (H.length + 1) 0 es.length es.length ∧ H' = H ++ [.dead, .live 8 es] := by
  refine CallSp.vt pok Tryz.f102 (n := 8) (rs := [.tmp 2]) rfl rfl rfl rfl rfl rfl rfl fun g => ?_
  repeat (any_goals (first
      | (refine d_RT ?_; (first | refine RT.nil ?_ | refine RT.v (f_mv (d := x) rfl) ?_ | refine RT.nilEq rfl hx (fun b hb => ?_) | refine RT.mvA ?_ | refine RT.asA ?_ | refine RT.bnA ?_ | refine RT.nwA ?_))
      | (refine d_VT ?_; (first | (refine VT.retP (i := 2) 8 rfl rfl ?_) | refine VT.seq rfl ?_ | refine VT.reg rfl ?_ | refine VT.condT rfl rfl ?_ | refine VT.condF rfl rfl ?_ | refine VT.condY rfl rfl (by first | assumption | omega) ?_ | refine VT.condN rfl rfl (by first | assumption | omega) ?_ | refine VT.condD rfl rfl (fun hc => ?_) (fun hc => ?_) | refine VT.cond rfl rfl (fun hc => ?_) (fun hc => ?_) | refine VT.block rfl ?_ | refine VT.skip rfl ?_ | refine VT.label rfl ?_ | refine VT.scope rfl ?_ | refine VT.exit rfl ?_ | refine VT.ret rfl ?_))
      | (with_reducible first | refine kSn ?_ | refine kSr ?_ | refine kBn ?_ | refine kBr ?_ | refine kSe ?_ | refine kBe ?_ | refine kLn ?_ | refine kCn ?_ | refine kCr ?_ | refine kCe ?_ | refine kLr ?_ | refine kLe ?_)
      | with_reducible (refine kBx (by decide) ?_)
      | (with_reducible refine d_kEr ?_; refine kEr rfl ?_)
      | (with_reducible refine d_kEn ?_; refine kEn rfl ?_)))
  · have ho : es = [] := hb hc _ he
    subst ho
    exact ⟨rfl, rfl⟩
  · have he' : elemsD (H ++ [.live 8 []]) x = some es := by
      rcases hx with rfl | ⟨es, rfl⟩ | ⟨es, rfl⟩ | ⟨b, k, m, c, rfl⟩
      · exact he
      · exact he
      · exact he
      · simp only [elemsD] at he ⊢
        split at he
        · rename_i sz es hb'
          rw [List.getElem?_append_left (List.getElem?_eq_some_iff.1 hb').1, hb']; exact he
        · cases he
    have hap : appendD Tryz.prog (H ++ [.live 8 []]) 22 22 (.ms H.length 0 0 0) x = some (some H.length, 8, es) := by
      have e1 : elemsD (H ++ [.live 8 []]) (.ms H.length 0 0 0) = some [] := by simp [elemsD]
      have e2 : elemT Tryz.prog 22 = some (60, 8) := rfl
      have e3 : Tryz.prog.underlying 22 = some (.slice 60) := rfl
      have e4 : Tryz.prog.bytesOf 60 = 104 := rfl
      have e5 : (zeroD Tryz.prog 60).map List.length = some 8 := rfl
      simp only [appendD, addedD, e2, e3, e1, he']
      rw [if_pos]
      · simp [Blk.hasSz]
      · refine ⟨by decide, e5, rfl, h1, h2, ?_, ?_⟩
        · rw [e4]; simp; omega
        · simp; omega
    repeat (any_goals (first
        | (refine d_RT ?_; (first | refine RT.nil ?_ | refine RT.new (by first | (simp only [nrm]; rfl) | (simp only [nrm, Nat.reduceAdd, Nat.zero_add]; rfl) | rfl) (f_bsl (ps := []) (sz := 8) (es := []) rfl) rfl ?_ | refine RT.v (f_mv (d := x) rfl) ?_ | refine RT.ap (s := H.length + 1) (m := es.length) (H' := H ++ [.dead, .live 8 es]) (by simp) (f_app rfl rfl hap (by simp) (sameB_full (Nat.le_refl _))) (by simp [killO]) ?_ | refine RT.mvA ?_ | refine RT.asA ?_ | refine RT.bnA ?_ | refine RT.nwA ?_))
        | (refine d_VT ?_; (first | refine VT.seq rfl ?_ | refine VT.reg rfl ?_ | refine VT.condT rfl rfl ?_ | refine VT.condF rfl rfl ?_ | refine VT.condY rfl rfl (by first | assumption | omega) ?_ | refine VT.condN rfl rfl (by first | assumption | omega) ?_ | refine VT.condD rfl rfl (fun hc => ?_) (fun hc => ?_) | refine VT.cond rfl rfl (fun hc => ?_) (fun hc => ?_) | refine VT.block rfl ?_ | refine VT.skip rfl ?_ | refine VT.label rfl ?_ | refine VT.scope rfl ?_ | refine VT.exit rfl ?_ | refine VT.ret rfl ?_))
        | (with_reducible first | refine kSn ?_ | refine kSr ?_ | refine kBn ?_ | refine kBr ?_ | refine kSe ?_ | refine kBe ?_ | refine kLn ?_ | refine kCn ?_ | refine kCr ?_ | refine kCe ?_ | refine kLr ?_ | refine kLe ?_)
        | with_reducible (refine kBx (by decide) ?_)
        | (with_reducible refine d_kEr ?_; refine kEr rfl ?_)
        | (with_reducible refine d_kEn ?_; refine kEn rfl ?_)))
    exact ⟨rfl, rfl⟩

def slD : D → Bool
  | .nil | .sl _ | .fl _ | .ms _ _ _ _ => true
  | _ => false
theorem slD_ok {x : D} (h : slD x = true) : x = .nil ∨ (∃ es, x = .sl es) ∨ (∃ es, x = .fl es) ∨ ∃ b k m c, x = .ms b k m c := by
  cases x with
  | nil => exact .inl rfl
  | sl es => exact .inr (.inl ⟨es, rfl⟩)
  | fl es => exact .inr (.inr (.inl ⟨es, rfl⟩))
  | ms b k m c => exact .inr (.inr (.inr ⟨b, k, m, c, rfl⟩))
  | _ => cases h
def cloneS (xs : List D) (H : List Blk) : Option (D × List Blk) :=
  match xs with
  | [x] => if slD x = true then match elemsD H x with
    | some es => if Nat.ble es.length 1000000 = true ∧ es.all (fun e => e.length == 8) = true ∧ es.all (fun e => e.all isCell) = true then some (.ms (H.length + 1) 0 es.length es.length, H ++ [.dead, .live 8 es]) else none
    | none => none
  else none
  | _ => none
theorem cloneS_ok {f : FuncId} (hf : f = 178 ∨ f = 102) {xs : List D} {H : List Blk} {d : D} {H' : List Blk} (h : cloneS xs H = some (d, H')) : CallSp Tryz.prog f xs H fun d' H'' => d' = d ∧ H'' = H' := by
  unfold cloneS at h
  split at h
  · rename_i x
    split at h
    · rename_i hs
      split at h
      · rename_i es he
        split at h
        · rename_i hc
          cases h
          rcases hf with rfl | rfl
          · exact c_clone178 (slD_ok hs) he (Nat.le_of_ble_eq_true hc.1) hc.2.1 hc.2.2
          · exact c_clone102 (slD_ok hs) he (Nat.le_of_ble_eq_true hc.1) hc.2.1 hc.2.2
        · cases h
      · cases h
    · cases h
  · cases h
end Go.DL
