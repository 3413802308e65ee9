/- Through, in leaves and in the reference, and the law LeavesWords. -/
import Derived.Test.YtmbbepdbjeciaaaGreatZc
set_option linter.all false
set_option maxRecDepth 100000
set_option maxHeartbeats 16000000
namespace Go.DL
open Go.Proofs Go

def dotOk (p : Dot) : Bool := decide (W p.X ∧ W p.Y)
def dupAt (l : List Dot) (k : Nat) : Bool := (l.take k).any fun q => decide (q.X = (dX l).getD k 0)
def dups (l : List Dot) : Bool := (List.range l.length).any (dupAt l)
def ThroughS (l : List Dot) : List Int × Int :=
  if 40 < l.length then ([], 2) else if l.all dotOk = true then (if dups l = true then ([], 6) else (DM.through (dX l) (dY l), 0)) else ([], 1)
theorem any_range_snoc {p : Nat → Bool} {k : Nat} : (List.range (k + 1)).any p = ((List.range k).any p || p k) := by
  rw [List.range_succ, List.any_append]; simp
theorem dotW_of {l : List Dot} (h : l.all dotOk = true) : dotW l := fun p hp => by
  have := List.all_eq_true.1 h p hp; simpa [dotOk] using this
theorem dups_of {l : List Dot} {k : Nat} (hk : k < l.length) (h : dupAt l k = true) : dups l = true := List.any_eq_true.2 ⟨k, by simpa using hk, h⟩
theorem m_dot1 (p : Dot) : Maps Tryz.prog 120 ([.agg (eDot p)] ++ []) (wB (dotOk p)) := by
  refine Maps.vt pok Tryz.f120 (n := 11) (rs := [.tmp 2]) rfl rfl rfl rfl rfl rfl fun g => ?_
  by_cases h : W p.X
  · repeat (any_goals (first
        | (refine d_RT ?_; (first | refine RT.nil ?_ | (refine d_g ?_; (first | refine RT.gy rfl ?_ | refine RT.gn rfl rfl ?_ | refine RT.gu rfl ?_ | refine RT.gcY rfl rfl rfl (by first | assumption | omega) ?_ | refine RT.gcN rfl rfl rfl (by first | assumption | omega) ?_ | refine RT.gc rfl rfl rfl (fun hc => ?_) (fun hc => ?_) | refine RT.gb rfl rfl rfl (fun hc => ?_) (fun hc => ?_))) | refine RT.mvA ?_ | refine RT.asA ?_ | refine RT.ldA ?_ | refine RT.faA ?_ | (refine d_call ?_; (first | (first | refine RT.callM rfl (m_word _) rfl rfl ?_ | refine RT.callM rfl (m_word _) (by first | (simp only [nrm]; rfl) | (simp only [nrm, Nat.reduceAdd, Nat.zero_add]; rfl) | rfl) rfl ?_))) | refine RT.pkA ?_ | refine RT.nwA ?_))
        | (refine d_VT ?_; (first | refine VT.seq rfl ?_ | refine VT.reg rfl ?_ | refine VT.condT rfl rfl ?_ | refine VT.condF rfl rfl ?_ | refine VT.condY rfl rfl (by first | assumption | omega) ?_ | refine VT.condN rfl rfl (by first | assumption | omega) ?_ | refine VT.condD rfl rfl (fun hc => ?_) (fun hc => ?_) | refine VT.cond rfl rfl (fun hc => ?_) (fun hc => ?_) | refine VT.block rfl ?_ | refine VT.skip rfl ?_ | refine VT.label rfl ?_ | refine VT.scope rfl ?_ | refine VT.exit rfl ?_ | refine VT.ret rfl ?_))
        | (with_reducible first | refine kSn ?_ | refine kSr ?_ | refine kBn ?_ | refine kBr ?_ | refine kSe ?_ | refine kBe ?_ | refine kLn ?_ | refine kCn ?_ | refine kCr ?_ | refine kCe ?_ | refine kLr ?_ | refine kLe ?_)
        | with_reducible (refine kBx (by decide) ?_)
        | (with_reducible refine d_kEr ?_; refine kEr rfl ?_)
        | (with_reducible refine d_kEn ?_; refine kEn rfl ?_)))
    exact wB_congr ⟨fun q => ⟨h, q⟩, fun q => q.2⟩
  · repeat (any_goals (first
        | (refine d_RT ?_; (first | refine RT.nil ?_ | (refine d_g ?_; (first | refine RT.gy rfl ?_ | refine RT.gn rfl rfl ?_ | refine RT.gu rfl ?_ | refine RT.gcY rfl rfl rfl (by first | assumption | omega) ?_ | refine RT.gcN rfl rfl rfl (by first | assumption | omega) ?_ | refine RT.gc rfl rfl rfl (fun hc => ?_) (fun hc => ?_) | refine RT.gb rfl rfl rfl (fun hc => ?_) (fun hc => ?_))) | refine RT.mvA ?_ | refine RT.asA ?_ | refine RT.ldA ?_ | refine RT.faA ?_ | (refine d_call ?_; (first | (first | refine RT.callM rfl (m_word _) rfl rfl ?_ | refine RT.callM rfl (m_word _) (by first | (simp only [nrm]; rfl) | (simp only [nrm, Nat.reduceAdd, Nat.zero_add]; rfl) | rfl) rfl ?_))) | refine RT.pkA ?_ | refine RT.nwA ?_))
        | (refine d_VT ?_; (first | refine VT.seq rfl ?_ | refine VT.reg rfl ?_ | refine VT.condT rfl rfl ?_ | refine VT.condF rfl rfl ?_ | refine VT.condY rfl rfl (by first | assumption | omega) ?_ | refine VT.condN rfl rfl (by first | assumption | omega) ?_ | refine VT.condD rfl rfl (fun hc => ?_) (fun hc => ?_) | refine VT.cond rfl rfl (fun hc => ?_) (fun hc => ?_) | refine VT.block rfl ?_ | refine VT.skip rfl ?_ | refine VT.label rfl ?_ | refine VT.scope rfl ?_ | refine VT.exit rfl ?_ | refine VT.ret rfl ?_))
        | (with_reducible first | refine kSn ?_ | refine kSr ?_ | refine kBn ?_ | refine kBr ?_ | refine kSe ?_ | refine kBe ?_ | refine kLn ?_ | refine kCn ?_ | refine kCr ?_ | refine kCe ?_ | refine kLr ?_ | refine kLe ?_)
        | with_reducible (refine kBx (by decide) ?_)
        | (with_reducible refine d_kEr ?_; refine kEr rfl ?_)
        | (with_reducible refine d_kEn ?_; refine kEn rfl ?_)))
    have : dotOk p = false := by simp [dotOk, h]
    rw [this]; rfl
theorem m_dot2 (p q : Dot) : Maps Tryz.prog 122 ([.agg (eDot q)] ++ [.rp (eDot p)]) (wB (decide (q.X = p.X))) := by
  refine Maps.vt pok Tryz.f122 (n := 9) (rs := [.tmp 3]) rfl rfl rfl rfl rfl rfl fun g => ?_
  repeat (any_goals (first
      | (refine d_RT ?_; (first | refine RT.nil ?_ | refine RT.asA ?_ | refine RT.ldA ?_ | refine RT.faA ?_ | refine RT.bnA ?_ | refine RT.nwA ?_))
      | (refine d_VT ?_; (first | refine VT.seq rfl ?_ | refine VT.reg rfl ?_ | refine VT.condT rfl rfl ?_ | refine VT.condF rfl rfl ?_ | refine VT.condY rfl rfl (by first | assumption | omega) ?_ | refine VT.condN rfl rfl (by first | assumption | omega) ?_ | refine VT.condD rfl rfl (fun hc => ?_) (fun hc => ?_) | refine VT.cond rfl rfl (fun hc => ?_) (fun hc => ?_) | refine VT.block rfl ?_ | refine VT.skip rfl ?_ | refine VT.label rfl ?_ | refine VT.scope rfl ?_ | refine VT.exit rfl ?_ | refine VT.ret rfl ?_))
      | (with_reducible first | refine kSn ?_ | refine kSr ?_ | refine kBn ?_ | refine kBr ?_ | refine kSe ?_ | refine kBe ?_ | refine kLn ?_ | refine kCn ?_ | refine kCr ?_ | refine kCe ?_ | refine kLr ?_ | refine kLe ?_)
      | with_reducible (refine kBx (by decide) ?_)
      | (with_reducible refine d_kEr ?_; refine kEr rfl ?_)
      | (with_reducible refine d_kEn ?_; refine kEn rfl ?_)))
  rfl
theorem m_Through (l : List Dot) (hl : l.length ≤ 4611686018427387904) : Maps Tryz.prog 69 [.sl (l.map eDot)] (dLE (ThroughS l)) := by
  refine Maps.vt pok Tryz.f69 (n := 29) (rs := [.tmp 2, .tmp 3]) rfl rfl rfl rfl rfl rfl fun g => ?_
  have ha := m_all_Dot (p := dotOk) (F := 120) (cs := []) hl rfl fun y _ => m_dot1 y
  unfold ThroughS
  by_cases h1 : 40 < l.length
  · rw [if_pos h1]
    repeat (any_goals (first
        | (refine d_RT ?_; (first | refine RT.nil ?_ | refine RT.mvA ?_ | refine RT.asA ?_ | refine RT.ldA ?_ | refine RT.bnA ?_ | (refine d_call ?_; (first | refine RT.clA ?_)) | refine RT.ixA ?_ | refine RT.unA ?_ | refine RT.stA ?_ | refine RT.nwA ?_ | refine RT.msA ?_))
        | (refine d_VT ?_; (first | refine VT.seq rfl ?_ | refine VT.reg rfl ?_ | refine VT.condT rfl rfl ?_ | refine VT.condF rfl rfl ?_ | refine VT.condY rfl rfl (by first | assumption | omega) ?_ | refine VT.condN rfl rfl (by first | assumption | omega) ?_ | refine VT.condD rfl rfl (fun hc => ?_) (fun hc => ?_) | refine VT.cond rfl rfl (fun hc => ?_) (fun hc => ?_) | refine VT.block rfl ?_ | refine VT.skip rfl ?_ | refine VT.label rfl ?_ | refine VT.scope rfl ?_ | refine VT.exit rfl ?_ | refine VT.ret rfl ?_))
        | (with_reducible first | refine kSn ?_ | refine kSr ?_ | refine kBn ?_ | refine kBr ?_ | refine kSe ?_ | refine kBe ?_ | refine kLn ?_ | refine kCn ?_ | refine kCr ?_ | refine kCe ?_ | refine kLr ?_ | refine kLe ?_)
        | with_reducible (refine kBx (by decide) ?_)
        | (with_reducible refine d_kEr ?_; refine kEr rfl ?_)
        | (with_reducible refine d_kEn ?_; refine kEn rfl ?_)))
    rfl
  · rw [if_neg h1]
    cases h3 : l.all dotOk with
    | false =>
      rw [if_neg (by simp)]
      rw [h3] at ha
      repeat (any_goals (first
          | (refine d_RT ?_; (first | refine RT.nil ?_ | refine RT.mvA ?_ | refine RT.asA ?_ | refine RT.ldA ?_ | refine RT.bnA ?_ | (refine d_call ?_; (first | (first | refine RT.callM rfl (ha) rfl rfl ?_ | refine RT.callM rfl (ha) (by first | (simp only [nrm]; rfl) | (simp only [nrm, Nat.reduceAdd, Nat.zero_add]; rfl) | rfl) rfl ?_) | refine RT.clA ?_)) | refine RT.ixA ?_ | refine RT.unA ?_ | refine RT.stA ?_ | refine RT.nwA ?_ | refine RT.msA ?_))
          | (refine d_VT ?_; (first | refine VT.seq rfl ?_ | refine VT.reg rfl ?_ | refine VT.condT rfl rfl ?_ | refine VT.condF rfl rfl ?_ | refine VT.condY rfl rfl (by first | assumption | omega) ?_ | refine VT.condN rfl rfl (by first | assumption | omega) ?_ | refine VT.condD rfl rfl (fun hc => ?_) (fun hc => ?_) | refine VT.cond rfl rfl (fun hc => ?_) (fun hc => ?_) | refine VT.block rfl ?_ | refine VT.skip rfl ?_ | refine VT.label rfl ?_ | refine VT.scope rfl ?_ | refine VT.exit rfl ?_ | refine VT.ret rfl ?_))
          | (with_reducible first | refine kSn ?_ | refine kSr ?_ | refine kBn ?_ | refine kBr ?_ | refine kSe ?_ | refine kBe ?_ | refine kLn ?_ | refine kCn ?_ | refine kCr ?_ | refine kCe ?_ | refine kLr ?_ | refine kLe ?_)
          | with_reducible (refine kBx (by decide) ?_)
          | (with_reducible refine d_kEr ?_; refine kEr rfl ?_)
          | (with_reducible refine d_kEn ?_; refine kEn rfl ?_)))
      rfl
    | true =>
      rw [if_pos rfl]
      rw [h3] at ha
      repeat (any_goals (first
          | (refine d_RT ?_; (first | refine RT.nil ?_ | refine RT.mvA ?_ | refine RT.asA ?_ | refine RT.ldA ?_ | refine RT.bnA ?_ | (refine d_call ?_; (first | (first | refine RT.callM rfl (ha) rfl rfl ?_ | refine RT.callM rfl (ha) (by first | (simp only [nrm]; rfl) | (simp only [nrm, Nat.reduceAdd, Nat.zero_add]; rfl) | rfl) rfl ?_) | refine RT.clA ?_)) | refine RT.ixA ?_ | refine RT.unA ?_ | refine RT.stA ?_ | refine RT.nwA ?_ | refine RT.msA ?_))
          | (refine d_VT ?_; (first | refine VT.seq rfl ?_ | refine VT.reg rfl ?_ | refine VT.condT rfl rfl ?_ | refine VT.condF rfl rfl ?_ | refine VT.condY rfl rfl (by first | assumption | omega) ?_ | refine VT.condN rfl rfl (by first | assumption | omega) ?_ | refine VT.condD rfl rfl (fun hc => ?_) (fun hc => ?_) | refine VT.cond rfl rfl (fun hc => ?_) (fun hc => ?_) | refine VT.block rfl ?_ | refine VT.skip rfl ?_ | refine VT.label rfl ?_ | refine VT.scope rfl ?_ | refine VT.exit rfl ?_ | refine VT.ret rfl ?_))
          | (with_reducible first | refine kSn ?_ | refine kSr ?_ | refine kBn ?_ | refine kBr ?_ | refine kSe ?_ | refine kBe ?_ | refine kLn ?_ | refine kCn ?_ | refine kCr ?_ | refine kCe ?_ | refine kLr ?_ | refine kLe ?_)
          | with_reducible (refine kBx (by decide) ?_)
          | (with_reducible refine d_kEr ?_; refine kEr rfl ?_)
          | (with_reducible refine d_kEn ?_; refine kEn rfl ?_)))
      refine VT.loop (fun j a H g' => ∃ k : Nat, j = l.length - k ∧ k ≤ l.length ∧ (List.range k).any (dupAt l) = false ∧ a = [(0, .sl (l.map eDot)), (14, .sl (l.map eDot)), (15, wI l.length), (16, wI k)] ∧ H = [] ∧ g' = g) rfl
        ⟨_, _, _, ⟨0, rfl, Nat.zero_le _, rfl, rfl, rfl, rfl⟩, fgA⟩ ?_
      rintro j a H g' ⟨k, rfl, hk, hn, rfl, rfl, rfl⟩
      by_cases hlt : k < l.length
      · have hc2 := m_has_Dot (p := fun q => decide (q.X = l[k].X)) (F := 122) (cs := [.rp (eDot l[k])]) (l := l.take k) (by simp; omega) rfl fun q _ => m_dot2 l[k] q
        have e : dupAt l k = (l.take k).any fun q => decide (q.X = l[k].X) := by rw [dupAt, dX_get l hlt]
        rw [← e] at hc2
        repeat (any_goals (first
            | (refine d_RT ?_; (first | refine RT.nil ?_ | refine RT.mvA ?_ | refine RT.asA ?_ | refine RT.ldA ?_ | refine RT.bnA ?_ | (refine d_call ?_; (first | (first | refine RT.callM rfl (hc2) rfl rfl ?_ | refine RT.callM rfl (hc2) (by first | (simp only [nrm]; rfl) | (simp only [nrm, Nat.reduceAdd, Nat.zero_add]; rfl) | rfl) rfl ?_) | refine RT.clA ?_)) | refine RT.ixA ?_ | refine RT.unA ?_ | refine RT.stA ?_ | refine RT.nwA ?_ | refine RT.msA ?_))
            | (refine d_VT ?_; (first | refine VT.seq rfl ?_ | refine VT.reg rfl ?_ | refine VT.condT rfl rfl ?_ | refine VT.condF rfl rfl ?_ | refine VT.condY rfl rfl (by first | assumption | omega) ?_ | refine VT.condN rfl rfl (by first | assumption | omega) ?_ | refine VT.condD rfl rfl (fun hc => ?_) (fun hc => ?_) | refine VT.cond rfl rfl (fun hc => ?_) (fun hc => ?_) | refine VT.block rfl ?_ | refine VT.skip rfl ?_ | refine VT.label rfl ?_ | refine VT.scope rfl ?_ | refine VT.exit rfl ?_ | refine VT.ret rfl ?_))
            | (with_reducible first | refine kSn ?_ | refine kSr ?_ | refine kBn ?_ | refine kBr ?_ | refine kSe ?_ | refine kBe ?_ | refine kLn ?_ | refine kCn ?_ | refine kCr ?_ | refine kCe ?_ | refine kLr ?_ | refine kLe ?_)
            | with_reducible (refine kBx (by decide) ?_)
            | (with_reducible refine d_kEr ?_; refine kEr rfl ?_)
            | (with_reducible refine d_kEn ?_; refine kEn rfl ?_)))
        · rw [if_pos (dups_of hlt hc)]; rfl
        · exact ⟨l.length - (k + 1), by omega, _, _, ⟨k + 1, rfl, hlt, by rw [any_range_snoc, hn, hc]; rfl, rfl, rfl, rfl⟩, fgA⟩
      · have hd : dups l = false := by rw [dups, ← show k = l.length by omega]; exact hn
        rw [hd]
        repeat (any_goals (first
            | (refine d_RT ?_; (first | refine RT.nil ?_ | refine RT.mvA ?_ | refine RT.asA ?_ | refine RT.ldA ?_ | refine RT.bnA ?_ | (refine d_call ?_; (first | (first | refine RT.callM rfl (m_through l (by omega) (dotW_of h3)) rfl rfl ?_ | refine RT.callM rfl (m_through l (by omega) (dotW_of h3)) (by first | (simp only [nrm]; rfl) | (simp only [nrm, Nat.reduceAdd, Nat.zero_add]; rfl) | rfl) rfl ?_) | refine RT.clA ?_)) | refine RT.ixA ?_ | refine RT.unA ?_ | refine RT.stA ?_ | refine RT.nwA ?_ | refine RT.msA ?_))
            | (refine d_VT ?_; (first | refine VT.seq rfl ?_ | refine VT.reg rfl ?_ | refine VT.condT rfl rfl ?_ | refine VT.condF rfl rfl ?_ | refine VT.condY rfl rfl (by first | assumption | omega) ?_ | refine VT.condN rfl rfl (by first | assumption | omega) ?_ | refine VT.condD rfl rfl (fun hc => ?_) (fun hc => ?_) | refine VT.cond rfl rfl (fun hc => ?_) (fun hc => ?_) | refine VT.block rfl ?_ | refine VT.skip rfl ?_ | refine VT.label rfl ?_ | refine VT.scope rfl ?_ | refine VT.exit rfl ?_ | refine VT.ret rfl ?_))
            | (with_reducible first | refine kSn ?_ | refine kSr ?_ | refine kBn ?_ | refine kBr ?_ | refine kSe ?_ | refine kBe ?_ | refine kLn ?_ | refine kCn ?_ | refine kCr ?_ | refine kCe ?_ | refine kLr ?_ | refine kLe ?_)
            | with_reducible (refine kBx (by decide) ?_)
            | (with_reducible refine d_kEr ?_; refine kEr rfl ?_)
            | (with_reducible refine d_kEn ?_; refine kEn rfl ?_)))
        rfl
abbrev dLR (r : List Int × Int) : D := .agg [.fl (r.1.map eI), wI r.2]
end Go.DL
