/- Sorting of lines and of leaves, at whatever length. -/
import Derived.Test.YtmbbepdbjeciaaaGreatYu2
import Derived.Test.YtmbbepdbjeciaaaGreatZv1
import Derived.Test.YtmbbepdbjeciaaaGreatE14
import Derived.Ground.SlsfProg
import Derived.Shelf.SlGeneric
set_option maxRecDepth 100000
set_option maxHeartbeats 16000000
namespace Go.Proofs
open Go.Shelf
shelf_lay_g SlLaysF0.n6 Slsf 6 at Tryz 147 as Tryz.sortLn
shelf_lay_g SlLaysF0.n6 Slsf 6 at Tryz 155 as Tryz.sortLf
end Go.Proofs
namespace Go.DL
open Go.Proofs Go
/-! ### leaves -/
theorem m_cmpLeaf (a b : Int) (u v : Value) (hu : u.oneCell' = true) (hv : v.oneCell' = true) (ha : 0 ≤ a ∧ a ≤ 1000) (hb : 0 ≤ b ∧ b ≤ 1000) : Maps Tryz.prog 156 [.agg [wI a, .v u], .agg [wI b, .v v]] (wI (a - b)) := by
  refine Maps.vt pok Tryz.f156 (n := 10) (rs := [.tmp 4]) rfl rfl rfl rfl rfl rfl fun g => ?_
  repeat (any_goals (first | (apply w_any; (first | refine RT.nil ?_ | refine RT.asA ?_ | refine RT.ldA ?_ | refine RT.faA ?_ | refine RT.bnA ?_ | (apply w_bx; (first | refine RT.new (s := 0) rfl (f_boxA (cs := [wI a, .v u]) rfl (by simp [isCell, hu]; rfl) rfl) rfl ?_ | refine RT.new (s := 1) rfl (f_boxA (cs := [wI b, .v v]) rfl (by simp [isCell, hv]; rfl) rfl) rfl ?_)))) | (apply v_any; (first | refine VT.seq rfl ?_ | refine VT.reg rfl ?_ | refine VT.ret rfl ?_)) | (with_reducible refine d_kEr ?_; refine kEr rfl ?_)))
  rfl
abbrev fnLf : D := .fn (.func 156) [] []
theorem c_sortLf {H : List Blk} {b cap : Nat} {l : List (Nat × Leaf)} (hb : H[b]? = some (.live 2 (l.map eOL))) (hl : l.length ≤ 1000000) (hn : ∀ q, q ∈ l → 0 ≤ q.2.Number ∧ q.2.Number ≤ 1000) :
    CallSp Tryz.prog 155 [.ms b 0 l.length cap, fnLf] H fun d H' => d = .tup [] ∧ ∃ y : List (Nat × Leaf), y.Pairwise (fun p q => p.2.Number ≤ q.2.Number) ∧ y.Perm l ∧ H' = H.set b (.live 2 (y.map eOL)) := by
  let T := { q : Nat × Leaf // 0 ≤ q.2.Number ∧ q.2.Number ≤ 1000 }
  let l' : List T := l.attach.map fun q => ⟨q.1, hn q.1 q.2⟩
  have e1 : l'.map (fun q => q.1) = l := by
    simp only [l', List.map_map]
    exact List.attach_map_subtype_val l
  have hk2 : ∀ (a b : Int) (us vs : List Value), (0 ≤ a ∧ a ≤ 1000) → (0 ≤ b ∧ b ≤ 1000) → CE 2 [wI a, .any] us → CE 2 [wI b, .any] vs → Maps Tryz.prog 156 [.agg (us.map .v), .agg (vs.map .v)] (wI (a - b)) := fun a b us vs ha hb h1 h2 => by
    obtain ⟨l1, o1, s1⟩ := h1
    obtain ⟨l2, o2, s2⟩ := h2
    match us, l1, o1, s1, vs, l2, o2, s2 with
    | [u0, u1], _, o1, s1, [v0, v1], _, o2, s2 =>
      have e1 := s1 0 _ _ rfl rfl
      have e2 := s2 0 _ _ rfl rfl
      rcases e1 with e1 | e1
      · cases e1
      rcases e2 with e2 | e2
      · cases e2
      cases e1; cases e2
      exact m_cmpLeaf a b u1 v1 (o1 _ (by simp)) (o2 _ (by simp)) ha hb
  have e2 : ∀ y : List T, y.map (fun q => eOL q.1) = (y.map (fun q => q.1)).map eOL := fun y => by rw [List.map_map]; rfl
  have hb' : H[b]? = some (.live 2 (l'.map fun q => eOL q.1)) := by rw [e2, e1]; exact hb
  have hlen : l'.length = l.length := by simp [l']
  have hO : Go.Sort.SWO (ltOf fun x y : T => x.1.2.Number - y.1.2.Number) :=
    ⟨fun x => by simp only [ltOf, decide_eq_false_iff_not]; omega, fun x y z h1 h2 => by simp only [ltOf, decide_eq_true_eq] at *; omega, fun x y z h1 h2 => by simp only [ltOf, decide_eq_false_iff_not] at *; omega⟩
  have h := sortFunc_ok Tryz.sortLf (sz := 2) (cap := cap) (T := T) rfl rfl (fun q => eOL q.1) (fun q => [wI q.1.2.Number, .any]) (fun x y => x.1.2.Number - y.1.2.Number) hO (g := 156) (fun x y us vs h1 h2 => hk2 x.1.2.Number y.1.2.Number us vs x.2 y.2 h1 h2) hb' (by omega) (fun _ _ => rfl) (fun _ _ => rfl) (fun x _ j d d' h1 h2 => by
    have : j < 2 := (List.getElem?_eq_some_iff.1 h1).1
    match j, this with
    | 0, _ => cases h1; cases h2; exact .inr ⟨_, rfl, rfl⟩
    | 1, _ => cases h2; exact .inl rfl)
  rw [hlen] at h
  refine CallSp.mono h ?_
  rintro d H' ⟨rfl, y, ⟨hp, hs⟩, rfl⟩
  refine ⟨rfl, y.map (fun q => q.1), ?_, ?_, by rw [e2]⟩
  · rw [List.pairwise_map]; exact hs.imp fun {a b} h => by omega
  · have := hp.map (fun q : T => q.1); rwa [e1] at this
end Go.DL
