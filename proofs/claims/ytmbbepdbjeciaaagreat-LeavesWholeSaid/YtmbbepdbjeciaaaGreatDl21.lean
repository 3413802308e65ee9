/- What single operations come to, over short lists of temporaries: one fact an operation. -/
import Derived.Test.YtmbbepdbjeciaaaGreatDl20
set_option linter.all false
namespace Go.DL
open Go.RowKit Go.Proofs

noncomputable section

abbrev wI (a : Int) : D := .v (.int .i64 a)
abbrev wB (b : Bool) : D := .v (.bool b)

/-! What functions know of types, at one place. -/
def isSliceT (P : Program) (t : TypeId) : Bool := match P.underlying t with
  | some (.slice _) => true
  | _ => false
/-- A field's place, its cells, and whether it has parts. -/
def fldT (P : Program) (t : TypeId) (f : Nat) : Option (Nat × Nat × Bool) := match P.underlying t with
  | some (.struct fs) => match fs[f]? with
    | some x => match tsz P x.type, isAggD P x.type with
      | some n, some b => some (x.offset, n, b)
      | _, _ => none
    | none => none
  | _ => none

theorem castR (n : Nat) : (n : Int) = (n : Int) := rfl
theorem castS (n : Nat) : (n : Int) + 1 = ((n + 1 : Nat) : Int) := rfl
theorem wrap64 {a : Int} (h1 : -9223372036854775808 ≤ a) (h2 : a ≤ 9223372036854775807) : IntKind.wrap .i64 a = a := by
  rw [IntKind.wrap_i64]; omega

section
variable {P : Program} {n s : Nat} {al : AL} {H : List Blk} {x y z : Operand} {tx ty' : TypeId} {a b : Int}

/-- The value of an operation, which leaves memory as it is. -/
structure Val (P : Program) (H : List Blk) (s n : Nat) (al : AL) (op : Op) (d : D) : Prop where
  out : stepD P H s (T n al) op = some (d, .keep)

theorem f_mv {d : D} (he : evA n al x = d) : Val P H s n al (.move x) d := by refine ⟨?_⟩; subst he; simp only [stepD, ev_T]
theorem f_as {d : D} (he : evA n al x = d) : Val P H s n al (.assign x) d := by refine ⟨?_⟩; subst he; simp only [stepD, ev_T]

theorem f_mvV {v : Value} (he : evA n al x = .v v) : Val P H s n al (.move x) (.v v) := f_mv he
theorem f_mvS {es : List (List D)} (he : evA n al x = .sl es) : Val P H s n al (.move x) (.sl es) := f_mv he
theorem f_mvF {es : List (List D)} (he : evA n al x = .fl es) : Val P H s n al (.move x) (.fl es) := f_mv he
theorem f_mvO {b o m c : Nat} (he : evA n al x = .ms b o m c) : Val P H s n al (.move x) (.ms b o m c) := f_mv he
theorem f_mvP {b k f : Nat} (he : evA n al x = .mp b k f) : Val P H s n al (.move x) (.mp b k f) := f_mv he
theorem f_mvR {cs : List D} (he : evA n al x = .rp cs) : Val P H s n al (.move x) (.rp cs) := f_mv he
theorem f_mvA {cs : List D} (he : evA n al x = .agg cs) : Val P H s n al (.move x) (.agg cs) := f_mv he
theorem f_mvT {cs : List D} (he : evA n al x = .tup cs) : Val P H s n al (.move x) (.tup cs) := f_mv he
theorem f_mvN  (he : evA n al x = .nil) : Val P H s n al (.move x) (.nil) := f_mv he
theorem f_mvU {f : Fn} {ds es : List D} (he : evA n al x = .fn f ds es) : Val P H s n al (.move x) (.fn f ds es) := f_mv he
theorem f_mvX  (he : evA n al x = .any) : Val P H s n al (.move x) (.any) := f_mv he
theorem f_asV {v : Value} (he : evA n al x = .v v) : Val P H s n al (.assign x) (.v v) := f_as he
theorem f_asS {es : List (List D)} (he : evA n al x = .sl es) : Val P H s n al (.assign x) (.sl es) := f_as he
theorem f_asF {es : List (List D)} (he : evA n al x = .fl es) : Val P H s n al (.assign x) (.fl es) := f_as he
theorem f_asO {b o m c : Nat} (he : evA n al x = .ms b o m c) : Val P H s n al (.assign x) (.ms b o m c) := f_as he
theorem f_asP {b k f : Nat} (he : evA n al x = .mp b k f) : Val P H s n al (.assign x) (.mp b k f) := f_as he
theorem f_asR {cs : List D} (he : evA n al x = .rp cs) : Val P H s n al (.assign x) (.rp cs) := f_as he
theorem f_asA {cs : List D} (he : evA n al x = .agg cs) : Val P H s n al (.assign x) (.agg cs) := f_as he
theorem f_asT {cs : List D} (he : evA n al x = .tup cs) : Val P H s n al (.assign x) (.tup cs) := f_as he
theorem f_asN  (he : evA n al x = .nil) : Val P H s n al (.assign x) (.nil) := f_as he
theorem f_asU {f : Fn} {ds es : List D} (he : evA n al x = .fn f ds es) : Val P H s n al (.assign x) (.fn f ds es) := f_as he
theorem f_asX  (he : evA n al x = .any) : Val P H s n al (.assign x) (.any) := f_as he

theorem f_add (hx : evA n al x = wI a) (hy : evA n al y = wI b) (h1 : -9223372036854775808 ≤ a + b) (h2 : a + b ≤ 9223372036854775807) : Val P H s n al (.binOp .add tx x y ty') (wI (a + b)) := by
  refine ⟨?_⟩; simp only [stepD, ev_T, hx, hy, binD, intBin, if_true, wrap64 h1 h2, Option.map_some, keepD]
theorem f_sub (hx : evA n al x = wI a) (hy : evA n al y = wI b) (h1 : -9223372036854775808 ≤ a - b) (h2 : a - b ≤ 9223372036854775807) : Val P H s n al (.binOp .sub tx x y ty') (wI (a - b)) := by
  refine ⟨?_⟩; simp only [stepD, ev_T, hx, hy, binD, intBin, if_true, wrap64 h1 h2, Option.map_some, keepD]
theorem f_mul (hx : evA n al x = wI a) (hy : evA n al y = wI b) (h1 : -9223372036854775808 ≤ a * b) (h2 : a * b ≤ 9223372036854775807) : Val P H s n al (.binOp .mul tx x y ty') (wI (a * b)) := by
  refine ⟨?_⟩; simp only [stepD, ev_T, hx, hy, binD, intBin, if_true, wrap64 h1 h2, Option.map_some, keepD]
theorem f_neg (hx : evA n al x = wI a) (h1 : -9223372036854775808 ≤ -a) (h2 : -a ≤ 9223372036854775807) : Val P H s n al (.unOp .neg tx x) (wI (-a)) := by
  refine ⟨?_⟩; simp only [stepD, ev_T, hx, unD, Int.zero_sub, wrap64 h1 h2, Option.map_some, keepD]
theorem f_quo (hx : evA n al x = wI a) (hy : evA n al y = wI b) (h0 : 0 ≤ a) (h1 : 0 < b) (h2 : a ≤ 9223372036854775807) : Val P H s n al (.binOp .quo tx x y ty') (wI (a / b)) := by
  have e : a.tdiv b = a / b := Int.tdiv_eq_ediv_of_nonneg h0
  have h3 : 0 ≤ a / b := Int.ediv_nonneg h0 (Int.le_of_lt h1)
  have h4 : a / b ≤ a := Int.ediv_le_self b h0
  have hb : b ≠ 0 := by omega
  refine ⟨?_⟩; simp only [stepD, ev_T, hx, hy, binD, intBin, if_true, hb, if_false, e, wrap64 (show -9223372036854775808 ≤ a / b by omega) (show a / b ≤ 9223372036854775807 by omega), Option.map_some, keepD]
theorem f_quoG (hx : evA n al x = wI a) (hy : evA n al y = wI b) (h0 : -9223372036854775808 < a) (h1 : b ≠ 0) (h2 : a ≤ 9223372036854775807) : Val P H s n al (.binOp .quo tx x y ty') (wI (a.tdiv b)) := by
  have h3 : (a.tdiv b).natAbs ≤ a.natAbs := by rw [Int.natAbs_tdiv]; exact Nat.div_le_self _ _
  refine ⟨?_⟩; simp only [stepD, ev_T, hx, hy, binD, intBin, if_true, h1, if_false, wrap64 (show -9223372036854775808 ≤ a.tdiv b by omega) (show a.tdiv b ≤ 9223372036854775807 by omega), Option.map_some, keepD]
theorem f_rem (hx : evA n al x = wI a) (hy : evA n al y = wI b) (h0 : 0 ≤ a) (h1 : b ≠ 0) : Val P H s n al (.binOp .rem tx x y ty') (wI (a % b)) := by
  refine ⟨?_⟩; simp only [stepD, ev_T, hx, hy, binD, intBin, if_true, h1, if_false, Int.tmod_eq_emod_of_nonneg h0, Option.map_some, keepD]
theorem f_remG (hx : evA n al x = wI a) (hy : evA n al y = wI b) (h1 : b ≠ 0) : Val P H s n al (.binOp .rem tx x y ty') (wI (a.tmod b)) := by
  refine ⟨?_⟩; simp only [stepD, ev_T, hx, hy, binD, intBin, if_true, h1, if_false, Option.map_some, keepD]
theorem f_lss (hx : evA n al x = wI a) (hy : evA n al y = wI b) : Val P H s n al (.binOp .lss tx x y ty') (wB (decide (a < b))) := by
  refine ⟨?_⟩; simp only [stepD, ev_T, hx, hy, binD, intBin, if_true, Option.map_some, keepD]
theorem f_leq (hx : evA n al x = wI a) (hy : evA n al y = wI b) : Val P H s n al (.binOp .leq tx x y ty') (wB (decide (a ≤ b))) := by
  refine ⟨?_⟩; simp only [stepD, ev_T, hx, hy, binD, intBin, if_true, Option.map_some, keepD]
theorem f_gtr (hx : evA n al x = wI a) (hy : evA n al y = wI b) : Val P H s n al (.binOp .gtr tx x y ty') (wB (decide (b < a))) := by
  refine ⟨?_⟩; simp only [stepD, ev_T, hx, hy, binD, intBin, if_true, Option.map_some, keepD]
theorem f_geq (hx : evA n al x = wI a) (hy : evA n al y = wI b) : Val P H s n al (.binOp .geq tx x y ty') (wB (decide (b ≤ a))) := by
  refine ⟨?_⟩; simp only [stepD, ev_T, hx, hy, binD, intBin, if_true, Option.map_some, keepD]
theorem f_eql (hx : evA n al x = wI a) (hy : evA n al y = wI b) : Val P H s n al (.binOp .eql tx x y ty') (wB (decide (a = b))) := by
  refine ⟨?_⟩; simp only [stepD, ev_T, hx, hy, binD, intBin, if_true, Option.map_some, keepD]; rfl
theorem f_neq (hx : evA n al x = wI a) (hy : evA n al y = wI b) : Val P H s n al (.binOp .neq tx x y ty') (wB (decide (a ≠ b))) := by
  have e : (a != b) = decide (a ≠ b) := by simp [bne, BEq.beq]
  refine ⟨?_⟩; simp only [stepD, ev_T, hx, hy, binD, intBin, if_true, Option.map_some, keepD, e]
theorem f_eqlB {a b : Bool} (hx : evA n al x = wB a) (hy : evA n al y = wB b) (hu : P.underlying tx = some .bool) : Val P H s n al (.binOp .eql tx x y ty') (wB (decide (a = b))) := by
  have e : (a == b) = decide (a = b) := by cases a <;> cases b <;> rfl
  refine ⟨?_⟩; simp only [stepD, ev_T, hx, hy, binD, hu, keepD, e]; rfl
theorem f_notD {p : Prop} [Decidable p] (hx : evA n al x = wB (decide p)) : Val P H s n al (.unOp .not tx x) (wB (decide (¬ p))) := by
  have e : (!decide p) = decide (¬ p) := by by_cases h : p <;> simp [h]
  refine ⟨?_⟩; simp only [stepD, ev_T, hx, unD, keepD, e]; rfl
theorem f_not {b : Bool} (hx : evA n al x = wB b) : Val P H s n al (.unOp .not tx x) (wB (!b)) := by
  refine ⟨?_⟩; simp only [stepD, ev_T, hx, unD, keepD]; rfl
theorem f_notT (hx : evA n al x = wB true) : Val P H s n al (.unOp .not tx x) (wB false) := by
  refine ⟨?_⟩; simp only [stepD, ev_T, hx, unD, keepD]; rfl
theorem f_notF (hx : evA n al x = wB false) : Val P H s n al (.unOp .not tx x) (wB true) := by
  refine ⟨?_⟩; simp only [stepD, ev_T, hx, unD, keepD]; rfl
theorem f_pickT {d : D} (hx : evA n al x = wB true) (hy : evA n al y = d) : Val P H s n al (.pick x y z) d := by
  subst hy; refine ⟨?_⟩; simp only [stepD, ev_T, hx, pickD, keepD]; rfl
theorem f_pickF {d : D} (hx : evA n al x = wB false) (hz : evA n al z = d) : Val P H s n al (.pick x y z) d := by
  subst hz; refine ⟨?_⟩; simp only [stepD, ev_T, hx, pickD, keepD]; rfl
theorem f_pickTV {v : Value} (hx : evA n al x = wB true) (hy : evA n al y = .v v) : Val P H s n al (.pick x y z) (.v v) := f_pickT hx hy
theorem f_pickFV {v : Value} (hx : evA n al x = wB false) (hz : evA n al z = .v v) : Val P H s n al (.pick x y z) (.v v) := f_pickF hx hz
theorem f_ext {ds : List D} {k : Nat} {d : D} (hx : evA n al x = .tup ds) (hd : ds[k]? = some d) : Val P H s n al (.extract x k) d := by
  refine ⟨?_⟩; simp only [stepD, ev_T, hx, extractD, hd, keepD]; rfl
/-- Integers of another kind, into int. -/
theorem f_conv {k : IntKind} {src dst : TypeId} {u : TypeDesc} (hx : evA n al x = .v (.int k a)) (hs : P.underlying src = some u) (hd : P.underlying dst = some (.int .i64)) (h1 : -9223372036854775808 ≤ a) (h2 : a ≤ 9223372036854775807) : Val P H s n al (.convert src dst x) (wI a) := by
  refine ⟨?_⟩; simp only [stepD, ev_T, hx, convD, hs, hd, wrap64 h1 h2, keepD]; rfl
theorem f_max (hx : evA n al x = wI a) (hy : evA n al y = wI b) {tys : Array TypeId} : Val P H s n al (.call { callee := .builtin .max, args := #[x, y], argTypes := tys }) (wI (max a b)) := by
  have e : max a b = if b > a then b else a := by omega
  refine ⟨?_⟩; simp only [stepD, List.map_cons, List.map_nil, ev_T, hx, hy, builtinD, maxD, if_true, Option.map_some, e]
theorem f_min (hx : evA n al x = wI a) (hy : evA n al y = wI b) {tys : Array TypeId} : Val P H s n al (.call { callee := .builtin .min, args := #[x, y], argTypes := tys }) (wI (min a b)) := by
  have e : min a b = if b < a then b else a := by omega
  refine ⟨?_⟩; simp only [stepD, List.map_cons, List.map_nil, ev_T, hx, hy, builtinD, maxD, if_true, Option.map_some, e]

theorem f_len {d : D} {m : Int} (hx : evA n al x = d) (hl : lenD d = some m) (ht : isSliceT P tx = true) : Val P H s n al (.call { callee := .builtin .len, args := #[x], argTypes := #[tx] }) (wI m) := by
  subst hx
  refine ⟨?_⟩
  unfold isSliceT at ht
  split at ht
  · rename_i e he
    simp only [stepD, List.map_cons, List.map_nil, ev_T, builtinD, he, hl, Option.map_some]
  · cases ht
theorem f_lenM {α : Type} {f : α → List D} {l : List α} (hx : evA n al x = .sl (l.map f)) (ht : isSliceT P tx = true) : Val P H s n al (.call { callee := .builtin .len, args := #[x], argTypes := #[tx] }) (wI l.length) := f_len hx (by simp [lenD]) ht
theorem f_lenF {α : Type} {f : α → List D} {l : List α} (hx : evA n al x = .fl (l.map f)) (ht : isSliceT P tx = true) : Val P H s n al (.call { callee := .builtin .len, args := #[x], argTypes := #[tx] }) (wI l.length) := f_len hx (by simp [lenD]) ht
theorem f_lenO {bk off m cap : Nat} (hx : evA n al x = .ms bk off m cap) (ht : isSliceT P tx = true) : Val P H s n al (.call { callee := .builtin .len, args := #[x], argTypes := #[tx] }) (wI m) := f_len hx rfl ht
theorem f_lenN (hx : evA n al x = .nil) (ht : isSliceT P tx = true) : Val P H s n al (.call { callee := .builtin .len, args := #[x], argTypes := #[tx] }) (wI 0) := f_len hx rfl ht

/-- An element of a read-only slice. -/
theorem f_ix {α : Type} {f : α → List D} {l : List α} {k : Nat} {w : α} {sz : Nat} (hx : unfl (evA n al x) = .sl (l.map f)) (hy : evA n al y = wI a) (hn : a = k) (hk : l[k]? = some w) (hs : (elemT P tx).map (·.2) = some sz) (hf : (f w).length = sz) :
    Val P H s n al (.indexAddr tx x y) (.rp (f w)) := by
  subst hn
  refine ⟨?_⟩
  have hlt : k < l.length := (List.getElem?_eq_some_iff.1 hk).1
  simp only [Option.map_eq_some_iff] at hs
  obtain ⟨⟨e, s'⟩, he, hs'⟩ := hs
  simp only at hs'; subst hs'
  simp only [stepD, ev_T, indexAddrD, hx, hy, intD, he, List.length_map]
  rw [if_pos ⟨by omega, by omega⟩]
  simp only [Int.toNat_natCast, List.getElem?_map, hk, Option.map_some, if_pos hf, keepD]
theorem f_ixL {α : Type} {f : α → List D} {l : List α} {k : Nat} {sz : Nat} (hx : unfl (evA n al x) = .sl (l.map f)) (hy : evA n al y = wI a) (hn : a = k) (hk : k < l.length) (hs : (elemT P tx).map (·.2) = some sz) (hf : (f l[k]).length = sz) :
    Val P H s n al (.indexAddr tx x y) (.rp (f l[k])) := f_ix hx hy hn (List.getElem?_eq_getElem hk) hs hf
/-- The first elements of a read-only slice; what is behind them. -/
theorem f_slHi {α : Type} {f : α → List D} {l : List α} {k sz : Nat} {te : TypeId} (hx : unfl (evA n al x) = .sl (l.map f)) (hy : evA n al y = wI a) (hn : a = k) (hk : k ≤ l.length) (he : elemT P tx = some (te, sz)) : Val P H s n al (.slice tx x none (some y) none) (.sl ((l.take k).map f)) := by
  subst hn
  refine ⟨?_⟩
  simp only [stepD, ev_T, sliceD, he, hx, Option.map_none, Option.map_some, hy, bndD, intD, List.length_map, Option.isSome_none, Bool.false_eq_true, false_and, if_false]
  rw [if_pos ⟨by omega, by omega, by omega, by simp⟩]
  simp [keepD, List.map_take]
theorem f_slLo {α : Type} {f : α → List D} {l : List α} {k sz : Nat} {te : TypeId} (hx : unfl (evA n al x) = .sl (l.map f)) (hy : evA n al y = wI a) (hn : a = k) (hk : k ≤ l.length) (he : elemT P tx = some (te, sz)) (hf : ∀ w, (f w).length = sz) : Val P H s n al (.slice tx x (some y) none none) (.sl ((l.drop k).map f)) := by
  subst hn
  refine ⟨?_⟩
  simp only [stepD, ev_T, sliceD, he, hx, Option.map_none, Option.map_some, hy, bndD, intD, List.length_map, Option.isSome_none, Bool.false_eq_true, false_and, if_false]
  rw [if_pos ⟨by omega, by omega, by omega, .inr (by simp [hf])⟩]
  simp [keepD, List.map_drop, List.take_of_length_le]
/-- An element of an own block. -/
theorem f_ixO {bk off len cap sz : Nat} {es : List (List D)} {k : Nat} (hx : evA n al x = .ms bk off len cap) (hy : evA n al y = wI a) (hn : a = k) (hb : H[bk]? = some (.live sz es)) (hs : (elemT P tx).map (·.2) = some sz) (hk : k < len) : Val P H s n al (.indexAddr tx x y) (.mp bk (off + k) 0) := by
  subst hn
  refine ⟨?_⟩
  simp only [Option.map_eq_some_iff] at hs
  obtain ⟨⟨e, s'⟩, he, hs'⟩ := hs
  simp only at hs'; subst hs'
  simp only [stepD, ev_T, indexAddrD, hx, unfl, hy, intD, he, hb, Blk.hasSz]
  rw [if_pos ⟨by simp, by omega, by omega⟩]
  simp [keepD]
theorem f_ixO0 {bk len cap sz : Nat} {es : List (List D)} {k : Nat} (hx : evA n al x = .ms bk 0 len cap) (hy : evA n al y = wI a) (hn : a = k) (hb : H[bk]? = some (.live sz es)) (hs : (elemT P tx).map (·.2) = some sz) (hk : k < len) : Val P H s n al (.indexAddr tx x y) (.mp bk k 0) := by
  have := f_ixO (s := s) (P := P) hx hy hn hb hs hk
  rwa [Nat.zero_add] at this

theorem f_ldV {v : Value} {cs : List D} (hx : evA n al x = .rp (.v v :: cs)) (ht : isAggD P tx = some false) : Val P H s n al (.load tx x) (.v v) := by
  refine ⟨?_⟩; simp [stepD, ev_T, hx, loadD, peek, takeD, ht, lowD, flat, flat1, keepD]
theorem f_ldS {es : List (List D)} {cs : List D} (hx : evA n al x = .rp (.sl es :: cs)) (ht : isAggD P tx = some false) : Val P H s n al (.load tx x) (.sl es) := by
  refine ⟨?_⟩; simp [stepD, ev_T, hx, loadD, peek, takeD, ht, lowD, flat, flat1, keepD]
theorem f_ldFl {es : List (List D)} {cs : List D} (hx : evA n al x = .rp (.fl es :: cs)) (ht : isAggD P tx = some false) : Val P H s n al (.load tx x) (.sl es) := by
  refine ⟨?_⟩; simp [stepD, ev_T, hx, loadD, peek, takeD, ht, lowD, keepD]
theorem f_ldG {d : D} {cs : List D} (hx : evA n al x = .rp (d :: cs)) (ht : isAggD P tx = some false) (hf : flat d = true) : Val P H s n al (.load tx x) d := by
  have : lowD d = d := by unfold lowD; cases d <;> first | rfl | (simp_all [flat, flat1]; done) | (simp only [hf, if_true])
  refine ⟨?_⟩; simp [stepD, ev_T, hx, loadD, peek, takeD, ht, this, keepD]
theorem f_ldA {cs ds : List D} {m : Nat} (hx : evA n al x = .rp cs) (ht : isAggD P tx = some true) (hs : tsz P tx = some m) (hn : cs.length = m) (hd : cs.map lowD = ds) : Val P H s n al (.load tx x) (.agg ds) := by
  subst hd
  refine ⟨?_⟩
  simp only [stepD, ev_T, hx, loadD, peek, takeD, ht, hs, List.length_map, hn, Nat.le_refl, if_true, keepD, Option.map_some]
  rw [List.take_of_length_le (by simp [hn])]
/-- A load from an own block. -/
theorem f_ldO {bk k f sz : Nat} {es : List (List D)} {e rest : List D} {d : D} (hx : evA n al x = .mp bk k f) (hb : H[bk]? = some (.live sz es)) (hk : es[k]? = some e) (hd : e.drop f = d :: rest) (ht : isAggD P tx = some false) : Val P H s n al (.load tx x) d := by
  refine ⟨?_⟩; simp [stepD, ev_T, hx, loadD, peek, takeD, ht, keepD, hb, hk, hd]
/-- A load of an aggregate from an own block. -/
theorem f_ldOA {bk k f sz m : Nat} {es : List (List D)} {e : List D} (hx : evA n al x = .mp bk k f) (hb : H[bk]? = some (.live sz es)) (hk : es[k]? = some e) (ht : isAggD P tx = some true) (hs : tsz P tx = some m) (hn : f + m ≤ e.length) : Val P H s n al (.load tx x) (.agg ((e.drop f).take m)) := by
  refine ⟨?_⟩
  simp only [stepD, ev_T, hx, loadD, peek, hb, hk, takeD, ht, hs, List.length_drop]
  rw [if_pos (by omega)]; rfl
/-- All of an element. -/
theorem f_ldOW {bk k sz m : Nat} {es : List (List D)} {e : List D} (hx : evA n al x = .mp bk k 0) (hb : H[bk]? = some (.live sz es)) (hk : es[k]? = some e) (ht : isAggD P tx = some true) (hs : tsz P tx = some m) (hn : e.length = m) : Val P H s n al (.load tx x) (.agg e) := by
  have := f_ldOA (s := s) (P := P) hx hb hk ht hs (by omega)
  rwa [List.drop_zero, List.take_of_length_le (by omega)] at this

theorem fieldOff_of {f o m : Nat} {g : Bool} (ht : fldT P tx f = some (o, m, g)) (hn : m ≠ 0) : fieldOff P tx f = some o := by
  unfold fldT at ht; unfold fieldOff
  split at ht
  · rename_i fs hfs
    simp only [hfs]
    split at ht
    · rename_i x hx
      simp only [hx]
      split at ht
      · rename_i n' b' h1 h2
        cases ht
        simp only [h1, if_neg hn]
      · cases ht
    · cases ht
  · cases ht
theorem f_fa {cs ds : List D} {f o m : Nat} {g : Bool} (hx : evA n al x = .rp cs) (ht : fldT P tx f = some (o, m, g)) (hn : m ≠ 0) (hd : cs.drop o = ds) : Val P H s n al (.fieldAddr tx x f) (.rp ds) := by
  subst hd; refine ⟨?_⟩
  simp only [stepD, ev_T, hx, fieldAddrD, fieldOff_of ht hn, Option.map_some, keepD]
theorem f_fa0 {cs : List D} {f m : Nat} {g : Bool} (hx : evA n al x = .rp cs) (ht : fldT P tx f = some (0, m, g)) (hn : m ≠ 0) : Val P H s n al (.fieldAddr tx x f) (.rp cs) := f_fa hx ht hn rfl
theorem f_fa1 {d1 : D} {cs : List D} {f m : Nat} {g : Bool} (hx : evA n al x = .rp (d1 :: cs)) (ht : fldT P tx f = some (1, m, g)) (hn : m ≠ 0) : Val P H s n al (.fieldAddr tx x f) (.rp cs) := f_fa hx ht hn rfl
theorem f_fa2 {d1 d2 : D} {cs : List D} {f m : Nat} {g : Bool} (hx : evA n al x = .rp (d1 :: d2 :: cs)) (ht : fldT P tx f = some (2, m, g)) (hn : m ≠ 0) : Val P H s n al (.fieldAddr tx x f) (.rp cs) := f_fa hx ht hn rfl
theorem f_fa3 {d1 d2 d3 : D} {cs : List D} {f m : Nat} {g : Bool} (hx : evA n al x = .rp (d1 :: d2 :: d3 :: cs)) (ht : fldT P tx f = some (3, m, g)) (hn : m ≠ 0) : Val P H s n al (.fieldAddr tx x f) (.rp cs) := f_fa hx ht hn rfl
theorem f_faO {bk k c f o m : Nat} {g : Bool} (hx : evA n al x = .mp bk k c) (ht : fldT P tx f = some (o, m, g)) (hn : m ≠ 0) : Val P H s n al (.fieldAddr tx x f) (.mp bk k (c + o)) := by
  refine ⟨?_⟩
  simp only [stepD, ev_T, hx, fieldAddrD, fieldOff_of ht hn, Option.map_some, keepD]
theorem f_faO0 {bk k f o m : Nat} {g : Bool} (hx : evA n al x = .mp bk k 0) (ht : fldT P tx f = some (o, m, g)) (hn : m ≠ 0) : Val P H s n al (.fieldAddr tx x f) (.mp bk k o) := by
  have := f_faO (s := s) (H := H) hx ht hn
  rwa [Nat.zero_add] at this
theorem fieldD_of {cs : List D} {f o m : Nat} {g : Bool} (ht : fldT P tx f = some (o, m, g)) : fieldD P tx f (.agg cs) = if g then (if m ≤ (cs.drop o).length then some (.agg ((cs.drop o).take m)) else none) else (cs.drop o).head? := by
  unfold fldT at ht; unfold fieldD
  split at ht
  · rename_i fs hfs
    simp only [hfs]
    split at ht
    · rename_i x hx
      simp only [hx]
      split at ht
      · rename_i n' b' h1 h2
        cases ht
        cases g <;> simp [takeD, h1, h2]
      · cases ht
    · cases ht
  · cases ht
theorem f_fd {cs rest : List D} {f o m : Nat} {d : D} (hx : evA n al x = .agg cs) (ht : fldT P tx f = some (o, m, false)) (hd : cs.drop o = d :: rest) : Val P H s n al (.field tx x f) d := by
  refine ⟨?_⟩; simp [stepD, ev_T, hx, fieldD_of ht, hd, keepD]
theorem f_fdA {cs : List D} {f o m : Nat} (hx : evA n al x = .agg cs) (ht : fldT P tx f = some (o, m, true)) (hn : m ≤ (cs.drop o).length) : Val P H s n al (.field tx x f) (.agg ((cs.drop o).take m)) := by
  refine ⟨?_⟩; simp only [stepD, ev_T, hx, fieldD_of ht, if_true, if_pos hn, keepD, Option.map_some]
theorem f_mkf {f : Fn} {as' bs' : List Operand} {ds es : List D} (h1 : as'.map (evA n al) = ds) (h2 : bs'.map (evA n al) = es) : Val P H s n al (.makeFunc f as'.toArray bs'.toArray) (.fn f ds es) := by
  subst h1; subst h2; refine ⟨?_⟩; simp only [stepD, map_ev_T]
theorem f_build {ps : List (Nat × Operand)} {d : D} (h : buildD P tx (ps.map fun p => (p.1, evA n al p.2)) = some d) : Val P H s n al (.build tx ps.toArray) d := by
  refine ⟨?_⟩; simp only [stepD, ev_T, h, keepD]; rfl

/-- An operation that makes a block. -/
structure Mk (P : Program) (H : List Blk) (s n : Nat) (al : AL) (op : Op) (d : D) (k : Blk) : Prop where
  out : stepD P H s (T n al) op = some (d, .put k)
theorem f_alloc {z : List D} (hz : zeroD P tx = some z) : Mk P H s n al (.alloc tx) (.mp s 0 0) (.live z.length [z]) := by
  refine ⟨?_⟩; simp only [stepD, hz, Option.map_some]
theorem f_allocL {z : List D} {m : Nat} (hz : zeroD P tx = some z) (hm : z.length = m) : Mk P H s n al (.alloc tx) (.mp s 0 0) (.live m [z]) := by
  subst hm; exact f_alloc hz
theorem f_boxV {v : Value} (hx : evA n al x = .v v) (hc : (cellsD (.v v)) = [.v v]) (hc' : isCell (.v v) = true) : Mk P H s n al (.box tx x) (.mp s 0 0) (.live 1 [[.v v]]) := by
  refine ⟨?_⟩; simp only [stepD, ev_T, hx, hc, List.all_cons, hc', List.all_nil, Bool.and_true, if_true]; rfl
theorem f_box {d : D} {cs : List D} {m : Nat} (hx : evA n al x = d) (hcs : cellsD d = cs) (hc : cs.all isCell = true) (hm : cs.length = m) : Mk P H s n al (.box tx x) (.mp s 0 0) (.live m [cs]) := by
  subst hx; subst hcs; subst hm; refine ⟨?_⟩; simp only [stepD, ev_T, hc, if_true]
theorem f_boxS {es : List (List D)} (hx : evA n al x = .sl es) : Mk P H s n al (.box tx x) (.mp s 0 0) (.live 1 [[.sl es]]) := f_box hx rfl rfl rfl
theorem f_boxF {es : List (List D)} (hx : evA n al x = .fl es) : Mk P H s n al (.box tx x) (.mp s 0 0) (.live 1 [[.fl es]]) := f_box hx rfl rfl rfl
theorem f_boxO {b o m c : Nat} (hx : evA n al x = .ms b o m c) : Mk P H s n al (.box tx x) (.mp s 0 0) (.live 1 [[.ms b o m c]]) := f_box hx rfl rfl rfl
theorem f_boxP {b k f : Nat} (hx : evA n al x = .mp b k f) : Mk P H s n al (.box tx x) (.mp s 0 0) (.live 1 [[.mp b k f]]) := f_box hx rfl rfl rfl
theorem f_boxR {cs : List D} (hx : evA n al x = .rp cs) : Mk P H s n al (.box tx x) (.mp s 0 0) (.live 1 [[.rp cs]]) := f_box hx rfl rfl rfl
theorem f_boxN  (hx : evA n al x = .nil) : Mk P H s n al (.box tx x) (.mp s 0 0) (.live 1 [[.nil]]) := f_box hx rfl rfl rfl
theorem f_boxU {f : Fn} {ds es : List D} (hx : evA n al x = .fn f ds es) : Mk P H s n al (.box tx x) (.mp s 0 0) (.live 1 [[.fn f ds es]]) := f_box hx rfl rfl rfl
theorem f_boxA {cs : List D} {m : Nat} (hx : evA n al x = .agg cs) (hc : cs.all isCell = true) (hm : cs.length = m) : Mk P H s n al (.box tx x) (.mp s 0 0) (.live m [cs]) := f_box hx rfl hc hm
theorem f_bsl {ps : List (Nat × Operand)} {len sz : Nat} {es : List (List D)} (h : buildSliceD P tx len (ps.map fun p => (p.1, evA n al p.2)) = some (sz, es)) : Mk P H s n al (.buildSlice tx len ps.toArray) (.ms s 0 len len) (.live sz es) := by
  refine ⟨?_⟩; simp only [stepD, ev_T, h, Option.map_some]
/-- A slice of words is made. -/
theorem f_make {te : TypeId} {z : List D} {m sz by' : Nat} (hx : evA n al x = wI a) (hy : evA n al y = wI a) (he : elemT P tx = some (te, sz)) (hz : zeroD P te = some z) (hl : z.length = sz) (h0 : 0 < sz) (hby : P.bytesOf te = by') (hm : a = m) (hb : by' * m ≤ 281474976710656) (hb2 : m ≤ 9223372036854775807) :
    Mk P H s n al (.makeSlice tx x y) (.ms s 0 m m) (.live sz (List.replicate m z)) := by
  subst hm; subst hl
  refine ⟨?_⟩
  have hc : (0 : Int) ≤ m ∧ (m : Int) ≤ m ∧ (P.bytesOf te : Int) * (m : Int) ≤ 281474976710656 ∧ (m : Int) ≤ 9223372036854775807 ∧ 0 < z.length ∧ True :=
    ⟨by omega, Int.le_refl _, by rw [hby]; have h := Int.ofNat_le.2 hb; rw [Int.natCast_mul] at h; omega, by omega, h0, trivial⟩
  have e : makeSliceD P tx (wI m) (wI m) = some (m, m, z.length, List.replicate m z) := by
    unfold makeSliceD
    simp only [intD, he, hz]
    exact if_pos hc
  simp only [stepD, ev_T, hx, hy, e, Option.map_some]
/-- The same with a place for more. -/
theorem f_makeC {te : TypeId} {z : List D} {k m sz by' : Nat} (hx : evA n al x = wI a) (hy : evA n al y = wI b) (he : elemT P tx = some (te, sz)) (hz : zeroD P te = some z) (hl : z.length = sz) (h0 : 0 < sz) (hby : P.bytesOf te = by') (hk : a = k) (hm : b = m) (hkm : k ≤ m) (hb : by' * m ≤ 281474976710656) (hb2 : m ≤ 9223372036854775807) :
    Mk P H s n al (.makeSlice tx x y) (.ms s 0 k m) (.live sz (List.replicate m z)) := by
  subst hm; subst hl; subst hk
  refine ⟨?_⟩
  have hc : (0 : Int) ≤ k ∧ (k : Int) ≤ m ∧ (P.bytesOf te : Int) * (m : Int) ≤ 281474976710656 ∧ (m : Int) ≤ 9223372036854775807 ∧ 0 < z.length ∧ True :=
    ⟨by omega, by omega, by rw [hby]; have h := Int.ofNat_le.2 hb; rw [Int.natCast_mul] at h; omega, by omega, h0, trivial⟩
  have e : makeSliceD P tx (wI k) (wI m) = some (k, m, z.length, List.replicate m z) := by
    unfold makeSliceD
    simp only [intD, he, hz]
    exact if_pos hc
  simp only [stepD, ev_T, hx, hy, e, Option.map_some]

/-- An operation that writes into a block. -/
structure Wr (P : Program) (H : List Blk) (s n : Nat) (al : AL) (op : Op) (b : Nat) (k : Blk) : Prop where
  out : stepD P H s (T n al) op = some (.any, .upd b k)
theorem f_st {bk k f sz m : Nat} {es : List (List D)} {e cs e' : List D} {d : D} (hx : evA n al x = .mp bk k f) (hb : H[bk]? = some (.live sz es)) (hk : es[k]? = some e) (hd : evA n al y = d) (hcs : cellsD d = cs) (hc : cs.all isCell = true) (hs : tsz P tx = some m) (hm : cs.length = m)
    (hl : f + m ≤ e.length) (he' : splice e f cs = e') : Wr P H s n al (.store tx x y) bk (.live sz (es.set k e')) := by
  subst hd; subst hcs; subst hm; subst he'
  refine ⟨?_⟩
  simp only [stepD, ev_T, hx, storeD, hb, hk]
  rw [if_pos ⟨hc, hs, hl⟩]; rfl
theorem f_stA {bk k f sz m : Nat} {es : List (List D)} {e cs e' : List D} (hx : evA n al x = .mp bk k f) (hb : H[bk]? = some (.live sz es)) (hk : es[k]? = some e) (hd : evA n al y = .agg cs) (hc : cs.all isCell = true) (hs : tsz P tx = some m) (hm : cs.length = m)
    (hl : f + m ≤ e.length) (he' : splice e f cs = e') : Wr P H s n al (.store tx x y) bk (.live sz (es.set k e')) := f_st hx hb hk hd rfl hc hs hm hl he'
/-- A value of one cell is written. -/
theorem f_stV {bk k sz : Nat} {es : List (List D)} {d0 d : D} (hx : evA n al x = .mp bk k 0) (hb : H[bk]? = some (.live sz es)) (hk : es[k]? = some [d0]) (hd : evA n al y = d) (hc : cellsD d = [d]) (hc' : isCell d = true) (hs : tsz P tx = some 1) :
    Wr P H s n al (.store tx x y) bk (.live sz (es.set k [d])) :=
  f_st hx hb hk hd hc (by simp [hc']) hs rfl (by simp) (by simp [splice])

/-- An append, onto a block of one's own or onto nothing. -/
structure Ap (P : Program) (H : List Blk) (s n : Nat) (al : AL) (op : Op) (m : Nat) (o : Option Nat) (k : Blk) : Prop where
  out : stepD P H s (T n al) op = some (.ms s 0 m m, .ren o k)
theorem f_app {t t' : TypeId} {d d' : D} {o : Option Nat} {sz m : Nat} {es : List (List D)} (hx : evA n al x = d) (hy : evA n al y = d') (h : appendD P H t t' d d' = some (o, sz, es)) (hm : es.length = m) :
    Ap P H s n al (.call { callee := .builtin .append, args := #[x, y], argTypes := #[t, t'] }) m o (.live sz es) := by
  subst hx; subst hy; subst hm
  refine ⟨?_⟩
  simp only [stepD, List.map_cons, List.map_nil, ev_T, builtinD, h, Option.map_some]
end

section
variable {E : Ev} {ops r : List Oper} {n : Nat} {a : AL} {H H' : List Blk} {g : Gst} {K : KA} {i : Tmp} {op : Op} {ty : TypeId} {pos : String} {aft : Array Edge} {d : D}

theorem RT.v (hv : Val E.P H H.length n a op d) (h : RT E ops r n ((i, d) :: a) H g K) : RT E ops (⟨some i, op, ty, pos, aft, none⟩ :: r) n a H g K := RT.stepG (e := .keep) rfl hv.out h
theorem RT.new {s : Nat} {k : Blk} (hs : H.length = s) (hv : Mk E.P H s n a op d k) (hH : H ++ [k] = H') (h : RT E ops r n ((i, d) :: a) H' g K) : RT E ops (⟨some i, op, ty, pos, aft, none⟩ :: r) n a H g K := by
  subst hs; subst hH; exact RT.stepG (e := .put k) rfl hv.out h
theorem RT.wr {b : Nat} {k : Blk} (hv : Wr E.P H H.length n a op b k) (hH : H.set b k = H') (h : RT E ops r n a H' g K) : RT E ops (⟨none, op, ty, pos, aft, none⟩ :: r) n a H g K := by
  subst hH; exact RT.stepG (e := .upd b k) rfl hv.out h
theorem RT.ap {s m : Nat} {o : Option Nat} {k : Blk} (hs : H.length = s) (hv : Ap E.P H s n a op m o k) (hH : killO H o ++ [k] = H') (h : RT E ops r n ((i, .ms s 0 m m) :: a) H' g K) : RT E ops (⟨some i, op, ty, pos, aft, none⟩ :: r) n a H g K := by
  subst hs; subst hH; exact RT.stepG (e := .ren o k) rfl hv.out h
/-- A guard that is not decided yet. -/
theorem RT.gc {l : List Oper} {o : Oper} {j : Nat} {w : Bool} {i : Nat} {p : Prop} [Decidable p] (hg : o.guard = some (j, w)) (hi : guardI ops j = some i) (he : lkN n a i = wB (decide p)) (h1 : p → RT E ops (o :: l) n ((i, wB true) :: a) H g K) (h2 : ¬ p → RT E ops (o :: l) n ((i, wB false) :: a) H g K) : RT E ops (o :: l) n a H g K :=
  RT.case he (fun e => h1 (of_decide_eq_true e)) fun e => h2 (of_decide_eq_false e)
theorem RT.gb {l : List Oper} {o : Oper} {j : Nat} {w : Bool} {i : Nat} {b : Bool} (hg : o.guard = some (j, w)) (hi : guardI ops j = some i) (he : lkN n a i = wB b) (h1 : b = true → RT E ops (o :: l) n ((i, wB true) :: a) H g K) (h2 : b = false → RT E ops (o :: l) n ((i, wB false) :: a) H g K) : RT E ops (o :: l) n a H g K :=
  RT.case he h1 h2
theorem RT.gcY {l : List Oper} {o : Oper} {j : Nat} {w : Bool} {i : Nat} {p : Prop} [Decidable p] (hg : o.guard = some (j, w)) (hi : guardI ops j = some i) (he : lkN n a i = wB (decide p)) (hp : p) (h1 : RT E ops (o :: l) n ((i, wB true) :: a) H g K) : RT E ops (o :: l) n a H g K :=
  RT.gc hg hi he (fun _ => h1) fun e => absurd hp e
theorem RT.gcN {l : List Oper} {o : Oper} {j : Nat} {w : Bool} {i : Nat} {p : Prop} [Decidable p] (hg : o.guard = some (j, w)) (hi : guardI ops j = some i) (he : lkN n a i = wB (decide p)) (hp : ¬ p) (h1 : RT E ops (o :: l) n ((i, wB false) :: a) H g K) : RT E ops (o :: l) n a H g K :=
  RT.gc hg hi he (fun e => absurd e hp) fun _ => h1
/-- A call of a function with a plain contract. -/
theorem RT.callM {f : Operand} {args : List Operand} {tys : Array TypeId} {f' : FuncId} {xs ys : List D} (hc : callA n a f args = some (f', xs)) (hm : Maps E.P f' ys d) (hy : xs.map (snap (fun b => H[b]?) 5) = ys) (hd : freshD 5 d = true) (h : RT E ops r n ((i, d) :: a) H g K) :
    RT E ops (⟨some i, .call { callee := .value f, args := args.toArray, argTypes := tys }, ty, pos, aft, none⟩ :: r) n a H g K := by
  subst hy; exact RT.callG hc (call_fresh hm hd h)
end

section
variable {E : Ev} {ops r : List Oper} {base s : Nat} {hs : List Nat} {pl : List (Nat × List Nat)} {n : Nat} {a : AL} {H H' : List Blk} {K : KP} {i : Tmp} {op : Op} {ty : TypeId} {pos : String} {aft : Array Edge} {d : D}
theorem PT.v (hv : Val E.P (maskL base hs H) (base + s) n a op d) (h : PT E ops base pl r n ((i, d) :: a) H K) : PT E ops base ((s, hs) :: pl) (⟨some i, op, ty, pos, aft, none⟩ :: r) n a H K := PT.stepG (e := .keep) rfl hv.out h
theorem PT.new {k : Blk} {s' : Nat} (hs' : base + s = s') (hv : Mk E.P (maskL base hs H) s' n a op d k) (hH : H.set s' k = H') (h : PT E ops base pl r n ((i, d) :: a) H' K) : PT E ops base ((s, hs) :: pl) (⟨some i, op, ty, pos, aft, none⟩ :: r) n a H K := by
  subst hs'; subst hH; exact PT.stepG (e := .put k) rfl hv.out h
theorem PT.wr {b : Nat} {k : Blk} (hv : Wr E.P (maskL base hs H) (base + s) n a op b k) (hH : H.set b k = H') (h : PT E ops base pl r n a H' K) : PT E ops base ((s, hs) :: pl) (⟨none, op, ty, pos, aft, none⟩ :: r) n a H K := by
  subst hH; exact PT.stepG (e := .upd b k) rfl hv.out h
theorem PT.ap {s' m : Nat} {o : Option Nat} {k : Blk} (hs' : base + s = s') (hv : Ap E.P (maskL base hs H) s' n a op m o k) (hH : (killO H o).set s' k = H') (h : PT E ops base pl r n ((i, .ms s' 0 m m) :: a) H' K) : PT E ops base ((s, hs) :: pl) (⟨some i, op, ty, pos, aft, none⟩ :: r) n a H K := by
  subst hs'; subst hH; exact PT.stepG (e := .ren o k) rfl hv.out h
end

theorem DLe.i {d : D} {a b : Int} (hd : d = wI a) (h : b = a) : DLe d (wI b) := by subst hd; subst h; exact .inr (.inl rfl)
theorem DLe.b {d : D} {a b : Bool} (hd : d = wB a) (h : b = a) : DLe d (wB b) := by subst hd; subst h; exact .inr (.inl rfl)
theorem DLe.e {d d' : D} (h : d' = d) : DLe d d' := .inr (.inl h)
end
end Go.DL
