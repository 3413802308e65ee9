/- What single operations come to, over short lists of temporaries: one fact an operation. -/
import Derived.Test.YtmbbepdbjeciaaaGreatE9
import Derived.Test.YtmbbepdbjeciaaaGreatE7
set_option linter.all false
namespace Go.DL
open Go.RowKit Go.Proofs

noncomputable section

abbrev wI (a : Int) : D := .v (.int .i64 a)
abbrev wB (b : Bool) : D := .v (.bool b)

/-! What functions know of types, at one place. -/
def isSliceT (P : Program) (t : TypeId) : Bool := match P.underlying t with
  | some (.slice _) => true
  | _ => false
/-- A field's place, its cells, and whether it has parts. -/
def fldT (P : Program) (t : TypeId) (f : Nat) : Option (Nat × Nat × Bool) := match P.underlying t with
  | some (.struct fs) => match fs[f]? with
    | some x => match tsz P x.type, isAggD P x.type with
      | some n, some b => some (x.offset, n, b)
      | _, _ => none
    | none => none
  | _ => none

theorem castR (n : Nat) : (n : Int) = (n : Int) := rfl
theorem castS (n : Nat) : (n : Int) + 1 = ((n + 1 : Nat) : Int) := rfl
theorem wrap64 {a : Int} (h1 : -9223372036854775808 ≤ a) (h2 : a ≤ 9223372036854775807) : IntKind.wrap .i64 a = a := by
  rw [IntKind.wrap_i64]; omega

section
variable {P : Program} {n s : Nat} {al : AL} {H : List Blk} {x y z : Operand} {tx ty' : TypeId} {a b : Int}

/-- The value of an operation, which leaves memory as it is. -/
structure Val (P : Program) (H : List Blk) (s n : Nat) (al : AL) (op : Op) (d : D) : Prop where
  out : stepD P H s (T n al) op = some (d, .keep)

theorem f_mv {d : D} (he : evA n al x = d) : Val P H s n al (.move x) d := by refine ⟨?_⟩; subst he; simp only [stepD, ev_T]
theorem f_as {d : D} (he : evA n al x = d) : Val P H s n al (.assign x) d := by refine ⟨?_⟩; subst he; simp only [stepD, ev_T]

theorem f_mvV {v : Value} (he : evA n al x = .v v) : Val P H s n al (.move x) (.v v) := f_mv he
theorem f_mvS {es : List (List D)} (he : evA n al x = .sl es) : Val P H s n al (.move x) (.sl es) := f_mv he
theorem f_mvF {es : List (List D)} (he : evA n al x = .fl es) : Val P H s n al (.move x) (.fl es) := f_mv he
theorem f_mvO {b o m c : Nat} (he : evA n al x = .ms b o m c) : Val P H s n al (.move x) (.ms b o m c) := f_mv he
theorem f_mvP {b k f : Nat} (he : evA n al x = .mp b k f) : Val P H s n al (.move x) (.mp b k f) := f_mv he
theorem f_mvR {cs : List D} (he : evA n al x = .rp cs) : Val P H s n al (.move x) (.rp cs) := f_mv he
theorem f_mvA {cs : List D} (he : evA n al x = .agg cs) : Val P H s n al (.move x) (.agg cs) := f_mv he
theorem f_mvT {cs : List D} (he : evA n al x = .tup cs) : Val P H s n al (.move x) (.tup cs) := f_mv he
theorem f_mvN  (he : evA n al x = .nil) : Val P H s n al (.move x) (.nil) := f_mv he
theorem f_mvU {f : Fn} {ds es : List D} (he : evA n al x = .fn f ds es) : Val P H s n al (.move x) (.fn f ds es) := f_mv he
theorem f_mvX  (he : evA n al x = .any) : Val P H s n al (.move x) (.any) := f_mv he
theorem f_asV {v : Value} (he : evA n al x = .v v) : Val P H s n al (.assign x) (.v v) := f_as he
theorem f_asS {es : List (List D)} (he : evA n al x = .sl es) : Val P H s n al (.assign x) (.sl es) := f_as he
theorem f_asF {es : List (List D)} (he : evA n al x = .fl es) : Val P H s n al (.assign x) (.fl es) := f_as he
theorem f_asO {b o m c : Nat} (he : evA n al x = .ms b o m c) : Val P H s n al (.assign x) (.ms b o m c) := f_as he
theorem f_asP {b k f : Nat} (he : evA n al x = .mp b k f) : Val P H s n al (.assign x) (.mp b k f) := f_as he
theorem f_asR {cs : List D} (he : evA n al x = .rp cs) : Val P H s n al (.assign x) (.rp cs) := f_as he
theorem f_asA {cs : List D} (he : evA n al x = .agg cs) : Val P H s n al (.assign x) (.agg cs) := f_as he
theorem f_asT {cs : List D} (he : evA n al x = .tup cs) : Val P H s n al (.assign x) (.tup cs) := f_as he
theorem f_asN  (he : evA n al x = .nil) : Val P H s n al (.assign x) (.nil) := f_as he
theorem f_asU {f : Fn} {ds es : List D} (he : evA n al x = .fn f ds es) : Val P H s n al (.assign x) (.fn f ds es) := f_as he
theorem f_asX  (he : evA n al x = .any) : Val P H s n al (.assign x) (.any) := f_as he

theorem f_add (hx : evA n al x = wI a) (hy : evA n al y = wI b) (h1 : -9223372036854775808 ≤ a + b) (h2 : a + b ≤ 9223372036854775807) : Val P H s n al (.binOp .add tx x y ty') (wI (a + b)) := by
  refine ⟨?_⟩; simp only [stepD, ev_T, hx, hy, binD, intBin, if_true, wrap64 h1 h2, Option.map_some, keepD]
theorem f_sub (hx : evA n al x = wI a) (hy : evA n al y = wI b) (h1 : -9223372036854775808 ≤ a - b) (h2 : a - b ≤ 9223372036854775807) : Val P H s n al (.binOp .sub tx x y ty') (wI (a - b)) := by
  refine ⟨?_⟩; simp only [stepD, ev_T, hx, hy, binD, intBin, if_true, wrap64 h1 h2, Option.map_some, keepD]
theorem f_mul (hx : evA n al x = wI a) (hy : evA n al y = wI b) (h1 : -9223372036854775808 ≤ a * b) (h2 : a * b ≤ 9223372036854775807) : Val P H s n al (.binOp .mul tx x y ty') (wI (a * b)) := by
  refine ⟨?_⟩; simp only [stepD, ev_T, hx, hy, binD, intBin, if_true, wrap64 h1 h2, Option.map_some, keepD]
theorem f_neg (hx : evA n al x = wI a) (h1 : -9223372036854775808 ≤ -a) (h2 : -a ≤ 9223372036854775807) : Val P H s n al (.unOp .neg tx x) (wI (-a)) := by
  refine ⟨?_⟩; simp only [stepD, ev_T, hx, unD, Int.zero_sub, wrap64 h1 h2, Option.map_some, keepD]
theorem f_quo (hx : evA n al x = wI a) (hy : evA n al y = wI b) (h0 : 0 ≤ a) (h1 : 0 < b) (h2 : a ≤ 9223372036854775807) : Val P H s n al (.binOp .quo tx x y ty') (wI (a / b)) := by
  have e : a.tdiv b = a / b := Int.tdiv_eq_ediv_of_nonneg h0
  have h3 : 0 ≤ a / b := Int.ediv_nonneg h0 (Int.le_of_lt h1)
  have h4 : a / b ≤ a := Int.ediv_le_self b h0
  have hb : b ≠ 0 := by omega
  refine ⟨?_⟩; simp only [stepD, ev_T, hx, hy, binD, intBin, if_true, hb, if_false, e, wrap64 (show -9223372036854775808 ≤ a / b by omega) (show a / b ≤ 9223372036854775807 by omega), Option.map_some, keepD]
theorem f_rem (hx : evA n al x = wI a) (hy : evA n al y = wI b) (h0 : 0 ≤ a) (h1 : b ≠ 0) : Val P H s n al (.binOp .rem tx x y ty') (wI (a % b)) := by
  refine ⟨?_⟩; simp only [stepD, ev_T, hx, hy, binD, intBin, if_true, h1, if_false, Int.tmod_eq_emod_of_nonneg h0, Option.map_some, keepD]
theorem f_remG (hx : evA n al x = wI a) (hy : evA n al y = wI b) (h1 : b ≠ 0) : Val P H s n al (.binOp .rem tx x y ty') (wI (a.tmod b)) := by
  refine ⟨?_⟩; simp only [stepD, ev_T, hx, hy, binD, intBin, if_true, h1, if_false, Option.map_some, keepD]
theorem f_lss (hx : evA n al x = wI a) (hy : evA n al y = wI b) : Val P H s n al (.binOp .lss tx x y ty') (wB (decide (a < b))) := by
  refine ⟨?_⟩; simp only [stepD, ev_T, hx, hy, binD, intBin, if_true, Option.map_some, keepD]
theorem f_leq (hx : evA n al x = wI a) (hy : evA n al y = wI b) : Val P H s n al (.binOp .leq tx x y ty') (wB (decide (a ≤ b))) := by
  refine ⟨?_⟩; simp only [stepD, ev_T, hx, hy, binD, intBin, if_true, Option.map_some, keepD]
theorem f_gtr (hx : evA n al x = wI a) (hy : evA n al y = wI b) : Val P H s n al (.binOp .gtr tx x y ty') (wB (decide (b < a))) := by
  refine ⟨?_⟩; simp only [stepD, ev_T, hx, hy, binD, intBin, if_true, Option.map_some, keepD]
theorem f_geq (hx : evA n al x = wI a) (hy : evA n al y = wI b) : Val P H s n al (.binOp .geq tx x y ty') (wB (decide (b ≤ a))) := by
  refine ⟨?_⟩; simp only [stepD, ev_T, hx, hy, binD, intBin, if_true, Option.map_some, keepD]
theorem f_eql (hx : evA n al x = wI a) (hy : evA n al y = wI b) : Val P H s n al (.binOp .eql tx x y ty') (wB (decide (a = b))) := by
  refine ⟨?_⟩; simp only [stepD, ev_T, hx, hy, binD, intBin, if_true, Option.map_some, keepD]; rfl
theorem f_neq (hx : evA n al x = wI a) (hy : evA n al y = wI b) : Val P H s n al (.binOp .neq tx x y ty') (wB (decide (a ≠ b))) := by
  have e : (a != b) = decide (a ≠ b) := by simp [bne, BEq.beq]
  refine ⟨?_⟩; simp only [stepD, ev_T, hx, hy, binD, intBin, if_true, Option.map_some, keepD, e]
theorem f_notD {p : Prop} [Decidable p] (hx : evA n al x = wB (decide p)) : Val P H s n al (.unOp .not tx x) (wB (decide (¬ p))) := by
  have e : (!decide p) = decide (¬ p) := by by_cases h : p <;> simp [h]
  refine ⟨?_⟩; simp only [stepD, ev_T, hx, unD, keepD, e]; rfl
theorem f_not {b : Bool} (hx : evA n al x = wB b) : Val P H s n al (.unOp .not tx x) (wB (!b)) := by
  refine ⟨?_⟩; simp only [stepD, ev_T, hx, unD, keepD]; rfl
theorem f_notT (hx : evA n al x = wB true) : Val P H s n al (.unOp .not tx x) (wB false) := by
  refine ⟨?_⟩; simp only [stepD, ev_T, hx, unD, keepD]; rfl
theorem f_notF (hx : evA n al x = wB false) : Val P H s n al (.unOp .not tx x) (wB true) := by
  refine ⟨?_⟩; simp only [stepD, ev_T, hx, unD, keepD]; rfl
theorem f_pickT {d : D} (hx : evA n al x = wB true) (hy : evA n al y = d) : Val P H s n al (.pick x y z) d := by
  subst hy; refine ⟨?_⟩; simp only [stepD, ev_T, hx, pickD, keepD]; rfl
theorem f_pickF {d : D} (hx : evA n al x = wB false) (hz : evA n al z = d) : Val P H s n al (.pick x y z) d := by
  subst hz; refine ⟨?_⟩; simp only [stepD, ev_T, hx, pickD, keepD]; rfl
theorem f_pickTV {v : Value} (hx : evA n al x = wB true) (hy : evA n al y = .v v) : Val P H s n al (.pick x y z) (.v v) := f_pickT hx hy
theorem f_pickFV {v : Value} (hx : evA n al x = wB false) (hz : evA n al z = .v v) : Val P H s n al (.pick x y z) (.v v) := f_pickF hx hz
theorem f_ext {ds : List D} {k : Nat} {d : D} (hx : evA n al x = .tup ds) (hd : ds[k]? = some d) : Val P H s n al (.extract x k) d := by
  refine ⟨?_⟩; simp only [stepD, ev_T, hx, extractD, hd, keepD]; rfl
/-- Integers of another kind, into int. -/
theorem f_conv {k : IntKind} {src dst : TypeId} {u : TypeDesc} (hx : evA n al x = .v (.int k a)) (hs : P.underlying src = some u) (hd : P.underlying dst = some (.int .i64)) (h1 : -9223372036854775808 ≤ a) (h2 : a ≤ 9223372036854775807) : Val P H s n al (.convert src dst x) (wI a) := by
  refine ⟨?_⟩; simp only [stepD, ev_T, hx, convD, hs, hd, wrap64 h1 h2, keepD]; rfl
theorem f_max (hx : evA n al x = wI a) (hy : evA n al y = wI b) {tys : Array TypeId} : Val P H s n al (.call { callee := .builtin .max, args := #[x, y], argTypes := tys }) (wI (max a b)) := by
  have e : max a b = if b > a then b else a := by omega
  refine ⟨?_⟩; simp only [stepD, List.map_cons, List.map_nil, ev_T, hx, hy, builtinD, maxD, if_true, Option.map_some, e]
theorem f_min (hx : evA n al x = wI a) (hy : evA n al y = wI b) {tys : Array TypeId} : Val P H s n al (.call { callee := .builtin .min, args := #[x, y], argTypes := tys }) (wI (min a b)) := by
  have e : min a b = if b < a then b else a := by omega
  refine ⟨?_⟩; simp only [stepD, List.map_cons, List.map_nil, ev_T, hx, hy, builtinD, maxD, if_true, Option.map_some, e]

theorem f_len {d : D} {m : Int} (hx : evA n al x = d) (hl : lenD d = some m) (ht : isSliceT P tx = true) : Val P H s n al (.call { callee := .builtin .len, args := #[x], argTypes := #[tx] }) (wI m) := by
  subst hx
  refine ⟨?_⟩
  unfold isSliceT at ht
  split at ht
  · rename_i e he
    simp only [stepD, List.map_cons, List.map_nil, ev_T, builtinD, he, hl, Option.map_some]
  · cases ht
theorem f_lenM {α : Type} {f : α → List D} {l : List α} (hx : evA n al x = .sl (l.map f)) (ht : isSliceT P tx = true) : Val P H s n al (.call { callee := .builtin .len, args := #[x], argTypes := #[tx] }) (wI l.length) := f_len hx (by simp [lenD]) ht
theorem f_lenF {α : Type} {f : α → List D} {l : List α} (hx : evA n al x = .fl (l.map f)) (ht : isSliceT P tx = true) : Val P H s n al (.call { callee := .builtin .len, args := #[x], argTypes := #[tx] }) (wI l.length) := f_len hx (by simp [lenD]) ht
theorem f_lenO {bk off m cap : Nat} (hx : evA n al x = .ms bk off m cap) (ht : isSliceT P tx = true) : Val P H s n al (.call { callee := .builtin .len, args := #[x], argTypes := #[tx] }) (wI m) := f_len hx rfl ht
theorem f_lenN (hx : evA n al x = .nil) (ht : isSliceT P tx = true) : Val P H s n al (.call { callee := .builtin .len, args := #[x], argTypes := #[tx] }) (wI 0) := f_len hx rfl ht

/-- An element of a read-only slice. -/
theorem f_ix {α : Type} {f : α → List D} {l : List α} {k : Nat} {w : α} {sz : Nat} (hx : unfl (evA n al x) = .sl (l.map f)) (hy : evA n al y = wI a) (hn : a = k) (hk : l[k]? = some w) (hs : (elemT P tx).map (·.2) = some sz) (hf : (f w).length = sz) :
    Val P H s n al (.indexAddr tx x y) (.rp (f w)) := by
  subst hn
  refine ⟨?_⟩
  have hlt : k < l.length := (List.getElem?_eq_some_iff.1 hk).1
  simp only [Option.map_eq_some_iff] at hs
  obtain ⟨⟨e, s'⟩, he, hs'⟩ := hs
  simp only at hs'; subst hs'
  simp only [stepD, ev_T, indexAddrD, hx, hy, intD, he, List.length_map]
  rw [if_pos ⟨by omega, by omega⟩]
  simp only [Int.toNat_natCast, List.getElem?_map, hk, Option.map_some, if_pos hf, keepD]
theorem f_ixL {α : Type} {f : α → List D} {l : List α} {k : Nat} {sz : Nat} (hx : unfl (evA n al x) = .sl (l.map f)) (hy : evA n al y = wI a) (hn : a = k) (hk : k < l.length) (hs : (elemT P tx).map (·.2) = some sz) (hf : (f l[k]).length = sz) :
    Val P H s n al (.indexAddr tx x y) (.rp (f l[k])) := f_ix hx hy hn (List.getElem?_eq_getElem hk) hs hf
/-- The first elements of a read-only slice; what is behind them. -/
theorem f_slHi {α : Type} {f : α → List D} {l : List α} {k sz : Nat} {te : TypeId} (hx : unfl (evA n al x) = .sl (l.map f)) (hy : evA n al y = wI a) (hn : a = k) (hk : k ≤ l.length) (he : elemT P tx = some (te, sz)) : Val P H s n al (.slice tx x none (some y) none) (.sl ((l.take k).map f)) := by
  subst hn
  refine ⟨?_⟩
  simp only [stepD, ev_T, sliceD, he, hx, Option.map_none, Option.map_some, hy, bndD, intD, List.length_map, Option.isSome_none, Bool.false_eq_true, false_and, if_false]
  rw [if_pos ⟨by omega, by omega, by omega, by simp⟩]
  simp [keepD, List.map_take]
theorem f_slLo {α : Type} {f : α → List D} {l : List α} {k sz : Nat} {te : TypeId} (hx : unfl (evA n al x) = .sl (l.map f)) (hy : evA n al y = wI a) (hn : a = k) (hk : k ≤ l.length) (he : elemT P tx = some (te, sz)) (hf : ∀ w, (f w).length = sz) : Val P H s n al (.slice tx x (some y) none none) (.sl ((l.drop k).map f)) := by
  subst hn
  refine ⟨?_⟩
  simp only [stepD, ev_T, sliceD, he, hx, Option.map_none, Option.map_some, hy, bndD, intD, List.length_map, Option.isSome_none, Bool.false_eq_true, false_and, if_false]
  rw [if_pos ⟨by omega, by omega, by omega, .inr (by simp [hf])⟩]
  simp [keepD, List.map_drop, List.take_of_length_le]
/-- An element of an own block. -/
theorem f_ixO {bk off len cap sz : Nat} {es : List (List D)} {k : Nat} (hx : evA n al x = .ms bk off len cap) (hy : evA n al y = wI a) (hn : a = k) (hb : H[bk]? = some (.live sz es)) (hs : (elemT P tx).map (·.2) = some sz) (hk : k < len) : Val P H s n al (.indexAddr tx x y) (.mp bk (off + k) 0) := by
  subst hn
  refine ⟨?_⟩
  simp only [Option.map_eq_some_iff] at hs
  obtain ⟨⟨e, s'⟩, he, hs'⟩ := hs
  simp only at hs'; subst hs'
  simp only [stepD, ev_T, indexAddrD, hx, unfl, hy, intD, he, hb, Blk.hasSz]
  rw [if_pos ⟨by simp, by omega, by omega⟩]
  simp [keepD]
theorem f_ixO0 {bk len cap sz : Nat} {es : List (List D)} {k : Nat} (hx : evA n al x = .ms bk 0 len cap) (hy : evA n al y = wI a) (hn : a = k) (hb : H[bk]? = some (.live sz es)) (hs : (elemT P tx).map (·.2) = some sz) (hk : k < len) : Val P H s n al (.indexAddr tx x y) (.mp bk k 0) := by
  have := f_ixO (s := s) (P := P) hx hy hn hb hs hk
  rwa [Nat.zero_add] at this

theorem f_ldV {v : Value} {cs : List D} (hx : evA n al x = .rp (.v v :: cs)) (ht : isAggD P tx = some false) : Val P H s n al (.load tx x) (.v v) := by
  refine ⟨?_⟩; simp [stepD, ev_T, hx, loadD, peek, takeD, ht, lowD, flat, flat1, keepD]
theorem f_ldS {es : List (List D)} {cs : List D} (hx : evA n al x = .rp (.sl es :: cs)) (ht : isAggD P tx = some false) : Val P H s n al (.load tx x) (.sl es) := by
  refine ⟨?_⟩; simp [stepD, ev_T, hx, loadD, peek, takeD, ht, lowD, flat, flat1, keepD]
theorem f_ldFl {es : List (List D)} {cs : List D} (hx : evA n al x = .rp (.fl es :: cs)) (ht : isAggD P tx = some false) : Val P H s n al (.load tx x) (.sl es) := by
  refine ⟨?_⟩; simp [stepD, ev_T, hx, loadD, peek, takeD, ht, lowD, keepD]
theorem f_ldG {d : D} {cs : List D} (hx : evA n al x = .rp (d :: cs)) (ht : isAggD P tx = some false) (hf : flat d = true) : Val P H s n al (.load tx x) d := by
  have : lowD d = d := by unfold lowD; cases d <;> first | rfl | (simp_all [flat, flat1]; done) | (simp only [hf, if_true])
  refine ⟨?_⟩; simp [stepD, ev_T, hx, loadD, peek, takeD, ht, this, keepD]
theorem f_ldA {cs ds : List D} {m : Nat} (hx : evA n al x = .rp cs) (ht : isAggD P tx = some true) (hs : tsz P tx = some m) (hn : cs.length = m) (hd : cs.map lowD = ds) : Val P H s n al (.load tx x) (.agg ds) := by
  subst hd
  refine ⟨?_⟩
  simp only [stepD, ev_T, hx, loadD, peek, takeD, ht, hs, List.length_map, hn, Nat.le_refl, if_true, keepD, Option.map_some]
  rw [List.take_of_length_le (by simp [hn])]
/-- A load from an own block. -/
theorem f_ldO {bk k f sz : Nat} {es : List (List D)} {e rest : List D} {d : D} (hx : evA n al x = .mp bk k f) (hb : H[bk]? = some (.live sz es)) (hk : es[k]? = some e) (hd : e.drop f = d :: rest) (ht : isAggD P tx = some false) : Val P H s n al (.load tx x) d := by
  refine ⟨?_⟩; simp [stepD, ev_T, hx, loadD, peek, takeD, ht, keepD, hb, hk, hd]
/-- A load of an aggregate from an own block. -/
theorem f_ldOA {bk k f sz m : Nat} {es : List (List D)} {e : List D} (hx : evA n al x = .mp bk k f) (hb : H[bk]? = some (.live sz es)) (hk : es[k]? = some e) (ht : isAggD P tx = some true) (hs : tsz P tx = some m) (hn : f + m ≤ e.length) : Val P H s n al (.load tx x) (.agg ((e.drop f).take m)) := by
  refine ⟨?_⟩
  simp only [stepD, ev_T, hx, loadD, peek, hb, hk, takeD, ht, hs, List.length_drop]
  rw [if_pos (by omega)]; rfl
/-- All of an element. -/
theorem f_ldOW {bk k sz m : Nat} {es : List (List D)} {e : List D} (hx : evA n al x = .mp bk k 0) (hb : H[bk]? = some (.live sz es)) (hk : es[k]? = some e) (ht : isAggD P tx = some true) (hs : tsz P tx = some m) (hn : e.length = m) : Val P H s n al (.load tx x) (.agg e) := by
  have := f_ldOA (s := s) (P := P) hx hb hk ht hs (by omega)
  rwa [List.drop_zero, List.take_of_length_le (by omega)] at this

theorem fieldOff_of {f o m : Nat} {g : Bool} (ht : fldT P tx f = some (o, m, g)) (hn : m ≠ 0) : fieldOff P tx f = some o := by
  unfold fldT at ht; unfold fieldOff
  split at ht
  · rename_i fs hfs
    simp only [hfs]
    split at ht
    · rename_i x hx
      simp only [hx]
      split at ht
      · rename_i n' b' h1 h2
        cases ht
        simp only [h1, if_neg hn]
      · cases ht
    · cases ht
  · cases ht
theorem f_fa {cs ds : List D} {f o m : Nat} {g : Bool} (hx : evA n al x = .rp cs) (ht : fldT P tx f = some (o, m, g)) (hn : m ≠ 0) (hd : cs.drop o = ds) : Val P H s n al (.fieldAddr tx x f) (.rp ds) := by
  subst hd; refine ⟨?_⟩
  simp only [stepD, ev_T, hx, fieldAddrD, fieldOff_of ht hn, Option.map_some, keepD]
theorem f_fa0 {cs : List D} {f m : Nat} {g : Bool} (hx : evA n al x = .rp cs) (ht : fldT P tx f = some (0, m, g)) (hn : m ≠ 0) : Val P H s n al (.fieldAddr tx x f) (.rp cs) := f_fa hx ht hn rfl
theorem f_fa1 {d1 : D} {cs : List D} {f m : Nat} {g : Bool} (hx : evA n al x = .rp (d1 :: cs)) (ht : fldT P tx f = some (1, m, g)) (hn : m ≠ 0) : Val P H s n al (.fieldAddr tx x f) (.rp cs) := f_fa hx ht hn rfl
theorem f_fa2 {d1 d2 : D} {cs : List D} {f m : Nat} {g : Bool} (hx : evA n al x = .rp (d1 :: d2 :: cs)) (ht : fldT P tx f = some (2, m, g)) (hn : m ≠ 0) : Val P H s n al (.fieldAddr tx x f) (.rp cs) := f_fa hx ht hn rfl
theorem f_fa3 {d1 d2 d3 : D} {cs : List D} {f m : Nat} {g : Bool} (hx : evA n al x = .rp (d1 :: d2 :: d3 :: cs)) (ht : fldT P tx f = some (3, m, g)) (hn : m ≠ 0) : Val P H s n al (.fieldAddr tx x f) (.rp cs) := f_fa hx ht hn rfl
theorem f_faO {bk k c f o m : Nat} {g : Bool} (hx : evA n al x = .mp bk k c) (ht : fldT P tx f = some (o, m, g)) (hn : m ≠ 0) : Val P H s n al (.fieldAddr tx x f) (.mp bk k (c + o)) := by
  refine ⟨?_⟩
  simp only [stepD, ev_T, hx, fieldAddrD, fieldOff_of ht hn, Option.map_some, keepD]
theorem f_faO0 {bk k f o m : Nat} {g : Bool} (hx : evA n al x = .mp bk k 0) (ht : fldT P tx f = some (o, m, g)) (hn : m ≠ 0) : Val P H s n al (.fieldAddr tx x f) (.mp bk k o) := by
  have := f_faO (s := s) (H := H) hx ht hn
  rwa [Nat.zero_add] at this
theorem fieldD_of {cs : List D} {f o m : Nat} {g : Bool} (ht : fldT P tx f = some (o, m, g)) : fieldD P tx f (.agg cs) = if g then (if m ≤ (cs.drop o).length then some (.agg ((cs.drop o).take m)) else none) else (cs.drop o).head? := by
  unfold fldT at ht; unfold fieldD
  split at ht
  · rename_i fs hfs
    simp only [hfs]
    split at ht
    · rename_i x hx
      simp only [hx]
      split at ht
      · rename_i n' b' h1 h2
        cases ht
        cases g <;> simp [takeD, h1, h2]
      · cases ht
    · cases ht
  · cases ht
theorem f_fd {cs rest : List D} {f o m : Nat} {d : D} (hx : evA n al x = .agg cs) (ht : fldT P tx f = some (o, m, false)) (hd : cs.drop o = d :: rest) : Val P H s n al (.field tx x f) d := by
  refine ⟨?_⟩; simp [stepD, ev_T, hx, fieldD_of ht, hd, keepD]
theorem f_mkf {f : Fn} {as' bs' : List Operand} {ds es : List D} (h1 : as'.map (evA n al) = ds) (h2 : bs'.map (evA n al) = es) : Val P H s n al (.makeFunc f as'.toArray bs'.toArray) (.fn f ds es) := by
  subst h1; subst h2; refine ⟨?_⟩; simp only [stepD, map_ev_T]
theorem f_build {ps : List (Nat × Operand)} {d : D} (h : buildD P tx (ps.map fun p => (p.1, evA n al p.2)) = some d) : Val P H s n al (.build tx ps.toArray) d := by
  refine ⟨?_⟩; simp only [stepD, ev_T, h, keepD]; rfl

/-- An operation that makes a block. -/
structure Mk (P : Program) (H : List Blk) (s n : Nat) (al : AL) (op : Op) (d : D) (k : Blk) : Prop where
  out : stepD P H s (T n al) op = some (d, .put k)
theorem f_alloc {z : List D} (hz : zeroD P tx = some z) : Mk P H s n al (.alloc tx) (.mp s 0 0) (.live z.length [z]) := by
  refine ⟨?_⟩; simp only [stepD, hz, Option.map_some]
theorem f_allocL {z : List D} {m : Nat} (hz : zeroD P tx = some z) (hm : z.length = m) : Mk P H s n al (.alloc tx) (.mp s 0 0) (.live m [z]) := by
  subst hm; exact f_alloc hz
theorem f_boxV {v : Value} (hx : evA n al x = .v v) (hc : (cellsD (.v v)) = [.v v]) (hc' : isCell (.v v) = true) : Mk P H s n al (.box tx x) (.mp s 0 0) (.live 1 [[.v v]]) := by
  refine ⟨?_⟩; simp only [stepD, ev_T, hx, hc, List.all_cons, hc', List.all_nil, Bool.and_true, if_true]; rfl
theorem f_box {d : D} {cs : List D} {m : Nat} (hx : evA n al x = d) (hcs : cellsD d = cs) (hc : cs.all isCell = true) (hm : cs.length = m) : Mk P H s n al (.box tx x) (.mp s 0 0) (.live m [cs]) := by
  subst hx; subst hcs; subst hm; refine ⟨?_⟩; simp only [stepD, ev_T, hc, if_true]
theorem f_boxS {es : List (List D)} (hx : evA n al x = .sl es) : Mk P H s n al (.box tx x) (.mp s 0 0) (.live 1 [[.sl es]]) := f_box hx rfl rfl rfl
theorem f_boxF {es : List (List D)} (hx : evA n al x = .fl es) : Mk P H s n al (.box tx x) (.mp s 0 0) (.live 1 [[.fl es]]) := f_box hx rfl rfl rfl
theorem f_boxO {b o m c : Nat} (hx : evA n al x = .ms b o m c) : Mk P H s n al (.box tx x) (.mp s 0 0) (.live 1 [[.ms b o m c]]) := f_box hx rfl rfl rfl
theorem f_boxP {b k f : Nat} (hx : evA n al x = .mp b k f) : Mk P H s n al (.box tx x) (.mp s 0 0) (.live 1 [[.mp b k f]]) := f_box hx rfl rfl rfl
theorem f_boxR {cs : List D} (hx : evA n al x = .rp cs) : Mk P H s n al (.box tx x) (.mp s 0 0) (.live 1 [[.rp cs]]) := f_box hx rfl rfl rfl
theorem f_boxN  (hx : evA n al x = .nil) : Mk P H s n al (.box tx x) (.mp s 0 0) (.live 1 [[.nil]]) := f_box hx rfl rfl rfl
theorem f_boxU {f : Fn} {ds es : List D} (hx : evA n al x = .fn f ds es) : Mk P H s n al (.box tx x) (.mp s 0 0) (.live 1 [[.fn f ds es]]) := f_box hx rfl rfl rfl
theorem f_boxA {cs : List D} {m : Nat} (hx : evA n al x = .agg cs) (hc : cs.all isCell = true) (hm : cs.length = m) : Mk P H s n al (.box tx x) (.mp s 0 0) (.live m [cs]) := f_box hx rfl hc hm
theorem f_bsl {ps : List (Nat × Operand)} {len sz : Nat} {es : List (List D)} (h : buildSliceD P tx len (ps.map fun p => (p.1, evA n al p.2)) = some (sz, es)) : Mk P H s n al (.buildSlice tx len ps.toArray) (.ms s 0 len len) (.live sz es) := by
  refine ⟨?_⟩; simp only [stepD, ev_T, h, Option.map_some]
/-- A slice of words is made. -/
theorem f_make {te : TypeId} {z : List D} {m sz by' : Nat} (hx : evA n al x = wI a) (hy : evA n al y = wI a) (he : elemT P tx = some (te, sz)) (hz : zeroD P te = some z) (hl : z.length = sz) (h0 : 0 < sz) (hby : P.bytesOf te = by') (hm : a = m) (hb : by' * m ≤ 281474976710656) (hb2 : m ≤ 9223372036854775807) :
    Mk P H s n al (.makeSlice tx x y) (.ms s 0 m m) (.live sz (List.replicate m z)) := by
  subst hm; subst hl
  refine ⟨?_⟩
  have hc : (0 : Int) ≤ m ∧ (m : Int) ≤ m ∧ (P.bytesOf te : Int) * (m : Int) ≤ 281474976710656 ∧ (m : Int) ≤ 9223372036854775807 ∧ 0 < z.length ∧ True :=
    ⟨by omega, Int.le_refl _, by rw [hby]; have h := Int.ofNat_le.2 hb; rw [Int.natCast_mul] at h; omega, by omega, h0, trivial⟩
  have e : makeSliceD P tx (wI m) (wI m) = some (m, m, z.length, List.replicate m z) := by
    unfold makeSliceD
    simp only [intD, he, hz]
    exact if_pos hc
  simp only [stepD, ev_T, hx, hy, e, Option.map_some]
/-- The same with a place for more. -/
theorem f_makeC {te : TypeId} {z : List D} {k m sz by' : Nat} (hx : evA n al x = wI a) (hy : evA n al y = wI b) (he : elemT P tx = some (te, sz)) (hz : zeroD P te = some z) (hl : z.length = sz) (h0 : 0 < sz) (hby : P.bytesOf te = by') (hk : a = k) (hm : b = m) (hkm : k ≤ m) (hb : by' * m ≤ 281474976710656) (hb2 : m ≤ 9223372036854775807) :
    Mk P H s n al (.makeSlice tx x y) (.ms s 0 k m) (.live sz (List.replicate m z)) := by
  subst hm; subst hl; subst hk
  refine ⟨?_⟩
  have hc : (0 : Int) ≤ k ∧ (k : Int) ≤ m ∧ (P.bytesOf te : Int) * (m : Int) ≤ 281474976710656 ∧ (m : Int) ≤ 9223372036854775807 ∧ 0 < z.length ∧ True :=
    ⟨by omega, by omega, by rw [hby]; have h := Int.ofNat_le.2 hb; rw [Int.natCast_mul] at h; omega, by omega, h0, trivial⟩
  have e : makeSliceD P tx (wI k) (wI m) = some (k, m, z.length, List.replicate m z) := by
    unfold makeSliceD
    simp only [intD, he, hz]
    exact if_pos hc
  simp only [stepD, ev_T, hx, hy, e, Option.map_some]

/-- An operation that writes into a block. -/
structure Wr (P : Program) (H : List Blk) (s n : Nat) (al : AL) (op : Op) (b : Nat) (k : Blk) : Prop where
  out : stepD P H s (T n al) op = some (.any, .upd b k)
theorem f_st {bk k f sz m : Nat} {es : List (List D)} {e cs e' : List D} {d : D} (hx : evA n al x = .mp bk k f) (hb : H[bk]? = some (.live sz es)) (hk : es[k]? = some e) (hd : evA n al y = d) (hcs : cellsD d = cs) (hc : cs.all isCell = true) (hs : tsz P tx = some m) (hm : cs.length = m)
    (hl : f + m ≤ e.length) (he' : splice e f cs = e') : Wr P H s n al (.store tx x y) bk (.live sz (es.set k e')) := by
  subst hd; subst hcs; subst hm; subst he'
  refine ⟨?_⟩
  simp only [stepD, ev_T, hx, storeD, hb, hk]
  rw [if_pos ⟨hc, hs, hl⟩]; rfl
theorem f_stA {bk k f sz m : Nat} {es : List (List D)} {e cs e' : List D} (hx : evA n al x = .mp bk k f) (hb : H[bk]? = some (.live sz es)) (hk : es[k]? = some e) (hd : evA n al y = .agg cs) (hc : cs.all isCell = true) (hs : tsz P tx = some m) (hm : cs.length = m)
    (hl : f + m ≤ e.length) (he' : splice e f cs = e') : Wr P H s n al (.store tx x y) bk (.live sz (es.set k e')) := f_st hx hb hk hd rfl hc hs hm hl he'
/-- A value of one cell is written. -/
theorem f_stV {bk k sz : Nat} {es : List (List D)} {d0 d : D} (hx : evA n al x = .mp bk k 0) (hb : H[bk]? = some (.live sz es)) (hk : es[k]? = some [d0]) (hd : evA n al y = d) (hc : cellsD d = [d]) (hc' : isCell d = true) (hs : tsz P tx = some 1) :
    Wr P H s n al (.store tx x y) bk (.live sz (es.set k [d])) :=
  f_st hx hb hk hd hc (by simp [hc']) hs rfl (by simp) (by simp [splice])

/-- An append, onto a block of one's own or onto nothing. -/
structure Ap (P : Program) (H : List Blk) (s n : Nat) (al : AL) (op : Op) (m : Nat) (o : Option Nat) (k : Blk) : Prop where
  out : stepD P H s (T n al) op = some (.ms s 0 m m, .ren o k)
theorem f_app {t t' : TypeId} {d d' : D} {o : Option Nat} {sz m : Nat} {es : List (List D)} (hx : evA n al x = d) (hy : evA n al y = d') (h : appendD P H t t' d d' = some (o, sz, es)) (hm : es.length = m) :
    Ap P H s n al (.call { callee := .builtin .append, args := #[x, y], argTypes := #[t, t'] }) m o (.live sz es) := by
  subst hx; subst hy; subst hm
  refine ⟨?_⟩
  simp only [stepD, List.map_cons, List.map_nil, ev_T, builtinD, h, Option.map_some]
end

section
variable {E : Ev} {ops r : List Oper} {n : Nat} {a : AL} {H H' : List Blk} {g : Gst} {K : KA} {i : Tmp} {op : Op} {ty : TypeId} {pos : String} {aft : Array Edge} {d : D}

theorem RT.v (hv : Val E.P H H.length n a op d) (h : RT E ops r n ((i, d) :: a) H g K) : RT E ops (⟨some i, op, ty, pos, aft, none⟩ :: r) n a H g K := RT.stepG (e := .keep) rfl hv.out h
theorem RT.new {s : Nat} {k : Blk} (hs : H.length = s) (hv : Mk E.P H s n a op d k) (hH : H ++ [k] = H') (h : RT E ops r n ((i, d) :: a) H' g K) : RT E ops (⟨some i, op, ty, pos, aft, none⟩ :: r) n a H g K := by
  subst hs; subst hH; exact RT.stepG (e := .put k) rfl hv.out h
theorem RT.wr {b : Nat} {k : Blk} (hv : Wr E.P H H.length n a op b k) (hH : H.set b k = H') (h : RT E ops r n a H' g K) : RT E ops (⟨none, op, ty, pos, aft, none⟩ :: r) n a H g K := by
  subst hH; exact RT.stepG (e := .upd b k) rfl hv.out h
theorem RT.ap {s m : Nat} {o : Option Nat} {k : Blk} (hs : H.length = s) (hv : Ap E.P H s n a op m o k) (hH : killO H o ++ [k] = H') (h : RT E ops r n ((i, .ms s 0 m m) :: a) H' g K) : RT E ops (⟨some i, op, ty, pos, aft, none⟩ :: r) n a H g K := by
  subst hs; subst hH; exact RT.stepG (e := .ren o k) rfl hv.out h
/-- A guard that is not decided yet. -/
theorem RT.gc {l : List Oper} {o : Oper} {j : Nat} {w : Bool} {i : Nat} {p : Prop} [Decidable p] (hg : o.guard = some (j, w)) (hi : guardI ops j = some i) (he : lkN n a i = wB (decide p)) (h1 : p → RT E ops (o :: l) n ((i, wB true) :: a) H g K) (h2 : ¬ p → RT E ops (o :: l) n ((i, wB false) :: a) H g K) : RT E ops (o :: l) n a H g K :=
  RT.case he (fun e => h1 (of_decide_eq_true e)) fun e => h2 (of_decide_eq_false e)
theorem RT.gb {l : List Oper} {o : Oper} {j : Nat} {w : Bool} {i : Nat} {b : Bool} (hg : o.guard = some (j, w)) (hi : guardI ops j = some i) (he : lkN n a i = wB b) (h1 : b = true → RT E ops (o :: l) n ((i, wB true) :: a) H g K) (h2 : b = false → RT E ops (o :: l) n ((i, wB false) :: a) H g K) : RT E ops (o :: l) n a H g K :=
  RT.case he h1 h2
theorem RT.gcY {l : List Oper} {o : Oper} {j : Nat} {w : Bool} {i : Nat} {p : Prop} [Decidable p] (hg : o.guard = some (j, w)) (hi : guardI ops j = some i) (he : lkN n a i = wB (decide p)) (hp : p) (h1 : RT E ops (o :: l) n ((i, wB true) :: a) H g K) : RT E ops (o :: l) n a H g K :=
  RT.gc hg hi he (fun _ => h1) fun e => absurd hp e
theorem RT.gcN {l : List Oper} {o : Oper} {j : Nat} {w : Bool} {i : Nat} {p : Prop} [Decidable p] (hg : o.guard = some (j, w)) (hi : guardI ops j = some i) (he : lkN n a i = wB (decide p)) (hp : ¬ p) (h1 : RT E ops (o :: l) n ((i, wB false) :: a) H g K) : RT E ops (o :: l) n a H g K :=
  RT.gc hg hi he (fun e => absurd e hp) fun _ => h1
/-- A call of a function with a plain contract. -/
theorem RT.callM {f : Operand} {args : List Operand} {tys : Array TypeId} {f' : FuncId} {xs ys : List D} (hc : callA n a f args = some (f', xs)) (hm : Maps E.P f' ys d) (hy : xs.map (snap (fun b => H[b]?) 5) = ys) (hd : freshD 5 d = true) (h : RT E ops r n ((i, d) :: a) H g K) :
    RT E ops (⟨some i, .call { callee := .value f, args := args.toArray, argTypes := tys }, ty, pos, aft, none⟩ :: r) n a H g K := by
  subst hy; exact RT.callG hc (call_fresh hm hd h)
end

section
variable {E : Ev} {ops r : List Oper} {base s : Nat} {hs : List Nat} {pl : List (Nat × List Nat)} {n : Nat} {a : AL} {H H' : List Blk} {K : KP} {i : Tmp} {op : Op} {ty : TypeId} {pos : String} {aft : Array Edge} {d : D}
theorem PT.v (hv : Val E.P (maskL base hs H) (base + s) n a op d) (h : PT E ops base pl r n ((i, d) :: a) H K) : PT E ops base ((s, hs) :: pl) (⟨some i, op, ty, pos, aft, none⟩ :: r) n a H K := PT.stepG (e := .keep) rfl hv.out h
theorem PT.new {k : Blk} {s' : Nat} (hs' : base + s = s') (hv : Mk E.P (maskL base hs H) s' n a op d k) (hH : H.set s' k = H') (h : PT E ops base pl r n ((i, d) :: a) H' K) : PT E ops base ((s, hs) :: pl) (⟨some i, op, ty, pos, aft, none⟩ :: r) n a H K := by
  subst hs'; subst hH; exact PT.stepG (e := .put k) rfl hv.out h
theorem PT.wr {b : Nat} {k : Blk} (hv : Wr E.P (maskL base hs H) (base + s) n a op b k) (hH : H.set b k = H') (h : PT E ops base pl r n a H' K) : PT E ops base ((s, hs) :: pl) (⟨none, op, ty, pos, aft, none⟩ :: r) n a H K := by
  subst hH; exact PT.stepG (e := .upd b k) rfl hv.out h
theorem PT.ap {s' m : Nat} {o : Option Nat} {k : Blk} (hs' : base + s = s') (hv : Ap E.P (maskL base hs H) s' n a op m o k) (hH : (killO H o).set s' k = H') (h : PT E ops base pl r n ((i, .ms s' 0 m m) :: a) H' K) : PT E ops base ((s, hs) :: pl) (⟨some i, op, ty, pos, aft, none⟩ :: r) n a H K := by
  subst hs'; subst hH; exact PT.stepG (e := .ren o k) rfl hv.out h
end

theorem DLe.i {d : D} {a b : Int} (hd : d = wI a) (h : b = a) : DLe d (wI b) := by subst hd; subst h; exact .inr (.inl rfl)
theorem DLe.b {d : D} {a b : Bool} (hd : d = wB a) (h : b = a) : DLe d (wB b) := by subst hd; subst h; exact .inr (.inl rfl)
theorem DLe.e {d d' : D} (h : d' = d) : DLe d d' := .inr (.inl h)
end
end Go.DL

/- Which goal, which operation: each of these changes nothing; it goes through where its form fits. -/
namespace Go.DL
open Go.RowKit Go.Proofs

noncomputable section

section
variable {E : Ev} {ops l r : List Oper} {n : Nat} {a : AL} {H : List Blk} {g : Gst} {K : KA} {c : Code} {Q : KX} {dst : Option Tmp} {i : Tmp} {op : Op} {x y z : Operand} {tx ty ty' : TypeId} {pos : String} {aft : Array Edge} {j : Nat × Bool} {f : Nat} {bo : BinOp} {uo : UnOp}
theorem d_kEr {rs : List ResultVar} {R : D → List Blk → Gst → Prop} {P : Program} (h : kEnd P rs n R .ret a H g) : kEnd P rs n R .ret a H g := h
theorem d_kEn {rs : List ResultVar} {R : D → List Blk → Gst → Prop} {P : Program} (h : kEnd P rs n R .normal a H g) : kEnd P rs n R .normal a H g := h
theorem d_VT (h : VT E c n a H g Q) : VT E c n a H g Q := h
theorem d_RT (h : RT E ops l n a H g K) : RT E ops l n a H g K := h
theorem d_g (h : RT E ops (⟨dst, op, ty, pos, aft, some j⟩ :: r) n a H g K) : RT E ops (⟨dst, op, ty, pos, aft, some j⟩ :: r) n a H g K := h
theorem d_call {cl : Call} (h : RT E ops (⟨dst, .call cl, ty, pos, aft, none⟩ :: r) n a H g K) : RT E ops (⟨dst, .call cl, ty, pos, aft, none⟩ :: r) n a H g K := h
theorem d_bld {ps : Array (Nat × Operand)} (h : RT E ops (⟨dst, .build tx ps, ty, pos, aft, none⟩ :: r) n a H g K) : RT E ops (⟨dst, .build tx ps, ty, pos, aft, none⟩ :: r) n a H g K := h
end
section
variable {E : Ev} {ops l r : List Oper} {base : Nat} {pl : List (Nat × List Nat)} {n : Nat} {a : AL} {H : List Blk} {K : KP} {dst : Option Tmp} {i : Tmp} {op : Op} {x y z : Operand} {tx ty ty' : TypeId} {pos : String} {aft : Array Edge} {j : Nat × Bool} {f : Nat} {bo : BinOp} {uo : UnOp}
theorem d_PT (h : PT E ops base pl l n a H K) : PT E ops base pl l n a H K := h
theorem p_g (h : PT E ops base pl (⟨dst, op, ty, pos, aft, some j⟩ :: r) n a H K) : PT E ops base pl (⟨dst, op, ty, pos, aft, some j⟩ :: r) n a H K := h
theorem p_call {cl : Call} (h : PT E ops base pl (⟨dst, .call cl, ty, pos, aft, none⟩ :: r) n a H K) : PT E ops base pl (⟨dst, .call cl, ty, pos, aft, none⟩ :: r) n a H K := h
end

/-- How spines of lists are computed. -/
theorem nrm : (∀ (α : Type) (x : α) (l m : List α), x :: l ++ m = x :: (l ++ m)) ∧ (∀ (α : Type) (l : List α), [] ++ l = l) ∧ (∀ (α : Type) (l : List α), l ++ [] = l) ∧ (∀ (α : Type) (x y : α) (l : List α), (x :: l).set 0 y = y :: l) ∧
    (∀ (α : Type) (x y : α) (l : List α) (n : Nat), (x :: l).set (n + 1) y = x :: l.set n y) ∧ (∀ (α : Type) (x : α) (l : List α), (x :: l).length = l.length + 1) ∧ (∀ (α : Type), ([] : List α).length = 0) ∧
    (∀ (α β : Type) (f : α → β) (x : α) (l : List α), (x :: l).map f = f x :: l.map f) ∧ (∀ (α β : Type) (f : α → β), [].map f = []) ∧ (∀ (α : Type) (x y : α) (l : List α), (x :: y :: l).dropLast = x :: (y :: l).dropLast) ∧ (∀ (α : Type) (x : α), [x].dropLast = []) ∧
    (∀ (H : List Blk), killO H none = H) ∧ (∀ (H : List Blk) (b : Nat), killO H (some b) = H.set b .dead) ∧ (∀ (α : Type) (x : α) (l : List α) (n : Nat), (x :: l).take (n + 1) = x :: l.take n) ∧ (∀ (α : Type) (l : List α), l.take 0 = []) ∧
    (∀ (α : Type) (x : α) (l : List α) (n : Nat), (x :: l).drop (n + 1) = l.drop n) ∧ (∀ (α : Type) (l : List α), l.drop 0 = l) ∧ (∀ (e ds : List D) (f : Nat), splice e f ds = e.take f ++ ds ++ e.drop (f + ds.length)) ∧
    (∀ v, lowD (.v v) = .v v) ∧ (∀ es, lowD (.sl es) = .sl es) ∧ (∀ es, lowD (.fl es) = .sl es) ∧ (∀ (α : Type) (n : Nat) (x : α), List.replicate (n + 1) x = x :: List.replicate n x) ∧ (∀ (α : Type) (x : α), List.replicate 0 x = []) ∧
    (∀ (α : Type) (n : Nat), ([] : List α).take n = []) ∧ (∀ (α : Type) (n : Nat), ([] : List α).drop n = []) :=
  ⟨fun _ _ _ _ => rfl, fun _ _ => rfl, fun _ _ => List.append_nil _, fun _ _ _ _ => rfl, fun _ _ _ _ _ => rfl, fun _ _ _ => rfl, fun _ => rfl, fun _ _ _ _ _ => rfl, fun _ _ _ => rfl, fun _ _ _ _ => rfl, fun _ _ => rfl, fun _ => rfl, fun _ _ => rfl, fun _ _ _ _ => rfl, fun _ _ => rfl,
   fun _ _ _ _ => rfl, fun _ _ => rfl, fun _ _ _ => rfl, fun _ => rfl, fun _ => rfl, fun _ => rfl, fun _ _ _ => rfl, fun _ _ => rfl, fun _ _ => List.take_nil, fun _ _ => List.drop_nil⟩

/-- A call of a function that works on own blocks: its result, and what it leaves. -/
theorem RT.callS {E : Ev} {ops r : List Oper} {n : Nat} {a : AL} {H : List Blk} {g : Gst} {K : KA} {i : Tmp} {f : Operand} {args : List Operand} {tys : Array TypeId} {ty : TypeId} {pos : String} {aft : Array Edge} {f' : FuncId} {xs ys : List D} {d d2 : D} {H1 H2 : List Blk}
    (hc : callA n a f args = some (f', xs)) (hs : CallSp E.P f' ys H fun d' H' => d' = d ∧ H' = H1) (hy : xs = ys) (hd : d = d2) (hH : H1 = H2) (h : RT E ops r n ((i, d2) :: a) H2 g K) :
    RT E ops (⟨some i, .call { callee := .value f, args := args.toArray, argTypes := tys }, ty, pos, aft, none⟩ :: r) n a H g K := by
  subst hy; subst hd; subst hH
  exact RT.callG hc (hs.mono fun d' H' ⟨h1, h2⟩ => by subst h1; subst h2; exact h)
/-- What a closure may hold: values that read the same wherever they are looked at from. -/
def stab1 : D → Bool
  | .v _ | .sl _ | .rp _ | .any => true
  | .fn _ [] [] => true
  | _ => false
theorem stab1_snap {d : D} (h : stab1 d = true) (lk : Nat → Option Blk) (k : Nat) : snap lk k d = d := by
  unfold stab1 at h
  split at h <;> first | (cases k <;> rfl) | cases h
theorem stab1_low {d : D} (h : stab1 d = true) (k K : Nat) : lowB (k + 1) K d = true := by
  unfold stab1 at h
  split at h <;> first | rfl | cases h
theorem stab_snap {cs : List D} (h : cs.all stab1 = true) (lk : Nat → Option Blk) (k : Nat) : cs.map (snap lk k) = cs := by
  rw [List.all_eq_true] at h
  conv => rhs; rw [← List.map_id cs]
  exact List.map_congr_left fun d hd => stab1_snap (h d hd) lk k
theorem stab_low {cs : List D} (h : cs.all stab1 = true) (k K : Nat) : cs.all (lowB (k + 1) K) = true := by
  rw [List.all_eq_true] at h ⊢
  exact fun d hd => stab1_low (h d hd) k K
theorem flat_fn {f : Fn} {cs : List D} (h : cs.all stab1 = true) : flat (.fn f [] cs) = true := by
  simp only [flat, List.all_nil, Bool.true_and]
  rw [List.all_eq_true] at h ⊢
  intro d hd
  have := h d hd
  unfold stab1 at this
  split at this <;> first | rfl | cases this
end
end Go.DL

/- Lists of words in blocks of one's own; an own block that becomes read-only. -/
namespace Go.DL
open Go.RowKit Go.Proofs

noncomputable section

def eI (x : Int) : List D := [wI x]
theorem eI_all (o : List Int) (p : D → Bool) (h : ∀ x, p (wI x) = true) : (o.map eI).all (fun e => e.all p) = true := by
  simp [eI, h]
theorem eI_map (o : List Int) (f : D → D) (h : ∀ x, f (wI x) = wI x) : (o.map eI).map (List.map f) = o.map eI := by
  rw [List.map_map]; refine List.map_congr_left fun x _ => ?_
  simp [eI, h]
theorem snapW {lk : Nat → Option Blk} {b m cap k : Nat} {o : List Int} (h : lk b = some (.live 1 (o.map eI))) (hm : m = o.length) : snap lk (k + 1) (.ms b 0 m cap) = .sl (o.map eI) := by
  subst hm
  simp only [snap, h, Nat.zero_add, List.length_map, Nat.le_refl, if_true, List.drop_zero]
  rw [List.take_of_length_le (by simp), eI_map _ _ fun x => by cases k <;> rfl]
theorem snapRW {lk : Nat → Option Blk} {b m cap k : Nat} {o : List Int} (h : lk b = some (.live 1 (o.map eI))) (hm : m = o.length) : snapR lk (k + 1) (.ms b 0 m cap) = .fl (o.map eI) := by
  subst hm
  simp only [snapR, h, Nat.zero_add, List.length_map, Nat.le_refl, if_true, List.drop_zero]
  rw [if_pos (eI_all _ _ fun x => by cases k <;> rfl), List.take_of_length_le (by simp), eI_map _ _ fun x => by cases k <;> rfl]
theorem eI_low (o : List Int) (K : Nat) : BlkBelow K (.live 1 (o.map eI)) := by
  intro e he d hd
  simp only [List.mem_map] at he
  obtain ⟨x, _, rfl⟩ := he
  simp only [eI, List.mem_singleton] at hd
  subst hd; rfl

section
variable {P : Program} {n s : Nat} {al : AL} {H : List Blk} {x y z : Operand} {tx ty' : TypeId} {a b : Int}
theorem f_ldW {bk k : Nat} {o : List Int} (hx : evA n al x = .mp bk k 0) (hb : H[bk]? = some (.live 1 (o.map eI))) (hk : k < o.length) (ht : isAggD P tx = some false) : Val P H s n al (.load tx x) (wI o[k]) :=
  f_ldO hx hb (e := eI o[k]) (by simp [hk]) rfl ht
theorem f_stW {bk k : Nat} {o : List Int} (hx : evA n al x = .mp bk k 0) (hb : H[bk]? = some (.live 1 (o.map eI))) (hk : k < o.length) (hy : evA n al y = wI a) (hs : tsz P tx = some 1) : Wr P H s n al (.store tx x y) bk (.live 1 ((o.set k a).map eI)) := by
  have h := f_stV (s := s) (P := P) (tx := tx) (sz := 1) (d0 := wI o[k]) hx hb (by simp [hk, eI]) hy rfl rfl hs
  rw [List.map_set]; exact h
theorem f_makeW {te : TypeId} {m : Nat} (hx : evA n al x = wI a) (hy : evA n al y = wI a) (he : elemT P tx = some (te, 1)) (hz : zeroD P te = some [wI 0]) (hby : P.bytesOf te = 8) (hm : a = m) (hb : m ≤ 35184372088832) :
    Mk P H s n al (.makeSlice tx x y) (.ms s 0 m m) (.live 1 ((List.replicate m 0).map eI)) := by
  rw [List.map_replicate]
  exact f_make hx hy he hz rfl (by decide) hby hm (by omega) (by omega)
theorem f_bslW1 {te : TypeId} (hx : evA n al x = wI a) (he : elemT P tx = some (te, 1)) (hz : zeroD P te = some [wI 0]) : Mk P H s n al (.buildSlice tx 1 #[(0, x)]) (.ms s 0 1 1) (.live 1 ([a].map eI)) :=
  f_bsl (ps := [(0, x)]) (by simp [buildSliceD, he, hz, rowsD, hx, cellsD, isCell, eI, List.replicate]; rfl)
/-- A word is appended to a slice of one's own. -/
theorem f_appW {te : TypeId} {m c m' c' b1 b2 : Nat} {o v : List Int} (hx : evA n al x = .ms b1 0 m c) (hy : evA n al y = .ms b2 0 m' c') (hb1 : H[b1]? = some (.live 1 (o.map eI))) (hb2 : H[b2]? = some (.live 1 (v.map eI))) (hm : m = o.length) (hm' : m' = v.length)
    (he : elemT P tx = some (te, 1)) (hz : zeroD P te = some [wI 0]) (hby : P.bytesOf te = 8) (hl : o.length + v.length ≤ 17592186044416) :
    Ap P H s n al (.call { callee := .builtin .append, args := #[x, y], argTypes := #[tx, tx] }) (o ++ v).length (some b1) (.live 1 ((o ++ v).map eI)) := by
  subst hm; subst hm'
  have hu : P.underlying tx = some (.slice te) := by
    unfold elemT at he
    split at he
    · rename_i e hu; simp only [Option.map_eq_some_iff] at he; obtain ⟨_, _, h⟩ := he; cases h; exact hu
    · cases he
  refine f_app hx hy ?_ (by simp)
  have e1 : elemsD H (.ms b1 0 o.length c) = some (o.map eI) := by
    simp only [elemsD, hb1, Nat.zero_add, List.length_map, Nat.le_refl, if_true, List.drop_zero]
    rw [List.take_of_length_le (by simp)]
  have e2 : elemsD H (.ms b2 0 v.length c') = some (v.map eI) := by
    simp only [elemsD, hb2, Nat.zero_add, List.length_map, Nat.le_refl, if_true, List.drop_zero]
    rw [List.take_of_length_le (by simp)]
  simp only [appendD, addedD, he, hu, e1, e2]
  rw [if_pos]
  · simp only [hb1, Blk.hasSz]; simp
  · refine ⟨by decide, by rw [hz]; rfl, by simp [eI], by simp [eI], eI_all _ _ fun x => rfl, ?_, ?_⟩
    · rw [hby, List.length_map, List.length_map]; omega
    · rw [List.length_map, List.length_map]; omega
end

/-- OWN BLOCK b IS READ-ONLY FROM NOW ON. -/
theorem T_map (n : Nat) (a : AL) (f : D → D) (hf : f .any = .any) : (T n a).map f = T n (a.map fun p => (p.1, f p.2)) := by
  unfold T
  rw [List.map_map]
  refine List.map_congr_left fun i _ => ?_
  simp only [Function.comp]
  induction a with
  | nil => exact hf
  | cons p a ih =>
    obtain ⟨k, d⟩ := p
    simp only [List.map_cons, lk]
    cases Nat.beq k i with
    | true => rfl
    | false => exact ih
def Sl (n : Nat) (a : AL) (b : Nat) (es : List (List D)) : AL → Prop
  | [] => True
  | (i, d) :: r => (d = .any ∨ d = sealD b es (lkN n a i)) ∧ Sl n a b es r
theorem Sl.hd {n : Nat} {a : AL} {b : Nat} {es : List (List D)} : ∀ {a' : AL}, Sl n a b es a' → Hd n (a.map fun p => (p.1, sealD b es p.2)) a'
  | [], _ => trivial
  | (i, d) :: r, h => by
    refine ⟨?_, h.2.hd⟩
    rcases h.1 with e | e
    · exact .inl e
    · refine .inr (.inl ?_)
      rw [e]
      unfold lkN
      cases Nat.blt i n with
      | false => rfl
      | true =>
        simp only [cond_true]
        clear h e
        induction a with
        | nil => rfl
        | cons p a ih =>
          obtain ⟨k, d⟩ := p
          simp only [List.map_cons, lk]
          cases Nat.beq k i with
          | true => rfl
          | false => exact ih
theorem VT.sealUp {E : Ev} {n : Nat} {a : AL} {H H' : List Blk} {g : Gst} {c : Code} {Q : KX} (b : Nat) (a' : AL) {sz : Nat} {es : List (List D)} (hb : H[b]? = some (.live sz es)) (hf : (es.all fun e => e.all pur) = true) (hN : E.N ≤ b) (hA : Sl n a b es a')
    (hH : (H.map (sealB b es)).set b .dead = H') (hl : (a'.all fun p => lowB 4 H'.length p.2) = true) (hbb : ∀ b ∈ H', BlkBelow H'.length b) (h : VT E c n a' H' g Q) : VT E c n a H g Q := by
  subst hH
  refine ⟨fun ro G hE ds ac w ⟨A, φ, hr⟩ => ?_⟩
  have h1 := hr.sealUp hE.st hb (fun i e j d h1 h2 => List.all_eq_true.1 (List.all_eq_true.1 hf e (List.mem_of_getElem? h1)) d (List.mem_of_getElem? h2))
  rw [T_map _ _ _ rfl] at h1
  have hlt : b < H.length := (List.getElem?_eq_some_iff.1 hb).1
  refine h.out ro G hE ds ac w (Fg.fr (N := E.N) ⟨hA.hd, ?_, ?_, hl, hbb⟩ hE.st hE.le ⟨_, _, h1⟩)
  · rw [List.take_of_length_le (by simp)]
  · simp; omega
/-- The whole of a block of words. -/
theorem sealW {b m cap : Nat} {o : List Int} (hm : m = o.length) : DL.sealD b (o.map eI) (.ms b 0 m cap) = .fl (o.map eI) := by
  subst hm
  simp only [sealD, if_true, sealS, Nat.zero_add, List.length_map, Nat.le_refl, List.drop_zero]
  rw [if_pos (eI_all _ _ fun x => rfl), List.take_of_length_le (by simp), eI_map _ _ fun x => rfl]
theorem sealBW {b : Nat} {es : List (List D)} {o : List Int} : DL.sealB b es (.live 1 (o.map eI)) = .live 1 (o.map eI) := by
  simp only [sealB]; rw [eI_map _ _ fun x => rfl]
theorem purW (o : List Int) : ((o.map eI).all fun e => e.all pur) = true := eI_all _ _ fun x => rfl
theorem bb_nil {K : Nat} : ∀ b, b ∈ ([] : List Blk) → BlkBelow K b := fun _ h => by cases h
theorem bb_cons {K : Nat} {x : Blk} {l : List Blk} (h : BlkBelow K x) (hs : ∀ b, b ∈ l → BlkBelow K b) : ∀ b, b ∈ x :: l → BlkBelow K b := fun b hb => by
  rcases List.mem_cons.1 hb with e | e
  · rw [e]; exact h
  · exact hs b e
theorem bb_dead {K : Nat} : BlkBelow K .dead := trivial
theorem bb_free {K : Nat} : BlkBelow K .free := trivial
theorem bb_lit {K sz : Nat} {es : List (List D)} (h : (es.all fun e => e.all (lowB 4 K)) = true) : BlkBelow K (.live sz es) := fun e he d hd =>
  List.all_eq_true.1 (List.all_eq_true.1 h e he) d hd
theorem bn_nil {k s : Nat} : ∀ b, b ∈ ([] : List Blk) → BlkNo k s b := fun _ h => by cases h
theorem bn_cons {k s : Nat} {x : Blk} {l : List Blk} (h : BlkNo k s x) (hs : ∀ b, b ∈ l → BlkNo k s b) : ∀ b, b ∈ x :: l → BlkNo k s b := fun b hb => by
  rcases List.mem_cons.1 hb with e | e
  · rw [e]; exact h
  · exact hs b e
theorem bn_dead {k s : Nat} : BlkNo k s .dead := trivial
theorem bn_free {k s : Nat} : BlkNo k s .free := trivial
theorem bn_lit {k s sz : Nat} {es : List (List D)} (h : (es.all fun e => e.all (noB 4 k s)) = true) : BlkNo k s (.live sz es) := fun e he d hd =>
  List.all_eq_true.1 (List.all_eq_true.1 h e he) d hd
theorem eI_no (o : List Int) (k s : Nat) : BlkNo k s (.live 1 (o.map eI)) := by
  intro e he d hd
  simp only [List.mem_map] at he
  obtain ⟨x, _, rfl⟩ := he
  simp only [eI, List.mem_singleton] at hd
  subst hd; rfl
end
end Go.DL

/- An empty slice as a block of one's own; a block that is given up; slices.Clone of words. -/
namespace Go.DL
open Go.RowKit Go.Proofs

section
variable {E : Ev} {ops l : List Oper} {n : Nat} {a : AL} {H H' : List Blk} {g : Gst} {K : KA} {c : Code} {Q : KX}

theorem fr_phantom {G : Gh} (hG : Stab G) {ds : List Nat} {ac : Act} {w : World} {i : Nat} (he : lkN n a i = .nil) (sz : Nat) (h : FR G { t := T n a, H := H, ds := ds, g := g } ac w) :
    FR G { t := T n ((i, .ms H.length 0 0 0) :: a), H := H ++ [.live sz []], ds := ds, g := g } ac w := by
  obtain ⟨A, φ, hr⟩ := h
  have h1 := FRc.phantom hG (hr.room) (s := H.length) (by simp) sz
  have e : (H ++ [Blk.free]).set H.length (.live sz []) = H ++ [.live sz []] := set_room _ _
  simp only at h1
  rw [e] at h1
  refine ⟨A, upd φ H.length .ph, h1.rh, ⟨by simpa [T_length] using h1.tr.size, fun j d u k1 k2 => ?_⟩, h1.gh, h1.df, h1.dk, h1.nd⟩
  rw [T_get?] at k1
  split at k1
  · rename_i hj
    cases k1
    simp only [lk]
    cases hb : Nat.beq i j with
    | false => exact h1.tr.val j _ u (by rw [T_get?, if_pos hj]; rfl) k2
    | true =>
      have := Nat.eq_of_beq_eq_true hb
      subst this
      have hv := h1.tr.val i (lk a i) u (by rw [T_get?, if_pos hj]) k2
      have hb2 : Nat.blt i n = true := by simpa [Nat.blt_eq] using hj
      simp only [lkN, hb2, cond_true] at he
      rw [he] at hv
      simp only [cond_true]
      cases hv with
      | nil _ x => exact .ms _ _ _ _ _ _ _ (Nat.le_refl _) (Nat.le_refl _) (by rw [upd_same]; rfl)
  · cases k1
theorem VT.phantom {i s : Nat} (sz : Nat) (he : lkN n a i = .nil) (hs : H.length = s) (hH : H ++ [.live sz []] = H') (h : VT E c n ((i, .ms s 0 0 0) :: a) H' g Q) : VT E c n a H g Q := by
  subst hs; subst hH
  exact ⟨fun ro G hE ds ac w hr => h.out ro G hE ds ac w (fr_phantom hE.st he sz hr)⟩
theorem VT.kill (b : Nat) (hb : Nat.blt b H.length = true) (hH : H.set b .dead = H') (h : VT E c n a H' g Q) : VT E c n a H g Q := by
  subst hH
  refine ⟨fun ro G hE ds ac w ⟨A, φ, hr⟩ => h.out ro G hE ds ac w ⟨A, _, FRc.kill hE.st hr (b := b) (by simpa [Nat.blt_eq] using hb)⟩⟩
theorem VT.addDead (h : VT E c n a (H ++ [.dead]) g Q) : VT E c n a H g Q := by
  refine ⟨fun ro G hE ds ac w ⟨A, φ, hr⟩ => h.out ro G hE ds ac w ⟨A, upd φ H.length .dead, ?_⟩⟩
  have h1 := FRc.kill hE.st hr.room (b := H.length) (by simp)
  have e : (H ++ [Blk.free]).set H.length .dead = H ++ [.dead] := set_room _ _
  simp only at h1
  rw [e] at h1
  exact h1
/-- A function ends with an empty slice that its callers take for a block of their own. -/
theorem VT.retP {i : Nat} (sz : Nat) (hc : isRetC c = true) (he : lkN n a i = .nil) (h : Q .ret ((i, .ms (H.length + 1) 0 0 0) :: a) (H ++ [.dead, .live sz []]) g) : VT E c n a H g Q :=
  VT.addDead (VT.phantom sz he (by simp) (by simp) (VT.ret hc h))
end

/-- A contract of the kit, over exact values, as a plain contract. -/
theorem Maps.ofCalls {P : Program} (hP : POk P) {f : FuncId} (fn : Func) {vs : List Value} {r : Value} (hf : P.funcs[f]? = some fn) (hb : hasBody fn = true) (h : ∀ w, Calls P f vs.toArray w fun e w' => e = .returned r ∧ w' = w) : Maps P f (vs.map .v) (.v r) := by
  refine ⟨enters_of hf (hP.name hf) (bodyC_of hb), fun w A us hA hv => ?_⟩
  have hu : us = vs.toArray := by
    refine Array.ext (by simpa using hv.size) fun i h1 h2 => ?_
    have hi : i < vs.length := by simpa using h2
    have := (hv.val i (.v vs[i]) us[i] (by simp [hi]) (by simp [h1])).v_inv
    simpa using this
  subst hu
  refine (callsIn_wide.2 (h w)).mono ?_
  rintro e w' ⟨rfl, rfl⟩
  exact ⟨r, A, rfl, .v _ _, fun _ x => x, fun _ x => .inl x, hA, Ext.refl _ _⟩

/-- An array of one's own is sliced as a whole: its block is given up, its memory goes to a new one, an element a cell. -/
theorem RT.sliceArr {E : Ev} {ops r : List Oper} {n : Nat} {a : AL} {H H' : List Blk} {g : Gst} {K : KA} {i : Tmp} {x : Operand} {tx te ty : TypeId} {pos : String} {aft : Array Edge} {b m s : Nat} {cs : List D} (hs0 : H.length = s) (hx : evA n a x = .mp b 0 0) (hu : E.P.underlying tx = some (.array m te)) (hs : tsz E.P te = some 1)
    (hb : H[b]? = some (.live m [cs])) (hl : cs.length = m) (h0 : 0 < m) (hH : H.set b .dead ++ [.live 1 (cs.map fun d => [d])] = H') (h : RT E ops r n ((i, .ms s 0 m m) :: a) H' g K) :
    RT E ops (⟨some i, .slice tx x none none none, ty, pos, aft, none⟩ :: r) n a H g K := by
  subst hH; subst hs0
  refine ⟨fun ro G hE ds Q hQ ac w hr => ?_⟩
  unfold wpListIn
  rw [if_pos (by simp [Region.wanted])]
  obtain ⟨A, φ, hr⟩ := hr
  have hv := hr.tr.ev x
  rw [ev_T, hx] at hv
  generalize hxe : ac.eval x = u at hv
  cases hv with
  | mp _ _ _ _ adr hadr =>
  rcases hr.rh.live b m [cs] hb with ⟨h1, _⟩ | ⟨n0, base, room, c, tyc, h1, h2⟩
  · cases h1
  rw [h1] at hadr
  simp only [Loc.mpOk] at hadr
  subst hadr
  have hfit := h2.fits
  simp only [List.length_cons, List.length_nil] at hfit
  have hsize := h2.size
  have hroom : m ≤ room * m := Nat.le_mul_of_pos_left m hfit
  have hlt : b < H.length := (List.getElem?_eq_some_iff.1 hb).1
  have hrun : (execOp ac.eval ⟨some i, .slice tx x none none none, ty, pos, aft, none⟩).run E.P w = .ok (.value (.slice (some ⟨n0, base, none⟩) m m)) w := by
    have h3 : execOp ac.eval ⟨some i, .slice tx x none none none, ty, pos, aft, none⟩ = (do pure (.value (← Instr.sliceAt tx (ac.eval x) none none none))) := by simp only [execOp]; rfl
    have h4 : (Instr.sliceAt tx (.pointer (some ⟨n0, base + 0 * m + 0, none⟩)) none none none).run E.P w = .ok (.slice (some ⟨n0, base, none⟩) m m) w := by
      simp [Instr.sliceAt, run_underlying hu, run_sizeOf hs, Instr.sureAddr, Instr.sliceBounds, asAddr, Addr.add]
    rw [h3, hxe, Sem.run_bind, h4]; rfl
  refine ⟨fun _ _ => trivial, ?_⟩
  rw [Oper.semAt_eq _ _ _ (by simp), hrun]
  have hr1 := hr.room
  have hr2 := FRc.renew hE.st hr1 (b := b) (s := H.length) (sz' := 1) h1 (by simp) (w' := w) (c' := c) (ty := tyc) ⟨rfl, rfl, rfl, rfl, h2.blk, fun _ _ => rfl⟩ base m (cs.map fun d => [d]) (by simp [hl]) (by omega)
    (fun i e he => by simp only [List.getElem?_map, Option.map_eq_some_iff] at he; obtain ⟨_, _, rfl⟩ := he; rfl)
    (fun i e j d he hd => by
      simp only [List.getElem?_map, Option.map_eq_some_iff] at he
      obtain ⟨d', hd', rfl⟩ := he
      cases j with
      | zero =>
        simp only [List.getElem?_cons_zero, Option.some.injEq] at hd
        subst hd
        have := h2.val 0 cs i d' rfl hd'
        simpa using this
      | succ j => simp at hd)
  have e1 : ((H ++ [Blk.free]).set b .dead).set H.length (.live 1 (cs.map fun d => [d])) = H.set b .dead ++ [.live 1 (cs.map fun d => [d])] := by
    rw [List.set_append_left _ _ hlt]
    have := set_room (H.set b .dead) (.live 1 (cs.map fun d => [d]))
    rw [List.length_set] at this
    exact this
  simp only at hr2
  rw [e1] at hr2
  have hr3 := hr2.value (some i) (d := .ms H.length 0 m m) (x := .slice (some ⟨n0, base, none⟩) m m) (.ms _ _ _ _ _ _ _ (Nat.le_refl _) (Nat.le_refl _) (by rw [upd_same]; exact ⟨by omega, .inr (by simp)⟩))
  simp only [setT_T] at hr3
  exact h.out ro G hE ds Q hQ _ _ ⟨A, _, hr3⟩
end Go.DL

/- A contract over no own block, put over some: what a call leaves behind is one block more. -/
namespace Go.DL
open Go.RowKit Go.Proofs

theorem CallSp.frame {P : Program} {f : FuncId} {xs : List D} {H : List Blk} {k n sz : Nat} {es : List (List D)}
    (h : CallSp P f (xs.map (snap (fun b => H[b]?) 5)) [] fun d' H' => d' = .ms k 0 n n ∧ H'[k]? = some (.live sz es)) (hf : ∀ e ∈ es, ∀ d ∈ e, freshD 5 d = true) :
    CallSp P f xs H fun d' H' => d' = .ms (H.length + 1) 0 n n ∧ H' = H ++ [.dead, .live sz es] := by
  refine ⟨h.1, fun w A φ vs hr hv => ?_⟩
  have hr0 : RH ⟨(both A φ).on, w.heap.size⟩ nowhere w [] :=
    ⟨fun _ _ => rfl, fun _ h => (by simp at h), fun _ h => (by simp at h), fun _ _ _ h => (by simp at h), fun _ _ _ h => (by simp at h), fun _ _ _ _ _ _ _ _ _ h => (by cases h), fun _ ⟨_, _, _, _, h⟩ => (by cases h),
      fun n hn => hn.elim (hr.lt n) (hr.olt n), fun _ ⟨_, _, _, _, h⟩ => (by cases h), fun _ ⟨_, _, _, _, h⟩ => (by cases h), Nat.le_refl _⟩
  refine (h.2 w ⟨(both A φ).on, w.heap.size⟩ nowhere vs hr0 (hv.snap (B := ⟨(both A φ).on, w.heap.size⟩) hr (fun _ _ _ x => x) (fun n x => Or.inl x) (fun b sz es n base sz' room _ hp => Or.inr ⟨b, _, _, _, hp⟩) 5)).mono ?_
  rintro e w' ⟨v, d, H', A', φ', rfl, ⟨hd, hH'⟩, hr', hvd, hev⟩
  subst hd
  have nown : ∀ m, ¬ own nowhere m := fun m ⟨_, _, _, _, h⟩ => by cases h
  have hn : ∀ m, own φ' m → w.heap.size ≤ m := fun m hm => (hev.ext.own m hm).resolve_left (nown m)
  have hs : ∀ m, m < w.heap.size → w'.heap[m]? = w.heap[m]? := fun m hm => hev.ext.same m hm (nown m)
  have hr1 := hr.move (w' := w') (fun m hm => hs m (hr.lt m hm)) (fun m hm => hs m (hr.olt m hm)) hev.ext.size
  let φ2 : Nat → Loc := fun b => if b = H.length + 1 then φ' k else if b = H.length then .dead else φ b
  have p1 : φ2 (H.length + 1) = φ' k := by simp [φ2]
  have p0 : φ2 H.length = .dead := by simp [φ2]
  have pb : ∀ {b}, b ≠ H.length + 1 → b ≠ H.length → φ2 b = φ b := fun h1 h2 => by simp [φ2, h1, h2]
  have pl : ∀ {b}, b < H.length → φ2 b = φ b := fun h => pb (by omega) (by omega)
  have f_ge : ∀ b, H.length ≤ b → φ b = .free := fun b hb => hr.out b (List.getElem?_eq_none hb)
  have le2 : ∀ b, (φ b).le (φ2 b) := fun b => by
    rcases Nat.lt_or_ge b H.length with x | x
    · rw [pl x]; exact Loc.le_refl _
    · exact .inl (f_ge b x)
  -- where a place of φ2 comes from
  have back : ∀ {b m base sz room}, φ2 b = .loc m base sz room → (b = H.length + 1 ∧ φ' k = .loc m base sz room) ∨ (b < H.length ∧ φ b = .loc m base sz room) := fun {b m base sz room} hb => by
    by_cases h1 : b = H.length + 1
    · subst h1; rw [p1] at hb; exact .inl ⟨rfl, hb⟩
    · by_cases h2 : b = H.length
      · subst h2; rw [p0] at hb; cases hb
      · rw [pb h1 h2] at hb
        rcases Nat.lt_or_ge b H.length with x | x
        · exact .inr ⟨x, hb⟩
        · rw [f_ge b x] at hb; cases hb
  have own2 : ∀ {m}, own φ2 m → own φ' m ∨ own φ m := fun ⟨b, base, sz, room, hb⟩ => (back hb).elim (fun x => .inl ⟨k, _, _, _, x.2⟩) fun x => .inr ⟨b, _, _, _, x.2⟩
  have b0le : A.b0 ≤ w.heap.size := hr.bsz
  refine ⟨v, _, _, ⟨fun m => A m ∨ (A' m ∧ w.heap.size ≤ m), A.b0⟩, φ2, rfl, ⟨rfl, rfl⟩, ?_, ?_, ⟨⟨hev.ext.os, hev.ext.tape, hev.ext.output, hev.ext.size, fun m hm _ => hs m hm, fun m hm => (own2 hm).elim (fun x => .inr (hn m x)) .inl⟩, fun _ x => .inl x, fun m hm => hm.elim .inl fun x => .inr (.inr x.2), le2, rfl⟩⟩
  · have len2 : (H ++ [Blk.dead, .live sz es]).length = H.length + 2 := by simp
    have get : ∀ b x, (H ++ [Blk.dead, .live sz es])[b]? = some x → (b < H.length ∧ H[b]? = some x) ∨ (b = H.length ∧ x = .dead) ∨ (b = H.length + 1 ∧ x = .live sz es) := fun b x hx => by
      rcases Nat.lt_or_ge b H.length with y | y
      · rw [List.getElem?_append_left y] at hx; exact .inl ⟨y, hx⟩
      · rw [List.getElem?_append_right y] at hx
        rcases hk : b - H.length with _ | _ | q
        · rw [hk] at hx; cases hx; exact .inr (.inl ⟨by omega, rfl⟩)
        · rw [hk] at hx; cases hx; exact .inr (.inr ⟨by omega, rfl⟩)
        · rw [hk] at hx; simp at hx
    refine ⟨fun b hb => ?_, fun b hb => ?_, fun b hb => ?_, fun b sz' es' hb => ?_, fun b c' es' hb => ?_, fun b b' m base sz1 room base' sz' room' h1 h2 => ?_, fun m hm ha => ?_, fun m hm => ?_, fun m hm => ?_, fun m hm => ?_, Nat.le_trans b0le hev.ext.size⟩
    · rw [List.getElem?_eq_none_iff, len2] at hb
      rw [pb (by omega) (by omega)]; exact f_ge b (by omega)
    · rcases get b _ hb with ⟨h1, h2⟩ | ⟨_, h2⟩ | ⟨_, h2⟩
      · rw [pl h1]; exact hr.free b h2
      · cases h2
      · cases h2
    · rcases get b _ hb with ⟨h1, h2⟩ | ⟨h1, _⟩ | ⟨_, h2⟩
      · rw [pl h1]; exact hr.dead b h2
      · subst h1; exact p0
      · cases h2
    · rcases get b _ hb with ⟨h1, h2⟩ | ⟨_, h2⟩ | ⟨h1, h2⟩
      · rw [pl h1]
        exact (hr1.live b sz' es' h2).imp id fun ⟨m, base, room, c, ty, q1, q2⟩ => ⟨m, base, room, c, ty, q1, q2.mono (fun _ x => Or.inl x) (fun _ _ => rfl) le2 rfl⟩
      · cases h2
      · cases h2
        subst h1
        rw [p1]
        have e0 : A'.b0 = w.heap.size := hev.b0
        rcases hr'.live k sz es hH' with q | ⟨m, base, room, c, ty, q1, q2⟩
        · exact .inl q
        · refine .inr ⟨m, base, room, c, ty, q1, q2.blk, q2.fits, q2.size, q2.len, fun i e j d k1 k2 => ?_⟩
          obtain ⟨u, k3, k4⟩ := q2.val i e j d k1 k2
          exact ⟨u, k3, k4.freshUp (A' := ⟨fun m => A m ∨ (A' m ∧ w.heap.size ≤ m), A.b0⟩) (fun m hm hb => Or.inr ⟨hm, by rw [e0] at hb; exact hb⟩) (by rw [e0]; exact b0le) 5 (hf e (List.mem_of_getElem? k1) d (List.mem_of_getElem? k2))⟩
    · rcases get b _ hb with ⟨h1, h2⟩ | ⟨_, h2⟩ | ⟨h1, h2⟩
      · rw [pl h1]
        obtain ⟨m, ms, q1, q2⟩ := hr1.tab b c' es' h2
        exact ⟨m, ms, q1, q2.mono (fun _ x => Or.inl x) (fun _ _ => rfl) le2 rfl⟩
      · cases h2
      · cases h2
    · rcases back h1 with ⟨x1, x2⟩ | ⟨x1, x2⟩
      · rcases back h2 with ⟨y1, y2⟩ | ⟨y1, y2⟩
        · omega
        · have := hn m ⟨k, _, _, _, x2⟩
          have := hr.olt m ⟨b', _, _, _, y2⟩
          omega
      · rcases back h2 with ⟨y1, y2⟩ | ⟨y1, y2⟩
        · have := hn m ⟨k, _, _, _, y2⟩
          have := hr.olt m ⟨b, _, _, _, x2⟩
          omega
        · exact hr.inj _ _ _ _ _ _ _ _ _ x2 y2
    · rcases own2 hm with x | x
      · rcases ha with ha | ha
        · have := hr.lt m ha; have := hn m x; omega
        · exact hr'.dis m x ha.1
      · rcases ha with ha | ha
        · exact hr.dis m x ha
        · have := hr.olt m x; omega
    · exact hm.elim (fun x => Nat.lt_of_lt_of_le (hr.lt m x) hev.ext.size) fun x => hr'.lt m x.1
    · exact (own2 hm).elim (hr'.olt m) fun x => Nat.lt_of_lt_of_le (hr.olt m x) hev.ext.size
    · exact (own2 hm).elim (fun x => Nat.le_trans b0le (hn m x)) (hr.ofr m)
  · cases hvd with
    | ms _ _ _ _ _ cap' a h1 h2 h3 => exact .ms _ _ _ _ _ _ _ h1 h2 (by rw [p1]; exact h3)
end Go.DL
