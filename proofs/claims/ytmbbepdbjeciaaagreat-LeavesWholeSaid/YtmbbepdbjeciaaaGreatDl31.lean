/- Drawn regions over blocks whose number is not known: where nothing that is hidden is laid yet. -/
import Derived.Test.YtmbbepdbjeciaaaGreatDl30
set_option linter.all false
namespace Go.DL
open Go.RowKit Go.Proofs

noncomputable section
theorem maskL_id {base : Nat} {hs : List Nat} {H : List Blk} (h : ∀ i, i ∈ hs → H[base + i]? = some .free) : maskL base hs H = H := by
  refine List.ext_getElem? fun b => ?_
  rw [maskL_get]
  split
  · rename_i hc
    obtain ⟨⟨s, hs, rfl⟩, _⟩ := hc
    exact (h s hs).symm
  · rfl
def freeAt (T : List Blk) (i : Nat) : Bool := match T[i]? with
  | some .free => true
  | _ => false
theorem mask_app {H0 T : List Blk} {hs : List Nat} (h : hs.all (freeAt T) = true) : maskL H0.length hs (H0 ++ T) = H0 ++ T :=
  maskL_id fun i hi => by
    have h1 := List.all_eq_true.1 h i hi
    unfold freeAt at h1
    rw [List.getElem?_append_right (by omega), show H0.length + i - H0.length = i by omega]
    split at h1
    · assumption
    · cases h1
section
variable {E : Ev} {ops r : List Oper} {base s : Nat} {hs : List Nat} {pl : List (Nat × List Nat)} {n : Nat} {a : AL} {H H' : List Blk} {K : KP} {i : Tmp} {op : Op} {ty : TypeId} {pos : String} {aft : Array Edge} {d : D}
theorem PT.vI (hm : maskL base hs H = H) (hv : Val E.P H (base + s) n a op d) (h : PT E ops base pl r n ((i, d) :: a) H K) : PT E ops base ((s, hs) :: pl) (⟨some i, op, ty, pos, aft, none⟩ :: r) n a H K :=
  PT.v (by rw [hm]; exact hv) h
theorem PT.newI {k : Blk} {s' : Nat} (hm : maskL base hs H = H) (hs' : base + s = s') (hv : Mk E.P H s' n a op d k) (hH : H.set s' k = H') (h : PT E ops base pl r n ((i, d) :: a) H' K) : PT E ops base ((s, hs) :: pl) (⟨some i, op, ty, pos, aft, none⟩ :: r) n a H K :=
  PT.new hs' (by rw [hm]; exact hv) hH h
theorem PT.wrI {b : Nat} {k : Blk} (hm : maskL base hs H = H) (hv : Wr E.P H (base + s) n a op b k) (hH : H.set b k = H') (h : PT E ops base pl r n a H' K) : PT E ops base ((s, hs) :: pl) (⟨none, op, ty, pos, aft, none⟩ :: r) n a H K :=
  PT.wr (by rw [hm]; exact hv) hH h
theorem PT.callI {dst : Option Tmp} {f : Operand} {args : List Operand} {tys : Array TypeId} {f' : FuncId} {xs ys : List D} (hm0 : maskL base hs H = H) (hc : callA n a f args = some (f', xs))
    (hm : Maps E.P f' ys d) (hy : xs.map (snap (fun b => H[b]?) 5) = ys) (hd : freshD 5 d = true) (h : PT E ops base pl r n (setA dst d a) H K) :
    PT E ops base ((s, hs) :: pl) (⟨dst, .call { callee := .value f, args := args.toArray, argTypes := tys }, ty, pos, aft, none⟩ :: r) n a H K :=
  PT.callG hc hm (by rw [hm0]; exact hy) hd h
end

theorem lowB_mono {K K' : Nat} (hK : K ≤ K') : ∀ (k : Nat) (d : D), lowB k K d = true → lowB k K' d = true := by
  intro k
  induction k with
  | zero => intro d h; cases d <;> simp_all [lowB] <;> omega
  | succ k ih =>
    intro d h
    cases d with
    | agg cs => simp only [lowB, List.all_eq_true] at h ⊢; exact fun x hx => ih x (h x hx)
    | tup cs => simp only [lowB, List.all_eq_true] at h ⊢; exact fun x hx => ih x (h x hx)
    | fn f a b => simp only [lowB, List.all_eq_true, Bool.and_eq_true] at h ⊢; exact ⟨fun x hx => ih x (h.1 x hx), fun x hx => ih x (h.2 x hx)⟩
    | _ => simp_all [lowB] <;> omega
theorem BlkBelow.mono {K K' : Nat} (hK : K ≤ K') {b : Blk} (h : BlkBelow K b) : BlkBelow K' b := by
  cases b with
  | live sz es => exact fun e he d hd => lowB_mono hK 4 d (h e he d hd)
  | _ => trivial
section
variable {P : Program} {n s : Nat} {al : AL} {H : List Blk} {x y : Operand} {tx ty' : TypeId} {a b : Int}
theorem f_neqF (hx : evA n al x = wI a) (hy : evA n al y = wI b) (h : a = b) : Val P H s n al (.binOp .neq tx x y ty') (wB false) := by
  have h1 := f_neq (P := P) (H := H) (s := s) (tx := tx) (ty' := ty') hx hy
  rwa [decide_eq_false (fun q => q h)] at h1
theorem f_neqT (hx : evA n al x = wI a) (hy : evA n al y = wI b) (h : ¬ a = b) : Val P H s n al (.binOp .neq tx x y ty') (wB true) := by
  have h1 := f_neq (P := P) (H := H) (s := s) (tx := tx) (ty' := ty') hx hy
  rwa [decide_eq_true h] at h1
theorem f_eqlF (hx : evA n al x = wI a) (hy : evA n al y = wI b) (h : ¬ a = b) : Val P H s n al (.binOp .eql tx x y ty') (wB false) := by
  have h1 := f_eql (P := P) (H := H) (s := s) (tx := tx) (ty' := ty') hx hy
  rwa [decide_eq_false h] at h1
theorem f_eqlT (hx : evA n al x = wI a) (hy : evA n al y = wI b) (h : a = b) : Val P H s n al (.binOp .eql tx x y ty') (wB true) := by
  have h1 := f_eql (P := P) (H := H) (s := s) (tx := tx) (ty' := ty') hx hy
  rwa [decide_eq_true h] at h1
end
/-- Some blocks, then many that are alike; what lies behind is forgotten. -/
theorem fg_ws {N n : Nat} {a a' : AL} {pre ws T : List Blk} (hd : Hd n a a') (le : N ≤ (pre ++ ws).length) (ab : (a'.all fun p => lowB 4 pre.length p.2) = true)
    (hb1 : ∀ b, b ∈ pre → BlkBelow (pre ++ ws).length b) (hb2 : ∀ b, b ∈ ws → BlkBelow 0 b) : Wk N n a (pre ++ (ws ++ T)) a' (pre ++ ws) :=
  Wk.fg ⟨hd, by rw [← List.append_assoc, List.take_left], le,
    List.all_eq_true.2 fun p hp => lowB_mono (by rw [List.length_append]; omega) 4 _ (List.all_eq_true.1 ab p hp),
    fun b hb => (List.mem_append.1 hb).elim (hb1 b) fun h => (hb2 b h).mono (Nat.zero_le _)⟩

theorem fg_ws0 {N n : Nat} {a a' : AL} {pre ws : List Blk} (hd : Hd n a a') (le : N ≤ (pre ++ ws).length) (ab : (a'.all fun p => lowB 4 pre.length p.2) = true)
    (hb1 : ∀ b, b ∈ pre → BlkBelow (pre ++ ws).length b) (hb2 : ∀ b, b ∈ ws → BlkBelow 0 b) : Wk N n a (pre ++ ws) a' (pre ++ ws) := by
  have h := fg_ws (T := []) hd le ab hb1 hb2
  rw [List.append_nil] at h
  exact h
theorem sel_app {H0 : List Blk} {x y : Blk} : sel [H0.length, H0.length + 1] (H0 ++ [x, y]) H0.length = some x ∧ sel [H0.length, H0.length + 1] (H0 ++ [x, y]) (H0.length + 1) = some y := by
  constructor
  · simp [sel]
  · simp [sel, List.getElem?_append_right]
theorem kill_app {H0 : List Blk} {x y : Blk} : killL (H0 ++ [x, y]) [H0.length, H0.length + 1] = H0 ++ [.dead, .dead] := by
  simp [killL, List.set_append_right]
end
end Go.DL
