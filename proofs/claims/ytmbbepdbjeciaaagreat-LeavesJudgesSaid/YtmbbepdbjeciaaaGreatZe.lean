/- slices.Clone of words; the chapter's examples, by the interpreter. -/
import Derived.Test.YtmbbepdbjeciaaaGreatZw
import Derived.Test.YtmbbepdbjeciaaaGreatE10
import Derived.Test.YtmbbepdbjeciaaaGreatBitsLen
set_option linter.all false
set_option maxRecDepth 100000
set_option maxHeartbeats 16000000
namespace Go.DL
open Go.Proofs Go

/-- slices.Clone. -/
theorem c_clone {H : List Blk} {x : D} {o : List Int} (hx : x = .nil ∨ (∃ es, x = .sl es) ∨ (∃ es, x = .fl es) ∨ ∃ b k m c, x = .ms b k m c) (he : elemsD H x = some (o.map eI)) (hl : o.length ≤ 1000000) :
    CallSp Tryz.prog 139 [x] H fun d H' => d = .ms (H.length + 1) 0 o.length o.length ∧ H' = H ++ [.dead, .live 1 (o.map eI)] := by
  refine CallSp.vt pok Tryz.f139 (n := 8) (rs := [.tmp 2]) rfl rfl rfl rfl rfl rfl rfl fun g => ?_
  repeat (any_goals (first | (refine d_RT ?_; (first | refine RT.nil ?_ | refine RT.v (f_mv (d := x) rfl) ?_ | refine RT.nilEq rfl hx (fun b hb => ?_) | refine RT.asA ?_)) | (refine d_VT ?_; (first | (refine VT.retP (i := 2) 1 rfl rfl ?_) | refine VT.seq rfl ?_ | refine VT.reg rfl ?_ | refine VT.cond rfl rfl (fun hc => ?_) (fun hc => ?_) | refine VT.skip rfl ?_)) | with_reducible (refine kSr ?_) | (with_reducible refine d_kEr ?_; refine kEr rfl ?_)))
  · have ho : o = [] := by simpa using hb hc _ he
    subst ho
    exact ⟨rfl, rfl⟩
  · have he' : elemsD (H ++ [.live 1 []]) x = some (o.map eI) := by
      rcases hx with rfl | ⟨es, rfl⟩ | ⟨es, rfl⟩ | ⟨b, k, m, c, rfl⟩
      · exact he
      · exact he
      · exact he
      · simp only [elemsD] at he ⊢
        split at he
        · rename_i sz es hb'
          rw [List.getElem?_append_left (List.getElem?_eq_some_iff.1 hb').1, hb']; exact he
        · cases he
    have hap : appendD Tryz.prog (H ++ [.live 1 []]) 40 40 (.ms H.length 0 0 0) x = some (some H.length, 1, o.map eI) := by
      have e1 : elemsD (H ++ [.live 1 []]) (.ms H.length 0 0 0) = some [] := by simp [elemsD]
      have e2 : elemT Tryz.prog 40 = some (3, 1) := rfl
      have e3 : Tryz.prog.underlying 40 = some (.slice 3) := rfl
      have e4 : Tryz.prog.bytesOf 3 = 8 := rfl
      have e5 : zeroD Tryz.prog 3 = some [wI 0] := rfl
      simp only [appendD, addedD, e2, e3, e1, he']
      rw [if_pos]
      · simp [Blk.hasSz]
      · refine ⟨by decide, by rw [e5]; rfl, rfl, by simp [eI], eI_all _ _ fun x => rfl, ?_, ?_⟩
        · rw [e4]; simp; omega
        · simp; omega
    repeat (any_goals (first | (refine d_RT ?_; (first | refine RT.nil ?_ | refine RT.new (by first | (simp only [nrm]; rfl) | (simp only [nrm, Nat.reduceAdd, Nat.zero_add]; rfl) | rfl) (f_bsl (ps := []) (sz := 1) (es := []) rfl) rfl ?_ | refine RT.v (f_mv (d := x) rfl) ?_ | refine RT.ap (s := H.length + 1) (m := o.length) (H' := H ++ [.dead, .live 1 (o.map eI)]) (by simp) (f_app rfl rfl hap (by simp)) (by simp [killO]) ?_ | refine RT.asA ?_)) | refine VT.ret rfl ?_ | (with_reducible refine d_kEr ?_; refine kEr rfl ?_)))
    exact ⟨rfl, rfl⟩

/-! ### the chapter's examples -/
def toInt : List D → Option Int
  | [.v (.int .i64 x)] => some x
  | _ => none
def toInts : List (List D) → Option (List Int)
  | [] => some []
  | e :: es => match toInt e, toInts es with
    | some x, some xs => some (x :: xs)
    | _, _ => none
theorem toInt_ok {e : List D} {x : Int} (h : toInt e = some x) : e = eI x := by
  unfold toInt at h
  split at h
  · cases h; rfl
  · cases h
theorem toInts_ok : ∀ {es : List (List D)} {xs : List Int}, toInts es = some xs → es = xs.map eI
  | [], xs, h => by cases h; rfl
  | e :: es, xs, h => by
    unfold toInts at h
    split at h
    · rename_i x ys h1 h2
      cases h
      rw [toInt_ok h1, toInts_ok h2]; rfl
    · cases h
def slD : D → Bool
  | .nil | .sl _ | .fl _ | .ms _ _ _ _ => true
  | _ => false
theorem slD_ok {x : D} (h : slD x = true) : x = .nil ∨ (∃ es, x = .sl es) ∨ (∃ es, x = .fl es) ∨ ∃ b k m c, x = .ms b k m c := by
  cases x with
  | nil => exact .inl rfl
  | sl es => exact .inr (.inl ⟨es, rfl⟩)
  | fl es => exact .inr (.inr (.inl ⟨es, rfl⟩))
  | ms b k m c => exact .inr (.inr (.inr ⟨b, k, m, c, rfl⟩))
  | _ => cases h
def cloneS (xs : List D) (H : List Blk) : Option (D × List Blk) :=
  match xs with
  | [x] => if slD x = true then match elemsD H x with
      | some es => match toInts es with
        | some o => if o.length ≤ 1000000 then some (.ms (H.length + 1) 0 o.length o.length, H ++ [.dead, .live 1 es]) else none
        | none => none
      | none => none
    else none
  | _ => none
theorem cloneS_ok {xs : List D} {H H' : List Blk} {d : D} (h : cloneS xs H = some (d, H')) : CallSp Tryz.prog 139 xs H fun d' H'' => d' = d ∧ H'' = H' := by
  unfold cloneS at h
  split at h
  · rename_i x
    split at h
    · rename_i hs
      split at h
      · rename_i es he
        split at h
        · rename_i o ho
          split at h
          · rename_i hl
            cases h
            have := toInts_ok ho
            subst this
            exact c_clone (slD_ok hs) he hl
          · cases h
        · cases h
      · cases h
    · cases h
  · cases h
theorem elemsD_sub {Hm H : List Blk} (hs : Sub Hm H) {x : D} {es : List (List D)} (h : elemsD Hm x = some es) : elemsD H x = some es := by
  cases x <;> try exact h
  simp only [elemsD] at h ⊢
  split at h
  · rename_i sz fs hb; rw [hs _ _ _ hb]; exact h
  · cases h
def cloneA (xs : List D) (Hm : List Blk) (s : Nat) : Option (D × Blk) :=
  match xs with
  | [x] => if slD x = true then match elemsD Hm x with
      | some es => match toInts es with
        | some o => if o.length ≤ 1000000 then some (.ms s 0 o.length o.length, .live 1 es) else none
        | none => none
      | none => none
    else none
  | _ => none
theorem cloneA_ok {xs : List D} {Hm : List Blk} {s : Nat} {d : D} {k : Blk} (h : cloneA xs Hm s = some (d, k)) : CallAt Tryz.prog 139 xs Hm s d k := by
  unfold cloneA at h
  split at h
  · rename_i x
    split at h
    · rename_i hs
      split at h
      · rename_i es he
        split at h
        · rename_i o ho
          split at h
          · rename_i hl
            cases h
            have := toInts_ok ho
            subst this
            exact CallAt.of (fun H hsub => c_clone (slD_ok hs) (elemsD_sub hsub he) hl) (eI_low _ _)
          · cases h
        · cases h
      · cases h
    · cases h
  · cases h
theorem m_len (x : Int) (h0 : 0 ≤ x) (h1 : x ≤ 18446744073709551615) : Maps Tryz.prog 169 [.v (.int .u64 x)] (wI (Lib.bitLen x.toNat : Nat)) :=
  Maps.ofCalls pok Tryz.f169 (vs := [.int .u64 x]) rfl rfl fun w => Tryz.bits_Len x w h0 h1
def toLine : List D → Option Line
  | [.v (.int .i64 a), .v (.int .i64 b), .v (.int .i64 c), .v (.int .i64 d)] => if 0 ≤ a ∧ a ≤ 4611686018427387904 ∧ 0 ≤ d ∧ d ≤ 4611686018427387904 then some ⟨a, b, c, d⟩ else none
  | _ => none
theorem toLine_ok {e : List D} {x : Line} (h : toLine e = some x) : e = eLine x ∧ lineOk x := by
  unfold toLine at h
  split at h
  · split at h
    · rename_i hc; cases h; exact ⟨rfl, hc⟩
    · cases h
  · cases h
def toLines : List (List D) → Option (List Line)
  | [] => some []
  | e :: es => match toLine e, toLines es with
    | some x, some xs => some (x :: xs)
    | _, _ => none
theorem toLines_ok : ∀ {es : List (List D)} {xs : List Line}, toLines es = some xs → es = xs.map eLine ∧ ∀ x, x ∈ xs → lineOk x
  | [], xs, h => by cases h; exact ⟨rfl, fun _ h => by cases h⟩
  | e :: es, xs, h => by
    unfold toLines at h
    split at h
    · rename_i x ys h1 h2
      cases h
      obtain ⟨q1, q2⟩ := toLine_ok h1
      obtain ⟨r1, r2⟩ := toLines_ok h2
      refine ⟨by rw [q1, r1]; rfl, fun y hy => ?_⟩
      rcases List.mem_cons.1 hy with e | e
      · rw [e]; exact q2
      · exact r2 y e
    · cases h
/-- words, over any own blocks. -/
theorem c_wordsH {H : List Blk} {x : D} {l : List Line} (hx : snap (fun b => H[b]?) 5 x = .sl (l.map eLine)) (hl : l.length ≤ 1000) (h : ∀ x, x ∈ l → lineOk x) :
    CallSp Tryz.prog 98 [x] H fun d' H' => d' = .ms (H.length + 1) 0 (wordsS l).length (wordsS l).length ∧ H' = H ++ [.dead, .live 1 ((wordsS l).map eI)] :=
  CallSp.frame (k := 0) (by rw [List.map_cons, List.map_nil, hx]; exact c_words l hl h) fun e he d hd => by
    obtain ⟨z, _, rfl⟩ := List.mem_map.1 he
    obtain rfl : d = wI z := by simpa [eI] using hd
    rfl
def wordsS' (xs : List D) (H : List Blk) : Option (D × List Blk) :=
  match xs with
  | [x] => match snap (fun b => H[b]?) 5 x with
    | .sl es => match toLines es with
      | some l => if l.length ≤ 1000 then some (.ms (H.length + 1) 0 (wordsS l).length (wordsS l).length, H ++ [.dead, .live 1 ((wordsS l).map eI)]) else none
      | none => none
    | _ => none
  | _ => none
theorem wordsS_ok {xs : List D} {H H' : List Blk} {d : D} (h : wordsS' xs H = some (d, H')) : CallSp Tryz.prog 98 xs H fun d' H'' => d' = d ∧ H'' = H' := by
  unfold wordsS' at h
  split at h
  · rename_i x
    split at h
    · rename_i es hs
      split at h
      · rename_i l hl
        split at h
        · rename_i hn
          cases h
          obtain ⟨q1, q2⟩ := toLines_ok hl
          exact c_wordsH (by rw [hs, q1]) hn q2
        · cases h
      · cases h
    · cases h
  · cases h
def roE : D → Option (List (List D))
  | .sl es => some es
  | .fl es => some es
  | .nil => some []
  | _ => none
theorem snap_ro {lk : Nat → Option Blk} {x : D} {es : List (List D)} (h : roE x = some es) : snap lk 5 x = .sl es := by
  unfold roE at h
  split at h <;> cases h <;> rfl
def wordsA (xs : List D) (s : Nat) : Option (D × Blk) :=
  match xs with
  | [x] => match roE x with
    | some es => match toLines es with
      | some l => if l.length ≤ 1000 then some (.ms s 0 (wordsS l).length (wordsS l).length, .live 1 ((wordsS l).map eI)) else none
      | none => none
    | none => none
  | _ => none
theorem wordsA_ok {xs : List D} {Hm : List Blk} {s : Nat} {d : D} {k : Blk} (h : wordsA xs s = some (d, k)) : CallAt Tryz.prog 98 xs Hm s d k := by
  unfold wordsA at h
  split at h
  · split at h
    · rename_i es he
      split at h
      · rename_i l hl
        split at h
        · rename_i hn
          cases h
          obtain ⟨q1, q2⟩ := toLines_ok hl
          exact CallAt.of (fun H _ => c_wordsH (by rw [← q1]; exact snap_ro he) hn q2) (eI_low _ _)
        · cases h
      · cases h
    · cases h
  · cases h
/-- What is known of a few functions. -/
def tblT (g : FuncId) (xs : List D) : Option D :=
  match g, xs with
  | 143, [.v (.int .i64 e), .rp [.v (.int .i64 x)]] => if 0 ≤ e ∧ e ≤ 1000000 ∧ 0 ≤ x ∧ x ≤ 65520 then some (wI (DM.powN x.toNat e.toNat : Nat)) else none
  | 144, [.v (.int .i64 x)] => some (wI (x % 65521))
  | 169, [.v (.int .u64 x)] => if 0 ≤ x ∧ x ≤ 18446744073709551615 then some (wI (Lib.bitLen x.toNat : Nat)) else none
  | _, _ => none
theorem tblT_ok {g : FuncId} {xs : List D} {d : D} (h : tblT g xs = some d) : Maps Tryz.prog g xs d := by
  unfold tblT at h
  split at h
  · rename_i e x
    split at h
    · rename_i hc
      cases h
      have h1 := m_power1 x.toNat e.toNat (by omega) (by omega)
      rw [Int.toNat_of_nonneg hc.1, Int.toNat_of_nonneg hc.2.2.1] at h1
      exact h1
    · cases h
  · cases h; exact m_mod _
  · split at h
    · rename_i hc; cases h; exact m_len _ hc.1 hc.2
    · cases h
  · cases h
noncomputable def C0 : Tbl where
  P := Tryz.prog
  T := tblT
  own := fun g H => [67, 99999, 68, 99999, 69, 99999, 30, 27, 29, 74, 117, 75, 170, 77, 76, 118, 127, 113, 83, 119, 123, 164, 21, 70, 23, 85, 86, 39, 144, 160, 177, 132, 92, 98, 143, 167, 169].contains g || (g == 71 && Nat.ble 20 H.length)
  S := fun g xs H => if g = 139 then cloneS xs H else if g = 98 then wordsS' xs H else none
  A := fun g xs H s => if g = 139 then cloneA xs H s else if g = 98 then wordsA xs s else none
theorem C0_ok : C0.Ok where
  map := fun _ _ _ h => tblT_ok h
  it := fun _ _ _ _ h => by cases h
  mixed := pok.mixed
  names := pok.names
  cat := fun f xs Hm s d x h => by
    simp only [C0] at h
    split at h
    · rename_i e; subst e; exact cloneA_ok h
    · split at h
      · rename_i e; subst e; exact wordsA_ok h
      · cases h
  sp := fun f xs H d H' h => by
    simp only [C0] at h
    split at h
    · rename_i e; subst e; exact cloneS_ok h
    · split at h
      · rename_i e; subst e; exact wordsS_ok h
      · cases h
def isTrueD (d : Option D) : Bool := match d with
  | some (.v (.bool true)) => true
  | _ => false
theorem isTrueD_ok {d : Option D} (h : isTrueD d = true) : d = some (wB true) := by
  unfold isTrueD at h
  split at h
  · rfl
  · cases h
end Go.DL
