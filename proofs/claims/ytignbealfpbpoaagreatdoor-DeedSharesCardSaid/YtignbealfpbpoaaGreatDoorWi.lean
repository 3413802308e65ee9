/- Print: what it comes to, out of what Check and show come to. -/
import Derived.Test.YtignbealfpbpoaaGreatDoorWo
import Derived.Shelf.Strings.BuilderK
import Derived.WalkKit
import Derived.BigCall
import Derived.Lib.Hide
set_option linter.all false
set_option maxRecDepth 100000
set_option maxHeartbeats 16000000
namespace Go.DL
open Go.Proofs Go Go.RowKit
theorem c_write (B b : Nat) (bs : List Value) (s : ByteArray) (w : World) (h : Lib.IsBuilderF 118 5 B b bs w) (hlen : bs.length + s.size ≤ 140737488355328) (hBw : B ≤ w.heap.size) :
    Calls Tryz.prog 68 #[.pointer (some ⟨b, 0, none⟩), .string s] w fun e w' => e = .returned (.tuple #[.int .i64 s.size, .nilIface]) ∧ (Lib.BuilderAtF 118 5 B b (.pointer (some ⟨b, 0, none⟩)) (bs ++ Lib.strCells s) w' ∧ Below B w w' ∧ Lib.OthersKept 5 (some b) w w') :=
  Any.Builder_WriteString_k (P := Tryz.prog) { Tryz.laysJoin with } extraJ B b bs s w h hlen hBw
theorem c_string (B b : Nat) (l : List UInt8) (w : World) (h : Lib.IsBuilderF 118 5 B b (Lib.byteCells l) w) (hBw : B ≤ w.heap.size) :
    Calls Tryz.prog 70 #[.pointer (some ⟨b, 0, none⟩)] w fun e w' => e = .returned (.string ⟨l.toArray⟩) ∧ (Lib.IsBuilderF 118 5 B b (Lib.byteCells l) w' ∧ Below B w w' ∧ Lib.OthersKept 5 (some b) w w') :=
  Any.Builder_String_any_k (P := Tryz.prog) { Tryz.laysJoin with } extraJ B b l w h hBw
theorem BAt.below {T e : TypeId} {B b : Nat} {p : Value} {bs : List Value} {W W' : World} (h : Lib.BuilderAtF T e B b p bs W) (hb : Below W.heap.size W W') : Lib.BuilderAtF T e B b p bs W' := by
  have hlt := h.lt
  obtain ⟨h1, v, h2, ⟨h3, h4⟩, h5⟩ := h
  refine ⟨h1, v, (hb.block b hlt).trans h2, ⟨h3, ?_⟩, h5⟩
  rcases h4 with h4 | ⟨g, cap, cur, fz, q1, q2, q3, q4⟩
  · exact .inl h4
  · exact .inr ⟨g, cap, cur, fz, q1, q2, (hb.block g (Array.getElem?_eq_some_iff.1 q3).1).trans q3, q4⟩
theorem IsB.below {T e : TypeId} {B b : Nat} {bs : List Value} {W W' : World} (h : Lib.IsBuilderF T e B b bs W) (hb : Below W.heap.size W W') : Lib.IsBuilderF T e B b bs W' :=
  h.imp (fun h => BAt.below h hb) (fun h => BAt.below h hb)
def con (ss : Nat → List UInt8) (k : Nat) : List UInt8 := (List.range k).flatMap fun i => ss i ++ [59, 10]
theorem con_succ (ss : Nat → List UInt8) (k : Nat) : con ss (k + 1) = con ss k ++ (ss k ++ [59, 10]) := by simp [con, List.range_succ]
theorem con_mono (ss : Nat → List UInt8) {k m : Nat} (h : k ≤ m) : (con ss k).length ≤ (con ss m).length := by
  induction m with
  | zero => rw [Nat.le_zero.1 h]; exact Nat.le_refl _
  | succ m ih =>
    rcases Nat.lt_or_ge k (m + 1) with h1 | h1
    · rw [con_succ, List.length_append]; have := ih (by omega); omega
    · rw [show k = m + 1 by omega]; exact Nat.le_refl _
theorem con_cells (ss : Nat → List UInt8) (k : Nat) : Lib.byteCells (con ss k) ++ Lib.strCells ((⟨(ss k).toArray⟩ : ByteArray) ++ ⟨#[59, 10]⟩) = Lib.byteCells (con ss (k + 1)) := by
  rw [con_succ, Lib.byteCells_append, Lib.strCells_eq]
  congr 2
structure DeedV where
  a : Int
  b : Int
  c : Int
  d : ByteArray
  e : ByteArray
  f : ByteArray
  g : Int
  p : Option Addr
  m : Nat
  q : Nat
set_option maxHeartbeats 2000000 in
theorem print_calls (n off cap len : Nat) (u : Nat → DeedV) (ss : Nat → List UInt8) (w : World) (hn : n < w.heap.size)
    (hc : ∀ i, i < len → w.cell? ⟨n, off + i * 8, none⟩ = some (.int .i64 (u i).a) ∧ w.cell? ⟨n, off + i * 8 + 1, none⟩ = some (.int .i64 (u i).b) ∧ w.cell? ⟨n, off + i * 8 + 2, none⟩ = some (.int .i64 (u i).c) ∧
      w.cell? ⟨n, off + i * 8 + 3, none⟩ = some (.string (u i).d) ∧ w.cell? ⟨n, off + i * 8 + 4, none⟩ = some (.string (u i).e) ∧ w.cell? ⟨n, off + i * 8 + 5, none⟩ = some (.string (u i).f) ∧
      w.cell? ⟨n, off + i * 8 + 6, none⟩ = some (.int .i64 (u i).g) ∧ w.cell? ⟨n, off + i * 8 + 7, none⟩ = some (.slice (u i).p (u i).m (u i).q))
    (hchk : ∀ w', Below w.heap.size w w' → Calls Tryz.prog 26 #[.slice (some ⟨n, off, none⟩) len cap] w' fun e w'' => e = .returned (.int .i64 0) ∧ Below w'.heap.size w' w'')
    (hshow : ∀ i w', i < len → Below w.heap.size w w' → Calls Tryz.prog 69 #[.agg #[.int .i64 (u i).a, .int .i64 (u i).b, .int .i64 (u i).c, .string (u i).d, .string (u i).e, .string (u i).f, .int .i64 (u i).g, .slice (u i).p (u i).m (u i).q]] w' fun e w'' => e = .returned (.string ⟨(ss i).toArray⟩) ∧ Below w'.heap.size w' w'')
    (hbig : (con ss len).length ≤ 140737488355328) (hlen : len ≤ 1000000) :
    Calls Tryz.prog 21 #[.slice (some ⟨n, off, none⟩) len cap] w fun e w' => e = .returned (.tuple #[.string ⟨(con ss len).toArray⟩, .int .i64 0]) ∧ Below w.heap.size w w' := by
  have b0 := Below.refl w.heap.size w
  have H1 := Lib.hid hc
  have H2 := Lib.hid hchk
  have H3 := Lib.hid hshow
  have H4 := Lib.hid hbig
  clear hc hchk hshow hbig
  go_enter Tryz.func21, Tryz.ntmps21
  go_wp2_with (go_at_call 26; refine (H2.out _ b0).mono ?_)
  rintro e W1 ⟨rfl, h1⟩
  have HW1 := Lib.hid h1
  have hw1 := h1.size
  clear h1
  go_wp2
  go_loopw [15] (fun i wr => ∃ k : Nat, k ≤ len ∧ i = .int .i64 k ∧ Hid (Lib.IsBuilderF 118 5 W1.heap.size W1.heap.size (Lib.byteCells (con ss k)) wr) ∧ Hid (Below W1.heap.size W1 wr)) (fun i _ => len - (RowKit.intOf i).toNat)
  case atStart =>
    exact ⟨0, Nat.zero_le _, rfl, Lib.hid (Lib.IsBuilderF.of (Lib.fresh_isBuilder 118 5 W1)), Lib.hid ((Below.refl _ _).alloc (Nat.le_refl _) _)⟩
  case round =>
    obtain ⟨k, hk, rfl, HB, HW⟩ := hrel
    by_cases hlt : k < len
    · have hcc : ∀ o, wr.cell? ⟨n, o, none⟩ = w.cell? ⟨n, o, none⟩ := fun o => (HW.out.cell (p := ⟨n, o, none⟩) (Nat.lt_of_lt_of_le hn hw1)).trans (HW1.out.cell (p := ⟨n, o, none⟩) hn)
      obtain ⟨c0, c1, c2, c3, c4, c5, c6, c7⟩ := H1.out k hlt
      rw [← hcc] at c0 c1 c2 c3 c4 c5 c6 c7
      have HC := Lib.hid hcc
      clear hcc
      have hwr := HW.out.size
      have hbelow : Below w.heap.size w wr := HW1.out.trans (HW.out.mono hw1)
      have HB0 := Lib.hid hbelow
      clear hbelow
      have hz : (ss k).length + 2 ≤ 140737488355328 := by
        have h1 := con_mono ss (show k + 1 ≤ len by omega)
        rw [con_succ, List.length_append, List.length_append] at h1
        have := H4.out
        simp only [List.length_cons, List.length_nil] at h1
        omega
      have hz2 : ¬ 9223372036854775807 < (ss k).length + 2 := by omega
      go_wp2_with fail
      refine (H3.out k _ hlt (HB0.out.alloc (by omega) _)).mono ?_
      rintro e W2 ⟨rfl, h2⟩
      have hB2 := IsB.below (HB.out.alloc _) h2
      have hW2 : Below W1.heap.size W1 W2 := (HW.out.alloc hwr _).trans (h2.mono (by simp; omega))
      have hs2 : W1.heap.size ≤ W2.heap.size := hW2.size
      have HB2 := Lib.hid hB2
      have HW2 := Lib.hid hW2
      clear h2 hB2 hW2
      have HZ := Lib.hid (show (Lib.byteCells (con ss k)).length + ((⟨(ss k).toArray⟩ : ByteArray) ++ ⟨#[59, 10]⟩).size ≤ 140737488355328 by
        have h1 := con_mono ss (show k + 1 ≤ len by omega)
        rw [con_succ, List.length_append, List.length_append] at h1
        have := H4.out
        simp only [List.length_cons, List.length_nil] at h1
        have e : ((⟨(ss k).toArray⟩ : ByteArray) ++ ⟨#[59, 10]⟩).size = (ss k).length + 2 := by simp [ByteArray.size_append, ByteArray.size]
        rw [Lib.byteCells_length, e]
        omega)
      go_wp2_with fail
      refine (c_write W1.heap.size W1.heap.size _ _ W2 HB2.out HZ.out hs2).mono ?_
      rintro e W4 ⟨rfl, h4, h5, _⟩
      rw [con_cells] at h4
      have HB4 := Lib.hid (Or.inr h4 : Lib.IsBuilderF 118 5 W1.heap.size W1.heap.size _ W4)
      have HW4 := Lib.hid (HW2.out.trans h5)
      clear h4 h5
      go_wp2
      go_roundw
      case rel => exact ⟨k + 1, by omega, by go_num, HB4, HW4⟩
      case measure => simp [RowKit.intOf]; omega
    · go_wp2_with fail
      obtain rfl : k = len := by omega
      refine (c_string W1.heap.size W1.heap.size _ wr HB.out HW.out.size).mono ?_
      rintro e W3 ⟨rfl, _, h3, _⟩
      have H5 := Lib.hid (HW1.out.trans ((HW.out.trans h3).mono hw1))
      clear h3
      go_wp2
      go_ret2
      exact ⟨rfl, H5.out⟩

/-- A deed's cells. -/
structure DeedQ where
  a : Int
  b : Int
  c : Int
  d : ByteArray
  e : ByteArray
  f : ByteArray
  g : Int
  x : List (List D)
  deriving Inhabited
def deedD (q : DeedQ) : List D := [wI q.a, wI q.b, wI q.c, .v (.string q.d), .v (.string q.e), .v (.string q.f), wI q.g, .sl q.x]
theorem V.slB {A : Nat → Prop} {b b' : Nat} {w : World} {φ φ' : Nat → Loc} {es : List (List D)} {u : Value} (h : V ⟨A, b⟩ w φ (.sl es) u) : V ⟨A, b'⟩ w φ' (.sl es) u := by
  cases h with
  | sl0 => exact .sl0 _ _ _
  | sl _ _ n off sz cap u hA hcap hsz hc h => exact .sl _ es n off sz cap u hA hcap hsz hc h
def slP : Value → Option Addr
  | .slice p _ _ => p
  | _ => none
def slM : Value → Nat
  | .slice _ m _ => m
  | _ => 0
def slQ : Value → Nat
  | .slice _ _ q => q
  | _ => 0
theorem sl_of {A : Rd} {w : World} {φ : Nat → Loc} {es : List (List D)} {u : Value} (h : V A w φ (.sl es) u) : u = .slice (slP u) (slM u) (slQ u) := by
  cases h <;> rfl
/-- What leaves everything alone, and gives a value without memory. -/
theorem Maps.calls {P : Program} {f : FuncId} {args : List D} {x : Value} (h : Maps P f args (.v x)) {w : World} {A : Nat → Prop} {vs : Array Value} (hA : ∀ n, A n → n < w.heap.size) (hla : Laid A w) (hv : VS ⟨A, w.heap.size⟩ w nowhere args vs) :
    Calls P f vs w fun e w' => e = .returned x ∧ Below w.heap.size w w' :=
  (callsIn_wide.1 (h.2 w A vs hA hla hv)).mono fun e w' ⟨v, A', h1, h2, _, _, _, h6⟩ => ⟨by rw [h1, h2.v_inv], ⟨h6.os, h6.tape, h6.output, h6.size, fun n hn => h6.same n hn id⟩⟩

theorem m_print (qs : List DeedQ) (ss : Nat → List UInt8) (hne : qs ≠ []) (hchk : Maps Tryz.prog 26 [.sl (qs.map deedD)] (wI 0))
    (hshow : ∀ i q, qs[i]? = some q → Maps Tryz.prog 69 [.agg (deedD q)] (.v (.string ⟨(ss i).toArray⟩))) (hbig : (con ss qs.length).length ≤ 140737488355328) (hlen : qs.length ≤ 1000000) :
    Maps Tryz.prog 21 [.sl (qs.map deedD)] (.tup [.v (.string ⟨(con ss qs.length).toArray⟩), wI 0]) := by
  refine ⟨enters_of Tryz.func21 rfl rfl, fun w A vs hA hla hv => ?_⟩
  obtain ⟨v0, rfl⟩ : ∃ u, vs = #[u] := by
    have := hv.size
    match vs, this with
    | ⟨[u]⟩, _ => exact ⟨u, rfl⟩
  have h0 := hv.val 0 _ v0 rfl rfl
  have h0' := h0
  generalize hes : qs.map deedD = es at h0
  cases h0 with
  | sl0 => exact absurd (by simpa using hes) hne
  | sl _ _ n off sz cap u ha hcap hsz hc hh =>
  subst hes
  have hq : ∀ i, i < qs.length → qs[i]? = some (qs.getD i default) := fun i hi => by simp [List.getD, hi]
  have hrow : ∀ i, i < qs.length → (qs.map deedD)[i]? = some (deedD (qs.getD i default)) := fun i hi => by rw [List.getElem?_map, hq i hi]; rfl
  obtain rfl : sz = 8 := by
    have h1 : 0 < qs.length := List.length_pos_iff.2 hne
    exact (hsz 0 _ (hrow 0 h1)).symm
  have hn : n < w.heap.size := hA n ha
  have kept : ∀ {w' : World}, Below w.heap.size w w' → (∀ n, A n → w'.heap[n]? = w.heap[n]?) := fun hb n hn => hb.block n (hA n hn)
  have hA' : ∀ {w' : World}, Below w.heap.size w w' → ∀ n, A n → n < w'.heap.size := fun hb n hn => Nat.lt_of_lt_of_le (hA n hn) hb.size
  have hcell : ∀ i, i < qs.length → ∀ j d, (deedD (qs.getD i default))[j]? = some d → w.cell? ⟨n, off + i * 8 + j, none⟩ = some (u i j) ∧ V ⟨A, 0⟩ w nowhere d (u i j) := fun i hi j d hj => ⟨hc i _ j d (hrow i hi) hj, hh i _ j d (hrow i hi) hj⟩
  let uD : Nat → DeedV := fun i => let q := qs.getD i default
    ⟨q.a, q.b, q.c, q.d, q.e, q.f, q.g, slP (u i 7), slM (u i 7), slQ (u i 7)⟩
  have cell7 : ∀ i, i < qs.length → w.cell? ⟨n, off + i * 8 + 7, none⟩ = some (.slice (slP (u i 7)) (slM (u i 7)) (slQ (u i 7))) ∧ V ⟨A, 0⟩ w nowhere (.sl (qs.getD i default).x) (.slice (slP (u i 7)) (slM (u i 7)) (slQ (u i 7))) := fun i hi => by
    have h7 := hcell i hi 7 _ rfl
    have e := sl_of h7.2
    rw [← e]; exact h7
  have hcalls := print_calls n off cap qs.length uD ss w hn (fun i hi => by
      have c := fun j x (hj : (deedD (qs.getD i default))[j]? = some (D.v x)) => (hcell i hi j _ hj).1.trans (by rw [(hcell i hi j _ hj).2.v_inv])
      exact ⟨c 0 _ rfl, c 1 _ rfl, c 2 _ rfl, c 3 _ rfl, c 4 _ rfl, c 5 _ rfl, c 6 _ rfl, (cell7 i hi).1⟩)
    (fun w' hb => by
      refine Maps.calls (by exact hchk) (hA' hb) (hla.mono (fun _ x => x) (kept hb)) ⟨rfl, fun i d x h1 h2 => ?_⟩
      match i, h1, h2 with
      | 0, h1, h2 =>
        cases h1; cases h2
        rw [← List.length_map (f := deedD)]
        exact V.slB (h0'.mono (fun _ x => x) (kept hb) (fun _ => Loc.le_refl _)))
    (fun i w' hi hb => by
      refine Maps.calls (hshow i _ (hq i hi)) (hA' hb) (hla.mono (fun _ x => x) (kept hb)) ⟨rfl, fun k d x h1 h2 => ?_⟩
      match k, h1, h2 with
      | 0, h1, h2 =>
        cases h1; cases h2
        refine .agg _ _ _ rfl fun j d x h1 h2 => ?_
        match j, h1, h2 with
        | 0, h1, h2 => cases h1; cases h2; exact .v _ _
        | 1, h1, h2 => cases h1; cases h2; exact .v _ _
        | 2, h1, h2 => cases h1; cases h2; exact .v _ _
        | 3, h1, h2 => cases h1; cases h2; exact .v _ _
        | 4, h1, h2 => cases h1; cases h2; exact .v _ _
        | 5, h1, h2 => cases h1; cases h2; exact .v _ _
        | 6, h1, h2 => cases h1; cases h2; exact .v _ _
        | 7, h1, h2 =>
          cases h1; cases h2
          exact V.slB ((cell7 i hi).2.mono (A' := ⟨A, 0⟩) (fun _ x => x) (kept hb) (fun _ => Loc.le_refl _)))
    hbig hlen
  rw [List.length_map]
  refine (callsIn_wide.2 hcalls).mono ?_
  rintro e w' ⟨rfl, hb⟩
  refine ⟨_, A, rfl, .tup _ _ _ rfl fun i d x h1 h2 => ?_, fun _ h => h, fun _ h => .inl h, hA' hb, ⟨hb.os, hb.tape, hb.output, hb.size, fun n hn _ => hb.block n hn, fun n hn => hn.elim⟩⟩
  match i, h1, h2 with
  | 0, h1, h2 => cases h1; cases h2; exact .v _ _
  | 1, h1, h2 => cases h1; cases h2; exact .v _ _
theorem m_show0 : Maps Tryz.prog 69 [.agg [wI 1, wI 1, wI 1, n_upper, n_0, n_ann, wI 0, .sl []]] (bl [100, 97, 121, 32, 49, 32, 102, 111, 117, 110, 100, 32, 117, 112, 112, 101, 114, 32, 102, 111, 114, 32, 97, 110, 110]) := (run_ok (Bg_ok tabC_ok) 400).own (by kernel_rfl)
theorem m_show1 : Maps Tryz.prog 69 [.agg [wI 5, wI 5, wI 3, n_upper, n_ann, n_0, wI 0, .sl [[n_ben, wI 2], [n_carl, wI 1]]]] (bl [100, 97, 121, 32, 53, 32, 100, 105, 118, 105, 100, 101, 32, 117, 112, 112, 101, 114, 32, 111, 102, 32, 97, 110, 110, 32, 97, 109, 111, 110, 103, 32, 98, 101, 110, 32, 50, 44, 32, 99, 97, 114, 108, 32, 49]) := (run_ok (Bg_ok tabC_ok) 400).own (by kernel_rfl)
theorem m_show2 : Maps Tryz.prog 69 [.agg [wI 7, wI 7, wI 4, n_upper, n_ben, n_dan, wI 20, .sl []]] (bl [100, 97, 121, 32, 55, 32, 108, 101, 110, 100, 32, 117, 112, 112, 101, 114, 32, 111, 102, 32, 98, 101, 110, 32, 116, 111, 32, 100, 97, 110, 32, 117, 110, 116, 105, 108, 32, 50, 48]) := (run_ok (Bg_ok tabC_ok) 400).own (by kernel_rfl)
theorem m_show3 : Maps Tryz.prog 69 [.agg [wI 9, wI 12, wI 2, n_upper, n_carl, n_ben, wI 0, .sl []]] (bl [100, 97, 121, 32, 57, 32, 107, 110, 111, 119, 110, 32, 49, 50, 32, 115, 101, 108, 108, 32, 117, 112, 112, 101, 114, 32, 111, 102, 32, 99, 97, 114, 108, 32, 116, 111, 32, 98, 101, 110]) := (run_ok (Bg_ok tabC_ok) 400).own (by kernel_rfl)
theorem m_show4 : Maps Tryz.prog 69 [.agg [wI 10, wI 10, wI 5, n_upper, n_ben, n_0, wI 0, .sl []]] (bl [100, 97, 121, 32, 49, 48, 32, 102, 111, 114, 102, 101, 105, 116, 32, 117, 112, 112, 101, 114, 32, 111, 102, 32, 98, 101, 110]) := (run_ok (Bg_ok tabC_ok) 400).own (by kernel_rfl)
theorem m_show5 : Maps Tryz.prog 69 [.agg [wI 30, wI 30, wI 6, n_upper, n_ben, n_0, wI 0, .sl []]] (bl [100, 97, 121, 32, 51, 48, 32, 114, 101, 100, 101, 101, 109, 32, 117, 112, 112, 101, 114, 32, 111, 102, 32, 98, 101, 110]) := (run_ok (Bg_ok tabC_ok) 400).own (by kernel_rfl)
def q6 : List DeedQ := [⟨1, 1, 1, ⟨#[117, 112, 112, 101, 114]⟩, ⟨#[]⟩, ⟨#[97, 110, 110]⟩, 0, []⟩,
  ⟨5, 5, 3, ⟨#[117, 112, 112, 101, 114]⟩, ⟨#[97, 110, 110]⟩, ⟨#[]⟩, 0, [[n_ben, wI 2], [n_carl, wI 1]]⟩,
  ⟨7, 7, 4, ⟨#[117, 112, 112, 101, 114]⟩, ⟨#[98, 101, 110]⟩, ⟨#[100, 97, 110]⟩, 20, []⟩,
  ⟨9, 12, 2, ⟨#[117, 112, 112, 101, 114]⟩, ⟨#[99, 97, 114, 108]⟩, ⟨#[98, 101, 110]⟩, 0, []⟩,
  ⟨10, 10, 5, ⟨#[117, 112, 112, 101, 114]⟩, ⟨#[98, 101, 110]⟩, ⟨#[]⟩, 0, []⟩,
  ⟨30, 30, 6, ⟨#[117, 112, 112, 101, 114]⟩, ⟨#[98, 101, 110]⟩, ⟨#[]⟩, 0, []⟩]
def s6 : Nat → List UInt8
  | 0 => [100, 97, 121, 32, 49, 32, 102, 111, 117, 110, 100, 32, 117, 112, 112, 101, 114, 32, 102, 111, 114, 32, 97, 110, 110]
  | 1 => [100, 97, 121, 32, 53, 32, 100, 105, 118, 105, 100, 101, 32, 117, 112, 112, 101, 114, 32, 111, 102, 32, 97, 110, 110, 32, 97, 109, 111, 110, 103, 32, 98, 101, 110, 32, 50, 44, 32, 99, 97, 114, 108, 32, 49]
  | 2 => [100, 97, 121, 32, 55, 32, 108, 101, 110, 100, 32, 117, 112, 112, 101, 114, 32, 111, 102, 32, 98, 101, 110, 32, 116, 111, 32, 100, 97, 110, 32, 117, 110, 116, 105, 108, 32, 50, 48]
  | 3 => [100, 97, 121, 32, 57, 32, 107, 110, 111, 119, 110, 32, 49, 50, 32, 115, 101, 108, 108, 32, 117, 112, 112, 101, 114, 32, 111, 102, 32, 99, 97, 114, 108, 32, 116, 111, 32, 98, 101, 110]
  | 4 => [100, 97, 121, 32, 49, 48, 32, 102, 111, 114, 102, 101, 105, 116, 32, 117, 112, 112, 101, 114, 32, 111, 102, 32, 98, 101, 110]
  | 5 => [100, 97, 121, 32, 51, 48, 32, 114, 101, 100, 101, 101, 109, 32, 117, 112, 112, 101, 114, 32, 111, 102, 32, 98, 101, 110]
  | _ => []
theorem m_print6 : Maps Tryz.prog 21 [.sl c6] (.tup [src, wI 0]) :=
  m_print q6 s6 (by simp [q6]) m_chk (fun i q h => by
    match i, h with
    | 0, h => cases h; exact m_show0
    | 1, h => cases h; exact m_show1
    | 2, h => cases h; exact m_show2
    | 3, h => cases h; exact m_show3
    | 4, h => cases h; exact m_show4
    | 5, h => cases h; exact m_show5
    | n + 6, h => simp [q6] at h) (by decide) (by decide)
end Go.DL
