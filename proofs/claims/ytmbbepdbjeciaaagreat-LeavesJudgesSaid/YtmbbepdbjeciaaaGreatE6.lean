/- A range over a function, over abstract values: what an iterator promises, and the rule for the statement. -/
import Derived.Test.YtmbbepdbjeciaaaGreatE5
set_option linter.all false
namespace Go.DL
open Go.RowKit Go.Proofs

noncomputable section

/-- Values that a yield may hand over: they speak of no own block. -/
def still : Nat → D → Bool
  | k + 1, .agg cs => cs.all (still k)
  | k + 1, .tup cs => cs.all (still k)
  | _, .fl _ => true
  | _, d => flat d

theorem V.fl_up {A A' : Rd} {w : World} {φ φ' : Nat → Loc} (hA : ∀ n, A n → A' n) (hb : A'.b0 ≤ A.b0) {es : List (List D)} {u : Value} (h : V A w φ (.fl es) u) : V A' w φ' (.fl es) u := by
  cases h with
  | fl0 => exact .fl0 _ _ _
  | fl _ _ n off sz cap u ha hcap hsz hc h =>
    exact .fl _ _ n off sz cap u ⟨hA n ha.1, Nat.le_trans hb ha.2⟩ hcap hsz hc fun i e j d h1 h2 =>
      V.mono (A := A.fresh) (A' := A'.fresh) (fun m hm => ⟨hA m hm.1, Nat.le_trans hb hm.2⟩) (fun _ _ => rfl) (fun _ => Loc.le_refl _) (h i e j d h1 h2)

theorem V.still {A A' : Rd} {w : World} {φ φ' : Nat → Loc} (hA : ∀ n, A n → A' n) (hb : A'.b0 ≤ A.b0) : ∀ (k : Nat) {d : D} {u : Value}, V A w φ d u → DL.still k d = true → V A' w φ' d u := by
  intro k
  induction k with
  | zero =>
    intro d u h hd
    cases d with
    | fl es => exact h.fl_up hA hb
    | _ => exact h.flat (by simpa [DL.still] using hd) hA
  | succ k ih =>
    intro d u h hd
    cases d with
    | fl es => exact h.fl_up hA hb
    | agg cs =>
      simp only [DL.still, List.all_eq_true] at hd
      cases h with
      | agg _ cs vs hl h => exact .agg _ _ _ hl fun i d u h1 h2 => ih (h i d u h1 h2) (hd d (List.mem_of_getElem? h1))
    | tup cs =>
      simp only [DL.still, List.all_eq_true] at hd
      cases h with
      | tup _ cs vs hl h => exact .tup _ _ _ hl fun i d u h1 h2 => ih (h i d u h1 h2) (hd d (List.mem_of_getElem? h1))
    | _ => exact h.flat (by simpa [DL.still] using hd) hA

/-- The parameters of a round are set. -/
def setPs (t : List D) : List (Tmp × D) → List D
  | [] => t
  | (i, d) :: r => setPs (t.set i d) r

theorem TR.puts {A : Rd} {w : World} {φ : Nat → Loc} : ∀ (ps : List Tmp) {args : List D} {vs : List Value} {t : List D} {tmps : Array Value}, TR A w φ t tmps → vs.length = args.length →
    (∀ (i : Nat) (d : D) (u : Value), args[i]? = some d → vs[i]? = some u → V A w φ d u) →
    TR A w φ (setPs t (ps.zip args)) ((ps.zip vs).foldl (fun tmps p => tmps.setIfInBounds p.1 p.2) tmps)
  | [], _, _, _, _, ht, _, _ => ht
  | p :: ps, [], [], _, _, ht, _, _ => ht
  | p :: ps, d :: args, v :: vs, t, tmps, ht, hl, hv => by
    simp only [List.zip_cons_cons, setPs, List.foldl_cons]
    refine TR.puts ps (TR.put (a := ⟨tmps, []⟩) ht (some p) (hv 0 d v rfl rfl)) (by simpa using hl) fun i d' u h1 h2 => hv (i + 1) d' u (by simpa using h1) (by simpa using h2)

theorem Keep.wide {N : Nat} {w w' : World} {F F' : Fr} (X : Nat → Prop) (h : Keep N w F w' F') :
    Keep N w ⟨fun n => F.O n ∨ X n, F.A, F.φ⟩ w' ⟨fun n => F'.O n ∨ X n, F'.A, F'.φ⟩ :=
  ⟨{ h.ext with same := fun n hn ho => h.ext.same n hn fun x => ho (.inl x), own := fun n hn => hn.elim (fun x => (h.ext.own n x).imp .inl id) fun x => .inl (.inr x) },
   h.up, fun n hn => (h.new n hn).imp id (.imp .inl id), h.le, h.b0⟩

/-- What surrounds the body of a range over a function: the loop's record. -/
def Gh.body (N : Nat) (w : World) (F : Fr) (l : Nat) (R0 : Loop) : Gh where
  N := N
  I := fun _ w' F' => Keep N w ⟨fun n => F.O n ∨ n = l, F.A, F.φ⟩ w' ⟨fun n => F'.O n ∨ n = l, F'.A, F'.φ⟩ ∧ ¬ F'.O l ∧ ¬ F'.A l ∧ w'.heap[l]? = some (.loop R0)

theorem stab_body (N : Nat) (w : World) (F : Fr) (l : Nat) (R0 : Loop) : Stab (Gh.body N w F l R0) := by
  rintro g w1 F1 w2 F2 ⟨h1, h2, h3, h4⟩ k
  have hl : l < w1.heap.size := (Array.getElem?_eq_some_iff.1 h4).1
  refine ⟨h1.trans (k.wide _), fun x => ?_, fun x => ?_, (k.ext.same l hl h2).trans h4⟩
  · exact (k.ext.own l x).elim h2 fun y => by omega
  · rcases k.new l x with y | y | y
    · exact h3 y
    · exact h2 y
    · omega

/-- The state of the frame that ranges over a function, while the function runs: w0, F0: where it began; the function's own blocks lie from m on. -/
structure RangeI (N : Nat) (w0 : World) (F0 : Fr) (m : Nat) (ds : List Nat) (l : Nat) (w : World) (F : Fr) (H : List Blk) (R : Loop) (A : Rd) (φ : Nat → Loc) : Prop where
  rh : RH A φ w H
  keep : Keep N w0 F0 w ⟨ownAll φ ds, A, φ⟩
  le : ∀ b, (F0.φ b).le (φ b)
  hm : m ≤ w.heap.size
  rcd : w.heap[l]? = some (.loop R)
  lA : ¬ A l
  lO : ¬ ownAll φ ds l
  dk : ∀ r, r ∈ ds → w.heap[r]? = some (.deferred (some [])) ∧ ¬ A r ∧ ¬ own φ r
  o1 : ∀ n, F.O n → m ≤ n ∧ ¬ ownAll φ ds n ∧ ¬ A n
  a1 : ∀ n, F.A n → ¬ ownAll φ ds n ∧ n ≠ l ∧ (F0.A n ∨ w0.heap.size ≤ n)
  b1 : F0.A.b0 ≤ F.A.b0

section
variable {P : Program} {N : Nat} {w0 : World} {F0 : Fr} {m : Nat} {ds : List Nat} {l : Nat}

theorem RangeI.olt {w : World} {F : Fr} {H : List Blk} {R : Loop} {A : Rd} {φ : Nat → Loc} (h : RangeI N w0 F0 m ds l w F H R A φ) {n : Nat} (hn : ownAll φ ds n) : n < w.heap.size :=
  hn.elim (h.rh.olt n) fun hm => (Array.getElem?_eq_some_iff.1 (h.dk n hm).1).1

theorem RangeI.stab (hl : l < m) (hm0 : w0.heap.size ≤ m) {w w' : World} {F F' : Fr} {H : List Blk} {R : Loop} {A : Rd} {φ : Nat → Loc} (h : RangeI N w0 F0 m ds l w F H R A φ) {M : Nat} (k : Keep M w F w' F') :
    RangeI N w0 F0 m ds l w' F' H R A φ := by
  have hO : ∀ n, ownAll φ ds n → w'.heap[n]? = w.heap[n]? := fun n hn => k.ext.same n (h.olt hn) fun x => (h.o1 n x).2.1 hn
  have hA : ∀ n, A n → w'.heap[n]? = w.heap[n]? := fun n hn => k.ext.same n (h.rh.lt n hn) fun x => (h.o1 n x).2.2 hn
  have hmw := h.hm
  have hlt : l < w.heap.size := by omega
  refine ⟨h.rh.move hA (fun n hn => hO n (.inl hn)) k.ext.size, ?_, h.le, Nat.le_trans h.hm k.ext.size, (k.ext.same l hlt fun x => by have := (h.o1 l x).1; omega).trans h.rcd, h.lA, h.lO, fun r hr => ⟨(hO r (.inr hr)).trans (h.dk r hr).1, (h.dk r hr).2⟩,
    fun n hn => ?_, fun n hn => ?_, by rw [k.b0]; exact h.b1⟩
  · refine ⟨⟨k.ext.os.trans h.keep.ext.os, k.ext.tape.trans h.keep.ext.tape, k.ext.output.trans h.keep.ext.output, Nat.le_trans h.keep.ext.size k.ext.size, fun n hn ho => ?_, h.keep.ext.own⟩, h.keep.up, h.keep.new, h.keep.le, h.keep.b0⟩
    exact (k.ext.same n (Nat.lt_of_lt_of_le hn h.keep.ext.size) fun x => by have := (h.o1 n x).1; omega).trans (h.keep.ext.same n hn ho)
  · rcases k.ext.own n hn with x | x
    · exact h.o1 n x
    · exact ⟨by omega, fun y => by have := h.olt y; omega, fun y => by have := h.rh.lt n y; omega⟩
  · rcases k.new n hn with x | x | x
    · exact h.a1 n x
    · exact ⟨(h.o1 n x).2.1, fun e => by have := (h.o1 n x).1; omega, .inr (Nat.le_trans hm0 (h.o1 n x).1)⟩
    · exact ⟨fun y => by have := h.olt y; omega, fun e => by omega, .inr (Nat.le_trans h.keep.ext.size x)⟩

/-- ONE ROUND. -/
theorem range_round (hl : l < m) (hm0 : w0.heap.size ≤ l) {w : World} {F : Fr} {H : List Blk} {R0 : Loop} {A : Rd} {φ : Nat → Loc} (h : RangeI N w0 F0 m ds l w F H R0 A φ) (hs : R0.state = .ready) (hp : R0.pending = none)
    {t : List D} (ht : TR F0.A w0 F0.φ t R0.tmps) (hA1 : ∀ n, F0.A n → n < w0.heap.size ∧ ¬ F0.O n) {args : List D} {vs : Array Value} (hv : VS F.A w F.φ args vs) (hst : args.all (DL.still 3) = true)
    (hFA : ∀ n, F.A n → n < w.heap.size) (hFO : ∀ n, F.O n → n < w.heap.size) (hdis : ∀ n, F.O n → ¬ F.A n) {RB : Exit → St → Prop}
    (hB : ∀ Gb, Stab Gb → YOk P Gb → Gb.N = H.length → Sp P (some l) Gb R0.assign { t := setPs t (R0.params.toList.zip args), H := H, ds := [], g := (0, false) } fun e s => e = .normal ∧ ∀ Gb', Stab Gb' → YOk P Gb' → Gb'.N = H.length → Sp P (some l) Gb' R0.body s RB)
    {J : List Blk → Prop} {S : Code → List Blk → Prop} (hJ : ∀ s, RB .normal s → J s.H) (hret : ∀ s, RB .ret s → S .ret s.H) (hexit : ∀ id s, RB (.exit id) s → S (.exit id) s.H) (hno : ∀ s, (∀ t, ¬ RB (.goto t) s) ∧ (∀ c, ¬ RB (.panic c) s) ∧ ¬ RB .outgrown s) :
    RoundIn Fence.wide 0 P l R0.fn ((R0.params.zip vs).foldl (fun tmps (t, a) => tmps.setIfInBounds t a) R0.tmps) R0.assign R0.body w fun e w' =>
      (∀ n, F.O n ∨ F.A n → w'.heap[n]? = w.heap[n]?) ∧ w.heap.size ≤ w'.heap.size ∧
      ((e = .returned (.bool true) ∧ ∃ H' A' φ', J H' ∧ RangeI N w0 F0 m ds l w' F H' R0 A' φ') ∨
       (e = .returned (.bool false) ∧ ∃ c H' A' φ', S c H' ∧ RangeI N w0 F0 m ds l w' F H' { R0 with state := .done, pending := some c } A' φ')) := by
  have hmw := h.hm
  have hlt : l < w.heap.size := by omega
  let A2 : Rd := ⟨fun n => A n ∨ F.A n, A.b0⟩
  have hAb : A.b0 = F0.A.b0 := h.keep.b0
  have hrh : RH A2 φ w H := ⟨h.rh.out, h.rh.free, h.rh.dead, fun b sz es hb => (h.rh.live b sz es hb).imp id fun ⟨n, base, room, c, ty, q1, q2⟩ =>
      ⟨n, base, room, c, ty, q1, q2.mono (fun _ x => Or.inl x) (fun _ _ => rfl) (fun _ => Loc.le_refl _) rfl⟩, fun b clk es hb => let ⟨n, ms, q1, q2⟩ := h.rh.tab b clk es hb; ⟨n, ms, q1, q2.mono (fun _ x => Or.inl x) (fun _ _ => rfl) (fun _ => Loc.le_refl _) rfl⟩, h.rh.inj, fun n hn ha => ha.elim (h.rh.dis n hn) fun x => (h.a1 n x).1 (.inl hn),
      fun n hn => hn.elim (h.rh.lt n) (hFA n), h.rh.olt, h.rh.ofr, h.rh.bsz⟩
  have htr : TR A2 w φ (setPs t (R0.params.toList.zip args)) ((R0.params.zip vs).foldl (fun tmps (t, a) => tmps.setIfInBounds t a) R0.tmps) := by
    have h0 : TR A2 w φ t R0.tmps := ht.mono (fun n hn => Or.inl (h.keep.up n hn)) (fun n hn => h.keep.ext.same n (hA1 n hn).1 (hA1 n hn).2) h.le (Nat.le_of_eq hAb)
    have := TR.puts (A := A2) (w := w) (φ := φ) R0.params.toList (args := args) (vs := vs.toList) h0 (by simpa using hv.size) fun i d u h1 h2 => by
      refine (hv.val i d u h1 (by simpa using h2)).still (A' := A2) (fun n hn => Or.inr hn) (by show A.b0 ≤ F.A.b0; rw [hAb]; exact h.b1) 3 ?_
      rw [List.all_eq_true] at hst
      exact hst d (List.mem_of_getElem? h1)
    rw [← Array.foldl_toList, Array.toList_zip]
    exact this
  let Fb : Fr := ⟨own φ, A2, φ⟩
  let Gb := Gh.body H.length w Fb l R0
  have hGb : Stab Gb := stab_body _ _ _ _ _
  have hYb : YOk P Gb := fun l g ds vs K w F _ _ _ _ _ _ h => h.elim
  have hlo : ¬ own φ l := fun x => h.lO (.inl x)
  have hla : ¬ A2 l := fun x => x.elim h.lA fun y => (h.a1 l y).2.1 rfl
  have hown : ∀ φ : Nat → Loc, ownAll φ [] = own φ := fun φ => by funext n; simp [ownAll]
  have hfr : FR Gb { t := setPs t (R0.params.toList.zip args), H := H, ds := [], g := (0, false) } { tmps := (R0.params.zip vs).foldl (fun tmps (t, a) => tmps.setIfInBounds t a) R0.tmps, defers := [] } w :=
    ⟨A2, φ, hrh, htr, by rw [hown]; exact ⟨Keep.refl _ _ _, hlo, hla, h.rcd⟩, rfl, by simp, List.nodup_nil⟩
  -- what a round that has come to its end has kept
  have hend : ∀ (R' R'' : Loop) (s : St) (a : Act) (w' : World) (A' : Rd) (φ' : Nat → Loc), FRc (Gh.body H.length w Fb l R'') s a w' A' φ' →
      (∀ n, F.O n ∨ F.A n → (w'.putObj l (.loop R')).heap[n]? = w.heap[n]?) ∧ w.heap.size ≤ (w'.putObj l (.loop R')).heap.size ∧ RangeI N w0 F0 m ds l (w'.putObj l (.loop R')) F s.H R' A' φ' := by
    intro R' R'' s a w' A' φ' hr
    obtain ⟨k, k1, k2, k3⟩ := hr.gh
    have hlt' : l < w'.heap.size := (Array.getElem?_eq_some_iff.1 k3).1
    have hws : w.heap.size ≤ w'.heap.size := k.ext.size
    have k0 : ∀ n, n < w.heap.size → ¬ own φ n → n ≠ l → w'.heap[n]? = w.heap[n]? := fun n h1 h2 h3 => k.ext.same n h1 fun x => x.elim h2 h3
    have hownall : ∀ n, own φ' n → own φ n ∨ w.heap.size ≤ n := fun n hn => by
      rcases k.ext.own n (.inl (.inl hn)) with (x | x) | x
      · exact .inl x
      · exact absurd (.inl (x ▸ hn)) k1
      · exact .inr x
    have hdsl : ∀ r, r ∈ ds → r ≠ l := fun r hr e => h.lO (.inr (e ▸ hr))
    have hds1 : ∀ r, r ∈ ds → w'.heap[r]? = some (.deferred (some [])) ∧ ¬ A' r ∧ ¬ own φ' r := fun r hr => by
      obtain ⟨q1, q2, q3⟩ := h.dk r hr
      have hrlt : r < w.heap.size := (Array.getElem?_eq_some_iff.1 q1).1
      refine ⟨(k0 r hrlt q3 (hdsl r hr)).trans q1, fun x => ?_, fun x => ?_⟩
      · rcases k.new r x with (y | y) | (y | y) | y
        · exact q2 y
        · exact (h.a1 r y).1 (.inr hr)
        · exact q3 y
        · exact hdsl r hr y
        · omega
      · rcases hownall r x with y | y
        · exact q3 y
        · omega
    have hoth : ∀ n, n ≠ l → (w'.putObj l (.loop R')).heap[n]? = w'.heap[n]? := fun n hn => World.putObj_heap_other hn
    have hnl : ∀ n, own φ' n → n ≠ l := fun n hn e => k1 (.inl (e ▸ hn))
    have hnA : ∀ n, A' n → n ≠ l := fun n hn e => k2 (e ▸ hn)
    have hFl : ∀ n, F.O n ∨ F.A n → n ≠ l ∧ ¬ own φ n ∧ n < w.heap.size := fun n hn => by
      rcases hn with hn | hn
      · have := (h.o1 n hn).1
        exact ⟨by omega, fun x => (h.o1 n hn).2.1 (.inl x), hFO n hn⟩
      · exact ⟨(h.a1 n hn).2.1, fun x => (h.a1 n hn).1 (.inl x), hFA n hn⟩
    have hall' : ∀ n, ownAll φ' ds n → ownAll φ ds n ∨ w.heap.size ≤ n := fun n hn => hn.elim (fun x => (hownall n x).imp .inl id) fun x => .inl (.inr x)
    refine ⟨fun n hn => ?_, ?_, ?_, ?_, fun b => ?_, ?_, World.putObj_heap_same hlt', k2, ?_, fun r hr => ⟨(hoth r (hdsl r hr)).trans (hds1 r hr).1, (hds1 r hr).2⟩, fun n hn => ?_, fun n hn => ?_, h.b1⟩
    · obtain ⟨q1, q2, q3⟩ := hFl n hn
      rw [hoth n q1]; exact k0 n q3 q2 q1
    · rw [World.putObj_size]; exact hws
    · exact hr.rh.move (fun n hn => hoth n (hnA n hn)) (fun n hn => hoth n (hnl n hn)) (Nat.le_of_eq World.putObj_size.symm)
    · refine ⟨⟨k.ext.os.trans h.keep.ext.os, k.ext.tape.trans h.keep.ext.tape, k.ext.output.trans h.keep.ext.output, ?_, fun n hn ho => ?_, fun n hn => ?_⟩, fun n hn => k.up n (.inl (h.keep.up n hn)), fun n hn => ?_, fun b hb => ?_, k.b0.trans hAb⟩
      · rw [World.putObj_size]; exact Nat.le_trans h.keep.ext.size hws
      · have hnlt : n < w.heap.size := Nat.lt_of_lt_of_le hn h.keep.ext.size
        rw [hoth n (by omega), k0 n hnlt (fun x => (h.keep.ext.own n (.inl x)).elim ho fun y => by omega) (by omega)]
        exact h.keep.ext.same n hn ho
      · rcases hall' n hn with x | x
        · exact h.keep.ext.own n x
        · exact .inr (Nat.le_trans h.keep.ext.size x)
      · rcases k.new n hn with (y | y) | (y | y) | y
        · exact h.keep.new n y
        · exact (h.a1 n y).2.2.imp id .inr
        · rcases h.keep.ext.own n (.inl y) with z | z
          · exact .inr (.inl z)
          · exact .inr (.inr z)
        · exact .inr (.inr (by omega))
        · exact .inr (.inr (Nat.le_trans h.keep.ext.size y))
      · exact Loc.le_trans (h.keep.le b hb) (by
          rcases Nat.lt_or_ge b H.length with hb' | hb'
          · exact k.le b hb'
          · exact .inl (h.rh.out b (List.getElem?_eq_none hb')))
    · exact Loc.le_trans (h.le b) (by
          rcases Nat.lt_or_ge b H.length with hb' | hb'
          · exact k.le b hb'
          · exact .inl (h.rh.out b (List.getElem?_eq_none hb')))
    · rw [World.putObj_size]; omega
    · rintro (x | x)
      · exact k1 (.inl x)
      · exact h.lO (.inr x)
    · obtain ⟨q1, q2, q3⟩ := h.o1 n hn
      refine ⟨q1, fun x => (hall' n x).elim q2 fun y => by have := hFO n hn; omega, fun x => ?_⟩
      rcases k.new n x with (y | y) | (y | y) | y
      · exact q3 y
      · exact hdis n hn y
      · exact q2 (.inl y)
      · omega
      · have := hFO n hn; omega
    · obtain ⟨q1, q2⟩ := h.a1 n hn
      exact ⟨fun x => (hall' n x).elim q1 fun y => by have := hFA n hn; omega, q2⟩
  refine roundIn_of_wpIn (F := Fence.wide) trivial ?_
  refine wpIn_mono (hB Gb hGb hYb rfl _ w hfr) ?_
  rintro e a w' ⟨s, ⟨rfl, hbody⟩, A', φ', hr⟩
  have hgi := hr.gh
  obtain ⟨k, k1, k2, k3⟩ := hgi
  let R1 : Loop := { R0 with state := .busy }
  let Gc := Gh.body H.length w Fb l R1
  have hlt' : l < w'.heap.size := (Array.getElem?_eq_some_iff.1 k3).1
  refine ⟨_, run_beginRound k3 hs, ?_⟩
  have hoth : ∀ n, n ≠ l → (w'.putObj l (.loop R1)).heap[n]? = w'.heap[n]? := fun n hn => World.putObj_heap_other hn
  have hfr2 : FR Gc s a (w'.putObj l (.loop R1)) := by
    refine ⟨A', φ', hr.rh.move (fun n hn => hoth n fun e => k2 (e ▸ hn)) (fun n hn => hoth n fun e => k1 (.inl (e ▸ hn))) (Nat.le_of_eq World.putObj_size.symm),
      hr.tr.mono (fun _ x => x) (fun n hn => hoth n fun e => k2 (e ▸ hn)) (fun _ => Loc.le_refl _), ⟨?_, k1, k2, World.putObj_heap_same hlt'⟩, hr.df, fun r hr' => ⟨(hoth r fun e => ?_).trans (hr.dk r hr').1, (hr.dk r hr').2⟩, hr.nd⟩
    · exact ⟨⟨k.ext.os, k.ext.tape, k.ext.output, by rw [World.putObj_size]; exact k.ext.size, fun n hn ho => (hoth n fun e => ho (.inr e)).trans (k.ext.same n hn ho), k.ext.own⟩, k.up, k.new, k.le, k.b0⟩
    · exact k1 (.inr (e ▸ hr'))
  refine wpIn_mono (hbody Gc (stab_body _ _ _ _ _) (fun l g ds vs K w F _ _ _ _ _ _ h => h.elim) rfl a _ hfr2) ?_
  rintro e a2 w2 ⟨s2, q, A2', φ2', hr2⟩
  have k4 := hr2.gh.2.2.2
  cases e with
  | normal =>
    refine ⟨_, _, run_endRound none k4, ?_⟩
    obtain ⟨q1, q2, q3⟩ := hend { R1 with state := .ready, pending := none } R1 s2 a2 w2 A2' φ2' hr2
    refine ⟨q1, q2, .inl ⟨rfl, s2.H, A2', φ2', hJ s2 q, ?_⟩⟩
    have e1 : ({ R1 with state := .ready, pending := none } : Loop) = R0 := by
      cases R0; simp only at hs hp; subst hs; subst hp; rfl
    rw [← e1]; exact q3
  | ret =>
    refine ⟨_, _, run_endRound (some .ret) k4, ?_⟩
    obtain ⟨q1, q2, q3⟩ := hend { R1 with state := .done, pending := some .ret } R1 s2 a2 w2 A2' φ2' hr2
    exact ⟨q1, q2, .inr ⟨rfl, .ret, s2.H, A2', φ2', hret s2 q, q3⟩⟩
  | exit id =>
    refine ⟨_, _, run_endRound (some (.exit id)) k4, ?_⟩
    obtain ⟨q1, q2, q3⟩ := hend { R1 with state := .done, pending := some (.exit id) } R1 s2 a2 w2 A2' φ2' hr2
    exact ⟨q1, q2, .inr ⟨rfl, .exit id, s2.H, A2', φ2', hexit id s2 q, q3⟩⟩
  | goto t => exact ((hno s2).1 t q).elim
  | panic c => exact ((hno s2).2.1 c q).elim
  | outgrown => exact ((hno s2).2.2 q).elim

/-- AN ITERATOR's CONTRACT: called with a yield function, it yields these arguments, one after the other, up to the first false. -/
def Iter (P : Program) (f : FuncId) (first caps : List D) (seq : List (List D)) : Prop :=
  Enters P f ∧ ∀ (G : Gh) (l : Nat), Stab G → YOk P G → G.N = 0 → (∀ i args K, seq[i]? = some args → K true (i + 1, false) → K false (i, true) → G.Y l (i, false) args K) →
    ∀ (w : World) (A : Nat → Prop) (vs : Array Value), (∀ n, A n → n < w.heap.size) → VS ⟨A, w.heap.size⟩ w nowhere (first ++ ([.fn (.yield l) [] []] ++ caps)) vs →
      G.I (0, false) w ⟨fun _ => False, ⟨A, w.heap.size⟩, nowhere⟩ →
      CallsIn Fence.wide 0 P f vs w fun e w' => ∃ v g F, e = .returned v ∧ (g = (seq.length, false) ∨ g.2 = true) ∧ G.I g w' F

theorem Iter.ofS {P : Program} {f : FuncId} {fn : Func} {c : Code} {first caps : List D} {seq : List (List D)} (hf : P.funcs[f]? = some fn) (hb : fn.body = some c) (hname : (fn.name == "runtime.NumGoroutine") = false)
    (h : ∀ (G : Gh) (l : Nat), Stab G → YOk P G → G.N = 0 → (∀ i args K, seq[i]? = some args → K true (i + 1, false) → K false (i, true) → G.Y l (i, false) args K) →
      Sp P none G c { t := (first ++ ([.fn (.yield l) [] []] ++ caps)) ++ List.replicate (fn.ntmps - (first ++ ([D.fn (.yield l) [] []] ++ caps)).length) .any, H := [], ds := [], g := (0, false) }
        (PostE P fn.results.toList fun _ s => s.g = (seq.length, false) ∨ s.g.2 = true)) : Iter P f first caps seq := by
  refine ⟨enters_of hf hname hb, fun G l hG hY hN hYY w A vs hA hv hg => ?_⟩
  refine func_ofS hG hf hb (g := (0, false)) (rh_nil hA (Nat.le_refl _)) hv (by rw [own_nowhere]; exact hg) (h G l hG hY hN hYY) ?_
  intro s w' A' φ' d x _ hg' _ q
  exact ⟨x, s.g, _, rfl, q, hg'⟩

theorem Iter.of {P : Program} {f : FuncId} {fn : Func} {c : Code} {first caps : List D} {seq : List (List D)} (hf : P.funcs[f]? = some fn) (hb : fn.body = some c) (hname : (fn.name == "runtime.NumGoroutine") = false)
    (h : ∀ (G : Gh) (l : Nat), Stab G → YOk P G → G.N = 0 → (∀ i args K, seq[i]? = some args → K true (i + 1, false) → K false (i, true) → G.Y l (i, false) args K) →
      vc P none G c { t := (first ++ ([.fn (.yield l) [] []] ++ caps)) ++ List.replicate (fn.ntmps - (first ++ ([D.fn (.yield l) [] []] ++ caps)).length) .any, H := [], ds := [], g := (0, false) }
        (PostE P fn.results.toList fun _ s => s.g = (seq.length, false) ∨ s.g.2 = true)) : Iter P f first caps seq :=
  Iter.ofS hf hb hname fun G l hG hY hN hYY => vc_ok hG hY c (h G l hG hY hN hYY)

end

theorem VS.app {A : Rd} {w : World} {φ : Nat → Loc} {d1 d2 : List D} {v1 v2 : Array Value} (h1 : VS A w φ d1 v1) (h2 : VS A w φ d2 v2) : VS A w φ (d1 ++ d2) (v1 ++ v2) := by
  refine ⟨by simp [h1.size, h2.size], fun i d u k1 k2 => ?_⟩
  rw [List.getElem?_append] at k1
  rw [Array.getElem?_append, h1.size] at k2
  split at k1
  · rename_i hi; rw [if_pos hi] at k2; exact h1.val i d u k1 k2
  · rename_i hi; rw [if_neg hi] at k2; exact h2.val _ d u k1 k2

/-- THE RULE FOR A RANGE OVER A FUNCTION (ks: the own blocks that are given up to it). -/
theorem Sp_range {P : Program} {G : Gh} (hG : Stab G) {g : Operand} {ps : Array Tmp} {assign body : Code} {st : St} {Q : Exit → St → Prop} {f : FuncId} {first caps : List D} {seq : List (List D)}
    (ks : List Nat) (hf : ev st.t g = .fn (.func f) first caps) (hk : ∀ b ∈ ks, b < st.H.length) (hI : Iter P f (first.map (snap (sel ks st.H) 5)) (caps.map (snap (sel ks st.H) 5)) seq)
    (hseq : ∀ (i : Nat) args, seq[i]? = some args → args.length = ps.size ∧ args.all (still 3) = true) (J : Nat → List Blk → Prop) (J0 : J 0 (killL st.H ks))
    (hB : ∀ (i : Nat) args H', seq[i]? = some args → J i H' → ∀ l Gb, Stab Gb → YOk P Gb → Gb.N = H'.length →
      Sp P (some l) Gb assign { t := setPs st.t (ps.toList.zip args), H := H', ds := [], g := (0, false) } fun e s => e = .normal ∧ ∀ Gb', Stab Gb' → YOk P Gb' → Gb'.N = H'.length →
        Sp P (some l) Gb' body s fun e s' => match e with
          | .normal => J (i + 1) s'.H
          | .ret => ∀ ds', Q .ret { st with H := s'.H, ds := ds' }
          | .exit id => ∀ ds', Q (.exit id) { st with H := s'.H, ds := ds' }
          | _ => False)
    (hQ : ∀ H' ds', J seq.length H' → Q .normal { st with H := H', ds := ds' }) : Sp P none G (.rangeFunc g ps assign body) st Q := by
  rintro a w ⟨A, φ, hr⟩
  obtain ⟨A1, φ1, k0, k1, k2, k3, k4, k5, k6⟩ := freezeL ks hr.rh hk
  have hr1 : FRc G { st with H := killL st.H ks } a w A1 φ1 :=
    hr.step hG k1 ⟨rfl, rfl, rfl, Nat.le_refl _, fun _ _ _ => rfl, fun n hn => .inl (k5 n hn)⟩ k2 (fun m hm => (k3 m hm).imp id .inl) k4 k0
  have hvf := hr.tr.ev g
  rw [hf] at hvf
  generalize hu : a.eval g = u at hvf
  cases hvf with
  | fn _ _ _ _ vs us hl hl' hh hh' =>
  have hlk : ∀ b x, sel ks st.H b = some x → st.H[b]? = some x ∧ b ∈ ks := fun b x hb => by
    unfold sel at hb
    split at hb
    · rename_i hc; exact ⟨hb, by simpa using hc⟩
    · cases hb
  let r := w.heap.size
  let l := w.heap.size + 1
  have hlr : ∀ r', r' ∈ r :: st.ds → r' ≠ l ∧ r' < l := fun r' hr' => by
    rcases List.mem_cons.1 hr' with e | e
    · subst e; exact ⟨by omega, by omega⟩
    · have := (Array.getElem?_eq_some_iff.1 (hr.dk r' e).1).1
      exact ⟨by omega, by omega⟩
  refine wpIn_rangeFunc fun fn _ => ?_
  let R0 : Loop := { state := .ready, pending := none, fn, tmps := a.tmps, params := ps, assign, body, defers := w.heap.size }
  let w2 : World := (w.alloc (.deferred (some []))).alloc (.loop R0)
  have hsz2 : w2.heap.size = w.heap.size + 2 := by simp [w2]
  have hlt2 : ∀ n, n < w.heap.size → w2.heap[n]? = w.heap[n]? := fun n hn => by
    show ((w.alloc (.deferred (some []))).alloc (.loop R0)).heap[n]? = _
    rw [heap_alloc_lt _ _ (by simp; omega), heap_alloc_lt _ _ hn]
  have hl2 : w2.heap[l]? = some (.loop R0) := by
    have := World.alloc_heap_new (w.alloc (.deferred (some []))) (.loop R0)
    simpa [l, w2] using this
  have hr2 : w2.heap[r]? = some (.deferred (some [])) := by
    show ((w.alloc (.deferred (some []))).alloc (.loop R0)).heap[r]? = _
    rw [heap_alloc_lt _ _ (by simp [r]), heap_alloc_new]
  refine ⟨l, [{ target := .collected r, args := #[] }], w2, { target := .fn (.func f) us, args := vs ++ #[.func (.yield l) #[] #[]] }, w2, f, vs ++ #[.func (.yield l) #[] #[]] ++ us, w2,
    run_enterLoop_outer fn a.tmps ps assign body, ?_, fun _ _ => trivial, by simp only [invoke]; exact hI.1 _ _, fun hd => by simp [FW, Fence.wide] at hd, ?_⟩
  · have he : #[Operand.const (.func (.yield l) #[] #[])].map a.eval = #[.func (.yield l) #[] #[]] := by simp [Act.eval]
    simp only [resolve, he, hu, Deferred.ofValue, Sem.run_pure]
  -- the frame that ranges, and the iterator's surroundings
  let F0 : Fr := ⟨ownAll φ1 st.ds, A1, φ1⟩
  let m := w.heap.size + 2
  let S : Code → List Blk → Prop := fun c H' => (c = .ret ∧ ∀ ds', Q .ret { st with H := H', ds := ds' }) ∨ ∃ id, c = .exit id ∧ ∀ ds', Q (.exit id) { st with H := H', ds := ds' }
  let Gi : Gh := { N := 0,
                   I := fun g w' F' => ∃ H' A' φ', (g.2 = false ∧ J g.1 H' ∧ RangeI G.N w F0 m (r :: st.ds) l w' F' H' R0 A' φ') ∨ (g.2 = true ∧ ∃ c, S c H' ∧ RangeI G.N w F0 m (r :: st.ds) l w' F' H' { R0 with state := .done, pending := some c } A' φ'),
                   Y := fun l' g args K => l' = l ∧ g.2 = false ∧ seq[g.1]? = some args ∧ K true (g.1 + 1, false) ∧ K false (g.1, true) }
  have hA1 : ∀ n, A1 n → n < w.heap.size ∧ ¬ ownAll φ1 st.ds n := fun n hn => ⟨k1.lt n hn, fun x => x.elim (fun y => k1.dis n y hn) fun y => (hr1.dk n y).2.1 hn⟩
  have hGi : Stab Gi := by
    rintro g w' F' w'' F'' ⟨H', A', φ', h⟩ k
    refine ⟨H', A', φ', h.imp (fun ⟨h1, h2, h3⟩ => ⟨h1, h2, h3.stab (by omega) (by omega) k⟩) fun ⟨h1, c, h2, h3⟩ => ⟨h1, c, h2, h3.stab (by omega) (by omega) k⟩⟩
  have hYi : YOk P Gi := by
    rintro l' ⟨i, b⟩ args vs' K w' F' ⟨H', A', φ', hI'⟩ hv hFA hFO hdis hb0 ⟨rfl, hb, hq, hK1, hK2⟩
    simp only at hb; subst hb
    rcases hI' with ⟨_, hJ, hRI⟩ | ⟨hb, _⟩
    · obtain ⟨hlen, hst⟩ := hseq i args hq
      refine ⟨_, _, _, _, _, run_yield hRI.rcd (by rw [hv.size]; exact hlen), ?_⟩
      refine (range_round (l := l) (RB := fun e s' => match e with
          | .normal => J (i + 1) s'.H
          | .ret => ∀ ds', Q .ret { st with H := s'.H, ds := ds' }
          | .exit id => ∀ ds', Q (.exit id) { st with H := s'.H, ds := ds' }
          | _ => False) (J := J (i + 1)) (S := S) (by omega) (by omega) hRI rfl rfl hr1.tr hA1 hv hst hFA hFO hdis (fun Gb h1 h2 h3 => hB i args H' hq hJ l Gb h1 h2 h3) (fun s h => h) (fun s h => .inl ⟨rfl, h⟩) (fun id s h => .inr ⟨id, rfl, h⟩)
          (fun s => ⟨fun t h => h, fun c h => h, fun h => h⟩)).mono ?_
      rintro e w'' ⟨q1, q2, ⟨rfl, H'', A'', φ'', q3, q4⟩ | ⟨rfl, c, H'', A'', φ'', q3, q4⟩⟩
      · exact ⟨true, _, rfl, hK1, ⟨H'', A'', φ'', .inl ⟨rfl, q3, q4⟩⟩, q1, q2⟩
      · exact ⟨false, _, rfl, hK2, ⟨H'', A'', φ'', .inr ⟨rfl, c, q3, q4⟩⟩, q1, q2⟩
    · cases hb
  have hown : ∀ n, A1 n → ¬ ownAll φ1 (r :: st.ds) n := fun n hn x => by
    rcases x with y | y
    · exact k1.dis n y hn
    · rcases List.mem_cons.1 y with e | e
      · have := k1.lt n hn; omega
      · exact (hr1.dk n e).2.1 hn
  have hstart : Gi.I (0, false) w2 ⟨fun _ => False, ⟨A1.on, w2.heap.size⟩, nowhere⟩ := by
    refine ⟨killL st.H ks, A1, φ1, .inl ⟨rfl, J0, ?_⟩⟩
    refine ⟨k1.move (fun n hn => hlt2 n (k1.lt n hn)) (fun n hn => hlt2 n (k1.olt n hn)) (by omega), ⟨⟨rfl, rfl, rfl, by omega, fun n hn _ => hlt2 n hn, fun n hn => ?_⟩, fun _ x => x, fun _ x => .inl x, fun _ _ => Loc.le_refl _, rfl⟩, fun _ => Loc.le_refl _,
      by omega, hl2, fun x => by have := k1.lt l x; omega, fun x => ?_, fun r' hr' => ?_, fun n hn => hn.elim, fun n hn => ⟨hown n hn, fun e => by have := k1.lt n hn; omega, .inl hn⟩, by have := k1.bsz; show A1.b0 ≤ w2.heap.size; omega⟩
    · rcases hn with x | x
      · exact .inl (.inl x)
      · rcases List.mem_cons.1 x with e | e
        · exact .inr (by omega)
        · exact .inl (.inr e)
    · rcases x with x | x
      · have := k1.olt l x; omega
      · exact (hlr l x).1 rfl
    · rcases List.mem_cons.1 hr' with e | e
      · subst e
        exact ⟨hr2, fun x => by have := k1.lt _ x; omega, fun x => by have := k1.olt _ x; omega⟩
      · obtain ⟨q1, q2, q3⟩ := hr1.dk r' e
        exact ⟨(hlt2 r' (Array.getElem?_eq_some_iff.1 q1).1).trans q1, q2, q3⟩
  have hvs : VS ⟨A1.on, w2.heap.size⟩ w2 nowhere (first.map (snap (sel ks st.H) 5) ++ ([.fn (.yield l) [] []] ++ caps.map (snap (sel ks st.H) 5))) (vs ++ #[.func (.yield l) #[] #[]] ++ us) := by
    have hs : ∀ {ds : List D} {vs : Array Value}, VS A w φ ds vs → VS ⟨A1.on, w2.heap.size⟩ w2 nowhere (ds.map (snap (sel ks st.H) 5)) vs := fun h => by
      have h1 := h.snap (B := ⟨A1.on, w2.heap.size⟩) hr.rh (fun b sz es hb => (hlk b _ hb).1) k2 (fun b sz es n base sz' room hb hp => k6 b (hlk b _ hb).2 n base sz' room hp) 5
      exact ⟨h1.size, fun i d u q1 q2 => (h1.val i d u q1 q2).mono (fun _ x => x) (fun n hn => hlt2 n (k1.lt n hn)) fun _ => Loc.le_refl _⟩
    rw [Array.append_assoc]
    refine (hs ⟨hl, hh⟩).app (VS.app ⟨rfl, fun i d u h1 h2 => ?_⟩ (hs ⟨hl', hh'⟩))
    cases i with
    | zero => simp at h1 h2; subst h1; subst h2; exact .fn _ _ _ _ _ _ rfl rfl (by simp) (by simp)
    | succ i => simp at h1
  refine (hI.2 Gi l hGi hYi rfl (fun i args K h1 h2 h3 => ⟨rfl, rfl, h1, h2, h3⟩) w2 A1.on _ (fun n hn => by have := k1.lt n hn; omega) hvs hstart).mono ?_
  rintro e w3 ⟨v, g3, F3, rfl, hg3, H', A', φ', hcase⟩
  -- the frame behind the loop
  have hback : ∀ (R : Loop) (R' : Loop), RangeI G.N w F0 m (r :: st.ds) l w3 F3 H' R A' φ' → FRc G { st with H := H', ds := r :: st.ds } { a with defers := [{ target := .collected r, args := #[] }] ++ a.defers } (w3.putObj l (.loop R')) A' φ' := by
    intro R R' h
    have hoth : ∀ n, n ≠ l → (w3.putObj l (.loop R')).heap[n]? = w3.heap[n]? := fun n hn => World.putObj_heap_other hn
    have hA' : ∀ n, A' n → n ≠ l := fun n hn e => h.lA (e ▸ hn)
    have hO' : ∀ n, ownAll φ' (r :: st.ds) n → n ≠ l := fun n hn e => h.lO (e ▸ hn)
    have hk : Keep G.N w F0 (w3.putObj l (.loop R')) ⟨ownAll φ' (r :: st.ds), A', φ'⟩ :=
      ⟨⟨h.keep.ext.os, h.keep.ext.tape, h.keep.ext.output, by rw [World.putObj_size]; exact h.keep.ext.size, fun n hn ho => (hoth n (by omega)).trans (h.keep.ext.same n hn ho), h.keep.ext.own⟩, h.keep.up, h.keep.new, h.keep.le, h.keep.b0⟩
    refine ⟨h.rh.move (fun n hn => hoth n (hA' n hn)) (fun n hn => hoth n (hO' n (.inl hn))) (Nat.le_of_eq World.putObj_size.symm), ?_, hG _ _ _ _ _ hr1.gh hk, ?_, fun r' hr' => ⟨(hoth r' (hlr r' hr').1).trans (h.dk r' hr').1, (h.dk r' hr').2⟩, ?_⟩
    · exact hr1.tr.mono (A := A1) (A' := A') h.keep.up (fun n hn => (hoth n (by have := k1.lt n hn; omega)).trans (h.keep.ext.same n (hA1 n hn).1 (hA1 n hn).2)) h.le (Nat.le_of_eq h.keep.b0)
    · show [{ target := .collected r, args := #[] }] ++ a.defers = _
      rw [hr.df]; rfl
    · refine List.nodup_cons.2 ⟨fun hm => ?_, hr.nd⟩
      have := (Array.getElem?_eq_some_iff.1 (hr.dk r hm).1).1; omega
  rcases hcase with ⟨h1, hJ, hRI⟩ | ⟨h1, c, hS, hRI⟩
  · refine ⟨none, _, run_endLoop hRI.rcd (by simp [R0]), ?_⟩
    rcases hg3 with e | e
    · subst e
      exact ⟨_, hQ H' (r :: st.ds) hJ, A', φ', hback _ _ hRI⟩
    · rw [e] at h1; cases h1
  · refine ⟨some c, _, run_endLoop hRI.rcd (by simp), ?_⟩
    rcases hS with ⟨rfl, hq⟩ | ⟨id, rfl, hq⟩
    · exact wpIn_ret ⟨_, hq (r :: st.ds), A', φ', hback _ _ hRI⟩
    · exact wpIn_exit ⟨_, hq (r :: st.ds), A', φ', hback _ _ hRI⟩
end
end Go.DL

/- The rule for a region that draws its order. -/
namespace Go.DL
open Go.RowKit Go.Proofs

noncomputable section

/-- For each operation: its place for a new block, and the places that it may not look at. -/
def mkPlan (ops : List Oper) : List (Nat × List Nat) :=
  let an := ancs ops []
  (List.range ops.length).map fun i => (slotAt ops 0 i, hiddenOf ops an i)

def actGo (P : Program) (o : Oper) (s : Nat) (Hm : List Blk) (st : St) (K : St → Prop) : Prop :=
  match o.op with
  | .call { callee := .value f, args, .. } => match callD st.t f args.toList with
    | some (g, xs) => ∃ d, Maps P g (xs.map (snap (fun b => Hm[b]?) 5)) d ∧ freshD 5 d = true ∧ K { t := setT st.t o.dst d, H := st.H, ds := st.ds, g := st.g }
    | none => False
  | op => match stepD P Hm s st.t op with
    | some (d, e) => K { t := setT st.t o.dst d, H := e.app st.H s, ds := st.ds, g := st.g }
    | none => False

def actO (P : Program) (ops : List Oper) (o : Oper) (s : Nat) (Hm : List Blk) (st : St) (K : St → Prop) : Prop :=
  match o.guard with
  | none => actGo P o s Hm st K
  | some (j, want) => match guardD ops st.t j with
    | some b => if b = want then actGo P o s Hm st K else K { t := setT st.t o.dst .any, H := st.H, ds := st.ds, g := st.g }
    | none => False

def runPlan (P : Program) (ops : List Oper) (base : Nat) : List (Nat × List Nat) → List Oper → St → (St → Prop) → Prop
  | (s, hs) :: pl, o :: l, st, K => actO P ops o (base + s) (maskL base hs st.H) st fun st' => runPlan P ops base pl l st' K
  | _, _, st, K => K st

section
variable {P : Program} {G : Gh} {ops : List Oper} {base : Nat}

theorem actGo_step {o : Oper} {s : Nat} {Hm : List Blk} {st : St} {K : St → Prop} (h : actGo P o s Hm st K) :
    ∃ d e, Acts.go P o s st.t Hm d e ∧ K { t := setT st.t o.dst d, H := e.app st.H s, ds := st.ds, g := st.g } := by
  unfold actGo at h
  split at h
  · rename_i f args tys hop
    split at h
    · rename_i g xs hc
      obtain ⟨d, h1, h2, h3⟩ := h
      refine ⟨d, .keep, ?_, h3⟩
      unfold Acts.go
      rw [hop]; simp only [hc]
      exact ⟨h1, h2, trivial⟩
    · exact h.elim
  · rename_i hop
    split at h
    · rename_i d e hs
      refine ⟨d, e, ?_, h⟩
      unfold Acts.go
      split
      · rename_i f args tys ho; exact absurd ho (hop _ _ _)
      · exact hs
    · exact h.elim

theorem actO_step {o : Oper} {s : Nat} {Hm : List Blk} {st : St} {K : St → Prop} (h : actO P ops o s Hm st K) :
    ∃ d e, Acts P ops o s st.t Hm d e ∧ K { t := setT st.t o.dst d, H := e.app st.H s, ds := st.ds, g := st.g } := by
  unfold actO at h
  split at h
  · rename_i hg
    obtain ⟨d, e, h1, h2⟩ := actGo_step h
    exact ⟨d, e, by unfold Acts; rw [hg]; exact h1, h2⟩
  · rename_i j want hg
    split at h
    · rename_i b hb
      split at h
      · rename_i hw
        obtain ⟨d, e, h1, h2⟩ := actGo_step h
        exact ⟨d, e, by unfold Acts; rw [hg]; simp only [hb, if_pos hw]; exact h1, h2⟩
      · rename_i hw
        exact ⟨.any, .keep, by unfold Acts; rw [hg]; simp only [hb, if_neg hw]; trivial, h⟩
    · exact h.elim

theorem slotAt_base (i : Nat) : slotAt ops base i = base + slotAt ops 0 i := by simp [slotAt]

theorem runPlan_run (K : St → Prop) : ∀ (l : List Oper) (k : Nat) (st : St), ops.drop k = l →
    runPlan P ops base ((List.range' k l.length).map fun i => (slotAt ops 0 i, hiddenOf ops (ancs ops []) i)) l st K →
    ∃ stf, RunR P ops (ancs ops []) base (List.range' k l.length) st stf ∧ K stf
  | [], k, st, _, h => ⟨st, rfl, by simpa [runPlan] using h⟩
  | o :: l, k, st, hd, h => by
    have hk : k < ops.length := by
      rcases Nat.lt_or_ge k ops.length with x | x
      · exact x
      · rw [List.drop_eq_nil_of_le x] at hd; cases hd
    rw [List.drop_eq_getElem_cons hk] at hd
    obtain ⟨ho, hd⟩ := List.cons.inj hd
    simp only [List.length_cons, List.range'_succ, List.map_cons, runPlan] at h ⊢
    obtain ⟨d, e, h1, h2⟩ := actO_step h
    obtain ⟨stf, h3, h4⟩ := runPlan_run K l (k + 1) _ hd h2
    refine ⟨stf, ⟨_, ⟨o, d, e, by rw [List.getElem?_eq_getElem hk, ho], ?_, rfl⟩, ?_⟩, h4⟩
    · rw [slotAt_base]; exact h1
    · rw [slotAt_base]; exact h3

theorem Eff.app_length {H : List Blk} {s : Nat} {e : Eff} : (e.app H s).length = H.length := by
  cases e with
  | keep => rfl
  | put x => simp [Eff.app]
  | upd b x => simp [Eff.app]
  | ren o x => cases o <;> simp [Eff.app, killO]

/-- A run keeps the number of blocks, and the last place free. -/
theorem RunR.last {an : List (List Nat)} : ∀ {l : List Nat} {listed : Array Bool} {st stf : St}, RunR P ops an base l st stf → listed.size = ops.length → l.Nodup → (∀ i ∈ l, i < ops.length ∧ listed.getD i true = false) →
    SlotsFree ops base listed st.H → stf.H.length = st.H.length ∧ stf.H[base + slots ops]? = some .free
  | [], _, st, stf, h, _, _, _, hf => by
    have : st = stf := h
    subst this; exact ⟨rfl, hf.last⟩
  | i :: l, listed, st, stf, ⟨s1, h1, h2⟩, hs, hn, hl, hf => by
    obtain ⟨q1, q2⟩ := hl i (List.mem_cons_self ..)
    have hf' := hf.step q1 q2 hs h1
    have hl' : ∀ j ∈ l, j < ops.length ∧ (listed.setIfInBounds i true).getD j true = false := fun j hj => by
      obtain ⟨r1, r2⟩ := hl j (List.mem_cons_of_mem _ hj)
      refine ⟨r1, ?_⟩
      have hne : i ≠ j := fun e => (List.nodup_cons.1 hn).1 (e ▸ hj)
      rw [getD_set (by omega), if_neg hne]
      exact r2
    obtain ⟨k1, k2⟩ := RunR.last h2 (by simpa using hs) (List.nodup_cons.1 hn).2 hl' hf'
    obtain ⟨o, d, e, _, _, rfl⟩ := h1
    exact ⟨k1.trans Eff.app_length, k2⟩

theorem FRc.drop {st : St} {H : List Blk} {a : Act} {w : World} {A : Rd} {φ : Nat → Loc} (hH : st.H = H ++ [.free]) (h : FRc G st a w A φ) : FRc G { st with H := H } a w A φ := by
  have hr := h.rh
  rw [hH] at hr
  refine ⟨⟨fun b hb => ?_, fun b hb => ?_, fun b hb => ?_, fun b sz es hb => ?_, fun b clk es hb => ?_, hr.inj, hr.dis, hr.lt, hr.olt, hr.ofr, hr.bsz⟩, h.tr, h.gh, h.df, h.dk, h.nd⟩
  · rcases Nat.lt_trichotomy b H.length with hl | hl | hl
    · rw [List.getElem?_eq_none_iff] at hb; exact absurd hb (Nat.not_le_of_lt hl)
    · exact hr.free b (by subst hl; simp)
    · exact hr.out b (by simp; omega)
  · exact hr.free b (by rw [List.getElem?_append_left (List.getElem?_eq_some_iff.1 hb).1]; exact hb)
  · exact hr.dead b (by rw [List.getElem?_append_left (List.getElem?_eq_some_iff.1 hb).1]; exact hb)
  · exact hr.live b sz es (by rw [List.getElem?_append_left (List.getElem?_eq_some_iff.1 hb).1]; exact hb)
  · exact hr.tab b clk es (by rw [List.getElem?_append_left (List.getElem?_eq_some_iff.1 hb).1]; exact hb)

theorem FRc.rooms {a : Act} {w : World} {A : Rd} {φ : Nat → Loc} : ∀ (n : Nat) {st : St}, FRc G st a w A φ → FRc G { st with H := st.H ++ List.replicate n .free } a w A φ
  | 0, st, h => by simpa using h
  | n + 1, st, h => by
    have := FRc.rooms n h.room
    rw [List.replicate_succ]
    simpa using this

/-- THE RULE FOR A REGION THAT DRAWS ITS ORDER. -/
theorem Sp_draw (hG : Stab G) (hY : YOk P G) {ro : Option Nat} {id : Nat} {st : St} {Q : Exit → St → Prop} (hm : P.follows .mixedOrders = true) (hd : drawOk ops = true) {pl : List (Nat × List Nat)} (hpl : mkPlan ops = pl)
    (h : runPlan P ops st.H.length pl ops { st with H := st.H ++ List.replicate (slots ops + 1) .free } fun s => Q .normal { s with H := s.H.dropLast }) : Sp P ro G (.region id ops.toArray true) st Q := by
  rintro a w ⟨A, φ, hr⟩
  refine wpIn_region_any hm ?_
  rw [← hpl] at h
  have hpl' : mkPlan ops = (List.range' 0 ops.length).map fun i => (slotAt ops 0 i, hiddenOf ops (ancs ops []) i) := by
    simp [mkPlan, List.range_eq_range']
  rw [hpl'] at h
  obtain ⟨stf, hrun, hq⟩ := runPlan_run _ ops 0 _ (by simp) h
  have hlen : (st.H ++ List.replicate (slots ops + 1) Blk.free).length = st.H.length + slots ops + 1 := by simp; omega
  have hfree : ∀ k, k ≤ slots ops → (st.H ++ List.replicate (slots ops + 1) Blk.free)[st.H.length + k]? = some .free := fun k hk => by
    rw [List.getElem?_append_right (by omega), List.getElem?_replicate, if_pos (by omega)]
  have hsf : SlotsFree ops st.H.length (Array.replicate ops.length false) (st.H ++ List.replicate (slots ops + 1) Blk.free) := by
    refine ⟨fun k hk _ => ?_, hfree _ (Nat.le_refl _)⟩
    rcases slot_case (base := st.H.length) (List.getElem?_eq_getElem hk) with e | ⟨_, e, hlt⟩
    · rw [e]; exact hfree _ (Nat.le_refl _)
    · rw [e]; exact hfree _ (Nat.le_of_lt hlt)
  have hrem : remOf ops.length (Array.replicate ops.length false) = List.range' 0 ops.length := by
    rw [← List.range_eq_range']
    refine List.filter_eq_self.2 fun i hi => ?_
    simp at hi; simp [hi]
  obtain ⟨k1, k2⟩ := hrun.last (listed := Array.replicate ops.length false) (by simp) (List.nodup_range' ..) (fun i hi => by simp at hi; exact ⟨hi, by simp [hi]⟩) hsf
  have hlast : stf.H = stf.H.dropLast ++ [.free] := by
    have hne : stf.H ≠ [] := fun e => by rw [e] at k1; simp at k1
    have h1 := (List.dropLast_concat_getLast hne).symm
    have h2 : stf.H.getLast hne = .free := by
      have := List.getLast_eq_getElem hne
      have h3 : stf.H.length - 1 = st.H.length + slots ops := by rw [k1, hlen]; rfl
      rw [List.getElem?_eq_some_iff] at k2
      obtain ⟨hlt, k2⟩ := k2
      rw [this, ← k2]
      congr 1
    rw [h2] at h1; exact h1
  have hfr0 : FR G st a { w with drawn := w.drawn + 1 } :=
    ⟨A, φ, hr.drew hG⟩
  have hfr1 : FR G { st with H := st.H ++ List.replicate (slots ops + 1) .free } a { w with drawn := w.drawn + 1 } :=
    let ⟨A, φ, h⟩ := hfr0; ⟨A, φ, h.rooms _⟩
  rw [List.size_toArray]
  refine any_ok (P := P) (stf := stf) hG hY hd rfl (fun a' w' ⟨A', φ', hr'⟩ => ⟨_, hq, A', φ', hr'.drop hlast⟩) ops.length _ _ a _ (by simp) (by rw [hrem]; simp) (fun k hk => by
      rw [Array.getD_eq_getD_getElem?] at hk; simp only [Array.getElem?_replicate] at hk; split at hk <;> cases hk) hfr1 hsf ?_
  rw [hrem]; exact hrun
end
end
end Go.DL

/- Values that speak of no own block from some number on. -/
namespace Go.DL
open Go.RowKit Go.Proofs

noncomputable section

/-- A value that speaks of no own block from K on. -/
def lowB : Nat → Nat → D → Bool
  | _, K, .ms b _ _ _ => Nat.blt b K
  | _, K, .mp b _ _ => Nat.blt b K
  | _, K, .mm b => Nat.blt b K
  | k + 1, K, .agg cs => cs.all (lowB k K)
  | k + 1, K, .tup cs => cs.all (lowB k K)
  | k + 1, K, .fn _ a b => a.all (lowB k K) && b.all (lowB k K)
  | _, _, .v _ => true
  | _, _, .any => true
  | _, _, .nil => true
  | _, _, .sl _ => true
  | _, _, .fl _ => true
  | _, _, .rp _ => true
  | 0, _, _ => false
def cutφ (K : Nat) (φ : Nat → Loc) : Nat → Loc := fun b => if b < K then φ b else .free
theorem cutφ_lt {K b : Nat} {φ : Nat → Loc} (h : b < K) : cutφ K φ b = φ b := by simp [cutφ, h]
theorem V.cut {A : Rd} {w : World} {φ : Nat → Loc} {K : Nat} : ∀ (k : Nat) {d : D} {u : Value}, V A w φ d u → lowB k K d = true → V A w (cutφ K φ) d u := by
  have blt : ∀ {b : Nat}, Nat.blt b K = true → b < K := fun h => by simpa [Nat.blt_eq] using h
  intro k
  induction k with
  | zero =>
    intro d u h hb
    cases h with
    | ms _ b off len cap cap' a h1 h2 h3 => exact .ms _ _ _ _ _ _ _ h1 h2 (by rw [cutφ_lt (blt hb)]; exact h3)
    | mp _ b i f x h1 => exact .mp _ _ _ _ _ (by rw [cutφ_lt (blt hb)]; exact h1)
    | mm _ b r h1 => exact .mm _ _ _ (by rw [cutφ_lt (blt hb)]; exact h1)
    | v => exact .v _ _
    | any => exact .any _ _
    | nil => exact .nil _ _
    | sl0 => exact .sl0 _ _ _
    | sl _ es n off sz cap u a b c d e => exact .sl _ es n off sz cap u a b c d e
    | fl0 => exact .fl0 _ _ _
    | fl _ es n off sz cap u a b c d e => exact .fl _ es n off sz cap u a b c d e
    | rp _ cs n off u a b c => exact .rp _ cs n off u a b c
    | agg => simp [lowB] at hb
    | tup => simp [lowB] at hb
    | fn => simp [lowB] at hb
  | succ k ih =>
    intro d u h hb
    have all : ∀ {cs : List D} {i : Nat} {d : D}, cs.all (lowB k K) = true → cs[i]? = some d → lowB k K d = true := fun h1 h2 =>
      List.all_eq_true.1 h1 _ (List.mem_of_getElem? h2)
    cases h with
    | ms _ b off len cap cap' a h1 h2 h3 => exact .ms _ _ _ _ _ _ _ h1 h2 (by rw [cutφ_lt (blt hb)]; exact h3)
    | mp _ b i f x h1 => exact .mp _ _ _ _ _ (by rw [cutφ_lt (blt hb)]; exact h1)
    | mm _ b r h1 => exact .mm _ _ _ (by rw [cutφ_lt (blt hb)]; exact h1)
    | v => exact .v _ _
    | any => exact .any _ _
    | nil => exact .nil _ _
    | sl0 => exact .sl0 _ _ _
    | sl _ es n off sz cap u a b c d e => exact .sl _ es n off sz cap u a b c d e
    | fl0 => exact .fl0 _ _ _
    | fl _ es n off sz cap u a b c d e => exact .fl _ es n off sz cap u a b c d e
    | rp _ cs n off u a b c => exact .rp _ cs n off u a b c
    | agg _ cs vs hl h => exact .agg _ _ _ hl fun i d u h1 h2 => ih (h i d u h1 h2) (all hb h1)
    | tup _ cs vs hl h => exact .tup _ _ _ hl fun i d u h1 h2 => ih (h i d u h1 h2) (all hb h1)
    | fn _ f first caps vs us hl hl' h h' =>
      simp only [lowB, Bool.and_eq_true] at hb
      exact .fn _ f _ _ _ _ hl hl' (fun i d u h1 h2 => ih (h i d u h1 h2) (all hb.1 h1)) fun i d u h1 h2 => ih (h' i d u h1 h2) (all hb.2 h1)

def BlkBelow (K : Nat) : Blk → Prop
  | .live _ es => ∀ e ∈ es, ∀ d ∈ e, lowB 4 K d = true
  | .tab _ es => ∀ e ∈ es, lowB 4 K e.2.1 = true
  | _ => True


/-! A scope through which the run goes without a goto. -/
section
variable {P : Program} {b : Frame} {a : Act} {k : List Item} {cs : List Frame} {w : World}
theorem stepR_scope {c : Code} : step P (lone (b.atR a (.code (.scope c) :: k)) cs w) = .next (lone (b.atR a (.code c :: .inScope c :: k)) cs w) :=
  step_lone_go (by simp [stepG, stepG.exec, Frame.atR])
theorem stepR_inScope {c : Code} : step P (lone (b.atR a (.inScope c :: k)) cs w) = .next (lone (b.atR a k) cs w) :=
  step_lone_go (by simp [stepG, stepG.exec, Frame.atR])
end
theorem wpIn_scope {F : Fence} {n : Nat} {P : Program} {Q : Exit → Act → World → Prop} {a : Act} {w : World} {c : Code} (h : c.wpIn F n P (fun e a w => (∀ l, e ≠ .goto l) ∧ Q e a w) a w) : (Code.scope c).wpIn F n P Q a w := by
  intro b k cs hro hb hr
  have h0 : (lone (b.atR a (.code (.scope c) :: k)) cs w).fenced P F := fenced_calm hb hr rfl
  obtain ⟨e, a₁, w₁, ⟨hg, hq⟩, harr⟩ := h b (.inScope c :: k) cs hro hb hr
  cases e with
  | normal => exact ⟨.normal, a₁, w₁, hq, .head h0 stepR_scope (StepsIn.trans harr (.one (fenced_calm hb hr rfl) stepR_inScope))⟩
  | exit id =>
    have hx : exitTo id (.inScope c :: k) = exitTo id k := by simp [exitTo]
    exact ⟨.exit id, a₁, w₁, hq, fun k' hk => .head h0 stepR_scope (harr.1 k' (by rw [hx]; exact hk)),
      fun hr' hk => let ⟨k₁, h1, h2⟩ := harr.2 hr' (by rw [hx]; exact hk); ⟨k₁, h1, .head h0 stepR_scope h2⟩⟩
  | goto l => exact absurd rfl (hg l)
  | ret => exact ⟨_, a₁, w₁, hq, .of_steps (.one h0 stepR_scope) harr⟩
  | panic ch => exact ⟨_, a₁, w₁, hq, .of_steps (.one h0 stepR_scope) harr⟩
  | outgrown => exact ⟨_, a₁, w₁, hq, .of_steps (.one h0 stepR_scope) harr⟩
theorem Sp_scope {P : Program} {ro : Option Nat} {G : Gh} {c : Code} {st : St} {Q : Exit → St → Prop} (h : Sp P ro G c st fun e s => (∀ l, e ≠ .goto l) ∧ Q e s) : Sp P ro G (.scope c) st Q :=
  fun a w hr => wpIn_scope (wpIn_mono (h a w hr) fun e a w ⟨s, ⟨h1, h2⟩, h3⟩ => ⟨h1, s, h2, h3⟩)
end
end Go.DL

/- Regions that draw their order, once more: what an operation writes is claimed beforehand, and hidden from what is unordered beside it. -/
namespace Go.DL
open Go.RowKit Go.Proofs

noncomputable section

/-- What an effect writes. -/
def ups (s : Nat) : Eff → List (Nat × Blk)
  | .keep => []
  | .put x => [(s, x)]
  | .upd b x => [(b, x)]
  | .ren none x => [(s, x)]
  | .ren (some b) x => [(b, .dead), (s, x)]
def sets (H : List Blk) (u : List (Nat × Blk)) : List Blk := u.foldl (fun H p => H.set p.1 p.2) H
theorem app_sets (H : List Blk) (s : Nat) (e : Eff) : e.app H s = sets H (ups s e) := by
  cases e with
  | ren o x => cases o <;> rfl
  | _ => rfl
theorem sets_cons (H : List Blk) (p : Nat × Blk) (u : List (Nat × Blk)) : sets H (p :: u) = sets (H.set p.1 p.2) u := rfl
theorem sets_set (a : Nat) (x : Blk) : ∀ (u : List (Nat × Blk)) (H : List Blk), (∀ p ∈ u, p.1 ≠ a) → (sets H u).set a x = sets (H.set a x) u
  | [], H, _ => rfl
  | p :: u, H, h => by
    rw [sets_cons, sets_cons, sets_set a x u _ fun q hq => h q (List.mem_cons_of_mem _ hq), List.set_comm _ _ (h p (List.mem_cons_self ..))]
theorem sets_comm : ∀ (v u : List (Nat × Blk)) (H : List Blk), (∀ p ∈ u, ∀ q ∈ v, p.1 ≠ q.1) → sets (sets H u) v = sets (sets H v) u
  | [], u, H, _ => rfl
  | q :: v, u, H, h => by
    rw [sets_cons, sets_cons, sets_set q.1 q.2 u H fun p hp => h p hp q (List.mem_cons_self ..)]
    exact sets_comm v u _ fun p hp q' hq' => h p hp q' (List.mem_cons_of_mem _ hq')
theorem mask_sets {hs : List Nat} : ∀ {u : List (Nat × Blk)} {H : List Blk}, (∀ p ∈ u, p.1 ∈ hs) → maskL 0 hs (sets H u) = maskL 0 hs H
  | [], _, _ => rfl
  | p :: u, H, h => by
    rw [sets_cons, mask_sets fun q hq => h q (List.mem_cons_of_mem _ hq)]
    have := maskL_set (base := 0) (H := H) (x := p.2) (h p (List.mem_cons_self ..))
    rw [Nat.zero_add] at this
    exact this

/-- A call of a function that leaves one more block of one's own, at a place that is free. -/
def CallAt (P : Program) (f : FuncId) (xs : List D) (Hm : List Blk) (s : Nat) (d : D) (x : Blk) : Prop :=
  ∀ H, Sub Hm H → H[s]? = some .free → CallSp P f xs H fun d' H' => d' = d ∧ H' = H.set s x

def isCallV (o : Oper) : Bool := match o.op with
  | .call { callee := .value _, .. } => true
  | _ => false
def needsQ (o : Oper) : Bool := needs o || isCallV o
def rankQ (ops : List Oper) (i : Nat) : Nat := ((ops.take i).filter needsQ).length
def slotsQ (ops : List Oper) : Nat := (ops.filter needsQ).length
def slotQ (ops : List Oper) (base i : Nat) : Nat := base + (match ops[i]? with | some o => if needsQ o then rankQ ops i else slotsQ ops | none => slotsQ ops)
/-- The places and the blocks that operation i may not look at. -/
def unord (an : List (List Nat)) (k i : Nat) : Bool := !((an.getD i []).contains k) && !((an.getD k []).contains i) && k != i
def hidQ (ops : List Oper) (an : List (List Nat)) (wbs : List (Option Nat)) (base i : Nat) : List Nat :=
  ((List.range ops.length).filterMap fun k => match ops[k]? with
    | some o => if needsQ o && !(an.getD i []).contains k then some (base + rankQ ops k) else none
    | none => none) ++
  ((List.range ops.length).filterMap fun k => if unord an k i then wbs.getD k none else none)

/-- What an operation may write. -/
def effOk : Eff → Bool → Option Nat → Bool
  | .keep, _, _ => true
  | .put _, n, _ => n
  | .upd b _, n, w => n && w == some b
  | .ren none _, n, _ => n
  | .ren (some b) _, n, w => n && w == some b
theorem effOk_keys {e : Eff} {n : Bool} {w : Option Nat} {s : Nat} (h : effOk e n w = true) : ∀ p ∈ ups s e, (n = true ∧ p.1 = s) ∨ (n = true ∧ w = some p.1) := by
  cases e with
  | keep => intro p hp; cases hp
  | put x => intro p hp; simp only [ups, List.mem_singleton] at hp; subst hp; exact .inl ⟨h, rfl⟩
  | upd b x => intro p hp; simp only [ups, List.mem_singleton] at hp; subst hp; simp only [effOk, Bool.and_eq_true, beq_iff_eq] at h; exact .inr h
  | ren o x =>
    cases o with
    | none => intro p hp; simp only [ups, List.mem_singleton] at hp; subst hp; exact .inl ⟨h, rfl⟩
    | some b =>
      intro p hp
      simp only [ups, List.mem_cons, List.not_mem_nil, or_false] at hp
      simp only [effOk, Bool.and_eq_true, beq_iff_eq] at h
      rcases hp with rfl | rfl
      · exact .inr h
      · exact .inl ⟨h.1, rfl⟩

/-- What a guard comes to: yes or no; or its own operation was passed over. -/
def gD (ops : List Oper) (t : List D) (j : Nat) : Option (Option Bool) :=
  match ops[j]? with
  | some o => match o.dst with
    | some i => match t[i]? with
      | some (.v (.bool b)) => some (some b)
      | some (.v (.tuple _)) => some none
      | _ => none
    | none => none
  | none => none
theorem gD_ok {ops : List Oper} {A : Rd} {w : World} {φ : Nat → Loc} {t : List D} {tmps : Array Value} (ht : TR A w φ t tmps) {j : Nat} {r : Option Bool} (h : gD ops t j = some r) : yielded ops.toArray tmps j = r := by
  unfold gD at h
  split at h
  · rename_i o ho
    split at h
    · rename_i i hi
      split at h
      · rename_i b hb
        cases h
        have hlt : i < tmps.size := by rw [ht.size]; exact (List.getElem?_eq_some_iff.1 hb).1
        have hv := (ht.val i _ tmps[i] hb (by simp [hlt])).v_inv
        simp [yielded, ho, hi, hlt, hv]
      · rename_i vs hb
        cases h
        have hlt : i < tmps.size := by rw [ht.size]; exact (List.getElem?_eq_some_iff.1 hb).1
        have hv := (ht.val i _ tmps[i] hb (by simp [hlt])).v_inv
        simp [yielded, ho, hi, hlt, hv]
      · cases h
    · cases h
  · cases h
theorem gD_setT {ops : List Oper} {o : Oper} {t : List D} {dst : Option Tmp} {d : D} {j : Nat} {want : Bool} (hg : o.guard = some (j, want)) (h : ∀ i, dst = some i → i ∉ readsOf ops o) : gD ops (setT t dst d) j = gD ops t j := by
  unfold gD
  cases hj : ops[j]? with
  | none => rfl
  | some p =>
    cases hp : p.dst with
    | none => simp [hp]
    | some k =>
      simp only [hp]
      cases dst with
      | none => rfl
      | some i =>
        have hne : i ≠ k := fun e => h i rfl (by subst e; simp [readsOf, hg, hj, hp])
        simp [setT, hne]

section
variable {P : Program} {G : Gh}

def goQ (P : Program) (o : Oper) (s : Nat) (t : List D) (H : List Blk) (d : D) (e : Eff) : Prop :=
  match o.op with
  | .call { callee := .value f, args, .. } => match callD t f args.toList with
    | some (g, xs) => (Maps P g (xs.map (snap (fun b => H[b]?) 5)) d ∧ freshD 5 d = true ∧ e = .keep) ∨ ∃ x, e = .put x ∧ CallAt P g xs H s d x
    | none => False
  | op => stepD P H s t op = some (d, e)
def ActsQ (P : Program) (ops : List Oper) (o : Oper) (s : Nat) (t : List D) (H : List Blk) (d : D) (e : Eff) : Prop :=
  match o.guard with
  | none => goQ P o s t H d e
  | some (j, want) => match gD ops t j with
    | some r => if r = some want then goQ P o s t H d e else d = .v undef ∧ e = .keep
    | none => False

theorem ActsQ.setT {ops : List Oper} {o : Oper} {s : Nat} {t : List D} {H : List Blk} {d d' : D} {e : Eff} {dst : Option Tmp} (h : ∀ i, dst = some i → i ∉ readsOf ops o) :
    ActsQ P ops o s (DL.setT t dst d') H d e ↔ ActsQ P ops o s t H d e := by
  have hev : ∀ x ∈ o.op.operands, ev (DL.setT t dst d') x = ev t x := fun x hx => ev_setT fun i hi => reads_op (h i hi) x hx
  have hgo : goQ P o s (DL.setT t dst d') H d e = goQ P o s t H d e := by
    unfold goQ
    split
    · rename_i f args tys hop
      have h1 : callD (DL.setT t dst d') f args.toList = callD t f args.toList := by
        unfold callD
        have hf : ev (DL.setT t dst d') f = ev t f := hev f (by rw [hop]; simp [Op.operands, Call.operands])
        have ha : args.toList.map (ev (DL.setT t dst d')) = args.toList.map (ev t) := List.map_congr_left fun x hx => hev x (by rw [hop]; simp [Op.operands, Call.operands]; exact .inr (by simpa using hx))
        rw [hf, ha]
      rw [h1]
    · rw [stepD_congr hev]
  unfold ActsQ
  split
  · rw [hgo]
  · rename_i j want hg
    rw [gD_setT hg h, hgo]

theorem ActsQ.upd_live {ops : List Oper} {o : Oper} {s : Nat} {t : List D} {H : List Blk} {d : D} {e : Eff} (h : ActsQ P ops o s t H d e) : (∀ b x, e = .upd b x → ∃ y, H[b]? = some y ∧ y ≠ .free) ∧
    (∀ b x, e = .ren (some b) x → ∃ y, H[b]? = some y ∧ y ≠ .free) := by
  have go : goQ P o s t H d e → (∀ b x, e = .upd b x → ∃ y, H[b]? = some y ∧ y ≠ .free) ∧ (∀ b x, e = .ren (some b) x → ∃ y, H[b]? = some y ∧ y ≠ .free) := fun h => by
    unfold goQ at h
    split at h
    · split at h
      · rcases h with ⟨_, _, rfl⟩ | ⟨_, rfl, _⟩
        · exact ⟨fun _ _ x => (by cases x), fun _ _ x => (by cases x)⟩
        · exact ⟨fun _ _ x => (by cases x), fun _ _ x => (by cases x)⟩
      · exact h.elim
    · exact ⟨fun b x he => stepD_upd (he ▸ h), fun b x he => stepD_ren (he ▸ h)⟩
  unfold ActsQ at h
  split at h
  · exact go h
  · split at h
    · split at h
      · exact go h
      · obtain ⟨_, rfl⟩ := h; exact ⟨fun _ _ x => (by cases x), fun _ _ x => (by cases x)⟩
    · exact h.elim

/-- Two operations whose temporaries, and claims, leave each other alone. -/
def indepQ (ops : List Oper) (an : List (List Nat)) (wbs : List (Option Nat)) (base j i : Nat) : Bool :=
  match ops[j]?, ops[i]? with
  | some p, some o =>
    (match p.dst with | some d => !(readsOf ops o).contains d && o.dst != some d | none => true) &&
    (match o.dst with | some d => !(readsOf ops p).contains d | none => true) &&
    !((an.getD j []).contains i) &&
    (match wbs.getD j none with | some b => wbs.getD i none != some b && slotQ ops base i != b | none => true) &&
    (match wbs.getD i none with | some b => slotQ ops base j != b | none => true)
  | _, _ => false
def drawQ (ops : List Oper) (wbs : List (Option Nat)) (base : Nat) : Bool :=
  let an := ancs ops []
  (List.range ops.length).all fun i =>
    (((ops[i]?).map depsOf).getD []).all (fun j => decide (j < i)) &&
    (List.range i).all fun j => (an.getD i []).contains j || indepQ ops an wbs base j i

def StepQ (P : Program) (ops : List Oper) (an : List (List Nat)) (wbs : List (Option Nat)) (base i : Nat) (st st' : St) : Prop :=
  ∃ o d e, ops[i]? = some o ∧ ActsQ P ops o (slotQ ops base i) st.t (maskL 0 (hidQ ops an wbs base i) st.H) d e ∧ effOk e (needsQ o) (wbs.getD i none) = true ∧
    st' = { t := setT st.t o.dst d, H := e.app st.H (slotQ ops base i), ds := st.ds, g := st.g }

theorem rankQ_lt {ops : List Oper} {i : Nat} {o : Oper} (ho : ops[i]? = some o) (hn : needsQ o = true) : rankQ ops i < slotsQ ops := by
  have hi := (List.getElem?_eq_some_iff.1 ho).1
  have he := (List.getElem?_eq_some_iff.1 ho).2
  have : slotsQ ops = ((ops.take i ++ ops.drop i).filter needsQ).length := by rw [List.take_append_drop]; rfl
  rw [this, List.filter_append, List.length_append, List.drop_eq_getElem_cons hi, he, List.filter_cons_of_pos hn]
  simp [rankQ]
theorem rankQ_mono {ops : List Oper} {i j : Nat} {o : Oper} (ho : ops[j]? = some o) (hn : needsQ o = true) (h : j < i) : rankQ ops j < rankQ ops i := by
  have h1 : (ops.take i)[j]? = some o := by rw [List.getElem?_take, if_pos h]; exact ho
  have := rankQ_lt h1 hn
  have e : rankQ (ops.take i) j = rankQ ops j := by simp only [rankQ]; rw [List.take_take, Nat.min_eq_left (Nat.le_of_lt h)]
  rw [e] at this
  exact this
theorem slotQ_ne {ops : List Oper} {base i j : Nat} {o p : Oper} (ho : ops[i]? = some o) (hp : ops[j]? = some p) (hno : needsQ o = true) (hnp : needsQ p = true) (h : i ≠ j) : slotQ ops base i ≠ slotQ ops base j := by
  simp only [slotQ, ho, hp, hno, hnp, if_true]
  rcases Nat.lt_or_gt_of_ne h with h | h
  · have := rankQ_mono ho hno h; omega
  · have := rankQ_mono hp hnp h; omega
theorem slotQ_case {ops : List Oper} {base i : Nat} {o : Oper} (ho : ops[i]? = some o) : slotQ ops base i = base + slotsQ ops ∨ (needsQ o = true ∧ slotQ ops base i = base + rankQ ops i ∧ rankQ ops i < slotsQ ops) := by
  by_cases hn : needsQ o = true
  · exact .inr ⟨hn, by simp [slotQ, ho, hn], rankQ_lt ho hn⟩
  · exact .inl (by simp [slotQ, ho, hn])

/-- All that op j writes is hidden from op i. -/
theorem hid_keys {ops : List Oper} {an : List (List Nat)} {wbs : List (Option Nat)} {base i j : Nat} {p : Oper} {e : Eff} (hp : ops[j]? = some p) (he : effOk e (needsQ p) (wbs.getD j none) = true) (h1 : (an.getD i []).contains j = false) (h2 : (an.getD j []).contains i = false) (hne : j ≠ i) :
    ∀ q ∈ ups (slotQ ops base j) e, q.1 ∈ hidQ ops an wbs base i := fun q hq => by
  have hj := (List.getElem?_eq_some_iff.1 hp).1
  simp only [hidQ, List.mem_append, List.mem_filterMap, List.mem_range]
  rcases effOk_keys he q hq with ⟨hn, h⟩ | ⟨hn, h⟩
  · left
    refine ⟨j, hj, ?_⟩
    simp only [hp, hn, h1, Bool.not_false, Bool.and_true, if_true, h, slotQ]
  · right
    refine ⟨j, hj, ?_⟩
    rw [if_pos (by unfold unord; rw [h1, h2]; simp [hne])]
    exact h

theorem StepQ.swap {ops : List Oper} {an : List (List Nat)} {wbs : List (Option Nat)} {base j i : Nat} {st s1 s2 : St} (hij : j ≠ i) (hc : (an.getD i []).contains j = false) (hind : indepQ ops an wbs base j i = true) (h1 : StepQ P ops an wbs base j st s1) (h2 : StepQ P ops an wbs base i s1 s2) :
    ∃ s1', StepQ P ops an wbs base i st s1' ∧ StepQ P ops an wbs base j s1' s2 := by
  obtain ⟨p, dp, ep, hp, ap, op, rfl⟩ := h1
  obtain ⟨o, d, e, ho, ao, oo, rfl⟩ := h2
  simp only [indepQ, hp, ho, Bool.and_eq_true] at hind
  obtain ⟨⟨⟨⟨i1, i2⟩, i3⟩, i4⟩, i5⟩ := hind
  have hc' : (an.getD j []).contains i = false := by simpa using i3
  have r1 : ∀ k, p.dst = some k → k ∉ readsOf ops o := fun k hk => by rw [hk] at i1; simp at i1; exact i1.1
  have r2 : ∀ k, o.dst = some k → k ∉ readsOf ops p := fun k hk => by rw [hk] at i2; simpa using i2
  have r3 : ∀ k, p.dst = some k → o.dst ≠ some k := fun k hk => by rw [hk] at i1; simp at i1; exact i1.2
  have ao' := (ActsQ.setT r1).1 ao
  simp only at ao'
  have m1 : maskL 0 (hidQ ops an wbs base i) (ep.app st.H (slotQ ops base j)) = maskL 0 (hidQ ops an wbs base i) st.H := by
    rw [app_sets]; exact mask_sets (hid_keys hp op hc hc' hij)
  have m2 : maskL 0 (hidQ ops an wbs base j) (e.app st.H (slotQ ops base i)) = maskL 0 (hidQ ops an wbs base j) st.H := by
    rw [app_sets]; exact mask_sets (hid_keys ho oo hc' hc (Ne.symm hij))
  rw [m1] at ao'
  have hcomm : e.app (ep.app st.H (slotQ ops base j)) (slotQ ops base i) = ep.app (e.app st.H (slotQ ops base i)) (slotQ ops base j) := by
    rw [app_sets, app_sets, app_sets, app_sets]
    refine sets_comm _ _ _ fun q hq q' hq' => ?_
    rcases effOk_keys op q hq with ⟨n1, k1⟩ | ⟨n1, k1⟩
    · rcases effOk_keys oo q' hq' with ⟨n2, k2⟩ | ⟨n2, k2⟩
      · rw [k1, k2]; exact slotQ_ne hp ho n1 n2 hij
      · rw [k2] at i5; rw [k1]; simpa using i5
    · rw [k1] at i4
      simp only [Bool.and_eq_true, bne_iff_ne, ne_eq] at i4
      rcases effOk_keys oo q' hq' with ⟨n2, k2⟩ | ⟨n2, k2⟩
      · rw [k2]; exact fun e => i4.2 e.symm
      · exact fun e => i4.1 (by rw [k2, e])
  refine ⟨_, ⟨o, d, e, ho, ao', oo, rfl⟩, p, dp, ep, hp, (ActsQ.setT r2).2 ?_, op, ?_⟩
  · simp only; rw [m2]; exact ap
  · simp only; rw [setT_comm r3, hcomm]
end
end
end Go.DL
