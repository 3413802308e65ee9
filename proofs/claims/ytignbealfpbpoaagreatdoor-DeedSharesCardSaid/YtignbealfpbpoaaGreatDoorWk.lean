/- slices.Sorted of a map's keys, out of the library's contracts. -/
import Derived.Test.YtignbealfpbpoaaGreatDoorWb
import Derived.Test.YtignbealfpbpoaaGreatDoorE8
import Derived.Shelf.SlIter.Sorted
import Derived.Shelf.SortM.Plain
import Derived.Shelf.SortM.SortNone
import Derived.Ground.GgzProg
import Derived.Ground.SlgmProg
set_option linter.all false
set_option maxRecDepth 100000
namespace Go.Proofs
open Go.RowKit Go.Maps Go.Sort Go.Shelf
def Tryz.keys120_ren : Go.Shelf.Ren := ⟨fun | 7 => 120 | 10 => 185 | n => n, fun | 23 => 157 | 26 => 9 | 3 => 154 | 28 => 194 | 0 => 0 | 27 => 193 | 33 => 35 | 4 => 4 | n => n, fun | n => n⟩
theorem Tryz.keys120 : Go.Proofs.SlLaysZ.n7 Tryz.prog Tryz.keys120_ren := {
  mixed := by kernel_rfl
  f7 := ⟨Tryz.f120.name, by decide, Tryz.func120.trans (congrArg some (by kernel_rfl))⟩
  f10 := ⟨Tryz.f185.name, by decide, Tryz.func185.trans (congrArg some (by kernel_rfl))⟩
  t0 := Tryz.underlying0
  a0 := Tryz.isAgg0
  z0 := Tryz.sizeOf0
  v0 := Tryz.zeroValue0
  t4 := Tryz.underlying4
  a4 := Tryz.isAgg4
  z4 := Tryz.sizeOf4
  v4 := Tryz.zeroValue4
  t23 := Tryz.underlying157
  a23 := Tryz.isAgg157
  z23 := Tryz.sizeOf157
  v23 := Tryz.zeroValue157
  t26 := Tryz.underlying9
  a26 := Tryz.isAgg9
  z26 := Tryz.sizeOf9
  v26 := Tryz.zeroValue9
  t27 := Tryz.underlying193
  a27 := Tryz.isAgg193
  z27 := Tryz.sizeOf193
  v27 := Tryz.zeroValue193
  t28 := Tryz.underlying194
  a28 := Tryz.isAgg194
  z28 := Tryz.sizeOf194
  v28 := Tryz.zeroValue194
  t33 := Tryz.underlying35
  a33 := Tryz.isAgg35
  z33 := Tryz.sizeOf35
  v33 := Tryz.zeroValue35 }
def Tryz.sorted119_ren : Go.Shelf.Ren := ⟨fun | 6 => 119 | 8 => 183 | 9 => 184 | 11 => 219 | 13 => 218 | 12 => 220 | 23 => 240 | 24 => 241 | 14 => 242 | 15 => 243 | 16 => 244 | 17 => 245 | 18 => 246 | 19 => 247 | 20 => 248 | 21 => 249 | 22 => 250 | 25 => 270 | 26 => 266 | 27 => 267 | 28 => 271 | 29 => 272 | 30 => 273 | 31 => 283 | n => n, fun | 26 => 9 | 28 => 194 | 24 => 84 | 0 => 0 | 3 => 3 | 37 => 262 | 48 => 269 | 50 => 288 | 4 => 4 | 40 => 279 | 39 => 278 | 45 => 284 | 5 => 5 | 9 => 9 | 51 => 318 | 55 => 322 | 57 => 338 | 58 => 339 | 33 => 35 | n => n, fun | n => n⟩
theorem Tryz.sorted119 : Go.Proofs.SlLaysZ.n6 Tryz.prog Tryz.sorted119_ren := {
  mixed := by kernel_rfl
  f6 := ⟨Tryz.f119.name, by decide, Tryz.func119.trans (congrArg some (by kernel_rfl))⟩
  f8 := ⟨Tryz.f183.name, by decide, Tryz.func183.trans (congrArg some (by kernel_rfl))⟩
  f11 := ⟨Tryz.f219.name, by decide, Tryz.func219.trans (congrArg some (by kernel_rfl))⟩
  t0 := Tryz.underlying0
  a0 := Tryz.isAgg0
  z0 := Tryz.sizeOf0
  v0 := Tryz.zeroValue0
  t24 := Tryz.underlying84
  a24 := Tryz.isAgg84
  z24 := Tryz.sizeOf84
  v24 := Tryz.zeroValue84
  t26 := Tryz.underlying9
  a26 := Tryz.isAgg9
  z26 := Tryz.sizeOf9
  v26 := Tryz.zeroValue9
  t28 := Tryz.underlying194
  a28 := Tryz.isAgg194
  z28 := Tryz.sizeOf194
  v28 := Tryz.zeroValue194
  i26 := by kernel_rfl }
def Tryz.sort184_ren : Go.Shelf.Ren := ⟨fun | 6 => 184 | 8 => 218 | 9 => 220 | 19 => 240 | 20 => 241 | 21 => 242 | 22 => 243 | 23 => 244 | 24 => 245 | 25 => 246 | 26 => 247 | 27 => 248 | 28 => 249 | 29 => 250 | 36 => 270 | 31 => 266 | 32 => 267 | 37 => 271 | 38 => 272 | 39 => 273 | 41 => 283 | n => n, fun | 27 => 84 | 29 => 9 | 3 => 3 | 32 => 262 | 26 => 84 | 0 => 0 | 44 => 269 | 46 => 288 | 4 => 4 | 36 => 279 | 35 => 278 | 41 => 284 | 5 => 5 | 9 => 9 | 53 => 318 | 57 => 322 | 63 => 338 | 64 => 339 | n => n, fun | n => n⟩
theorem Tryz.sort184 : Go.Proofs.SlLaysM.n6 Tryz.prog Tryz.sort184_ren := {
  mixed := by kernel_rfl
  f6 := ⟨Tryz.f184.name, by decide, Tryz.func184.trans (congrArg some (by kernel_rfl))⟩
  f8 := Tryz.func218.trans (congrArg some (by kernel_rfl))
  f9 := ⟨Tryz.f220.name, by decide, Tryz.func220.trans (congrArg some (by kernel_rfl))⟩
  f19 := Tryz.func240.trans (congrArg some (by kernel_rfl))
  f20 := Tryz.func241.trans (congrArg some (by kernel_rfl))
  f21 := ⟨Tryz.f242.name, by decide, Tryz.func242.trans (congrArg some (by kernel_rfl))⟩
  f22 := ⟨Tryz.f243.name, by decide, Tryz.func243.trans (congrArg some (by kernel_rfl))⟩
  f23 := ⟨Tryz.f244.name, by decide, Tryz.func244.trans (congrArg some (by kernel_rfl))⟩
  f24 := ⟨Tryz.f245.name, by decide, Tryz.func245.trans (congrArg some (by kernel_rfl))⟩
  f25 := ⟨Tryz.f246.name, by decide, Tryz.func246.trans (congrArg some (by kernel_rfl))⟩
  f26 := ⟨Tryz.f247.name, by decide, Tryz.func247.trans (congrArg some (by kernel_rfl))⟩
  f27 := ⟨Tryz.f248.name, by decide, Tryz.func248.trans (congrArg some (by kernel_rfl))⟩
  f28 := ⟨Tryz.f249.name, by decide, Tryz.func249.trans (congrArg some (by kernel_rfl))⟩
  f29 := ⟨Tryz.f250.name, by decide, Tryz.func250.trans (congrArg some (by kernel_rfl))⟩
  f31 := Tryz.func266.trans (congrArg some (by kernel_rfl))
  f32 := Tryz.func267.trans (congrArg some (by kernel_rfl))
  f36 := ⟨Tryz.f270.name, by decide, Tryz.func270.trans (congrArg some (by kernel_rfl))⟩
  f37 := ⟨Tryz.f271.name, by decide, Tryz.func271.trans (congrArg some (by kernel_rfl))⟩
  f38 := ⟨Tryz.f272.name, by decide, Tryz.func272.trans (congrArg some (by kernel_rfl))⟩
  f39 := ⟨Tryz.f273.name, by decide, Tryz.func273.trans (congrArg some (by kernel_rfl))⟩
  f41 := ⟨Tryz.f283.name, by decide, Tryz.func283.trans (congrArg some (by kernel_rfl))⟩
  t0 := Tryz.underlying0
  a0 := Tryz.isAgg0
  z0 := Tryz.sizeOf0
  v0 := Tryz.zeroValue0
  t3 := Tryz.underlying3
  a3 := Tryz.isAgg3
  z3 := Tryz.sizeOf3
  v3 := Tryz.zeroValue3
  t4 := Tryz.underlying4
  a4 := Tryz.isAgg4
  z4 := Tryz.sizeOf4
  v4 := Tryz.zeroValue4
  t5 := Tryz.underlying5
  a5 := Tryz.isAgg5
  z5 := Tryz.sizeOf5
  v5 := Tryz.zeroValue5
  t9 := Tryz.underlying9
  a9 := Tryz.isAgg9
  z9 := Tryz.sizeOf9
  v9 := Tryz.zeroValue9
  t26 := Tryz.underlying84
  a26 := Tryz.isAgg84
  z26 := Tryz.sizeOf84
  v26 := Tryz.zeroValue84
  t27 := Tryz.underlying84
  a27 := Tryz.isAgg84
  z27 := Tryz.sizeOf84
  v27 := Tryz.zeroValue84
  t29 := Tryz.underlying9
  a29 := Tryz.isAgg9
  z29 := Tryz.sizeOf9
  v29 := Tryz.zeroValue9
  t32 := Tryz.underlying262
  a32 := Tryz.isAgg262
  z32 := Tryz.sizeOf262
  v32 := Tryz.zeroValue262
  t35 := Tryz.underlying278
  a35 := Tryz.isAgg278
  z35 := Tryz.sizeOf278
  v35 := Tryz.zeroValue278
  t36 := Tryz.underlying279
  a36 := Tryz.isAgg279
  z36 := Tryz.sizeOf279
  v36 := Tryz.zeroValue279
  t41 := Tryz.underlying284
  a41 := Tryz.isAgg284
  z41 := Tryz.sizeOf284
  v41 := Tryz.zeroValue284
  t44 := Tryz.underlying269
  a44 := Tryz.isAgg269
  z44 := Tryz.sizeOf269
  v44 := Tryz.zeroValue269
  t46 := Tryz.underlying288
  a46 := Tryz.isAgg288
  z46 := Tryz.sizeOf288
  v46 := Tryz.zeroValue288
  t53 := Tryz.underlying318
  a53 := Tryz.isAgg318
  z53 := Tryz.sizeOf318
  v53 := Tryz.zeroValue318
  t57 := Tryz.underlying322
  a57 := Tryz.isAgg322
  z57 := Tryz.sizeOf322
  v57 := Tryz.zeroValue322
  t63 := Tryz.underlying338
  a63 := Tryz.isAgg338
  z63 := Tryz.sizeOf338
  v63 := Tryz.zeroValue338
  t64 := Tryz.underlying339
  a64 := Tryz.isAgg339
  z64 := Tryz.sizeOf339
  v64 := Tryz.zeroValue339 }
theorem Tryz.sorts119 (m : Nat) : AnyZ.SortsIn Tryz.prog Tryz.sorted119_ren Fence.wide m :=
  ⟨fun blk off cap ss W hH hblk hsz => callsIn_wide.2 (AnyM.slices_Sort_string Tryz.sort184 blk off cap ss W hH hblk hsz),
   fun p cap W => callsIn_wide.2 (AnyM.slices_Sort_string_none Tryz.sort184 p cap W)⟩
end Go.Proofs
namespace Go.DL
open Go.Proofs Go Go.RowKit Go.Maps Go.Sort Go.Shelf

theorem c_sorted119 {H : List Blk} {bx b clk : Nat} {es : List (Value × D × Nat)} (hbx : H[bx]? = some (.live 1 [[.mm b]])) (hb : H[b]? = some (.tab clk es)) (hst : stampB es clk = true) :
    CallSp Tryz.prog 119 [.fn (.func 185) [] [.mp bx 0 0]] H fun d H' => d = .fl ((sortK (es.map fun e => keyB e.1)).map fun k => [.v (encStr k)]) ∧ H' = H := by
  refine ⟨enters_of Tryz.func119 rfl rfl, fun w A φ vs hr hv => ?_⟩
  obtain ⟨u, rfl⟩ : ∃ u, vs = #[u] := by
    have := hv.size
    match vs, this with
    | ⟨[u]⟩, _ => exact ⟨u, rfl⟩
  have h0 := hv.val 0 _ u rfl rfl
  cases h0 with
  | fn _ _ _ _ fs us hl hl' _ h' =>
  obtain ⟨y, rfl⟩ : ∃ y, us = #[y] := by
    match us, hl' with
    | ⟨[y]⟩, _ => exact ⟨y, rfl⟩
  obtain rfl : fs = #[] := by
    match fs, hl with
    | ⟨[]⟩, _ => rfl
  have h1 := h' 0 _ y rfl rfl
  cases h1 with
  | mp _ _ _ _ x hx =>
  rcases hr.live bx 1 _ hbx with ⟨he, _⟩ | ⟨n, base, room, c, ty, hp, hl⟩
  · cases he
  obtain ⟨m, ms, hpb, hT⟩ := hr.tab b clk es hb
  obtain ⟨q, hq1, hq2⟩ := hl.val 0 _ 0 _ rfl rfl
  have hb0 := hl.b0
  subst hb0
  rw [hp] at hx
  have hx : x = ⟨n, 0, none⟩ := by simpa [Loc.mpOk] using hx
  subst hx
  obtain rfl : q = .map (some m) := by
    cases hq2 with
    | mm _ _ r h =>
      rw [hpb] at h
      have : r = m := h
      rw [this]
  have hcell : w.cell? ⟨n, 0, none⟩ = some (.map (some m)) := by
    rw [cell_of_blk hl.blk]; simpa using hq1
  obtain ⟨D0, hown, hsz, hperm, hlen⟩ := ownsMap_of (k := 9) (P := Tryz.prog) (by kernel_rfl) hT hst
  have hn : n < w.heap.size := hr.olt n ⟨bx, _, _, _, hp⟩
  have hseq : SeqGives Fence.wide 2 Tryz.prog 185 #[.pointer (some ⟨n, 0, none⟩)] encStr (fun ss => ss.Perm (strKeys D0)) (Maps.size D0) w :=
    AnyZ.keys_gives (ρ := Tryz.keys120_ren) { Tryz.keys120 with } Fence.wide _ trivial rfl (by omega) n m es.length D0 w hn hcell hown
  have hc := AnyZ.sorted_in Tryz.sorted119 Fence.wide 5 trivial trivial trivial trivial rfl (by omega) (Tryz.sorts119 _) (enters_of Tryz.func184 (by kernel_rfl) rfl) 185 #[.pointer (some ⟨n, 0, none⟩)] trivial (enters_of Tryz.func185 (by kernel_rfl) rfl) _ _ (by rw [hsz]; unfold maxLen; omega) (by rw [hsz]; omega) w hseq
  have hc0 : CallsIn Fence.wide 0 Tryz.prog 119 #[.func (.func 185) #[] #[.pointer (some ⟨n, 0, none⟩)]] w _ := (callsIn_wide.2 (callsIn_wide.1 hc))
  refine hc0.mono ?_
  rintro e w' ⟨v, ss, rfl, hS, hrow, hnil, hbl⟩
  rw [sortK_eq (hS.trans hperm)] at hrow
  generalize hks : sortK (es.map fun e => keyB e.1) = ks at hrow
  have hs : ∀ m, m < w.heap.size → w'.heap[m]? = w.heap[m]? := fun m hm => hbl.block m hm
  have hr1 := hr.move (w' := w') (fun m hm => hs m (hr.lt m hm)) (fun m hm => hs m (hr.olt m hm)) hbl.size
  let A' : Rd := ⟨fun m => A m ∨ (w.heap.size ≤ m ∧ m < w'.heap.size), A.b0⟩
  refine ⟨v, _, H, A', φ, rfl, ⟨rfl, rfl⟩, ⟨hr1.out, hr1.free, hr1.dead, fun b sz es hb => (hr1.live b sz es hb).imp id fun ⟨n, base, room, c, ty, q1, q2⟩ =>
      ⟨n, base, room, c, ty, q1, q2.mono (fun _ x => Or.inl x) (fun _ _ => rfl) (fun _ => Loc.le_refl _) rfl⟩, fun b clk es hb => let ⟨n, ms, q1, q2⟩ := hr1.tab b clk es hb; ⟨n, ms, q1, q2.mono (fun _ x => Or.inl x) (fun _ _ => rfl) (fun _ => Loc.le_refl _) rfl⟩, hr1.inj, fun m hm ha => ?_, fun m hm => hm.elim (hr1.lt m) fun x => x.2, hr1.olt, hr1.ofr, hr1.bsz, hr1.la.mono (fun _ x => Or.inl x) (fun _ _ => rfl)⟩,
    ?_, ⟨⟨hbl.os, hbl.tape, hbl.output, hbl.size, fun n hn _ => hs n hn, fun n hn => .inl hn⟩, fun _ x => Or.inl x, fun m hm => hm.imp id fun x => .inr x.1, fun _ => Loc.le_refl _, rfl⟩⟩
  · rcases ha with ha | ha
    · exact hr1.dis m hm ha
    · have := hr.olt m hm; omega
  · rcases hrow.2 with ⟨rfl, hz⟩ | ⟨g, cap, cur, rfl, hg, hgb, h1, h2, h3, h4⟩
    · have : ks = [] := by
        have hl := hrow.1
        rw [hz] at hl
        exact List.eq_nil_of_length_eq_zero (by simpa using hl)
      subst this
      exact .fl0 _ _ _
    · have hlen' : ss.length = (ks.map fun k => [D.v (encStr k)]).length := by
        have hl := hrow.1
        simpa using hl.symm
      rw [hlen']
      rw [hlen'] at h1
      have hgl : g < w'.heap.size := (Array.getElem?_eq_some_iff.1 hgb).1
      refine .fl _ _ g 0 1 cap (fun i _ => encStr (ks.getD i [])) ⟨.inr ⟨hg, hgl⟩, Nat.le_trans hr.bsz hg⟩ h1 (fun i e he => ?_) (fun i e j d he hj => ?_) fun i e j d he hj => ?_
      · simp only [List.getElem?_map, Option.map_eq_some_iff] at he
        obtain ⟨k, _, rfl⟩ := he; rfl
      · simp only [List.getElem?_map, Option.map_eq_some_iff] at he
        obtain ⟨k, hk, rfl⟩ := he
        have hj0 : j = 0 := by
          have := (List.getElem?_eq_some_iff.1 hj).1
          simpa using this
        subst hj0
        have h5 : (cur.toList.take (ss.length * 1))[i]? = some (encStr k) := by rw [h4, List.getElem?_map, hk]; rfl
        rw [List.getElem?_take] at h5
        split at h5
        · simp only [World.cell?, hgb]
          simp only [List.getD, hk, Option.getD_some]
          simpa using h5
        · cases h5
      · simp only [List.getElem?_map, Option.map_eq_some_iff] at he
        obtain ⟨k, hk, rfl⟩ := he
        have hj0 : j = 0 := by
          have := (List.getElem?_eq_some_iff.1 hj).1
          simpa using this
        subst hj0
        simp only [List.getElem?_cons_zero, Option.some.injEq] at hj
        subst hj
        simp only [List.getD, hk, Option.getD_some]
        exact .v _ _
/-- The contract as a table. -/
def sortS : List D → List Blk → Option (D × List Blk)
  | [.fn (.func f) [] [.mp bx i j]], H => if Nat.beq f 185 = true ∧ Nat.beq i 0 = true ∧ Nat.beq j 0 = true then match H[bx]? with
    | some (.live sz [[.mm b]]) => if Nat.beq sz 1 = true then match H[b]? with
      | some (.tab clk es) => if stampB es clk = true then some (.fl ((sortK (es.map fun e => keyB e.1)).map fun k => [.v (encStr k)]), H) else none
      | _ => none
      else none
    | _ => none
    else none
  | _, _ => none
theorem sortS_ok {xs : List D} {H : List Blk} {d : D} {H' : List Blk} (h : sortS xs H = some (d, H')) : CallSp Tryz.prog 119 xs H fun d' H'' => d' = d ∧ H'' = H' := by
  unfold sortS at h
  split at h
  · rename_i f bx i j _
    split at h
    · rename_i hc
      obtain ⟨c1, c2, c3⟩ := hc
      have e1 := Nat.eq_of_beq_eq_true c1
      have e2 := Nat.eq_of_beq_eq_true c2
      have e3 := Nat.eq_of_beq_eq_true c3
      subst e1; subst e2; subst e3
      split at h
      · rename_i sz b hbx
        split at h
        · rename_i hsz
          have e4 := Nat.eq_of_beq_eq_true hsz
          subst e4
          split at h
          · rename_i clk es hb
            split at h
            · rename_i hst
              cases h
              exact c_sorted119 hbx hb hst
            · cases h
          · cases h
        · cases h
      · cases h
    · cases h
  · cases h
end Go.DL
