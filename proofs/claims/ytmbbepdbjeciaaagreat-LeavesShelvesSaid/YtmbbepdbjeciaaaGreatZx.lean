/- Shapes, leaves and data: their checks, and which are small. -/
import Derived.Test.YtmbbepdbjeciaaaGreatZc
import Derived.Test.YtmbbepdbjeciaaaGreatP1
import Derived.Test.YtmbbepdbjeciaaaGreatE5
set_option maxRecDepth 100000
set_option maxHeartbeats 16000000
namespace Go.DL
open Go.Proofs Go
structure Shape where
 Data:Int
 Checks:Int
 Width:Int
abbrev zcq (s:Shape):List D:=[wI s.Data,wI s.Checks,wI s.Width]
abbrev dSh (s:Shape):D:=.agg (zcq s)
abbrev zeJ (s:Shape):Prop:=(1≤s.Data∧s.Data≤20)∧(0≤s.Checks∧s.Checks≤20)∧(1≤s.Width∧s.Width≤32)
def ze9 (s:Shape):Int:=if zeJ s then 0 else 1
theorem m_Check (s:Shape):Maps Tryz.prog 21 [dSh s] (wI (ze9 s)):=by
 refine Maps.vt pok Tryz.f21 (n:=19) (rs:=[.tmp 2]) rfl rfl rfl rfl rfl rfl fun g=>?_
 unfold ze9
 by_cases h1:1≤s.Data∧s.Data≤20
 ·by_cases h2:0≤s.Checks∧s.Checks≤20
  ·by_cases h3:1≤s.Width∧s.Width≤32
   ·rw[if_pos ⟨h1,h2,h3⟩]
    repeat (any_goals (first|(refine zcj ?_;(first|refine zbW ?_|(refine d_g ?_;(first|refine zcS rfl ?_|refine zel rfl rfl rfl (by first|assumption|omega) ?_))|refine zb0 ?_|refine zbZ ?_|refine zcf ?_|refine zcm ?_|refine zb4 rfl (zdK _ _ _) rfl rfl ?_|refine zcx ?_|refine zcv ?_|refine zco ?_))|(refine zck ?_;(first|refine zbY rfl ?_|refine zbX rfl ?_|refine zca rfl rfl (by first|assumption|omega) ?_|refine zb5 rfl ?_|refine zb7 rfl ?_))|(with_reducible refine zce ?_;refine kEr rfl ?_)))
    rfl
   ·rw[if_neg fun h=>h3 h.2.2]
    repeat (any_goals (first|(refine zcj ?_;(first|refine zbW ?_|(refine d_g ?_;(first|refine zcS rfl ?_|refine zel rfl rfl rfl (by first|assumption|omega) ?_))|refine zb0 ?_|refine zbZ ?_|refine zcf ?_|refine zcm ?_|refine zb4 rfl (zdK _ _ _) rfl rfl ?_|refine zcx ?_|refine zcv ?_|refine zco ?_))|(refine zck ?_;(first|refine zbY rfl ?_|refine zbX rfl ?_|refine zb6 rfl rfl (by first|assumption|omega) ?_|refine zb7 rfl ?_))|with_reducible (refine kSr ?_)|(with_reducible refine zce ?_;refine kEr rfl ?_)))
    rfl
  ·rw[if_neg fun h=>h2 h.2.1]
   repeat (any_goals (first|(refine zcj ?_;(first|refine zbW ?_|(refine d_g ?_;(first|refine zcS rfl ?_|refine zdI rfl rfl ?_|refine zex rfl rfl rfl (by first|assumption|omega) ?_|refine zel rfl rfl rfl (by first|assumption|omega) ?_))|refine zb0 ?_|refine zbZ ?_|refine zcf ?_|refine zcm ?_|refine zb4 rfl (zdK _ _ _) rfl rfl ?_|refine zcx ?_|refine zcv ?_|refine zco ?_))|(refine zck ?_;(first|refine zbY rfl ?_|refine zbX rfl ?_|refine zch rfl rfl ?_|refine zb7 rfl ?_))|with_reducible (refine kSr ?_)|(with_reducible refine zce ?_;refine kEr rfl ?_)))
   rfl
 ·rw[if_neg fun h=>h1 h.1]
  repeat (any_goals (first|(refine zcj ?_;(first|refine zbW ?_|(refine d_g ?_;(first|refine zdI rfl rfl ?_|refine zex rfl rfl rfl (by first|assumption|omega) ?_))|refine zb0 ?_|refine zbZ ?_|refine zcf ?_|refine zcm ?_|refine zb4 rfl (zdK _ _ _) rfl rfl ?_|refine zcx ?_|refine zcv ?_|refine zco ?_))|(refine zck ?_;(first|refine zbY rfl ?_|refine zbX rfl ?_|refine zch rfl rfl ?_|refine zb7 rfl ?_))|with_reducible (refine kSr ?_)|(with_reducible refine zce ?_;refine kEr rfl ?_)))
  rfl
theorem m_RCheck (s:Shape):Maps Tryz.prog 22 [dSh s] (wI (ze9 s)):=by
 refine Maps.vt pok Tryz.f22 (n:=19) (rs:=[.tmp 2]) rfl rfl rfl rfl rfl rfl fun g=>?_
 unfold ze9
 by_cases h1:1≤s.Data∧s.Data≤20
 ·by_cases h2:0≤s.Checks∧s.Checks≤20
  ·by_cases h3:1≤s.Width∧s.Width≤32
   ·rw[if_pos ⟨h1,h2,h3⟩]
    repeat (any_goals (first|(refine zcj ?_;(first|refine zbW ?_|(refine d_g ?_;(first|refine zcS rfl ?_|refine zel rfl rfl rfl (by first|assumption|omega) ?_))|refine zb0 ?_|refine zbZ ?_|refine zcf ?_|refine zcm ?_|refine zb4 rfl (m_in _ _ _) rfl rfl ?_|refine zcx ?_|refine zcv ?_|refine zco ?_))|(refine zck ?_;(first|refine zbY rfl ?_|refine zbX rfl ?_|refine zca rfl rfl (by first|assumption|omega) ?_|refine zb5 rfl ?_|refine zb7 rfl ?_))|(with_reducible refine zce ?_;refine kEr rfl ?_)))
    rfl
   ·rw[if_neg fun h=>h3 h.2.2]
    repeat (any_goals (first|(refine zcj ?_;(first|refine zbW ?_|(refine d_g ?_;(first|refine zcS rfl ?_|refine zel rfl rfl rfl (by first|assumption|omega) ?_))|refine zb0 ?_|refine zbZ ?_|refine zcf ?_|refine zcm ?_|refine zb4 rfl (m_in _ _ _) rfl rfl ?_|refine zcx ?_|refine zcv ?_|refine zco ?_))|(refine zck ?_;(first|refine zbY rfl ?_|refine zbX rfl ?_|refine zb6 rfl rfl (by first|assumption|omega) ?_|refine zb7 rfl ?_))|with_reducible (refine kSr ?_)|(with_reducible refine zce ?_;refine kEr rfl ?_)))
    rfl
  ·rw[if_neg fun h=>h2 h.2.1]
   repeat (any_goals (first|(refine zcj ?_;(first|refine zbW ?_|(refine d_g ?_;(first|refine zcS rfl ?_|refine zdI rfl rfl ?_|refine zex rfl rfl rfl (by first|assumption|omega) ?_|refine zel rfl rfl rfl (by first|assumption|omega) ?_))|refine zb0 ?_|refine zbZ ?_|refine zcf ?_|refine zcm ?_|refine zb4 rfl (m_in _ _ _) rfl rfl ?_|refine zcx ?_|refine zcv ?_|refine zco ?_))|(refine zck ?_;(first|refine zbY rfl ?_|refine zbX rfl ?_|refine zch rfl rfl ?_|refine zb7 rfl ?_))|with_reducible (refine kSr ?_)|(with_reducible refine zce ?_;refine kEr rfl ?_)))
   rfl
 ·rw[if_neg fun h=>h1 h.1]
  repeat (any_goals (first|(refine zcj ?_;(first|refine zbW ?_|(refine d_g ?_;(first|refine zdI rfl rfl ?_|refine zex rfl rfl rfl (by first|assumption|omega) ?_))|refine zb0 ?_|refine zbZ ?_|refine zcf ?_|refine zcm ?_|refine zb4 rfl (m_in _ _ _) rfl rfl ?_|refine zcx ?_|refine zcv ?_|refine zco ?_))|(refine zck ?_;(first|refine zbY rfl ?_|refine zbX rfl ?_|refine zch rfl rfl ?_|refine zb7 rfl ?_))|with_reducible (refine kSr ?_)|(with_reducible refine zce ?_;refine kEr rfl ?_)))
  rfl
theorem zcX (s:Shape):(ze9 s=0∧zeJ s)∨(ze9 s=1∧¬zeJ s):=by
 unfold ze9
 by_cases h:zeJ s
 ·rw[if_pos h];exact .inl ⟨rfl,h⟩
 ·rw[if_neg h];exact .inr ⟨rfl,h⟩
def SmallS (s:Shape):Bool:=decide (zeJ s→s.Data≤4∧s.Checks≤4∧s.Width≤10)
theorem m_small1 (s:Shape):Maps Tryz.prog 15 [dSh s] (wB (SmallS s)):=by
 refine Maps.vt pok Tryz.f15 (n:=21) (rs:=[.tmp 2]) rfl rfl rfl rfl rfl rfl fun g=>?_
 have hk:=m_RCheck s
 rcases zcX s with⟨e,h⟩|⟨e,h⟩
 ·rw[e] at hk
  repeat (any_goals (first|(refine zcj ?_;(first|refine zbW ?_|(refine d_g ?_;(first|refine zcS rfl ?_|refine zdI rfl rfl ?_|refine RT.gc rfl rfl rfl (fun hc=>?_) (fun hc=>?_)))|refine zb0 ?_|refine zbZ ?_|refine zcf ?_|refine zcm ?_|refine zb2 ?_|refine zb4 rfl (hk) rfl rfl ?_|refine zcx ?_|refine zco ?_))|(refine zck ?_;(first|refine zbY rfl ?_|refine zbX rfl ?_|refine zb7 rfl ?_))|(with_reducible refine zce ?_;refine kEr rfl ?_)))
  all_goals first
   |exact congrArg wB (show true=SmallS s from (decide_eq_true (fun _=>by omega)).symm)
   |exact congrArg wB (show false=SmallS s from (decide_eq_false (fun q=>by have:=q h;omega)).symm)
   |exact congrArg wB (show decide (s.Width≤10)=SmallS s from decide_eq_decide.2 ⟨fun q _=>by omega,fun q=>by have:=q h;omega⟩)
 ·rw[e] at hk
  repeat (any_goals (first|(refine zcj ?_;(first|refine zbW ?_|(refine d_g ?_;(first|refine zdI rfl rfl ?_|refine RT.gu rfl ?_))|refine zb0 ?_|refine zbZ ?_|refine zcf ?_|refine zb2 ?_|refine zb4 rfl (hk) rfl rfl ?_|refine zcx ?_|refine zco ?_))|(refine zck ?_;(first|refine zbY rfl ?_|refine zbX rfl ?_|refine zb7 rfl ?_))|(with_reducible refine zce ?_;refine kEr rfl ?_)))
  exact congrArg wB (show true=SmallS s from (decide_eq_true (fun q=>absurd q h)).symm)
theorem all_snoc {α:Type}{p:α→Bool}{l:List α}{k:Nat}(hlt:k < l.length)(h:(l.take k).all p=true)(h2:p l[k]=true):(l.take (k+1)).all p=true:=by
 rw[zo hlt,List.all_append,h];simp[h2]
theorem m_idx_Row {p:List Int→Bool}{F:FuncId}{cs:List D}{l:List (List Int)}(hl:l.length≤4611686018427387904)(hcs:cs.all stab1=true)(hp:∀x,x∈l→Maps Tryz.prog F ([D.sl (x.map eI)]++cs) (wB (p x))):Maps Tryz.prog 176 [.sl (l.map zcU),.fn (.func F) [] cs] (wI (fidx p l)):=by
 refine Maps.vt pok Tryz.f176 (n:=19) (rs:=[.tmp 4]) rfl rfl rfl rfl rfl rfl fun g=>?_
 have hcb:=stab_low hcs 2 0
 repeat (any_goals (first|(refine zcj ?_;(first|refine zbW ?_|refine zb0 ?_|refine zbZ ?_|refine zb8 ?_))|(refine zck ?_;(first|refine zbY rfl ?_|refine zbX rfl ?_|refine zb3 rfl ?_))))
 refine zcl (fun j a H g'=>∃k:Nat,j=l.length-k∧k≤l.length∧(l.take k).any p=false∧a=[(0,.sl (l.map zcU)),(1,.fn (.func F) [] cs),(7,wI l.length),(8,wI k)]∧H=[]∧g'=g) rfl
  ⟨_,_,_,⟨0,rfl,zj _,rfl,rfl,rfl,rfl⟩,zeP ⟨by (repeat first|exact True.intro|refine And.intro ?_ ?_|exact Or.inr (Or.inl rfl)|exact Or.inl rfl|(refine zeg rfl ?_;omega)|exact Or.inr (Or.inl rfl)|(refine zeg rfl ?_;simp;done)),rfl,tX7,(by first|rfl|simp_all [zdq]),by exact tX11⟩⟩ ?_
 rintro j a H g' ⟨k,rfl,hk,hn,rfl,rfl,rfl⟩
 by_cases hlt:k < l.length
 ·have hsn:∀lk,([D.sl (l[k].map eI)]++cs).map (snap lk 5)=[D.sl (l[k].map eI)]++cs:=fun lk=>by rw[zW,zei hcs];rfl
  repeat (any_goals (first|(refine zcj ?_;(first|refine zbW ?_|refine zb4 rfl (hp l[k] (zi hlt)) (hsn _) rfl ?_|refine zb0 ?_|refine zbZ ?_|refine zcf ?_|refine zb2 ?_|refine zcO ?_))|(refine zck ?_;(first|refine zbY rfl ?_|refine zbX rfl ?_|refine zb6 rfl rfl (by first|assumption|omega) ?_|refine VT.cond rfl rfl (fun hc=>?_) (fun hc=>?_)|refine zb3 rfl ?_|refine zb5 rfl ?_|refine zb7 rfl ?_))|(with_reducible first|refine kSr ?_|refine kBr ?_|refine kLn ?_|refine kLr ?_)|(with_reducible refine zce ?_;refine kEr rfl ?_)))
  ·rw[fidx_hit hlt hn hc];rfl
  ·exact⟨l.length-(k+1),by omega,_,_,⟨k+1,rfl,hlt,any_snoc hlt hn hc,rfl,rfl,rfl⟩,zeP ⟨by (repeat first|exact True.intro|refine And.intro ?_ ?_|exact Or.inr (Or.inl rfl)|exact Or.inl rfl|(refine zeg rfl ?_;omega)|exact Or.inr (Or.inl rfl)|(refine zeg rfl ?_;simp;done)),rfl,tX7,(by first|rfl|simp_all [zdq]),by exact tX11⟩⟩
 ·repeat (any_goals (first|(refine zcj ?_;(first|refine zbW ?_|refine zbZ ?_|refine zb2 ?_))|(refine zck ?_;(first|refine zbY rfl ?_|refine zbX rfl ?_|refine zca rfl rfl (by first|assumption|omega) ?_|refine zci rfl ?_|refine zb7 rfl ?_))|(with_reducible refine zce ?_;refine kEr rfl ?_)))
  rw[fidx_none hlt hn];rfl
theorem m_has_Row {p:List Int→Bool}{F:FuncId}{cs:List D}{l:List (List Int)}(hl:l.length≤4611686018427387904)(hcs:cs.all stab1=true)(hp:∀x,x∈l→Maps Tryz.prog F ([D.sl (x.map eI)]++cs) (wB (p x))):Maps Tryz.prog 161 [.sl (l.map zcU),.fn (.func F) [] cs] (wB (l.any p)):=by
 refine Maps.vt pok Tryz.f161 (n:=9) (rs:=[.tmp 4]) rfl rfl rfl rfl rfl rfl fun g=>?_
 have hsn:∀lk,([.sl (l.map zcU),.fn (.func F) [] cs]:List D).map (snap lk 5)=[.sl (l.map zcU),.fn (.func F) [] cs]:=fun lk=>by
  simp only[zy,z8,snap,zei hcs]
 repeat (any_goals (first|(refine zcj ?_;(first|refine zbW ?_|refine zb4 rfl (m_idx_Row hl hcs hp) (hsn _) rfl ?_|refine zb0 ?_|refine zbZ ?_|refine zb2 ?_))|(refine zck ?_;(first|refine zbY rfl ?_|refine zbX rfl ?_|refine zb7 rfl ?_))|(with_reducible refine zce ?_;refine kEr rfl ?_)))
 rw[←fidx_any];rfl
theorem m_all1_Row {p:List Int→Bool}{F:FuncId}{cs:List D}(hcs:cs.all stab1=true)(x:List Int)(hp:Maps Tryz.prog F ([D.sl (x.map eI)]++cs) (wB (p x))):Maps Tryz.prog 162 ([D.sl (x.map eI)]++[.rp [.fn (.func F) [] cs]]) (wB (!p x)):=by
 refine Maps.vt pok Tryz.f162 (n:=8) (rs:=[.tmp 3]) rfl rfl rfl rfl rfl rfl fun g=>?_
 have hsn:∀lk,([D.sl (x.map eI)]++cs).map (snap lk 5)=[D.sl (x.map eI)]++cs:=fun lk=>by rw[zW,zei hcs];rfl
 repeat (any_goals (first|(refine zcj ?_;(first|refine zbW ?_|refine zb4 rfl hp (hsn _) rfl ?_|refine zb9 (f_ldG rfl rfl (flat_fn hcs)) ?_|refine zb0 ?_|refine zbZ ?_|refine zcv ?_))|(refine zck ?_;(first|refine zbY rfl ?_|refine zbX rfl ?_|refine zb7 rfl ?_))|(with_reducible refine zce ?_;refine kEr rfl ?_)))
 rfl
theorem m_all_Row {p:List Int→Bool}{F:FuncId}{cs:List D}{l:List (List Int)}(hl:l.length≤4611686018427387904)(hcs:cs.all stab1=true)(hp:∀x,x∈l→Maps Tryz.prog F ([D.sl (x.map eI)]++cs) (wB (p x))):Maps Tryz.prog 124 [.sl (l.map zcU),.fn (.func F) [] cs] (wB (l.all p)):=by
 refine Maps.vt pok Tryz.f124 (n:=9) (rs:=[.tmp 4]) rfl rfl rfl rfl rfl rfl fun g=>?_
 have e:(!(l.any fun x=>!p x))=l.all p:=by rw[List.not_any_eq_all_not];simp
 have hsn:∀lk:Nat→Option Blk,lk 0=some (.live 1 [[.fn (.func F) [] cs]])→([.sl (l.map zcU),.fn (.func 162) [] [.mp 0 0 0]]:List D).map (snap lk 5)=[.sl (l.map zcU),.fn (.func 162) [] [.rp [.fn (.func F) [] cs]]]:=fun lk h=>by
  simp[snap,h];exact zei hcs lk _
 repeat (any_goals (first|(refine zcj ?_;(first|refine zbW ?_|refine zb4 rfl (m_has_Row (p:=fun x=>!p x) (F:=162) (cs:=[.rp [.fn (.func F) [] cs]]) hl rfl fun x hx=>m_all1_Row hcs x (hp x hx)) (hsn _ rfl) rfl ?_|refine zb0 ?_|refine zbZ ?_|refine zcv ?_|refine zco ?_|refine zdz ?_))|(refine zck ?_;(first|refine zbY rfl ?_|refine zbX rfl ?_|refine zb7 rfl ?_))|(with_reducible refine zce ?_;refine kEr rfl ?_)))
 exact congrArg wB e
def rowOk (s:Shape)(x:List Int):Bool:=decide ((x.length:Int)=s.Width)&&x.all (fun a=>decide (W a))
theorem m_rowOk (s:Shape)(x:List Int)(hx:x.length≤4611686018427387904):Maps Tryz.prog 125 ([.sl (x.map eI)]++[.rp (zcq s)]) (wB (rowOk s x)):=by
 refine Maps.vt pok Tryz.f125 (n:=13) (rs:=[.tmp 3]) rfl rfl rfl rfl rfl rfl fun g=>?_
 have ha:=m_all_Int (p:=fun a=>decide (W a)) (F:=77) (cs:=[]) hx rfl fun y _=>m_word y
 unfold rowOk
 by_cases h:(x.length:Int)=s.Width
 ·rw[decide_eq_true h,zaS]
  repeat (any_goals (first|(refine zcj ?_;(first|refine zbW ?_|(refine d_g ?_;(first|refine zcS rfl ?_|refine zex rfl rfl rfl (by first|assumption|omega) ?_))|refine zb0 ?_|refine zbZ ?_|refine zcf ?_|refine zcm ?_|refine zb2 ?_|(refine zcw ?_;(first|refine zb4 rfl (ha) rfl rfl ?_|refine zb8 ?_))|refine zcx ?_))|(refine zck ?_;(first|refine zbY rfl ?_|refine zbX rfl ?_|refine zb7 rfl ?_))|(with_reducible refine zce ?_;refine kEr rfl ?_)))
  rfl
 ·rw[decide_eq_false h,zaU]
  repeat (any_goals (first|(refine zcj ?_;(first|refine zbW ?_|(refine d_g ?_;(first|refine zdI rfl rfl ?_|refine zel rfl rfl rfl (by first|assumption|omega) ?_))|refine zb0 ?_|refine zbZ ?_|refine zcf ?_|refine zcm ?_|refine zb2 ?_|refine zb8 ?_|refine zcx ?_))|(refine zck ?_;(first|refine zbY rfl ?_|refine zbX rfl ?_|refine zb7 rfl ?_))|(with_reducible refine zce ?_;refine kEr rfl ?_)))
  rfl
def DataS (s:Shape)(d:List (List Int)):Bool:=decide ((d.length:Int)=s.Data)&&d.all (rowOk s)
theorem m_dataOf (s:Shape)(d:List (List Int))(hl:d.length≤4611686018427387904)(hd:∀x,x∈d→x.length≤4611686018427387904):Maps Tryz.prog 70 [dSh s,.sl (d.map zcU)] (wB (DataS s d)):=by
 refine Maps.vt pok Tryz.f70 (n:=15) (rs:=[.tmp 4]) rfl rfl rfl rfl rfl rfl fun g=>?_
 have ha:=m_all_Row (p:=rowOk s) (F:=125) (cs:=[.rp (zcq s)]) hl rfl fun y hy=>m_rowOk s y (hd y hy)
 unfold DataS
 by_cases h:(d.length:Int)=s.Data
 ·rw[decide_eq_true h,zaS]
  repeat (any_goals (first|(refine zcj ?_;(first|refine zbW ?_|(refine d_g ?_;(first|refine zcS rfl ?_|refine zex rfl rfl rfl (by first|assumption|omega) ?_))|refine zb0 ?_|refine zbZ ?_|refine zcf ?_|refine zcm ?_|refine zb2 ?_|(refine zcw ?_;(first|refine zb4 rfl (ha) rfl rfl ?_|refine zb8 ?_))|refine zcx ?_|refine zco ?_|refine zdz ?_))|(refine zck ?_;(first|refine zbY rfl ?_|refine zbX rfl ?_|refine zb7 rfl ?_))|(with_reducible refine zce ?_;refine kEr rfl ?_)))
  rfl
 ·rw[decide_eq_false h,zaU]
  repeat (any_goals (first|(refine zcj ?_;(first|refine zbW ?_|(refine d_g ?_;(first|refine zdI rfl rfl ?_|refine zel rfl rfl rfl (by first|assumption|omega) ?_))|refine zb0 ?_|refine zbZ ?_|refine zcf ?_|refine zcm ?_|refine zb2 ?_|refine zb8 ?_|refine zcx ?_|refine zco ?_))|(refine zck ?_;(first|refine zbY rfl ?_|refine zbX rfl ?_|refine zb7 rfl ?_))|(with_reducible refine zce ?_;refine kEr rfl ?_)))
  rfl
theorem m_idx_Leaf {p:Leaf→Bool}{F:FuncId}{cs:List D}{l:List (Leaf)}(hl:l.length≤4611686018427387904)(hcs:cs.all stab1=true)(hp:∀x,x∈l→Maps Tryz.prog F ([D.agg (zcn x)]++cs) (wB (p x))):Maps Tryz.prog 131 [.sl (l.map zcn),.fn (.func F) [] cs] (wI (fidx p l)):=by
 refine Maps.vt pok Tryz.f131 (n:=19) (rs:=[.tmp 4]) rfl rfl rfl rfl rfl rfl fun g=>?_
 have hcb:=stab_low hcs 2 0
 repeat (any_goals (first|(refine zcj ?_;(first|refine zbW ?_|refine zb0 ?_|refine zbZ ?_|refine zb8 ?_))|(refine zck ?_;(first|refine zbY rfl ?_|refine zbX rfl ?_|refine zb3 rfl ?_))))
 refine zcl (fun j a H g'=>∃k:Nat,j=l.length-k∧k≤l.length∧(l.take k).any p=false∧a=[(0,.sl (l.map zcn)),(1,.fn (.func F) [] cs),(7,wI l.length),(8,wI k)]∧H=[]∧g'=g) rfl
  ⟨_,_,_,⟨0,rfl,zj _,rfl,rfl,rfl,rfl⟩,zeP ⟨by (repeat first|exact True.intro|refine And.intro ?_ ?_|exact Or.inr (Or.inl rfl)|exact Or.inl rfl|(refine zeg rfl ?_;omega)|exact Or.inr (Or.inl rfl)|(refine zeg rfl ?_;simp;done)),rfl,tX7,(by first|rfl|simp_all [zdq]),by exact tX11⟩⟩ ?_
 rintro j a H g' ⟨k,rfl,hk,hn,rfl,rfl,rfl⟩
 by_cases hlt:k < l.length
 ·have hsn:∀lk,([D.agg (zcn l[k])]++cs).map (snap lk 5)=[D.agg (zcn l[k])]++cs:=fun lk=>by rw[zW,zei hcs];rfl
  repeat (any_goals (first|(refine zcj ?_;(first|refine zbW ?_|refine zb4 rfl (hp l[k] (zi hlt)) (hsn _) rfl ?_|refine zb0 ?_|refine zbZ ?_|refine zcf ?_|refine zb2 ?_|refine zcO ?_))|(refine zck ?_;(first|refine zbY rfl ?_|refine zbX rfl ?_|refine zb6 rfl rfl (by first|assumption|omega) ?_|refine VT.cond rfl rfl (fun hc=>?_) (fun hc=>?_)|refine zb3 rfl ?_|refine zb5 rfl ?_|refine zb7 rfl ?_))|(with_reducible first|refine kSr ?_|refine kBr ?_|refine kLn ?_|refine kLr ?_)|(with_reducible refine zce ?_;refine kEr rfl ?_)))
  ·rw[fidx_hit hlt hn hc];rfl
  ·exact⟨l.length-(k+1),by omega,_,_,⟨k+1,rfl,hlt,any_snoc hlt hn hc,rfl,rfl,rfl⟩,zeP ⟨by (repeat first|exact True.intro|refine And.intro ?_ ?_|exact Or.inr (Or.inl rfl)|exact Or.inl rfl|(refine zeg rfl ?_;omega)|exact Or.inr (Or.inl rfl)|(refine zeg rfl ?_;simp;done)),rfl,tX7,(by first|rfl|simp_all [zdq]),by exact tX11⟩⟩
 ·repeat (any_goals (first|(refine zcj ?_;(first|refine zbW ?_|refine zbZ ?_|refine zb2 ?_))|(refine zck ?_;(first|refine zbY rfl ?_|refine zbX rfl ?_|refine zca rfl rfl (by first|assumption|omega) ?_|refine zci rfl ?_|refine zb7 rfl ?_))|(with_reducible refine zce ?_;refine kEr rfl ?_)))
  rw[fidx_none hlt hn];rfl
theorem m_has_Leaf {p:Leaf→Bool}{F:FuncId}{cs:List D}{l:List (Leaf)}(hl:l.length≤4611686018427387904)(hcs:cs.all stab1=true)(hp:∀x,x∈l→Maps Tryz.prog F ([D.agg (zcn x)]++cs) (wB (p x))):Maps Tryz.prog 78 [.sl (l.map zcn),.fn (.func F) [] cs] (wB (l.any p)):=by
 refine Maps.vt pok Tryz.f78 (n:=9) (rs:=[.tmp 4]) rfl rfl rfl rfl rfl rfl fun g=>?_
 have hsn:∀lk,([.sl (l.map zcn),.fn (.func F) [] cs]:List D).map (snap lk 5)=[.sl (l.map zcn),.fn (.func F) [] cs]:=fun lk=>by
  simp only[zy,z8,snap,zei hcs]
 repeat (any_goals (first|(refine zcj ?_;(first|refine zbW ?_|refine zb4 rfl (m_idx_Leaf hl hcs hp) (hsn _) rfl ?_|refine zb0 ?_|refine zbZ ?_|refine zb2 ?_))|(refine zck ?_;(first|refine zbY rfl ?_|refine zbX rfl ?_|refine zb7 rfl ?_))|(with_reducible refine zce ?_;refine kEr rfl ?_)))
 rw[←fidx_any];rfl
theorem m_leafNo (x y:Leaf):Maps Tryz.prog 79 ([.agg (zcn y)]++[.rp (zcn x)]) (wB (decide (y.Number=x.Number))):=by
 refine Maps.vt pok Tryz.f79 (n:=9) (rs:=[.tmp 3]) rfl rfl rfl rfl rfl rfl fun g=>?_
 repeat (any_goals (first|(refine zcj ?_;(first|refine zbW ?_|refine zbZ ?_|refine zcf ?_|refine zcm ?_|refine zb2 ?_|refine zco ?_))|(refine zck ?_;(first|refine zbY rfl ?_|refine zbX rfl ?_|refine zb7 rfl ?_))|(with_reducible refine zce ?_;refine kEr rfl ?_)))
 rfl
def zeF (s:Shape)(x:Leaf):Bool:=decide (1≤x.Number∧x.Number≤s.Data+s.Checks)&&(decide ((x.Words.length:Int)=s.Width)&&x.Words.all (fun a=>decide (W a)))
def numIn (l:List Leaf)(n:Int):Bool:=l.any fun y=>decide (y.Number=n)
def cklS (s:Shape):List Leaf→List Leaf→Int
 |_,[]=>0
 |seen,x::r=>if zeF s x=true then (if numIn seen x.Number=true then 6 else cklS s (seen++[x]) r) else 1
def zcP (s:Shape)(l:List Leaf):Int:=if ze9 s=0 then (if 40 < l.length then 2 else cklS s [] l) else ze9 s
theorem m_CheckLeaves (s:Shape)(l:List Leaf)(hl:l.length≤4611686018427387904)(hw:∀x,x∈l→x.Words.length≤4611686018427387904):Maps Tryz.prog 23 [dSh s,.sl (l.map zcn)] (wI (zcP s l)):=by
 refine Maps.vt pok Tryz.f23 (n:=52) (rs:=[.tmp 4]) rfl rfl rfl rfl rfl rfl fun g=>?_
 have hk:=m_Check s
 unfold zcP
 rcases zcX s with⟨e,h⟩|⟨e,h⟩
 ·rw[e] at hk ⊢
  rw[if_pos rfl]
  by_cases h4:40 < l.length
  ·rw[if_pos h4]
   repeat (any_goals (first|(refine zcj ?_;(first|refine zbW ?_|refine zb0 ?_|refine zbZ ?_|refine zcf ?_|refine zb2 ?_|(refine zcw ?_;(first|refine zb4 rfl (hk) rfl rfl ?_|refine zb8 ?_))|refine zco ?_))|(refine zck ?_;(first|refine zbY rfl ?_|refine zbX rfl ?_|refine zcb rfl rfl ?_|refine zb6 rfl rfl (by first|assumption|omega) ?_|refine zb5 rfl ?_|refine zb7 rfl ?_))|with_reducible (refine kSr ?_)|(with_reducible refine zce ?_;refine kEr rfl ?_)))
   rfl
  ·rw[if_neg h4]
   repeat (any_goals (first|(refine zcj ?_;(first|refine zbW ?_|refine zb0 ?_|refine zbZ ?_|refine zcf ?_|refine zb2 ?_|(refine zcw ?_;(first|refine zb4 rfl (hk) rfl rfl ?_|refine zb8 ?_))|refine zco ?_))|(refine zck ?_;(first|refine zbY rfl ?_|refine zbX rfl ?_|refine zcb rfl rfl ?_|refine zca rfl rfl (by first|assumption|omega) ?_|refine zb3 rfl ?_|refine zb5 rfl ?_))))
   refine zcl (fun j a H g'=>∃k:Nat,j=l.length-k∧k≤l.length∧cklS s [] l=cklS s (l.take k) (l.drop k)∧a=[(1,.sl (l.map zcn)),(2,.mp 0 0 0),(16,.sl (l.map zcn)),(17,wI l.length),(18,wI k)]∧H=[.live 3 [zcq s]]∧g'=g) rfl
    ⟨_,_,_,⟨0,rfl,zj _,rfl,rfl,rfl,rfl⟩,fgA⟩ ?_
   rintro j a H g' ⟨k,rfl,hkl,hn,rfl,rfl,rfl⟩
   by_cases hlt:k < l.length
   ·rw[zO hlt,cklS] at hn
    rw[hn]
    have ha:=m_all_Int (p:=fun a=>decide (W a)) (F:=77) (cs:=[]) (hw l[k] (zi hlt)) rfl fun y _=>m_word y
    have hc2:=m_has_Leaf (p:=fun y=>decide (y.Number=l[k].Number)) (F:=79) (cs:=[.rp (zcn l[k])]) (l:=l.take k) (by simp;omega) rfl fun y _=>m_leafNo l[k] y
    change Maps _ _ _ (wB (numIn (l.take k) l[k].Number)) at hc2
    by_cases q1:1≤l[k].Number∧l[k].Number≤s.Data+s.Checks
    ·by_cases q2:(l[k].Words.length:Int)=s.Width
     ·cases q3:l[k].Words.all (fun a=>decide (W a)) with
      |true=>
       have eo:zeF s l[k]=true:=by rw[zeF,decide_eq_true q1,decide_eq_true q2,q3];rfl
       rw[if_pos eo]
       rw[q3] at ha
       cases q4:numIn (l.take k) l[k].Number with
       |true=>
        rw[if_pos rfl]
        rw[q4] at hc2
        repeat (any_goals (first|(refine zcj ?_;(first|refine zbW ?_|(refine d_g ?_;(first|refine zcS rfl ?_|refine zel rfl rfl rfl (by first|assumption|omega) ?_))|refine zb0 ?_|refine zbZ ?_|refine zcf ?_|refine zcm ?_|refine zb2 ?_|(refine zcw ?_;(first|refine zb4 rfl (zdK _ _ _) rfl rfl ?_|refine zb4 rfl (ha) rfl rfl ?_|refine zb4 rfl (hc2) rfl rfl ?_|refine zb8 ?_))|refine zcx ?_|refine zcO ?_|refine zcv ?_|refine zc0 ?_|refine zco ?_|refine zdz ?_))|(refine zck ?_;(first|refine zbY rfl ?_|refine zbX rfl ?_|refine zch rfl rfl ?_|refine zcb rfl rfl ?_|refine zb6 rfl rfl (by first|assumption|omega) ?_|refine zb3 rfl ?_|refine zb5 rfl ?_|refine zb7 rfl ?_))|(with_reducible first|refine kSr ?_|refine kBr ?_|refine kLr ?_)|(with_reducible refine zce ?_;refine kEr rfl ?_)))
        rfl
       |false=>
        rw[if_neg (by simp)]
        rw[q4] at hc2
        repeat (any_goals (first|(refine zcj ?_;(first|refine zbW ?_|(refine d_g ?_;(first|refine zcS rfl ?_|refine zel rfl rfl rfl (by first|assumption|omega) ?_))|refine zb0 ?_|refine zbZ ?_|refine zcf ?_|refine zcm ?_|refine zb2 ?_|(refine zcw ?_;(first|refine zb4 rfl (zdK _ _ _) rfl rfl ?_|refine zb4 rfl (ha) rfl rfl ?_|refine zb4 rfl (hc2) rfl rfl ?_|refine zb8 ?_))|refine zcx ?_|refine zcO ?_|refine zcv ?_|refine zc0 ?_|refine zco ?_|refine zdz ?_))|(refine zck ?_;(first|refine zbY rfl ?_|refine zbX rfl ?_|refine zcb rfl rfl ?_|refine zb6 rfl rfl (by first|assumption|omega) ?_|refine zb3 rfl ?_|refine zb5 rfl ?_))|with_reducible (refine kLn ?_)))
        exact⟨l.length-(k+1),by omega,_,_,⟨k+1,rfl,hlt,by rw[zo hlt],rfl,rfl,rfl⟩,fgA⟩
      |false=>
       have eo:zeF s l[k]=false:=by rw[zeF,q3];simp
       rw[if_neg (by rw[eo];simp)]
       rw[q3] at ha
       repeat (any_goals (first|(refine zcj ?_;(first|refine zbW ?_|(refine d_g ?_;(first|refine zcS rfl ?_|refine zel rfl rfl rfl (by first|assumption|omega) ?_))|refine zb0 ?_|refine zbZ ?_|refine zcf ?_|refine zcm ?_|refine zb2 ?_|(refine zcw ?_;(first|refine zb4 rfl (zdK _ _ _) rfl rfl ?_|refine zb4 rfl (ha) rfl rfl ?_|refine zb8 ?_))|refine zcx ?_|refine zcO ?_|refine zcv ?_|refine zc0 ?_|refine zco ?_))|(refine zck ?_;(first|refine zbY rfl ?_|refine zbX rfl ?_|refine zch rfl rfl ?_|refine zb6 rfl rfl (by first|assumption|omega) ?_|refine zb3 rfl ?_|refine zb5 rfl ?_|refine zb7 rfl ?_))|(with_reducible first|refine kSr ?_|refine kBr ?_|refine kLr ?_)|(with_reducible refine zce ?_;refine kEr rfl ?_)))
       rfl
     ·have eo:zeF s l[k]=false:=by rw[zeF,decide_eq_false q2];simp
      rw[if_neg (by rw[eo];simp)]
      repeat (any_goals (first|(refine zcj ?_;(first|refine zbW ?_|(refine d_g ?_;(first|refine zcS rfl ?_|refine zdI rfl rfl ?_|refine zex rfl rfl rfl (by first|assumption|omega) ?_|refine zel rfl rfl rfl (by first|assumption|omega) ?_))|refine zb0 ?_|refine zbZ ?_|refine zcf ?_|refine zcm ?_|refine zb2 ?_|(refine zcw ?_;(first|refine zb4 rfl (zdK _ _ _) rfl rfl ?_|refine zb8 ?_))|refine zcx ?_|refine zcO ?_|refine zcv ?_|refine zc0 ?_|refine zco ?_))|(refine zck ?_;(first|refine zbY rfl ?_|refine zbX rfl ?_|refine zch rfl rfl ?_|refine zb6 rfl rfl (by first|assumption|omega) ?_|refine zb3 rfl ?_|refine zb5 rfl ?_|refine zb7 rfl ?_))|(with_reducible first|refine kSr ?_|refine kBr ?_|refine kLr ?_)|(with_reducible refine zce ?_;refine kEr rfl ?_)))
      rfl
    ·have eo:zeF s l[k]=false:=by rw[zeF,decide_eq_false q1];simp
     rw[if_neg (by rw[eo];simp)]
     repeat (any_goals (first|(refine zcj ?_;(first|refine zbW ?_|(refine d_g ?_;(first|refine zdI rfl rfl ?_|refine zex rfl rfl rfl (by first|assumption|omega) ?_))|refine zb0 ?_|refine zbZ ?_|refine zcf ?_|refine zcm ?_|refine zb2 ?_|refine zb4 rfl (zdK _ _ _) rfl rfl ?_|refine zcx ?_|refine zcO ?_|refine zcv ?_|refine zc0 ?_|refine zco ?_))|(refine zck ?_;(first|refine zbY rfl ?_|refine zbX rfl ?_|refine zch rfl rfl ?_|refine zb6 rfl rfl (by first|assumption|omega) ?_|refine zb3 rfl ?_|refine zb5 rfl ?_|refine zb7 rfl ?_))|(with_reducible first|refine kSr ?_|refine kBr ?_|refine kLr ?_)|(with_reducible refine zce ?_;refine kEr rfl ?_)))
     rfl
   ·rw[hn,zab (by omega),cklS]
    repeat (any_goals (first|(refine zcj ?_;(first|refine zbW ?_|refine zbZ ?_|refine zb2 ?_))|(refine zck ?_;(first|refine zbY rfl ?_|refine zbX rfl ?_|refine zca rfl rfl (by first|assumption|omega) ?_|refine zci rfl ?_|refine zb7 rfl ?_))|(with_reducible refine zce ?_;refine kEr rfl ?_)))
    rfl
 ·rw[e] at hk ⊢
  rw[if_neg (by decide)]
  repeat (any_goals (first|(refine zcj ?_;(first|refine zbW ?_|refine zb0 ?_|refine zbZ ?_|refine zcf ?_|refine zb2 ?_|refine zb4 rfl (hk) rfl rfl ?_|refine zco ?_))|(refine zck ?_;(first|refine zbY rfl ?_|refine zbX rfl ?_|refine zch rfl rfl ?_|refine zb7 rfl ?_))|with_reducible (refine kSr ?_)|(with_reducible refine zce ?_;refine kEr rfl ?_)))
  rfl
end Go.DL
/- The law LeavesInterpolate. -/
namespace Go.DL
open Go.Proofs Go
theorem zd8 (o:List Dot)(K:Nat):BlkBelow K (.live 2 (o.map zdn)):=by
 intro e he d hd
 obtain⟨x,_,rfl⟩:=zt.1 he
 simp only[zH,zai,or_false] at hd
 rcases hd with rfl|rfl<;>rfl
theorem eDot_no (o:List Dot)(k s:Nat):BlkNo k s (.live 2 (o.map zdn)):=by
 intro e he d hd
 obtain⟨x,_,rfl⟩:=zt.1 he
 simp only[zH,zai,or_false] at hd
 rcases hd with rfl|rfl<;>rfl
theorem snapDot {lk:Nat→Option Blk}{b cap:Nat}{o:List Dot}(h:lk b=some (.live 2 (o.map zdn))):snap lk 5 (.ms b 0 o.length cap)=.sl (o.map zdn):=by
 have e:(o.map zdn).map (List.map (snap lk 4))=o.map zdn:=by
  rw[zaa];exact zI fun x _=>rfl
 simp only[snap,h,zQ,ze,zf,if_true,zS]
 rw[zg (by simp),e]
end Go.DL
