/- CheckLines of both programs; lines compared. -/
import Derived.Test.YtmbbepdbjeciaaaGreatZs
import Derived.Test.YtmbbepdbjeciaaaGreatZx
import Derived.Test.YtmbbepdbjeciaaaGreatE5
import Derived.Test.YtmbbepdbjeciaaaGreatE6
import Derived.Ground.SlsfProg
import Derived.Shelf.SlGeneric
import Derived.Test.YtmbbepdbjeciaaaGreatYb
import Derived.Test.YtmbbepdbjeciaaaGreatZe
set_option maxRecDepth 100000
set_option maxHeartbeats 16000000
namespace Go.DL
open Go.Proofs Go
theorem m_idx_Line {p:Line→Bool}{F:FuncId}{cs:List D}{l:List (Line)}(hl:l.length≤4611686018427387904)(hcs:cs.all stab1=true)(hp:∀x,x∈l→Maps Tryz.prog F ([D.agg (zcC x)]++cs) (wB (p x))):Maps Tryz.prog 142 [.sl (l.map zcC),.fn (.func F) [] cs] (wI (fidx p l)):=by
 refine Maps.vt pok Tryz.f142 (n:=19) (rs:=[.tmp 4]) rfl rfl rfl rfl rfl rfl fun g=>?_
 have hcb:=stab_low hcs 2 0
 repeat (any_goals (first|(apply zcd;(first|refine zbW ?_|refine zb0 ?_|refine zbZ ?_|refine zb8 ?_))|(apply zcg;(first|refine zbY rfl ?_|refine zbX rfl ?_|refine zb3 rfl ?_))))
 refine zcl (fun j a H g'=>∃k:Nat,j=l.length-k∧k≤l.length∧(l.take k).any p=false∧a=[(0,.sl (l.map zcC)),(1,.fn (.func F) [] cs),(7,wI l.length),(8,wI k)]∧H=[]∧g'=g) rfl
  ⟨_,_,_,⟨0,rfl,zj _,rfl,rfl,rfl,rfl⟩,zeP ⟨by (repeat first|exact True.intro|refine And.intro ?_ ?_|exact Or.inr (Or.inl rfl)|exact Or.inl rfl|(refine zeg rfl ?_;omega)|exact Or.inr (Or.inl rfl)|(refine zeg rfl ?_;simp;done)),rfl,tX7,(by first|rfl|simp_all [zdq]),by exact tX11⟩⟩ ?_
 rintro j a H g' ⟨k,rfl,hk,hn,rfl,rfl,rfl⟩
 by_cases hlt:k < l.length
 ·have hsn:∀lk,([D.agg (zcC l[k])]++cs).map (snap lk 5)=[D.agg (zcC l[k])]++cs:=fun lk=>by rw[zW,zei hcs];rfl
  repeat (any_goals (first|(apply zcd;(first|refine zbW ?_|refine zb0 ?_|refine zbZ ?_|refine zcf ?_|refine zb2 ?_|refine zb4 rfl (hp l[k] (zi hlt)) (hsn _) rfl ?_|refine zcO ?_))|(apply zcg;(first|refine zbY rfl ?_|refine zbX rfl ?_|refine zb3 rfl ?_|refine zb5 rfl ?_|refine zb7 rfl ?_|refine zb6 rfl rfl (by first|assumption|omega) ?_|refine VT.cond rfl rfl (fun hc=>?_) (fun hc=>?_)))|(with_reducible first|refine kSr ?_|refine kBr ?_|refine kLn ?_|refine kLr ?_)|(with_reducible refine zce ?_;refine kEr rfl ?_)))
  ·rw[fidx_hit hlt hn hc];rfl
  ·exact⟨l.length-(k+1),by omega,_,_,⟨k+1,rfl,hlt,any_snoc hlt hn hc,rfl,rfl,rfl⟩,zeP ⟨by (repeat first|exact True.intro|refine And.intro ?_ ?_|exact Or.inr (Or.inl rfl)|exact Or.inl rfl|(refine zeg rfl ?_;omega)|exact Or.inr (Or.inl rfl)|(refine zeg rfl ?_;simp;done)),rfl,tX7,(by first|rfl|simp_all [zdq]),by exact tX11⟩⟩
 ·repeat (any_goals (first|(apply zcd;(first|refine zbW ?_|refine zbZ ?_|refine zb2 ?_))|(apply zcg;(first|refine zbY rfl ?_|refine zbX rfl ?_|refine zci rfl ?_|refine zb7 rfl ?_|refine zca rfl rfl (by first|assumption|omega) ?_))|(with_reducible refine zce ?_;refine kEr rfl ?_)))
  rw[fidx_none hlt hn];rfl
theorem m_has_Line {p:Line→Bool}{F:FuncId}{cs:List D}{l:List (Line)}(hl:l.length≤4611686018427387904)(hcs:cs.all stab1=true)(hp:∀x,x∈l→Maps Tryz.prog F ([D.agg (zcC x)]++cs) (wB (p x))):Maps Tryz.prog 93 [.sl (l.map zcC),.fn (.func F) [] cs] (wB (l.any p)):=by
 refine Maps.vt pok Tryz.f93 (n:=9) (rs:=[.tmp 4]) rfl rfl rfl rfl rfl rfl fun g=>?_
 have hsn:∀lk,([.sl (l.map zcC),.fn (.func F) [] cs]:List D).map (snap lk 5)=[.sl (l.map zcC),.fn (.func F) [] cs]:=fun lk=>by
  simp only[zy,z8,snap,zei hcs]
 repeat (any_goals (first|(apply zcd;(first|refine zbW ?_|refine zb0 ?_|refine zbZ ?_|refine zb2 ?_|refine zb4 rfl (m_idx_Line hl hcs hp) (hsn _) rfl ?_))|(apply zcg;(first|refine zbY rfl ?_|refine zbX rfl ?_|refine zb7 rfl ?_))|(with_reducible refine zce ?_;refine kEr rfl ?_)))
 rw[←fidx_any];rfl
def lineV (x:Line):Bool:=decide (1≤x.ID∧x.ID≤1099511627776)&&(decide (0≤x.Day∧x.Day≤728)&&(decide (0≤x.What∧x.What≤1000)&&decide (0≤x.Worth∧x.Worth≤2147483647)))
def idIn (l:List Line)(n:Int):Bool:=l.any fun y=>decide (y.ID=n)
def clS:List Line→List Line→Int
 |_,[]=>0
 |seen,x::r=>if lineV x=true then (if idIn seen x.ID=true then 6 else clS (seen++[x]) r) else 1
def zdS (l:List Line):Int:=if 60 < l.length then 2 else clS [] l
theorem m_valid (x:Line):Maps Tryz.prog 92 [.agg (zcC x)] (wB (lineV x)):=by
 refine Maps.vt pok Tryz.f92 (n:=21) (rs:=[.tmp 2]) rfl rfl rfl rfl rfl rfl fun g=>?_
 unfold lineV
 by_cases q0:1≤x.ID∧x.ID≤1099511627776
 ·rw[decide_eq_true q0,zaS]
  by_cases q1:0≤x.Day∧x.Day≤728
  ·rw[decide_eq_true q1,zaS]
   by_cases q2:0≤x.What∧x.What≤1000
   ·rw[decide_eq_true q2,zaS]
    repeat (any_goals (first|(apply zcd;(first|refine zbW ?_|(apply w_g;(first|refine zcS rfl ?_|refine zex rfl rfl rfl (by first|assumption|omega) ?_))|refine zb0 ?_|refine zbZ ?_|refine zcf ?_|refine zcm ?_|refine zb4 rfl (zdK _ _ _) rfl rfl ?_|refine zcx ?_|refine zco ?_))|(apply zcg;(first|refine zbY rfl ?_|refine zbX rfl ?_|refine zb7 rfl ?_))|(with_reducible refine zce ?_;refine kEr rfl ?_)))
    rfl
   ·rw[decide_eq_false q2,zaU]
    repeat (any_goals (first|(apply zcd;(first|refine zbW ?_|(apply w_g;(first|refine zcS rfl ?_|refine zdI rfl rfl ?_|refine zex rfl rfl rfl (by first|assumption|omega) ?_|refine zel rfl rfl rfl (by first|assumption|omega) ?_))|refine zb0 ?_|refine zbZ ?_|refine zcf ?_|refine zcm ?_|refine zb4 rfl (zdK _ _ _) rfl rfl ?_|refine zcx ?_|refine zco ?_))|(apply zcg;(first|refine zbY rfl ?_|refine zbX rfl ?_|refine zb7 rfl ?_))|(with_reducible refine zce ?_;refine kEr rfl ?_)))
    rfl
  ·rw[decide_eq_false q1,zaU]
   repeat (any_goals (first|(apply zcd;(first|refine zbW ?_|(apply w_g;(first|refine zcS rfl ?_|refine zdI rfl rfl ?_|refine zex rfl rfl rfl (by first|assumption|omega) ?_|refine zel rfl rfl rfl (by first|assumption|omega) ?_))|refine zb0 ?_|refine zbZ ?_|refine zcf ?_|refine zcm ?_|refine zb4 rfl (zdK _ _ _) rfl rfl ?_|refine zcx ?_|refine zco ?_))|(apply zcg;(first|refine zbY rfl ?_|refine zbX rfl ?_|refine zb7 rfl ?_))|(with_reducible refine zce ?_;refine kEr rfl ?_)))
   rfl
 ·rw[decide_eq_false q0,zaU]
  repeat (any_goals (first|(apply zcd;(first|refine zbW ?_|(apply w_g;(first|refine zdI rfl rfl ?_|refine zel rfl rfl rfl (by first|assumption|omega) ?_))|refine zb0 ?_|refine zbZ ?_|refine zcf ?_|refine zcm ?_|refine zb4 rfl (zdK _ _ _) rfl rfl ?_|refine zcx ?_|refine zco ?_))|(apply zcg;(first|refine zbY rfl ?_|refine zbX rfl ?_|refine zb7 rfl ?_))|(with_reducible refine zce ?_;refine kEr rfl ?_)))
  rfl
theorem m_rline (x:Line):Maps Tryz.prog 95 [.agg (zcC x)] (wB (lineV x)):=by
 refine Maps.vt pok Tryz.f95 (n:=21) (rs:=[.tmp 2]) rfl rfl rfl rfl rfl rfl fun g=>?_
 unfold lineV
 by_cases q0:1≤x.ID∧x.ID≤1099511627776
 ·rw[decide_eq_true q0,zaS]
  by_cases q1:0≤x.Day∧x.Day≤728
  ·rw[decide_eq_true q1,zaS]
   by_cases q2:0≤x.What∧x.What≤1000
   ·rw[decide_eq_true q2,zaS]
    repeat (any_goals (first|(apply zcd;(first|refine zbW ?_|(apply w_g;(first|refine zcS rfl ?_|refine zex rfl rfl rfl (by first|assumption|omega) ?_))|refine zb0 ?_|refine zbZ ?_|refine zcf ?_|refine zcm ?_|refine zb4 rfl (m_in _ _ _) rfl rfl ?_|refine zcx ?_|refine zco ?_))|(apply zcg;(first|refine zbY rfl ?_|refine zbX rfl ?_|refine zb7 rfl ?_))|(with_reducible refine zce ?_;refine kEr rfl ?_)))
    rfl
   ·rw[decide_eq_false q2,zaU]
    repeat (any_goals (first|(apply zcd;(first|refine zbW ?_|(apply w_g;(first|refine zcS rfl ?_|refine zdI rfl rfl ?_|refine zex rfl rfl rfl (by first|assumption|omega) ?_|refine zel rfl rfl rfl (by first|assumption|omega) ?_))|refine zb0 ?_|refine zbZ ?_|refine zcf ?_|refine zcm ?_|refine zb4 rfl (m_in _ _ _) rfl rfl ?_|refine zcx ?_|refine zco ?_))|(apply zcg;(first|refine zbY rfl ?_|refine zbX rfl ?_|refine zb7 rfl ?_))|(with_reducible refine zce ?_;refine kEr rfl ?_)))
    rfl
  ·rw[decide_eq_false q1,zaU]
   repeat (any_goals (first|(apply zcd;(first|refine zbW ?_|(apply w_g;(first|refine zcS rfl ?_|refine zdI rfl rfl ?_|refine zex rfl rfl rfl (by first|assumption|omega) ?_|refine zel rfl rfl rfl (by first|assumption|omega) ?_))|refine zb0 ?_|refine zbZ ?_|refine zcf ?_|refine zcm ?_|refine zb4 rfl (m_in _ _ _) rfl rfl ?_|refine zcx ?_|refine zco ?_))|(apply zcg;(first|refine zbY rfl ?_|refine zbX rfl ?_|refine zb7 rfl ?_))|(with_reducible refine zce ?_;refine kEr rfl ?_)))
   rfl
 ·rw[decide_eq_false q0,zaU]
  repeat (any_goals (first|(apply zcd;(first|refine zbW ?_|(apply w_g;(first|refine zdI rfl rfl ?_|refine zel rfl rfl rfl (by first|assumption|omega) ?_))|refine zb0 ?_|refine zbZ ?_|refine zcf ?_|refine zcm ?_|refine zb4 rfl (m_in _ _ _) rfl rfl ?_|refine zcx ?_|refine zco ?_))|(apply zcg;(first|refine zbY rfl ?_|refine zbX rfl ?_|refine zb7 rfl ?_))|(with_reducible refine zce ?_;refine kEr rfl ?_)))
  rfl
theorem m_lineNo (x y:Line):Maps Tryz.prog 94 ([.agg (zcC y)]++[.rp (zcC x)]) (wB (decide (y.ID=x.ID))):=by
 refine Maps.vt pok Tryz.f94 (n:=9) (rs:=[.tmp 3]) rfl rfl rfl rfl rfl rfl fun g=>?_
 repeat (any_goals (first|(apply zcd;(first|refine zbW ?_|refine zbZ ?_|refine zcf ?_|refine zcm ?_|refine zb2 ?_|refine zco ?_))|(apply zcg;(first|refine zbY rfl ?_|refine zbX rfl ?_|refine zb7 rfl ?_))|(with_reducible refine zce ?_;refine kEr rfl ?_)))
 rfl
theorem m_CheckLines (l:List Line)(hl:l.length≤4611686018427387904):Maps Tryz.prog 39 [.sl (l.map zcC)] (wI (zdS l)):=by
 refine Maps.vt pok Tryz.f39 (n:=24) (rs:=[.tmp 2]) rfl rfl rfl rfl rfl rfl fun g=>?_
 unfold zdS
 by_cases h4:60 < l.length
 ·rw[if_pos h4]
  repeat (any_goals (first|(apply zcd;(first|refine zbW ?_|refine zb0 ?_|refine zbZ ?_|refine zb9 (ze5 rfl rfl (by omega)) ?_|refine zb8 ?_))|(apply zcg;(first|refine zbY rfl ?_|refine zbX rfl ?_|refine zch rfl rfl ?_|refine zb7 rfl ?_))|with_reducible (refine kSr ?_)|(with_reducible refine zce ?_;refine kEr rfl ?_)))
  rfl
 ·rw[if_neg h4]
  repeat (any_goals (first|(apply zcd;(first|refine zbW ?_|refine zb0 ?_|refine zbZ ?_|refine zb9 (ze6 rfl rfl (by omega)) ?_|refine zb8 ?_))|(apply zcg;(first|refine zbY rfl ?_|refine zbX rfl ?_|refine zcb rfl rfl ?_|refine zb3 rfl ?_|refine zb5 rfl ?_))))
  refine zcl (fun j a H g'=>∃k:Nat,j=l.length-k∧k≤l.length∧clS [] l=clS (l.take k) (l.drop k)∧a=[(0,.sl (l.map zcC)),(8,.sl (l.map zcC)),(9,wI l.length),(10,wI k)]∧H=[]∧g'=g) rfl
   ⟨_,_,_,⟨0,rfl,zj _,rfl,rfl,rfl,rfl⟩,fgA⟩ ?_
  rintro j a H g' ⟨k,rfl,hkl,hn,rfl,rfl,rfl⟩
  by_cases hlt:k < l.length
  ·rw[zO hlt,clS] at hn
   rw[hn]
   have ha:=m_valid l[k]
   have hc2:=m_has_Line (p:=fun y=>decide (y.ID=l[k].ID)) (F:=94) (cs:=[.rp (zcC l[k])]) (l:=l.take k) (by simp;omega) rfl fun y _=>m_lineNo l[k] y
   change Maps _ _ _ (wB (idIn (l.take k) l[k].ID)) at hc2
   cases q3:lineV l[k] with
   |true=>
    rw[if_pos rfl]
    rw[q3] at ha
    cases q4:idIn (l.take k) l[k].ID with
    |true=>
     rw[if_pos rfl]
     rw[q4] at hc2
     repeat (any_goals (first|(apply zcd;(first|refine zbW ?_|refine zb0 ?_|refine zbZ ?_|refine zcf ?_|refine zb2 ?_|(apply zdc;(first|refine zb4 rfl (ha) rfl rfl ?_|refine zb4 rfl (hc2) rfl rfl ?_))|refine zcO ?_|refine zcv ?_|refine zc0 ?_|refine zco ?_|refine zdz ?_))|(apply zcg;(first|refine zbY rfl ?_|refine zbX rfl ?_|refine zch rfl rfl ?_|refine zcb rfl rfl ?_|refine zb3 rfl ?_|refine zb5 rfl ?_|refine zb7 rfl ?_|refine zb6 rfl rfl (by first|assumption|omega) ?_))|(with_reducible first|refine kSr ?_|refine kBr ?_|refine kLr ?_)|(with_reducible refine zce ?_;refine kEr rfl ?_)))
     rfl
    |false=>
     rw[if_neg (by simp)]
     rw[q4] at hc2
     repeat (any_goals (first|(apply zcd;(first|refine zbW ?_|refine zb0 ?_|refine zbZ ?_|refine zcf ?_|refine zb2 ?_|(apply zdc;(first|refine zb4 rfl (ha) rfl rfl ?_|refine zb4 rfl (hc2) rfl rfl ?_))|refine zcO ?_|refine zcv ?_|refine zc0 ?_|refine zco ?_|refine zdz ?_))|(apply zcg;(first|refine zbY rfl ?_|refine zbX rfl ?_|refine zcb rfl rfl ?_|refine zb3 rfl ?_|refine zb5 rfl ?_|refine zb6 rfl rfl (by first|assumption|omega) ?_))|with_reducible (refine kLn ?_)))
     exact⟨l.length-(k+1),by omega,_,_,⟨k+1,rfl,hlt,by rw[zo hlt],rfl,rfl,rfl⟩,fgA⟩
   |false=>
    rw[if_neg (by simp)]
    rw[q3] at ha
    repeat (any_goals (first|(apply zcd;(first|refine zbW ?_|refine zb0 ?_|refine zbZ ?_|refine zcf ?_|refine zb2 ?_|refine zb4 rfl (ha) rfl rfl ?_|refine zcO ?_|refine zcv ?_|refine zc0 ?_|refine zco ?_))|(apply zcg;(first|refine zbY rfl ?_|refine zbX rfl ?_|refine zch rfl rfl ?_|refine zb3 rfl ?_|refine zb5 rfl ?_|refine zb7 rfl ?_|refine zb6 rfl rfl (by first|assumption|omega) ?_))|(with_reducible first|refine kSr ?_|refine kBr ?_|refine kLr ?_)|(with_reducible refine zce ?_;refine kEr rfl ?_)))
    rfl
  ·rw[hn,zab (by omega),clS]
   repeat (any_goals (first|(apply zcd;(first|refine zbW ?_|refine zbZ ?_|refine zb2 ?_))|(apply zcg;(first|refine zbY rfl ?_|refine zbX rfl ?_|refine zci rfl ?_|refine zb7 rfl ?_|refine zca rfl rfl (by first|assumption|omega) ?_))|(with_reducible refine zce ?_;refine kEr rfl ?_)))
   rfl
theorem idIn_no {l:List Line}{n:Int}{k:Nat}(hk:k < l.length)(h:idIn (l.take k) n=false)(hn:¬l[k].ID=n):idIn (l.take (k+1)) n=false:=
 any_snoc hk h (by simpa using hn)
theorem m_RCheckLines (l:List Line)(hl:l.length≤4611686018427387904):Maps Tryz.prog 40 [.sl (l.map zcC)] (wI (zdS l)):=by
 refine Maps.vt pok Tryz.f40 (n:=36) (rs:=[.tmp 2]) rfl rfl rfl rfl rfl rfl fun g=>?_
 unfold zdS
 by_cases h4:60 < l.length
 ·rw[if_pos h4]
  repeat (any_goals (first|(apply zcd;(first|refine zbW ?_|refine zb0 ?_|refine zbZ ?_|refine zb9 (ze5 rfl rfl (by omega)) ?_|refine zb8 ?_))|(apply zcg;(first|refine zbY rfl ?_|refine zbX rfl ?_|refine zch rfl rfl ?_|refine zb7 rfl ?_))|with_reducible (refine kSr ?_)|(with_reducible refine zce ?_;refine kEr rfl ?_)))
  rfl
 ·rw[if_neg h4]
  repeat (any_goals (first|(apply zcd;(first|refine zbW ?_|refine zb0 ?_|refine zbZ ?_|refine zb9 (ze6 rfl rfl (by omega)) ?_|refine zb8 ?_))|(apply zcg;(first|refine zbY rfl ?_|refine zbX rfl ?_|refine zcb rfl rfl ?_|refine zb3 rfl ?_|refine zb5 rfl ?_))))
  refine zcl (fun j a H g'=>∃k:Nat,j=l.length-k∧k≤l.length∧clS [] l=clS (l.take k) (l.drop k)∧a=[(0,.sl (l.map zcC)),(3,wI k)]∧H=[]∧g'=g) rfl
   ⟨_,_,_,⟨0,rfl,zj _,rfl,rfl,rfl,rfl⟩,fgA⟩ ?_
  rintro j a H g' ⟨k,rfl,hkl,hn,rfl,rfl,rfl⟩
  by_cases hlt:k < l.length
  ·rw[zO hlt,clS] at hn
   rw[hn]
   have ha:=m_rline l[k]
   cases q3:lineV l[k] with
   |true=>
    rw[if_pos rfl]
    rw[q3] at ha
    repeat (any_goals (first|(apply zcd;(first|refine zbW ?_|refine zb0 ?_|refine zbZ ?_|refine zcf ?_|refine zb2 ?_|(apply zdc;(first|refine zb4 rfl (ha) rfl rfl ?_|refine zb8 ?_))|refine zcO ?_|refine zcv ?_))|(apply zcg;(first|refine zbY rfl ?_|refine zbX rfl ?_|refine zcb rfl rfl ?_|refine zb3 rfl ?_|refine zb5 rfl ?_|refine zb6 rfl rfl (by first|assumption|omega) ?_))))
    refine zcl (fun j a H g2=>∃q:Nat,j=k-q∧q≤k∧idIn (l.take q) l[k].ID=false∧a=[(0,.sl (l.map zcC)),(3,wI k),(4,wI q)]∧H=[]∧g2=g') rfl
     ⟨_,_,_,⟨0,rfl,zj _,rfl,rfl,rfl,rfl⟩,fgA⟩ ?_
    rintro j a H g2 ⟨q,rfl,hq,hno,rfl,rfl,rfl⟩
    by_cases hql:q < k
    ·have hqn:q < l.length:=by omega
     by_cases hid:l[q].ID=l[k].ID
     ·have hyes:idIn (l.take k) l[k].ID=true:=by
       unfold idIn
       rw[zbw]
       exact⟨l[q],List.mem_take_iff_getElem.2 ⟨q,by omega,rfl⟩,by simpa using hid⟩
      rw[if_pos hyes]
      repeat (any_goals (first|(apply zcd;(first|refine zbW ?_|refine zb0 ?_|refine zbZ ?_|refine zb2 ?_))|(apply zcg;(first|refine zbY rfl ?_|refine zbX rfl ?_|refine zch rfl rfl ?_|refine zb3 rfl ?_|refine zb5 rfl ?_|refine zb7 rfl ?_|refine zcu [(0,[]),(0,[]),(0,[]),(0,[]),(0,[]),(0,[]),(0,[]),(0,[]),(0,[]),(0,[]),(0,[])] 1 zcr rfl (by decide +kernel) (by decide +kernel) (by decide +kernel) nrX nrX ?_|refine zb6 rfl rfl (by first|assumption|omega) ?_))|(apply zez;(first|refine zcy nrX ?_|refine zc2 ?_|refine zda ?_|refine zdU ?_|refine zdi (zeG rfl rfl hid) ?_|(apply q_ix;(first|refine zdi (zeq (k:=q) rfl rfl rfl hqn rfl rfl) ?_|refine zdi (zeq (k:=k) rfl rfl rfl hlt rfl rfl) ?_))))|(with_reducible first|refine kSr ?_|refine kBr ?_|refine kLr ?_)|(with_reducible refine zce ?_;refine kEr rfl ?_)))
      rfl
     ·repeat (any_goals (first|(apply zcd;(first|refine zbW ?_|refine zb0 ?_|refine zbZ ?_|refine zb2 ?_))|(apply zcg;(first|refine zbY rfl ?_|refine zbX rfl ?_|refine zcb rfl rfl ?_|refine zb3 rfl ?_|refine zb5 rfl ?_|refine zcu [(0,[]),(0,[]),(0,[]),(0,[]),(0,[]),(0,[]),(0,[]),(0,[]),(0,[]),(0,[]),(0,[])] 1 zcr rfl (by decide +kernel) (by decide +kernel) (by decide +kernel) nrX nrX ?_|refine zb6 rfl rfl (by first|assumption|omega) ?_))|(apply zez;(first|refine zcy nrX ?_|refine zc2 ?_|refine zda ?_|refine zdU ?_|refine zdi (ze7 rfl rfl hid) ?_|(apply q_ix;(first|refine zdi (zeq (k:=q) rfl rfl rfl hqn rfl rfl) ?_|refine zdi (zeq (k:=k) rfl rfl rfl hlt rfl rfl) ?_))))|with_reducible (refine kLn ?_)))
      exact⟨k-(q+1),by omega,_,_,⟨q+1,rfl,hql,idIn_no hqn hno hid,rfl,rfl,rfl⟩,fgA⟩
    ·obtain rfl:q=k:=by omega
     rw[if_neg (by rw[hno];exact zbh)]
     repeat (any_goals (first|(apply zcd;(first|refine zbW ?_|refine zb0 ?_|refine zbZ ?_|refine zb2 ?_))|(apply zcg;(first|refine zbY rfl ?_|refine zbX rfl ?_|refine zci rfl ?_|refine zca rfl rfl (by first|assumption|omega) ?_))|with_reducible (refine kLn ?_)))
     exact⟨l.length-(q+1),by omega,_,_,⟨q+1,rfl,hlt,by rw[zo hlt],rfl,rfl,rfl⟩,fgA⟩
   |false=>
    rw[if_neg (by simp)]
    rw[q3] at ha
    repeat (any_goals (first|(apply zcd;(first|refine zbW ?_|refine zb0 ?_|refine zbZ ?_|refine zcf ?_|refine zb2 ?_|(apply zdc;(first|refine zb4 rfl (ha) rfl rfl ?_|refine zb8 ?_))|refine zcO ?_|refine zcv ?_))|(apply zcg;(first|refine zbY rfl ?_|refine zbX rfl ?_|refine zch rfl rfl ?_|refine zb3 rfl ?_|refine zb5 rfl ?_|refine zb7 rfl ?_|refine zb6 rfl rfl (by first|assumption|omega) ?_))|(with_reducible first|refine kSr ?_|refine kBr ?_|refine kLr ?_)|(with_reducible refine zce ?_;refine kEr rfl ?_)))
    rfl
  ·rw[hn,zab (by omega),clS]
   repeat (any_goals (first|(apply zcd;(first|refine zbW ?_|refine zb0 ?_|refine zbZ ?_|refine zb2 ?_|refine zb8 ?_))|(apply zcg;(first|refine zbY rfl ?_|refine zbX rfl ?_|refine zci rfl ?_|refine zb7 rfl ?_|refine zca rfl rfl (by first|assumption|omega) ?_))|(with_reducible refine zce ?_;refine kEr rfl ?_)))
   rfl
def linesS (l:List Line):Bool:=decide (l.length≤8∨60 < l.length∧l.length≤70)
theorem m_lines (l:List Line)(hl:l.length≤4611686018427387904):Maps Tryz.prog 33 [.sl (l.map zcC)] (wB (linesS l)):=by
 refine Maps.vt pok Tryz.f33 (n:=16) (rs:=[.tmp 2]) rfl rfl rfl rfl rfl rfl fun g=>?_
 unfold linesS
 by_cases h1:l.length≤8
 ·rw[decide_eq_true (.inl h1)]
  repeat (any_goals (first|(apply zcd;(first|refine zbW ?_|(apply w_g;(first|refine zdI rfl rfl ?_|refine RT.gu rfl ?_|refine zex rfl rfl rfl (by first|assumption|omega) ?_))|refine zb0 ?_|refine zbZ ?_|refine zb2 ?_|refine zb8 ?_|refine zcx ?_))|(apply zcg;(first|refine zbY rfl ?_|refine zbX rfl ?_|refine zb7 rfl ?_))|(with_reducible refine zce ?_;refine kEr rfl ?_)))
  rfl
 ·by_cases h2:60 < l.length
  ·by_cases h3:l.length≤70
   ·rw[decide_eq_true (.inr ⟨h2,h3⟩)]
    repeat (any_goals (first|(apply zcd;(first|refine zbW ?_|refine zcS rfl ?_|refine zb0 ?_|refine zbZ ?_|(apply zea;(first|refine zb9 (f_leqT rfl rfl (by omega)) ?_|refine zb9 (f_leqF rfl rfl (by omega)) ?_|refine zb9 (ze5 rfl rfl (by omega)) ?_))|refine zb8 ?_|refine zcx ?_))|(apply zcg;(first|refine zbY rfl ?_|refine zbX rfl ?_|refine zb7 rfl ?_))|(with_reducible refine zce ?_;refine kEr rfl ?_)))
    rfl
   ·rw[decide_eq_false (by omega)]
    repeat (any_goals (first|(apply zcd;(first|refine zbW ?_|refine zcS rfl ?_|refine zb0 ?_|refine zbZ ?_|(apply zea;(first|refine zb9 (f_leqF rfl rfl (by omega)) ?_|refine zb9 (ze5 rfl rfl (by omega)) ?_))|refine zb8 ?_|refine zcx ?_))|(apply zcg;(first|refine zbY rfl ?_|refine zbX rfl ?_|refine zb7 rfl ?_))|(with_reducible refine zce ?_;refine kEr rfl ?_)))
    rfl
  ·rw[decide_eq_false (by omega)]
   repeat (any_goals (first|(apply zcd;(first|refine zbW ?_|(apply w_g;(first|refine zcS rfl ?_|refine zdI rfl rfl ?_))|refine zb0 ?_|refine zbZ ?_|(apply zea;(first|refine zb9 (f_leqF rfl rfl (by omega)) ?_|refine zb9 (ze6 rfl rfl (by omega)) ?_))|refine zb8 ?_|refine zcx ?_))|(apply zcg;(first|refine zbY rfl ?_|refine zbX rfl ?_|refine zb7 rfl ?_))|(with_reducible refine zce ?_;refine kEr rfl ?_)))
   rfl
end Go.DL
/- Sorting a few lines. -/
namespace Go.DL
open Go.Proofs Go
def LLe (x y:Line):Prop:=x.Day < y.Day∨x.Day=y.Day∧x.ID≤y.ID
theorem LLe.trans {x y z:Line}(h1:LLe x y)(h2:LLe y z):LLe x z:=by unfold LLe at *;omega
def LSrt (l:List Line):Prop:=l.Pairwise LLe
theorem LSrt.ins {L:List Line}{v:Line}{j:Nat}(hs:LSrt L)(h1:∀y,y∈L.take j→LLe y v)(h2:∀y,y∈L.drop j→LLe v y):LSrt (L.take j++v::L.drop j):=by
 have h:LSrt (L.take j++L.drop j):=by rw[za1];exact hs
 unfold LSrt at h ⊢
 rw[zau] at h ⊢
 obtain⟨a,b,c⟩:=h
 refine⟨a,zam.2 ⟨h2,b⟩,fun x hx y hy=>?_⟩
 rcases zH.1 hy with rfl|hy
 ·exact h1 x hx
 ·exact c x hx y hy
end Go.DL
/- Sorting of lines and of leaves, at whatever length. -/
namespace Go.Proofs
open Go.Shelf
shelf_lay_g SlLaysF0.n6 Slsf 6 at Tryz 147 as Tryz.sortLn
shelf_lay_g SlLaysF0.n6 Slsf 6 at Tryz 155 as Tryz.sortLf
end Go.Proofs
namespace Go.DL
open Go.Proofs Go
theorem m_cmpLeaf (a b:Int)(u v:Value)(hu:u.oneCell'=true)(hv:v.oneCell'=true)(ha:0≤a∧a≤1000)(hb:0≤b∧b≤1000):Maps Tryz.prog 156 [.agg [wI a,.v u],.agg [wI b,.v v]] (wI (a-b)):=by
 refine Maps.vt pok Tryz.f156 (n:=10) (rs:=[.tmp 4]) rfl rfl rfl rfl rfl rfl fun g=>?_
 repeat (any_goals (first|(apply zcd;(first|refine zbW ?_|refine zbZ ?_|refine zcf ?_|refine zcm ?_|refine zb2 ?_|(apply w_bx;(first|refine zcI (s:=0) rfl (f_boxA (cs:=[wI a,.v u]) rfl (by simp[isCell,hu];rfl) rfl) rfl ?_|refine zcI (s:=1) rfl (f_boxA (cs:=[wI b,.v v]) rfl (by simp[isCell,hv];rfl) rfl) rfl ?_))))|(apply zcg;(first|refine zbY rfl ?_|refine zbX rfl ?_|refine zb7 rfl ?_))|(with_reducible refine zce ?_;refine kEr rfl ?_)))
 rfl
abbrev fnLf:D:=.fn (.func 156) [] []
theorem c_sortLf {H:List Blk}{b cap:Nat}{l:List (Nat × Leaf)}(hb:H[b]? = some (.live 2 (l.map eOL)))(hl:l.length≤1000000)(hn:∀q,q∈l→0≤q.2.Number∧q.2.Number≤1000):
  CallSp Tryz.prog 155 [.ms b 0 l.length cap,fnLf] H fun d H'=>d=.tup []∧∃y:List (Nat × Leaf),y.Pairwise (fun p q=>p.2.Number≤q.2.Number)∧y.Perm l∧H'=H.set b (.live 2 (y.map eOL)):=by
 let T:={ q:Nat × Leaf // 0≤q.2.Number∧q.2.Number≤1000 }
 let l':List T:=l.attach.map fun q=>⟨q.1,hn q.1 q.2⟩
 have e1:l'.map (fun q=>q.1)=l:=by
  simp only[l',zaa]
  exact List.attach_map_subtype_val l
 have hk2:∀(a b:Int) (us vs:List Value),(0≤a∧a≤1000)→(0≤b∧b≤1000)→CE 2 [wI a,.any] us→CE 2 [wI b,.any] vs→Maps Tryz.prog 156 [.agg (us.map .v),.agg (vs.map .v)] (wI (a-b)):=fun a b us vs ha hb h1 h2=>by
  obtain⟨l1,o1,s1⟩:=h1
  obtain⟨l2,o2,s2⟩:=h2
  match us,l1,o1,s1,vs,l2,o2,s2 with
  |[u0,u1],_,o1,s1,[v0,v1],_,o2,s2=>
   have e1:=s1 0 _ _ rfl rfl
   have e2:=s2 0 _ _ rfl rfl
   rcases e1 with e1|e1
   ·cases e1
   rcases e2 with e2|e2
   ·cases e2
   cases e1;cases e2
   exact m_cmpLeaf a b u1 v1 (o1 _ (by simp)) (o2 _ (by simp)) ha hb
 have e2:∀y:List T,y.map (fun q=>eOL q.1)=(y.map (fun q=>q.1)).map eOL:=fun y=>by rw[zaa];rfl
 have hb':H[b]? = some (.live 2 (l'.map fun q=>eOL q.1)):=by rw[e2,e1];exact hb
 have hlen:l'.length=l.length:=by simp[l']
 have hO:Go.Sort.SWO (ltOf fun x y:T=>x.1.2.Number-y.1.2.Number):=
  ⟨fun x=>by simp only[ltOf,decide_eq_false_iff_not];omega,fun x y z h1 h2=>by simp only[ltOf,decide_eq_true_eq] at *;omega,fun x y z h1 h2=>by simp only[ltOf,decide_eq_false_iff_not] at *;omega⟩
 have h:=sortFunc_ok Tryz.sortLf (sz:=2) (cap:=cap) (T:=T) rfl rfl (fun q=>eOL q.1) (fun q=>[wI q.1.2.Number,.any]) (fun x y=>x.1.2.Number-y.1.2.Number) hO (g:=156) (fun x y us vs h1 h2=>hk2 x.1.2.Number y.1.2.Number us vs x.2 y.2 h1 h2) hb' (by omega) (fun _ _=>rfl) (fun _ _=>rfl) (fun x _ j d d' h1 h2=>by
  have:j < 2:=(za.1 h1).1
  match j,this with
  |0,_=>cases h1;cases h2;exact .inr ⟨_,rfl,rfl⟩
  |1,_=>cases h2;exact .inl rfl)
 rw[hlen] at h
 refine CallSp.mono h ?_
 rintro d H' ⟨rfl,y,⟨hp,hs⟩,rfl⟩
 refine⟨rfl,y.map (fun q=>q.1),?_,?_,by rw[e2]⟩
 ·rw[zaJ];exact hs.imp fun {a b} h=>by omega
 ·have:=hp.map (fun q:T=>q.1);rwa [e1] at this
end Go.DL
/- How many copies have a leaf. -/
namespace Go.DL
open Go.Proofs Go
abbrev eLvs (l:List Leaf):List D:=[.sl (l.map zcn)]
def hasL (x:Leaf)(l:List Leaf):Nat:=l.countP fun y=>decide (y.Number=x.Number∧y.Words=x.Words)
theorem hasL_succ (x:Leaf){l:List Leaf}{k:Nat}(h:k < l.length):hasL x (l.take (k+1))=hasL x (l.take k)+if l[k].Number=x.Number∧l[k].Words=x.Words then 1 else 0:=by
 rw[hasL,zo h,List.countP_append,List.countP_singleton]
 simp[hasL]
theorem hasL_flat (x:Leaf){cs:List (List Leaf)}{i:Nat}(h:i < cs.length):hasL x (cs.take (i+1)).flatten=hasL x (cs.take i).flatten+hasL x cs[i]:=by
 rw[zo h,hasL,zbO,List.countP_append]
 simp[hasL]
theorem flat_le {α:Type}{cs:List (List α)}{m:Nat}(h:∀l,l∈cs→l.length≤m):cs.flatten.length≤cs.length*m:=by
 induction cs with
 |nil=>simp
 |cons a r ih=>
  have h1:=ih fun l hl=>h l (zG _ hl)
  have h2:=h a (zB ..)
  rw[zbS,zw,z4,zax];omega
theorem m_has (cs:List (List Leaf))(x:Leaf)(hc:cs.length≤1000)(hl:∀l,l∈cs→l.length≤1000)(hw:∀l,l∈cs→∀y,y∈l→y.Words.length≤4611686018427387904)(hx:x.Words.length≤4611686018427387904):
  Maps Tryz.prog 102 [.sl (cs.map eLvs),.agg (zcn x)] (wI (hasL x cs.flatten:Nat)):=by
 refine Maps.vt pok Tryz.f102 (n:=50) (rs:=[.tmp 4]) rfl rfl rfl rfl rfl rfl fun g=>?_
 repeat (any_goals (first|(apply zcd;(first|refine zbW ?_|refine zbZ ?_|refine zco ?_))|(apply zcg;(first|refine zbY rfl ?_|refine zbX rfl ?_|refine zb3 rfl ?_))))
 refine zcl (fun j a H g'=>∃i:Nat,j=cs.length-i∧i≤cs.length∧a=[(0,.sl (cs.map eLvs)),(3,.mp 0 0 0),(5,wI (hasL x (cs.take i).flatten:Nat)),(6,wI i)]∧H=[.live 2 [zcn x]]∧g'=g) rfl
  ⟨_,_,_,⟨0,rfl,zj _,rfl,rfl,rfl⟩,fgA⟩ ?_
 rintro j a H g' ⟨i,rfl,hi,rfl,rfl,rfl⟩
 have hb:hasL x (cs.take i).flatten≤1000000:=by
  refine zR zbC (zR (flat_le (m:=1000) fun l h=>hl l (z9 h)) ?_)
  rw[zA];omega
 by_cases hlt:i < cs.length
 ·have hll:=hl cs[i] (zi hlt)
  have hwl:=hw cs[i] (zi hlt)
  repeat (any_goals (first|(apply zcd;(first|refine zbW ?_|refine zb0 ?_|refine zbZ ?_|refine zb2 ?_|refine zb8 ?_))|(apply zcg;(first|refine zbY rfl ?_|refine zbX rfl ?_|refine zb3 rfl ?_|refine zb5 rfl ?_|refine zb6 rfl rfl (by first|assumption|omega) ?_))))
  refine zcl (fun j a H g2=>∃k:Nat,j=cs[i].length-k∧k≤cs[i].length∧a=[(0,.sl (cs.map eLvs)),(3,.mp 0 0 0),(5,wI (hasL x (cs.take i).flatten+hasL x (cs[i].take k):Nat)),(6,wI i),(7,wI k)]∧H=[.live 2 [zcn x]]∧g2=g') rfl
   ⟨_,_,_,⟨0,rfl,zj _,rfl,rfl,rfl⟩,fgA⟩ ?_
  rintro j a H g2 ⟨k,rfl,hk,rfl,rfl,rfl⟩
  have hb2:hasL x (cs[i].take k)≤1000:=zR zbC (by rw[zA];omega)
  by_cases hlk:k < cs[i].length
  ·have hs:=m_same cs[i][k].Words x.Words (hwl _ (zi hlk)) hx
   have e:=hasL_succ x hlk
   by_cases hn:cs[i][k].Number=x.Number
   ·by_cases hq:cs[i][k].Words=x.Words
    ·rw[if_pos ⟨hn,hq⟩] at e
     rw[decide_eq_true hq] at hs
     repeat (any_goals (first|(apply zcd;(first|refine zbW ?_|refine zb0 ?_|refine zbZ ?_|refine zcf ?_|refine zb2 ?_|refine zb8 ?_|refine zcO ?_))|(apply zcg;(first|refine zbY rfl ?_|refine zbX rfl ?_|refine zch rfl rfl ?_|refine zb3 rfl ?_|refine zb5 rfl ?_|refine zcu [(0,[]),(0,[]),(0,[]),(0,[]),(0,[]),(0,[]),(0,[]),(0,[]),(0,[]),(0,[]),(0,[]),(0,[]),(0,[]),(0,[]),(0,[]),(0,[]),(0,[]),(0,[]),(0,[]),(0,[]),(0,[]),(0,[]),(0,[]),(0,[])] 1 zcr rfl (by decide +kernel) (by decide +kernel) (by decide +kernel) nrX nrX ?_|refine zb6 rfl rfl (by first|assumption|omega) ?_))|(apply zez;(first|refine zcy nrX ?_|refine PT.gy rfl ?_|refine zc2 ?_|refine zda ?_|refine zdU ?_|refine zdi (zeG rfl rfl hn) ?_|refine zcT rfl (hs) rfl rfl ?_|refine PT.pkA ?_|(apply q_ix;(first|refine zdi (zeq (l:=cs[i]) (f:=zcn) (k:=k) rfl rfl rfl hlk rfl rfl) ?_|refine zem ?_))))|with_reducible (refine kLn ?_)))
     exact⟨cs[i].length-(k+1),by omega,_,_,⟨k+1,rfl,hlk,by rw[e],rfl,rfl⟩,fgA⟩
    ·rw[if_neg (fun h=>hq h.2)] at e
     rw[decide_eq_false hq] at hs
     repeat (any_goals (first|(apply zcd;(first|refine zbW ?_|refine zb0 ?_|refine zbZ ?_|refine zcf ?_|refine zb2 ?_|refine zb8 ?_|refine zcO ?_))|(apply zcg;(first|refine zbY rfl ?_|refine zbX rfl ?_|refine zcb rfl rfl ?_|refine zb3 rfl ?_|refine zb5 rfl ?_|refine zcu [(0,[]),(0,[]),(0,[]),(0,[]),(0,[]),(0,[]),(0,[]),(0,[]),(0,[]),(0,[]),(0,[]),(0,[]),(0,[]),(0,[]),(0,[]),(0,[]),(0,[]),(0,[]),(0,[]),(0,[]),(0,[]),(0,[]),(0,[]),(0,[])] 1 zcr rfl (by decide +kernel) (by decide +kernel) (by decide +kernel) nrX nrX ?_|refine zb6 rfl rfl (by first|assumption|omega) ?_))|(apply zez;(first|refine zcy nrX ?_|refine PT.gy rfl ?_|refine zc2 ?_|refine zda ?_|refine zdU ?_|refine zdi (zeG rfl rfl hn) ?_|refine zcT rfl (hs) rfl rfl ?_|refine PT.pkA ?_|(apply q_ix;(first|refine zdi (zeq (l:=cs[i]) (f:=zcn) (k:=k) rfl rfl rfl hlk rfl rfl) ?_|refine zem ?_))))|with_reducible (refine kLn ?_)))
     exact⟨cs[i].length-(k+1),by omega,_,_,⟨k+1,rfl,hlk,by rw[e],rfl,rfl⟩,fgA⟩
   ·rw[if_neg (fun h=>hn h.1)] at e
    repeat (any_goals (first|(apply zcd;(first|refine zbW ?_|refine zb0 ?_|refine zbZ ?_|refine zcf ?_|refine zb2 ?_|refine zb8 ?_|refine zcO ?_))|(apply zcg;(first|refine zbY rfl ?_|refine zbX rfl ?_|refine zcb rfl rfl ?_|refine zb3 rfl ?_|refine zb5 rfl ?_|refine zcu [(0,[]),(0,[]),(0,[]),(0,[]),(0,[]),(0,[]),(0,[]),(0,[]),(0,[]),(0,[]),(0,[]),(0,[]),(0,[]),(0,[]),(0,[]),(0,[]),(0,[]),(0,[]),(0,[]),(0,[]),(0,[]),(0,[]),(0,[]),(0,[])] 1 zcr rfl (by decide +kernel) (by decide +kernel) (by decide +kernel) nrX nrX ?_|refine zb6 rfl rfl (by first|assumption|omega) ?_))|(apply zez;(first|refine zcy nrX ?_|refine PT.gn rfl rfl ?_|refine zc2 ?_|refine zda ?_|refine zdU ?_|refine zdi (ze7 rfl rfl hn) ?_|refine PT.pkA ?_|(apply q_ix;(first|refine zdi (zeq (l:=cs[i]) (f:=zcn) (k:=k) rfl rfl rfl hlk rfl rfl) ?_|refine zem ?_))))|with_reducible (refine kLn ?_)))
    exact⟨cs[i].length-(k+1),by omega,_,_,⟨k+1,rfl,hlk,by rw[e],rfl,rfl⟩,fgA⟩
  ·obtain rfl:k=cs[i].length:=by omega
   rw[z0]
   repeat (any_goals (first|(apply zcd;(first|refine zbW ?_|refine zb0 ?_|refine zbZ ?_|refine zcf ?_|refine zb2 ?_|refine zb8 ?_|refine zcO ?_))|(apply zcg;(first|refine zbY rfl ?_|refine zbX rfl ?_|refine zci rfl ?_|refine zca rfl rfl (by first|assumption|omega) ?_))|with_reducible (refine kLn ?_)))
   exact⟨cs.length-(i+1),by omega,_,_,⟨i+1,rfl,hlt,by rw[hasL_flat x hlt],rfl,rfl⟩,fgA⟩
 ·obtain rfl:i=cs.length:=by omega
  repeat (any_goals (first|(apply zcd;(first|refine zbW ?_|refine zb0 ?_|refine zbZ ?_|refine zb2 ?_|refine zb8 ?_))|(apply zcg;(first|refine zbY rfl ?_|refine zbX rfl ?_|refine zci rfl ?_|refine zb7 rfl ?_|refine zca rfl rfl (by first|assumption|omega) ?_))|(with_reducible refine zce ?_;refine kEr rfl ?_)))
  rw[z0];rfl
end Go.DL
/- Digest. -/
namespace Go.DL
open Go.Proofs Go
theorem clS_iff:∀(seen l:List Line),clS seen l=0↔(∀x,x∈l→lineV x=true)∧l.Pairwise (fun x y=>¬x.ID=y.ID)∧∀x,x∈l→idIn seen x.ID=false
 |seen,[]=>by simp[clS]
 |seen,x::r=>by
  have ih:=clS_iff (seen++[x]) r
  rw[clS]
  by_cases h1:lineV x=true
  ·rw[if_pos h1]
   by_cases h2:idIn seen x.ID=true
   ·rw[if_pos h2]
    constructor
    ·intro h;exact absurd h (by decide)
    ·intro ⟨_,_,h⟩
     rw[h x (zB ..)] at h2;cases h2
   ·rw[if_neg h2,ih]
    have e:∀y,idIn (seen++[x]) y=(idIn seen y||decide (x.ID=y)):=fun y=>by simp[idIn]
    constructor
    ·intro ⟨a,b,c⟩
     refine⟨List.forall_mem_cons.2 ⟨h1,a⟩,zam.2 ⟨fun y hy=>?_,b⟩,List.forall_mem_cons.2 ⟨by simpa using h2,fun y hy=>?_⟩⟩
     ·have:=c y hy;rw[e,zbG] at this;simpa using this.2
     ·have:=c y hy;rw[e,zbG] at this;exact this.1
    ·intro ⟨a,b,c⟩
     rw[zam] at b
     refine⟨fun y hy=>a y (zG _ hy),b.2,fun y hy=>?_⟩
     rw[e,c y (zG _ hy),Bool.false_or]
     exact decide_eq_false (b.1 y hy)
  ·rw[if_neg h1]
   constructor
   ·intro h;exact absurd h (by decide)
   ·intro ⟨a,_⟩;exact absurd (a x (zB ..)) h1
def LinesOk (l:List Line):Prop:=l.length≤60∧(∀x,x∈l→lineV x=true)∧l.Pairwise (fun x y=>¬x.ID=y.ID)
theorem checkLines_iff (l:List Line):zdS l=0↔LinesOk l:=by
 unfold zdS LinesOk
 by_cases h:60 < l.length
 ·rw[if_pos h]
  exact⟨fun h=>absurd h (by decide),fun h=>by omega⟩
 ·rw[if_neg h,clS_iff]
  exact⟨fun⟨a,b,_⟩=>⟨by omega,a,b⟩,fun⟨_,a,b⟩=>⟨a,b,fun _ _=>rfl⟩⟩
theorem LinesOk.perm {l m:List Line}(h:LinesOk l)(hp:m.Perm l):LinesOk m:=
 ⟨by rw[hp.length_eq];exact h.1,fun x hx=>h.2.1 x (hp.mem_iff.1 hx),(hp.pairwise_iff (fun {x y} h e=>h e.symm)).2 h.2.2⟩
theorem LinesOk.ok {l:List Line}(h:LinesOk l):∀x,x∈l→lineOk x:=fun x hx=>by
 have:=h.2.1 x hx
 simp only[lineV,zJ,decide_eq_true_eq] at this
 refine⟨?_,?_,?_,?_⟩<;>omega
theorem pair_eq {l:List Line}(h:l.Pairwise (fun x y=>¬x.ID=y.ID)){x y:Line}(hx:x∈l)(hy:y∈l)(e:x.ID=y.ID):x=y:=by
 induction l with
 |nil=>cases hx
 |cons z l ih=>
  obtain⟨h1,h2⟩:=zam.1 h
  rcases zH.1 hx with e1|hx'
  ·rcases zH.1 hy with e2|hy'
   ·rw[e1,e2]
   ·exact absurd (by rw[←e1];exact e) (h1 _ hy')
  ·rcases zH.1 hy with e2|hy'
   ·exact absurd (by rw[←e2];exact e.symm) (h1 _ hx')
   ·exact ih h2 hx' hy'
theorem LSrt.one {l a b:List Line}(h:LinesOk l)(ha:LSrt a)(hb:LSrt b)(pa:a.Perm l)(pb:b.Perm l):a=b:=
 (pa.trans pb.symm).eq_of_pairwise (fun x y hx hy h1 h2=>pair_eq h.2.2 (pa.mem_iff.1 hx) (pb.mem_iff.1 hy) (by unfold LLe at h1 h2;omega)) ha hb
theorem snapLn {lk:Nat→Option Blk}{b m cap k:Nat}{o:List Line}(h:lk b=some (.live 4 (o.map zcC)))(hm:m=o.length):snap lk (k+1) (.ms b 0 m cap)=.sl (o.map zcC):=by
 subst hm
 simp only[snap,h,zQ,ze,zf,if_true,zS]
 rw[zg (by simp),zaa]
 refine congrArg D.sl (zI fun x _=>?_)
 cases k<;>rfl
theorem wordsOf_W {x:Line}(h:lineV x=true):∀w,w∈zd6 x→W w:=by
 simp only[lineV,zJ,decide_eq_true_eq] at h
 intro w hw
 simp only[zd6,zH,zai,or_false] at hw
 rcases hw with rfl|rfl|rfl|rfl|rfl|rfl|rfl<;>(constructor<;>omega)
theorem words_W {l:List Line}(h:LinesOk l):∀w,w∈zdM l→W w:=by
 intro w hw
 rcases zH.1 hw with rfl|hw
 ·have:=h.1;constructor<;>omega
 ·obtain⟨x,hx,hw⟩:=List.mem_flatMap.1 hw
  exact wordsOf_W (h.2.1 x hx) w hw
theorem words_len1 {l:List Line}(h:l.length≤1000):(zdM l).length≤7001:=by
 show ((l.length:Int)::l.flatMap zd6).length≤_
 rw[z4,words_len];omega
end Go.DL
/- Rows of words, each in a block of its own; the words of lines; data that are written. -/
namespace Go.DL
open Go.Proofs Go
abbrev eQ (q:Nat × List Int):List D:=[.ms q.1 0 q.2.length q.2.length]
structure RQ (H:List Blk)(b:Nat)(qs:List (Nat × List Int)):Prop where
 rows:H[b]? = some (.live 1 (qs.map eQ))
 row:∀q,q∈qs→H[q.1]? = some (.live 1 (q.2.map eI))∧q.1≠b
theorem RQ.push {H T:List Blk}{b p:Nat}{qs:List (Nat × List Int)}{row:List Int}(h:RQ H b qs)(hp:(H++T)[p]? = some (.live 1 (row.map eI)))(hpb:p≠b):
  RQ ((H++T).set b .dead++[.live 1 ((qs++[(p,row)]).map eQ)]) (H++T).length (qs++[(p,row)]):=by
 have hl:((H++T).set b Blk.dead).length=(H++T).length:=by simp
 refine⟨by rw[zu (by rw[hl];exact zf _),hl,zaT];rfl,fun q hq=>?_⟩
 have key:(H++T)[q.1]? = some (.live 1 (q.2.map eI))∧q.1≠b:=by
  rcases zK.1 hq with h1|h1
  ·exact⟨zcs T (h.row q h1).1,(h.row q h1).2⟩
  ·rw[zC.1 h1];exact⟨hp,hpb⟩
 have hlt:=zc5 key.1
 exact⟨zcs _ (zdy key.1 (Ne.symm key.2)),by omega⟩
theorem RQ.get {H:List Blk}{b:Nat}{qs:List (Nat × List Int)}(h:RQ H b qs){q:Nat × List Int}(hq:q∈qs)(lv:Nat):snap (fun b=>H[b]?) (lv+1) (.ms q.1 0 q.2.length q.2.length)=.sl (q.2.map eI):=
 snapW (k:=lv) (h.row q hq).1 rfl
theorem RQ.snap {H:List Blk}{b m c:Nat}{qs:List (Nat × List Int)}(h:RQ H b qs)(hm:m=qs.length)(lv:Nat):snap (fun b=>H[b]?) (lv+2) (.ms b 0 m c)=.sl ((qs.map (·.2)).map zcU):=by
 subst hm
 simp only[DL.snap,h.rows,zQ,ze,zf,if_true,zS]
 rw[zg (by simp),zaa,zaa]
 refine congrArg D.sl (zI fun q hq=>?_)
 simp only[Function.comp,zy,z8,zcU]
 rw[h.get hq]
theorem RQ.snapR {H:List Blk}{b m c:Nat}{qs:List (Nat × List Int)}(h:RQ H b qs)(hm:m=qs.length)(lv:Nat):snapR (fun b=>H[b]?) (lv+3) (.ms b 0 m c)=.fl ((qs.map (·.2)).map zcU):=by
 subst hm
 simp only[DL.snapR,h.rows,zQ,ze,zf,if_true,zS]
 rw[if_pos,zg (by simp),zaa,zaa]
 ·refine congrArg D.fl (zI fun q hq=>?_)
  simp only[Function.comp,zy,z8,zcU]
  rw[h.get hq]
 ·refine zh.2 fun e he=>?_
  obtain⟨q,hq,rfl⟩:=zt.1 he
  rw[List.all_cons,List.all_nil,Bool.and_true]
  simp only[frK,(h.row q hq).1]
  exact eI_all _ _ fun x=>rfl
theorem c_RWords0 (l:List Line)(hl:l.length≤1000)(h:∀x,x∈l→lineOk x):CallSp Tryz.prog 88 [.sl (l.map zcC)] [] fun d' H'=>d'=.ms 0 0 (zdM l).length (zdM l).length∧H'[0]? = some (.live 1 ((zdM l).map eI)):=by
 refine CallSp.vt pok Tryz.f88 (n:=44) (rs:=[.tmp 2]) rfl rfl rfl rfl rfl rfl rfl fun g=>?_
 repeat (any_goals (first|(apply zcd;(first|refine zbW ?_|refine zb0 ?_|refine zbZ ?_|refine zb8 ?_|refine zco ?_))|(apply zcg;(first|refine zbY rfl ?_|refine zbX rfl ?_|refine zb3 rfl ?_))))
 refine zcl (fun j a H g'=>∃(k:Nat) (o:List Int),j=l.length-k∧k≤l.length∧o=(l.length:Int)::(l.take k).flatMap zd6∧a=[(0,.sl (l.map zcC)),(3,.ms 0 0 o.length o.length),(4,wI k)]∧H=[.live 1 (o.map eI)]∧g'=g) rfl
  ⟨_,_,_,⟨0,[(l.length:Int)],rfl,zj _,rfl,rfl,rfl,rfl⟩,fgA⟩ ?_
 rintro j a H g' ⟨k,o,rfl,hk,ho,rfl,rfl,rfl⟩
 by_cases hlt:k < l.length
 ·obtain⟨hx1,hx2,hx3,hx4⟩:=h _ (zi hlt)
  have hol:o.length≤1+7*k:=by
   rw[ho,z4,words_len,zA];omega
  repeat (any_goals (first|(apply zcd;(first|refine zbW ?_|refine zb0 ?_|refine zbZ ?_|refine zcf ?_|refine zcm ?_|refine zb2 ?_|(apply zdc;(first|refine zeH nrX (f_appW (o:=o) (v:=zd6 l[k]) rfl rfl rfl rfl rfl rfl rfl rfl rfl (by simp[zd6];omega)) nrX ?_|refine zb8 ?_))|refine zcO ?_|refine zc0 ?_|refine zcI nrX (f_bslW7 rfl rfl rfl rfl rfl rfl rfl rfl rfl) nrX ?_|refine zco ?_))|(apply zcg;(first|refine zbY rfl ?_|refine zbX rfl ?_|refine zb3 rfl ?_|refine zb5 rfl ?_|refine zb6 rfl rfl (by first|assumption|omega) ?_))|with_reducible (refine kLn ?_)))
  refine⟨l.length-(k+1),by omega,_,_,⟨k+1,o++zd6 l[k],rfl,hlt,?_,rfl,rfl,rfl⟩,(Wk.mv (k:=3) (s:=0) (a':=[(0,.sl (l.map zcC)),(3,.ms 0 0 (o++zd6 l[k]).length (o++zd6 l[k]).length),(4,wI (k+1:Nat))]) rfl rfl rfl (by first|decide|exact zj _) (by first|decide|exact zj _) (by (repeat first|exact True.intro|refine And.intro ?_ ?_|exact Or.inr (Or.inr (Or.inl ⟨_,_,_,rfl,rfl⟩))|exact Or.inr (Or.inl ⟨rfl,rfl⟩)|exact Or.inl rfl)) (by (repeat first|exact bn_nil|refine bn_cons ?_ ?_|exact eI_no _ _ _|exact eDot_no _ _ _|exact bn_dead|exact bn_free|exact bn_lit rfl)) nrX).trans <| fgA⟩
  rw[ho,zo hlt,List.flatMap_append];simp
 ·repeat (any_goals (first|(apply zcd;(first|refine zbW ?_|refine zb0 ?_|refine zbZ ?_|refine zb2 ?_|refine zb8 ?_))|(apply zcg;(first|refine zbY rfl ?_|refine zbX rfl ?_|refine zci rfl ?_|refine zb7 rfl ?_|refine zca rfl rfl (by first|assumption|omega) ?_))|(with_reducible refine zce ?_;refine kEr rfl ?_)))
  have e:o=zdM l:=by rw[ho,zg (by omega)];rfl
  rw[e];exact⟨rfl,rfl⟩
theorem c_RWords {H:List Blk}{x:D}{l:List Line}(hx:snap (fun b=>H[b]?) 5 x=.sl (l.map zcC))(hl:l.length≤1000)(h:∀x,x∈l→lineOk x):
  CallSp Tryz.prog 88 [x] H fun d' H'=>d'=.ms (H.length+1) 0 (zdM l).length (zdM l).length∧H'=H++[.dead,.live 1 ((zdM l).map eI)]:=
 CallSp.frame (k:=0) (by rw[zy,z8,hx];exact c_RWords0 l hl h) fun e he d hd=>by
  obtain⟨z,_,rfl⟩:=zt.1 he
  obtain rfl:d=wI z:=by simpa[eI] using hd
  rfl
end Go.DL
