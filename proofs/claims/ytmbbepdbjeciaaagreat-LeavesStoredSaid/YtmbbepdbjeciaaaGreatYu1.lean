/- CheckLines of both programs; lines compared. -/
import Derived.Test.YtmbbepdbjeciaaaGreatZs
import Derived.Test.YtmbbepdbjeciaaaGreatZx
import Derived.Test.YtmbbepdbjeciaaaGreatE5
import Derived.Test.YtmbbepdbjeciaaaGreatE6
import Derived.Ground.SlsfProg
import Derived.Shelf.SlGeneric
import Derived.Test.YtmbbepdbjeciaaaGreatZy
import Derived.Test.YtmbbepdbjeciaaaGreatZe
import Derived.Test.YtmbbepdbjeciaaaGreatP1
set_option maxRecDepth 100000
set_option maxHeartbeats 16000000
namespace Go.DL
open Go.Proofs Go
theorem m_idx_Line {p:Line→Bool}{F:FuncId}{cs:List D}{l:List (Line)}(hl:l.length≤4611686018427387904)(hcs:cs.all stab1=true)(hp:∀x,x∈l→Maps Tryz.prog F ([D.agg (eLine x)]++cs) (wB (p x))):Maps Tryz.prog 142 [.sl (l.map eLine),.fn (.func F) [] cs] (wI (fidx p l)):=by
 refine Maps.vt pok Tryz.f142 (n:=19) (rs:=[.tmp 4]) rfl rfl rfl rfl rfl rfl fun g=>?_
 have hcb:=stab_low hcs 2 0
 repeat (any_goals (first|(apply w_any;(first|refine RT.nil ?_|refine RT.mvA ?_|refine RT.asA ?_|refine RT.clA ?_))|(apply v_any;(first|refine VT.seq rfl ?_|refine VT.reg rfl ?_|refine VT.block rfl ?_))))
 refine VT.loop (fun j a H g'=>∃k:Nat,j=l.length-k∧k≤l.length∧(l.take k).any p=false∧a=[(0,.sl (l.map eLine)),(1,.fn (.func F) [] cs),(7,wI l.length),(8,wI k)]∧H=[]∧g'=g) rfl
  ⟨_,_,_,⟨0,rfl,Nat.zero_le _,rfl,rfl,rfl,rfl⟩,Wk.fg ⟨by (repeat first|exact True.intro|refine And.intro ?_ ?_|exact Or.inr (Or.inl rfl)|exact Or.inl rfl|(refine DLe.i rfl ?_;omega)|exact Or.inr (Or.inl rfl)|(refine DLe.i rfl ?_;simp;done)),rfl,(by first|decide|exact Nat.zero_le _|exact Nat.le_refl _|(first|omega|(simp only[List.length_set,List.length_replicate,List.length_append,List.length_map,List.length_cons,List.length_nil];omega))),(by first|rfl|simp_all [lowB]),by (repeat first|exact bb_nil|refine bb_cons ?_ ?_|exact eI_low _ _|exact eDot_low _ _|exact bb_dead|exact bb_free|exact bb_lit rfl|(simp[BlkBelow,lowB];done))⟩⟩ ?_
 rintro j a H g' ⟨k,rfl,hk,hn,rfl,rfl,rfl⟩
 by_cases hlt:k < l.length
 ·have hsn:∀lk,([D.agg (eLine l[k])]++cs).map (snap lk 5)=[D.agg (eLine l[k])]++cs:=fun lk=>by rw[List.map_append,stab_snap hcs];rfl
  repeat (any_goals (first|(apply w_any;(first|refine RT.nil ?_|refine RT.mvA ?_|refine RT.asA ?_|refine RT.ldA ?_|refine RT.bnA ?_|refine RT.callM rfl (hp l[k] (List.getElem_mem hlt)) (hsn _) rfl ?_|refine RT.ixA ?_))|(apply v_any;(first|refine VT.seq rfl ?_|refine VT.reg rfl ?_|refine VT.block rfl ?_|refine VT.skip rfl ?_|refine VT.ret rfl ?_|refine VT.condY rfl rfl (by first|assumption|omega) ?_|refine VT.cond rfl rfl (fun hc=>?_) (fun hc=>?_)))|(with_reducible first|refine kSr ?_|refine kBr ?_|refine kLn ?_|refine kLr ?_)|(with_reducible refine d_kEr ?_;refine kEr rfl ?_)))
  ·rw[fidx_hit hlt hn hc];rfl
  ·exact⟨l.length-(k+1),by omega,_,_,⟨k+1,rfl,hlt,any_snoc hlt hn hc,rfl,rfl,rfl⟩,Wk.fg ⟨by (repeat first|exact True.intro|refine And.intro ?_ ?_|exact Or.inr (Or.inl rfl)|exact Or.inl rfl|(refine DLe.i rfl ?_;omega)|exact Or.inr (Or.inl rfl)|(refine DLe.i rfl ?_;simp;done)),rfl,(by first|decide|exact Nat.zero_le _|exact Nat.le_refl _|(first|omega|(simp only[List.length_set,List.length_replicate,List.length_append,List.length_map,List.length_cons,List.length_nil];omega))),(by first|rfl|simp_all [lowB]),by (repeat first|exact bb_nil|refine bb_cons ?_ ?_|exact eI_low _ _|exact eDot_low _ _|exact bb_dead|exact bb_free|exact bb_lit rfl|(simp[BlkBelow,lowB];done))⟩⟩
 ·repeat (any_goals (first|(apply w_any;(first|refine RT.nil ?_|refine RT.asA ?_|refine RT.bnA ?_))|(apply v_any;(first|refine VT.seq rfl ?_|refine VT.reg rfl ?_|refine VT.exit rfl ?_|refine VT.ret rfl ?_|refine VT.condN rfl rfl (by first|assumption|omega) ?_))|(with_reducible refine d_kEr ?_;refine kEr rfl ?_)))
  rw[fidx_none hlt hn];rfl
theorem m_has_Line {p:Line→Bool}{F:FuncId}{cs:List D}{l:List (Line)}(hl:l.length≤4611686018427387904)(hcs:cs.all stab1=true)(hp:∀x,x∈l→Maps Tryz.prog F ([D.agg (eLine x)]++cs) (wB (p x))):Maps Tryz.prog 93 [.sl (l.map eLine),.fn (.func F) [] cs] (wB (l.any p)):=by
 refine Maps.vt pok Tryz.f93 (n:=9) (rs:=[.tmp 4]) rfl rfl rfl rfl rfl rfl fun g=>?_
 have hsn:∀lk,([.sl (l.map eLine),.fn (.func F) [] cs]:List D).map (snap lk 5)=[.sl (l.map eLine),.fn (.func F) [] cs]:=fun lk=>by
  simp only[List.map_cons,List.map_nil,snap,stab_snap hcs]
 repeat (any_goals (first|(apply w_any;(first|refine RT.nil ?_|refine RT.mvA ?_|refine RT.asA ?_|refine RT.bnA ?_|refine RT.callM rfl (m_idx_Line hl hcs hp) (hsn _) rfl ?_))|(apply v_any;(first|refine VT.seq rfl ?_|refine VT.reg rfl ?_|refine VT.ret rfl ?_))|(with_reducible refine d_kEr ?_;refine kEr rfl ?_)))
 rw[←fidx_any];rfl
def lineV (x:Line):Bool:=decide (1≤x.ID∧x.ID≤1099511627776)&&(decide (0≤x.Day∧x.Day≤728)&&(decide (0≤x.What∧x.What≤1000)&&decide (0≤x.Worth∧x.Worth≤2147483647)))
def idIn (l:List Line)(n:Int):Bool:=l.any fun y=>decide (y.ID=n)
def clS:List Line→List Line→Int
 |_,[]=>0
 |seen,x::r=>if lineV x=true then (if idIn seen x.ID=true then 6 else clS (seen++[x]) r) else 1
def CheckLinesS (l:List Line):Int:=if 60 < l.length then 2 else clS [] l
theorem m_valid (x:Line):Maps Tryz.prog 92 [.agg (eLine x)] (wB (lineV x)):=by
 refine Maps.vt pok Tryz.f92 (n:=21) (rs:=[.tmp 2]) rfl rfl rfl rfl rfl rfl fun g=>?_
 unfold lineV
 by_cases q0:1≤x.ID∧x.ID≤1099511627776
 ·rw[decide_eq_true q0,Bool.true_and]
  by_cases q1:0≤x.Day∧x.Day≤728
  ·rw[decide_eq_true q1,Bool.true_and]
   by_cases q2:0≤x.What∧x.What≤1000
   ·rw[decide_eq_true q2,Bool.true_and]
    repeat (any_goals (first|(apply w_any;(first|refine RT.nil ?_|(apply w_g;(first|refine RT.gy rfl ?_|refine RT.gcY rfl rfl rfl (by first|assumption|omega) ?_))|refine RT.mvA ?_|refine RT.asA ?_|refine RT.ldA ?_|refine RT.faA ?_|refine RT.callM rfl (m_within _ _ _) rfl rfl ?_|refine RT.pkA ?_|refine RT.nwA ?_))|(apply v_any;(first|refine VT.seq rfl ?_|refine VT.reg rfl ?_|refine VT.ret rfl ?_))|(with_reducible refine d_kEr ?_;refine kEr rfl ?_)))
    rfl
   ·rw[decide_eq_false q2,Bool.false_and]
    repeat (any_goals (first|(apply w_any;(first|refine RT.nil ?_|(apply w_g;(first|refine RT.gy rfl ?_|refine RT.gn rfl rfl ?_|refine RT.gcY rfl rfl rfl (by first|assumption|omega) ?_|refine RT.gcN rfl rfl rfl (by first|assumption|omega) ?_))|refine RT.mvA ?_|refine RT.asA ?_|refine RT.ldA ?_|refine RT.faA ?_|refine RT.callM rfl (m_within _ _ _) rfl rfl ?_|refine RT.pkA ?_|refine RT.nwA ?_))|(apply v_any;(first|refine VT.seq rfl ?_|refine VT.reg rfl ?_|refine VT.ret rfl ?_))|(with_reducible refine d_kEr ?_;refine kEr rfl ?_)))
    rfl
  ·rw[decide_eq_false q1,Bool.false_and]
   repeat (any_goals (first|(apply w_any;(first|refine RT.nil ?_|(apply w_g;(first|refine RT.gy rfl ?_|refine RT.gn rfl rfl ?_|refine RT.gcY rfl rfl rfl (by first|assumption|omega) ?_|refine RT.gcN rfl rfl rfl (by first|assumption|omega) ?_))|refine RT.mvA ?_|refine RT.asA ?_|refine RT.ldA ?_|refine RT.faA ?_|refine RT.callM rfl (m_within _ _ _) rfl rfl ?_|refine RT.pkA ?_|refine RT.nwA ?_))|(apply v_any;(first|refine VT.seq rfl ?_|refine VT.reg rfl ?_|refine VT.ret rfl ?_))|(with_reducible refine d_kEr ?_;refine kEr rfl ?_)))
   rfl
 ·rw[decide_eq_false q0,Bool.false_and]
  repeat (any_goals (first|(apply w_any;(first|refine RT.nil ?_|(apply w_g;(first|refine RT.gn rfl rfl ?_|refine RT.gcN rfl rfl rfl (by first|assumption|omega) ?_))|refine RT.mvA ?_|refine RT.asA ?_|refine RT.ldA ?_|refine RT.faA ?_|refine RT.callM rfl (m_within _ _ _) rfl rfl ?_|refine RT.pkA ?_|refine RT.nwA ?_))|(apply v_any;(first|refine VT.seq rfl ?_|refine VT.reg rfl ?_|refine VT.ret rfl ?_))|(with_reducible refine d_kEr ?_;refine kEr rfl ?_)))
  rfl
theorem m_lineNo (x y:Line):Maps Tryz.prog 94 ([.agg (eLine y)]++[.rp (eLine x)]) (wB (decide (y.ID=x.ID))):=by
 refine Maps.vt pok Tryz.f94 (n:=9) (rs:=[.tmp 3]) rfl rfl rfl rfl rfl rfl fun g=>?_
 repeat (any_goals (first|(apply w_any;(first|refine RT.nil ?_|refine RT.asA ?_|refine RT.ldA ?_|refine RT.faA ?_|refine RT.bnA ?_|refine RT.nwA ?_))|(apply v_any;(first|refine VT.seq rfl ?_|refine VT.reg rfl ?_|refine VT.ret rfl ?_))|(with_reducible refine d_kEr ?_;refine kEr rfl ?_)))
 rfl
theorem m_CheckLines (l:List Line)(hl:l.length≤4611686018427387904):Maps Tryz.prog 39 [.sl (l.map eLine)] (wI (CheckLinesS l)):=by
 refine Maps.vt pok Tryz.f39 (n:=24) (rs:=[.tmp 2]) rfl rfl rfl rfl rfl rfl fun g=>?_
 unfold CheckLinesS
 by_cases h4:60 < l.length
 ·rw[if_pos h4]
  repeat (any_goals (first|(apply w_any;(first|refine RT.nil ?_|refine RT.mvA ?_|refine RT.asA ?_|refine RT.v (f_gtrT rfl rfl (by omega)) ?_|refine RT.clA ?_))|(apply v_any;(first|refine VT.seq rfl ?_|refine VT.reg rfl ?_|refine VT.condT rfl rfl ?_|refine VT.ret rfl ?_))|with_reducible (refine kSr ?_)|(with_reducible refine d_kEr ?_;refine kEr rfl ?_)))
  rfl
 ·rw[if_neg h4]
  repeat (any_goals (first|(apply w_any;(first|refine RT.nil ?_|refine RT.mvA ?_|refine RT.asA ?_|refine RT.v (f_gtrF rfl rfl (by omega)) ?_|refine RT.clA ?_))|(apply v_any;(first|refine VT.seq rfl ?_|refine VT.reg rfl ?_|refine VT.condF rfl rfl ?_|refine VT.block rfl ?_|refine VT.skip rfl ?_))))
  refine VT.loop (fun j a H g'=>∃k:Nat,j=l.length-k∧k≤l.length∧clS [] l=clS (l.take k) (l.drop k)∧a=[(0,.sl (l.map eLine)),(8,.sl (l.map eLine)),(9,wI l.length),(10,wI k)]∧H=[]∧g'=g) rfl
   ⟨_,_,_,⟨0,rfl,Nat.zero_le _,rfl,rfl,rfl,rfl⟩,fgA⟩ ?_
  rintro j a H g' ⟨k,rfl,hkl,hn,rfl,rfl,rfl⟩
  by_cases hlt:k < l.length
  ·rw[List.drop_eq_getElem_cons hlt,clS] at hn
   rw[hn]
   have ha:=m_valid l[k]
   have hc2:=m_has_Line (p:=fun y=>decide (y.ID=l[k].ID)) (F:=94) (cs:=[.rp (eLine l[k])]) (l:=l.take k) (by simp;omega) rfl fun y _=>m_lineNo l[k] y
   change Maps _ _ _ (wB (idIn (l.take k) l[k].ID)) at hc2
   cases q3:lineV l[k] with
   |true=>
    rw[if_pos rfl]
    rw[q3] at ha
    cases q4:idIn (l.take k) l[k].ID with
    |true=>
     rw[if_pos rfl]
     rw[q4] at hc2
     repeat (any_goals (first|(apply w_any;(first|refine RT.nil ?_|refine RT.mvA ?_|refine RT.asA ?_|refine RT.ldA ?_|refine RT.bnA ?_|(apply w_cl;(first|refine RT.callM rfl (ha) rfl rfl ?_|refine RT.callM rfl (hc2) rfl rfl ?_))|refine RT.ixA ?_|refine RT.unA ?_|refine RT.stA ?_|refine RT.nwA ?_|refine RT.msA ?_))|(apply v_any;(first|refine VT.seq rfl ?_|refine VT.reg rfl ?_|refine VT.condT rfl rfl ?_|refine VT.condF rfl rfl ?_|refine VT.block rfl ?_|refine VT.skip rfl ?_|refine VT.ret rfl ?_|refine VT.condY rfl rfl (by first|assumption|omega) ?_))|(with_reducible first|refine kSr ?_|refine kBr ?_|refine kLr ?_)|(with_reducible refine d_kEr ?_;refine kEr rfl ?_)))
     rfl
    |false=>
     rw[if_neg (by simp)]
     rw[q4] at hc2
     repeat (any_goals (first|(apply w_any;(first|refine RT.nil ?_|refine RT.mvA ?_|refine RT.asA ?_|refine RT.ldA ?_|refine RT.bnA ?_|(apply w_cl;(first|refine RT.callM rfl (ha) rfl rfl ?_|refine RT.callM rfl (hc2) rfl rfl ?_))|refine RT.ixA ?_|refine RT.unA ?_|refine RT.stA ?_|refine RT.nwA ?_|refine RT.msA ?_))|(apply v_any;(first|refine VT.seq rfl ?_|refine VT.reg rfl ?_|refine VT.condF rfl rfl ?_|refine VT.block rfl ?_|refine VT.skip rfl ?_|refine VT.condY rfl rfl (by first|assumption|omega) ?_))|with_reducible (refine kLn ?_)))
     exact⟨l.length-(k+1),by omega,_,_,⟨k+1,rfl,hlt,by rw[List.take_succ_eq_append_getElem hlt],rfl,rfl,rfl⟩,fgA⟩
   |false=>
    rw[if_neg (by simp)]
    rw[q3] at ha
    repeat (any_goals (first|(apply w_any;(first|refine RT.nil ?_|refine RT.mvA ?_|refine RT.asA ?_|refine RT.ldA ?_|refine RT.bnA ?_|refine RT.callM rfl (ha) rfl rfl ?_|refine RT.ixA ?_|refine RT.unA ?_|refine RT.stA ?_|refine RT.nwA ?_))|(apply v_any;(first|refine VT.seq rfl ?_|refine VT.reg rfl ?_|refine VT.condT rfl rfl ?_|refine VT.block rfl ?_|refine VT.skip rfl ?_|refine VT.ret rfl ?_|refine VT.condY rfl rfl (by first|assumption|omega) ?_))|(with_reducible first|refine kSr ?_|refine kBr ?_|refine kLr ?_)|(with_reducible refine d_kEr ?_;refine kEr rfl ?_)))
    rfl
  ·rw[hn,List.drop_eq_nil_of_le (by omega),clS]
   repeat (any_goals (first|(apply w_any;(first|refine RT.nil ?_|refine RT.asA ?_|refine RT.bnA ?_))|(apply v_any;(first|refine VT.seq rfl ?_|refine VT.reg rfl ?_|refine VT.exit rfl ?_|refine VT.ret rfl ?_|refine VT.condN rfl rfl (by first|assumption|omega) ?_))|(with_reducible refine d_kEr ?_;refine kEr rfl ?_)))
   rfl
def linesS (l:List Line):Bool:=decide (l.length≤8∨60 < l.length∧l.length≤70)
theorem m_lines (l:List Line)(hl:l.length≤4611686018427387904):Maps Tryz.prog 33 [.sl (l.map eLine)] (wB (linesS l)):=by
 refine Maps.vt pok Tryz.f33 (n:=16) (rs:=[.tmp 2]) rfl rfl rfl rfl rfl rfl fun g=>?_
 unfold linesS
 by_cases h1:l.length≤8
 ·rw[decide_eq_true (.inl h1)]
  repeat (any_goals (first|(apply w_any;(first|refine RT.nil ?_|(apply w_g;(first|refine RT.gn rfl rfl ?_|refine RT.gu rfl ?_|refine RT.gcY rfl rfl rfl (by first|assumption|omega) ?_))|refine RT.mvA ?_|refine RT.asA ?_|refine RT.bnA ?_|refine RT.clA ?_|refine RT.pkA ?_))|(apply v_any;(first|refine VT.seq rfl ?_|refine VT.reg rfl ?_|refine VT.ret rfl ?_))|(with_reducible refine d_kEr ?_;refine kEr rfl ?_)))
  rfl
 ·by_cases h2:60 < l.length
  ·by_cases h3:l.length≤70
   ·rw[decide_eq_true (.inr ⟨h2,h3⟩)]
    repeat (any_goals (first|(apply w_any;(first|refine RT.nil ?_|refine RT.gy rfl ?_|refine RT.mvA ?_|refine RT.asA ?_|(apply w_bn;(first|refine RT.v (f_leqT rfl rfl (by omega)) ?_|refine RT.v (f_leqF rfl rfl (by omega)) ?_|refine RT.v (f_gtrT rfl rfl (by omega)) ?_))|refine RT.clA ?_|refine RT.pkA ?_))|(apply v_any;(first|refine VT.seq rfl ?_|refine VT.reg rfl ?_|refine VT.ret rfl ?_))|(with_reducible refine d_kEr ?_;refine kEr rfl ?_)))
    rfl
   ·rw[decide_eq_false (by omega)]
    repeat (any_goals (first|(apply w_any;(first|refine RT.nil ?_|refine RT.gy rfl ?_|refine RT.mvA ?_|refine RT.asA ?_|(apply w_bn;(first|refine RT.v (f_leqF rfl rfl (by omega)) ?_|refine RT.v (f_gtrT rfl rfl (by omega)) ?_))|refine RT.clA ?_|refine RT.pkA ?_))|(apply v_any;(first|refine VT.seq rfl ?_|refine VT.reg rfl ?_|refine VT.ret rfl ?_))|(with_reducible refine d_kEr ?_;refine kEr rfl ?_)))
    rfl
  ·rw[decide_eq_false (by omega)]
   repeat (any_goals (first|(apply w_any;(first|refine RT.nil ?_|(apply w_g;(first|refine RT.gy rfl ?_|refine RT.gn rfl rfl ?_))|refine RT.mvA ?_|refine RT.asA ?_|(apply w_bn;(first|refine RT.v (f_leqF rfl rfl (by omega)) ?_|refine RT.v (f_gtrF rfl rfl (by omega)) ?_))|refine RT.clA ?_|refine RT.pkA ?_))|(apply v_any;(first|refine VT.seq rfl ?_|refine VT.reg rfl ?_|refine VT.ret rfl ?_))|(with_reducible refine d_kEr ?_;refine kEr rfl ?_)))
   rfl
end Go.DL

/- Sorting a few lines. -/
set_option maxRecDepth 100000
set_option maxHeartbeats 16000000
namespace Go.DL
open Go.Proofs Go
def LLe (x y:Line):Prop:=x.Day < y.Day∨x.Day=y.Day∧x.ID≤y.ID
theorem LLe.trans {x y z:Line}(h1:LLe x y)(h2:LLe y z):LLe x z:=by unfold LLe at *;omega
def LSrt (l:List Line):Prop:=l.Pairwise LLe
theorem LSrt.ins {L:List Line}{v:Line}{j:Nat}(hs:LSrt L)(h1:∀y,y∈L.take j→LLe y v)(h2:∀y,y∈L.drop j→LLe v y):LSrt (L.take j++v::L.drop j):=by
 have h:LSrt (L.take j++L.drop j):=by rw[List.take_append_drop];exact hs
 unfold LSrt at h ⊢
 rw[List.pairwise_append] at h ⊢
 obtain⟨a,b,c⟩:=h
 refine⟨a,List.pairwise_cons.2 ⟨h2,b⟩,fun x hx y hy=>?_⟩
 rcases List.mem_cons.1 hy with rfl|hy
 ·exact h1 x hx
 ·exact c x hx y hy
end Go.DL

/- Sorting of lines and of leaves, at whatever length. -/
set_option maxRecDepth 100000
set_option maxHeartbeats 16000000
namespace Go.Proofs
open Go.Shelf
shelf_lay_g SlLaysF0.n6 Slsf 6 at Tryz 147 as Tryz.sortLn
shelf_lay_g SlLaysF0.n6 Slsf 6 at Tryz 155 as Tryz.sortLf
end Go.Proofs
namespace Go.DL
open Go.Proofs Go
theorem m_cmpLeaf (a b:Int)(u v:Value)(hu:u.oneCell'=true)(hv:v.oneCell'=true)(ha:0≤a∧a≤1000)(hb:0≤b∧b≤1000):Maps Tryz.prog 156 [.agg [wI a,.v u],.agg [wI b,.v v]] (wI (a-b)):=by
 refine Maps.vt pok Tryz.f156 (n:=10) (rs:=[.tmp 4]) rfl rfl rfl rfl rfl rfl fun g=>?_
 repeat (any_goals (first|(apply w_any;(first|refine RT.nil ?_|refine RT.asA ?_|refine RT.ldA ?_|refine RT.faA ?_|refine RT.bnA ?_|(apply w_bx;(first|refine RT.new (s:=0) rfl (f_boxA (cs:=[wI a,.v u]) rfl (by simp[isCell,hu];rfl) rfl) rfl ?_|refine RT.new (s:=1) rfl (f_boxA (cs:=[wI b,.v v]) rfl (by simp[isCell,hv];rfl) rfl) rfl ?_))))|(apply v_any;(first|refine VT.seq rfl ?_|refine VT.reg rfl ?_|refine VT.ret rfl ?_))|(with_reducible refine d_kEr ?_;refine kEr rfl ?_)))
 rfl
abbrev fnLf:D:=.fn (.func 156) [] []
theorem c_sortLf {H:List Blk}{b cap:Nat}{l:List (Nat × Leaf)}(hb:H[b]? = some (.live 2 (l.map eOL)))(hl:l.length≤1000000)(hn:∀q,q∈l→0≤q.2.Number∧q.2.Number≤1000):
  CallSp Tryz.prog 155 [.ms b 0 l.length cap,fnLf] H fun d H'=>d=.tup []∧∃y:List (Nat × Leaf),y.Pairwise (fun p q=>p.2.Number≤q.2.Number)∧y.Perm l∧H'=H.set b (.live 2 (y.map eOL)):=by
 let T:={ q:Nat × Leaf // 0≤q.2.Number∧q.2.Number≤1000 }
 let l':List T:=l.attach.map fun q=>⟨q.1,hn q.1 q.2⟩
 have e1:l'.map (fun q=>q.1)=l:=by
  simp only[l',List.map_map]
  exact List.attach_map_subtype_val l
 have hk2:∀(a b:Int) (us vs:List Value),(0≤a∧a≤1000)→(0≤b∧b≤1000)→CE 2 [wI a,.any] us→CE 2 [wI b,.any] vs→Maps Tryz.prog 156 [.agg (us.map .v),.agg (vs.map .v)] (wI (a-b)):=fun a b us vs ha hb h1 h2=>by
  obtain⟨l1,o1,s1⟩:=h1
  obtain⟨l2,o2,s2⟩:=h2
  match us,l1,o1,s1,vs,l2,o2,s2 with
  |[u0,u1],_,o1,s1,[v0,v1],_,o2,s2=>
   have e1:=s1 0 _ _ rfl rfl
   have e2:=s2 0 _ _ rfl rfl
   rcases e1 with e1|e1
   ·cases e1
   rcases e2 with e2|e2
   ·cases e2
   cases e1;cases e2
   exact m_cmpLeaf a b u1 v1 (o1 _ (by simp)) (o2 _ (by simp)) ha hb
 have e2:∀y:List T,y.map (fun q=>eOL q.1)=(y.map (fun q=>q.1)).map eOL:=fun y=>by rw[List.map_map];rfl
 have hb':H[b]? = some (.live 2 (l'.map fun q=>eOL q.1)):=by rw[e2,e1];exact hb
 have hlen:l'.length=l.length:=by simp[l']
 have hO:Go.Sort.SWO (ltOf fun x y:T=>x.1.2.Number-y.1.2.Number):=
  ⟨fun x=>by simp only[ltOf,decide_eq_false_iff_not];omega,fun x y z h1 h2=>by simp only[ltOf,decide_eq_true_eq] at *;omega,fun x y z h1 h2=>by simp only[ltOf,decide_eq_false_iff_not] at *;omega⟩
 have h:=sortFunc_ok Tryz.sortLf (sz:=2) (cap:=cap) (T:=T) rfl rfl (fun q=>eOL q.1) (fun q=>[wI q.1.2.Number,.any]) (fun x y=>x.1.2.Number-y.1.2.Number) hO (g:=156) (fun x y us vs h1 h2=>hk2 x.1.2.Number y.1.2.Number us vs x.2 y.2 h1 h2) hb' (by omega) (fun _ _=>rfl) (fun _ _=>rfl) (fun x _ j d d' h1 h2=>by
  have:j < 2:=(List.getElem?_eq_some_iff.1 h1).1
  match j,this with
  |0,_=>cases h1;cases h2;exact .inr ⟨_,rfl,rfl⟩
  |1,_=>cases h2;exact .inl rfl)
 rw[hlen] at h
 refine CallSp.mono h ?_
 rintro d H' ⟨rfl,y,⟨hp,hs⟩,rfl⟩
 refine⟨rfl,y.map (fun q=>q.1),?_,?_,by rw[e2]⟩
 ·rw[List.pairwise_map];exact hs.imp fun {a b} h=>by omega
 ·have:=hp.map (fun q:T=>q.1);rwa [e1] at this
end Go.DL

/- How many copies have a leaf. -/
set_option maxRecDepth 100000
set_option maxHeartbeats 16000000
namespace Go.DL
open Go.Proofs Go
abbrev eLvs (l:List Leaf):List D:=[.sl (l.map eLeaf)]
theorem flat_le {α:Type}{cs:List (List α)}{m:Nat}(h:∀l,l∈cs→l.length≤m):cs.flatten.length≤cs.length*m:=by
 induction cs with
 |nil=>simp
 |cons a r ih=>
  have h1:=ih fun l hl=>h l (List.mem_cons_of_mem _ hl)
  have h2:=h a (List.mem_cons_self ..)
  rw[List.flatten_cons,List.length_append,List.length_cons,Nat.succ_mul];omega
end Go.DL

/- Digest. -/
set_option maxRecDepth 100000
set_option maxHeartbeats 16000000
namespace Go.DL
open Go.Proofs Go
theorem clS_iff:∀(seen l:List Line),clS seen l=0↔(∀x,x∈l→lineV x=true)∧l.Pairwise (fun x y=>¬x.ID=y.ID)∧∀x,x∈l→idIn seen x.ID=false
 |seen,[]=>by simp[clS]
 |seen,x::r=>by
  have ih:=clS_iff (seen++[x]) r
  rw[clS]
  by_cases h1:lineV x=true
  ·rw[if_pos h1]
   by_cases h2:idIn seen x.ID=true
   ·rw[if_pos h2]
    constructor
    ·intro h;exact absurd h (by decide)
    ·intro ⟨_,_,h⟩
     rw[h x (List.mem_cons_self ..)] at h2;cases h2
   ·rw[if_neg h2,ih]
    have e:∀y,idIn (seen++[x]) y=(idIn seen y||decide (x.ID=y)):=fun y=>by simp[idIn]
    constructor
    ·intro ⟨a,b,c⟩
     refine⟨List.forall_mem_cons.2 ⟨h1,a⟩,List.pairwise_cons.2 ⟨fun y hy=>?_,b⟩,List.forall_mem_cons.2 ⟨by simpa using h2,fun y hy=>?_⟩⟩
     ·have:=c y hy;rw[e,Bool.or_eq_false_iff] at this;simpa using this.2
     ·have:=c y hy;rw[e,Bool.or_eq_false_iff] at this;exact this.1
    ·intro ⟨a,b,c⟩
     rw[List.pairwise_cons] at b
     refine⟨fun y hy=>a y (List.mem_cons_of_mem _ hy),b.2,fun y hy=>?_⟩
     rw[e,c y (List.mem_cons_of_mem _ hy),Bool.false_or]
     exact decide_eq_false (b.1 y hy)
  ·rw[if_neg h1]
   constructor
   ·intro h;exact absurd h (by decide)
   ·intro ⟨a,_⟩;exact absurd (a x (List.mem_cons_self ..)) h1
def LinesOk (l:List Line):Prop:=l.length≤60∧(∀x,x∈l→lineV x=true)∧l.Pairwise (fun x y=>¬x.ID=y.ID)
theorem checkLines_iff (l:List Line):CheckLinesS l=0↔LinesOk l:=by
 unfold CheckLinesS LinesOk
 by_cases h:60 < l.length
 ·rw[if_pos h]
  exact⟨fun h=>absurd h (by decide),fun h=>by omega⟩
 ·rw[if_neg h,clS_iff]
  exact⟨fun⟨a,b,_⟩=>⟨by omega,a,b⟩,fun⟨_,a,b⟩=>⟨a,b,fun _ _=>rfl⟩⟩
theorem LinesOk.perm {l m:List Line}(h:LinesOk l)(hp:m.Perm l):LinesOk m:=
 ⟨by rw[hp.length_eq];exact h.1,fun x hx=>h.2.1 x (hp.mem_iff.1 hx),(hp.pairwise_iff (fun {x y} h e=>h e.symm)).2 h.2.2⟩
theorem LinesOk.ok {l:List Line}(h:LinesOk l):∀x,x∈l→lineOk x:=fun x hx=>by
 have:=h.2.1 x hx
 simp only[lineV,Bool.and_eq_true,decide_eq_true_eq] at this
 refine⟨?_,?_,?_,?_⟩<;>omega
theorem pair_eq {l:List Line}(h:l.Pairwise (fun x y=>¬x.ID=y.ID)){x y:Line}(hx:x∈l)(hy:y∈l)(e:x.ID=y.ID):x=y:=by
 induction l with
 |nil=>cases hx
 |cons z l ih=>
  obtain⟨h1,h2⟩:=List.pairwise_cons.1 h
  rcases List.mem_cons.1 hx with e1|hx'
  ·rcases List.mem_cons.1 hy with e2|hy'
   ·rw[e1,e2]
   ·exact absurd (by rw[←e1];exact e) (h1 _ hy')
  ·rcases List.mem_cons.1 hy with e2|hy'
   ·exact absurd (by rw[←e2];exact e.symm) (h1 _ hx')
   ·exact ih h2 hx' hy'
theorem LSrt.one {l a b:List Line}(h:LinesOk l)(ha:LSrt a)(hb:LSrt b)(pa:a.Perm l)(pb:b.Perm l):a=b:=
 (pa.trans pb.symm).eq_of_pairwise (fun x y hx hy h1 h2=>pair_eq h.2.2 (pa.mem_iff.1 hx) (pb.mem_iff.1 hy) (by unfold LLe at h1 h2;omega)) ha hb
theorem snapLn {lk:Nat→Option Blk}{b m cap k:Nat}{o:List Line}(h:lk b=some (.live 4 (o.map eLine)))(hm:m=o.length):snap lk (k+1) (.ms b 0 m cap)=.sl (o.map eLine):=by
 subst hm
 simp only[snap,h,Nat.zero_add,List.length_map,Nat.le_refl,if_true,List.drop_zero]
 rw[List.take_of_length_le (by simp),List.map_map]
 refine congrArg D.sl (List.map_congr_left fun x _=>?_)
 cases k<;>rfl
theorem wordsOf_W {x:Line}(h:lineV x=true):∀w,w∈wordsOf x→W w:=by
 simp only[lineV,Bool.and_eq_true,decide_eq_true_eq] at h
 intro w hw
 simp only[wordsOf,List.mem_cons,List.not_mem_nil,or_false] at hw
 rcases hw with rfl|rfl|rfl|rfl|rfl|rfl|rfl<;>(constructor<;>omega)
theorem words_W {l:List Line}(h:LinesOk l):∀w,w∈wordsS l→W w:=by
 intro w hw
 rcases List.mem_cons.1 hw with rfl|hw
 ·have:=h.1;constructor<;>omega
 ·obtain⟨x,hx,hw⟩:=List.mem_flatMap.1 hw
  exact wordsOf_W (h.2.1 x hx) w hw
theorem words_len1 {l:List Line}(h:l.length≤1000):(wordsS l).length≤7001:=by
 show ((l.length:Int)::l.flatMap wordsOf).length≤_
 rw[List.length_cons,words_len];omega
end Go.DL

/- Rows of words, each in a block of its own; the words of lines; data that are written. -/
set_option maxRecDepth 100000
set_option maxHeartbeats 16000000
namespace Go.DL
open Go.Proofs Go
abbrev eQ (q:Nat × List Int):List D:=[.ms q.1 0 q.2.length q.2.length]
structure RQ (H:List Blk)(b:Nat)(qs:List (Nat × List Int)):Prop where
 rows:H[b]? = some (.live 1 (qs.map eQ))
 row:∀q,q∈qs→H[q.1]? = some (.live 1 (q.2.map eI))∧q.1≠b
theorem RQ.push {H T:List Blk}{b p:Nat}{qs:List (Nat × List Int)}{row:List Int}(h:RQ H b qs)(hp:(H++T)[p]? = some (.live 1 (row.map eI)))(hpb:p≠b):
  RQ ((H++T).set b .dead++[.live 1 ((qs++[(p,row)]).map eQ)]) (H++T).length (qs++[(p,row)]):=by
 have hl:((H++T).set b Blk.dead).length=(H++T).length:=by simp
 refine⟨by rw[List.getElem?_append_right (by rw[hl];exact Nat.le_refl _),hl,Nat.sub_self];rfl,fun q hq=>?_⟩
 have key:(H++T)[q.1]? = some (.live 1 (q.2.map eI))∧q.1≠b:=by
  rcases List.mem_append.1 hq with h1|h1
  ·exact⟨blk_app T (h.row q h1).1,(h.row q h1).2⟩
  ·rw[List.mem_singleton.1 h1];exact⟨hp,hpb⟩
 have hlt:=blk_lt key.1
 exact⟨blk_app _ (blk_ne key.1 (Ne.symm key.2)),by omega⟩
theorem RQ.get {H:List Blk}{b:Nat}{qs:List (Nat × List Int)}(h:RQ H b qs){q:Nat × List Int}(hq:q∈qs)(lv:Nat):snap (fun b=>H[b]?) (lv+1) (.ms q.1 0 q.2.length q.2.length)=.sl (q.2.map eI):=
 snapW (k:=lv) (h.row q hq).1 rfl
theorem RQ.snap {H:List Blk}{b m c:Nat}{qs:List (Nat × List Int)}(h:RQ H b qs)(hm:m=qs.length)(lv:Nat):snap (fun b=>H[b]?) (lv+2) (.ms b 0 m c)=.sl ((qs.map (·.2)).map eRow):=by
 subst hm
 simp only[DL.snap,h.rows,Nat.zero_add,List.length_map,Nat.le_refl,if_true,List.drop_zero]
 rw[List.take_of_length_le (by simp),List.map_map,List.map_map]
 refine congrArg D.sl (List.map_congr_left fun q hq=>?_)
 simp only[Function.comp,List.map_cons,List.map_nil,eRow]
 rw[h.get hq]
theorem RQ.snapR {H:List Blk}{b m c:Nat}{qs:List (Nat × List Int)}(h:RQ H b qs)(hm:m=qs.length)(lv:Nat):snapR (fun b=>H[b]?) (lv+3) (.ms b 0 m c)=.fl ((qs.map (·.2)).map eRow):=by
 subst hm
 simp only[DL.snapR,h.rows,Nat.zero_add,List.length_map,Nat.le_refl,if_true,List.drop_zero]
 rw[if_pos,List.take_of_length_le (by simp),List.map_map,List.map_map]
 ·refine congrArg D.fl (List.map_congr_left fun q hq=>?_)
  simp only[Function.comp,List.map_cons,List.map_nil,eRow]
  rw[h.get hq]
 ·refine List.all_eq_true.2 fun e he=>?_
  obtain⟨q,hq,rfl⟩:=List.mem_map.1 he
  rw[List.all_cons,List.all_nil,Bool.and_true]
  simp only[frK,(h.row q hq).1]
  exact eI_all _ _ fun x=>rfl
end Go.DL

/- Lines as data. -/
set_option maxRecDepth 100000
set_option maxHeartbeats 16000000
namespace Go.DL
open Go.Proofs Go
def padS (n:Nat)(w:List Int):List Int:=w++List.replicate (n-w.length) 0
theorem padS_len {n:Nat}{w:List Int}(h:w.length≤n):(padS n w).length=n:=by simp[padS];omega
def rowsOf (D W:Nat)(w:List Int):List (List Int):=(List.range D).map fun k=>(w.take ((k+1)*W)).drop (k*W)
theorem rowsOf_succ (k W:Nat)(w:List Int):rowsOf (k+1) W w=rowsOf k W w++[(w.take ((k+1)*W)).drop (k*W)]:=by simp[rowsOf,List.range_succ]
theorem row_len {D k W:Nat}{w:List Int}(hw:w.length=D*W)(hk:k < D):((w.take ((k+1)*W)).drop (k*W)).length=W:=by
 have h1:(k+1)*W≤D*W:=Nat.mul_le_mul_right _ hk
 rw[List.length_drop,List.length_take,hw,Nat.min_eq_left h1,Nat.succ_mul];omega
def writeS (s:Shape)(l:List Line):Option (List (List Int)):=
 if (wordsS l).length≤s.Data.toNat*s.Width.toNat then some (rowsOf s.Data.toNat s.Width.toNat (padS (s.Data.toNat*s.Width.toNat) (wordsS l))) else none
def writeD (r:Option (List (List Int))):D:=match r with
 |some r=>.tup [.fl (r.map eRow),wB true]
 |none=>.tup [.fl [],wB false]
theorem m_write (s:Shape)(h:CkOk s)(l:List Line)(hl:l.length≤60)(hok:∀x,x∈l→lineOk x):Maps Tryz.prog 87 [dSh s,.sl (l.map eLine)] (writeD (writeS s l)):=by
 refine Maps.vt pok Tryz.f87 (n:=51) (rs:=[.tmp 4,.tmp 5]) rfl rfl rfl rfl rfl rfl fun g=>?_
 obtain⟨sd,sc,sw⟩:=s
 obtain⟨⟨h1,h2⟩,h3,h4,h5⟩:=h
 obtain⟨D,rfl⟩:∃D:Nat,sd=D:=Int.eq_ofNat_of_zero_le (by dsimp only at h1;omega)
 obtain⟨W,rfl⟩:∃W:Nat,sw=W:=Int.eq_ofNat_of_zero_le (by dsimp only at h4;omega)
 dsimp only at h1 h2 h4 h5
 have hDW:D*W≤640:=Nat.mul_le_mul (show D≤20 by omega) (show W≤32 by omega)
 have hm:(D:Int)*(W:Int)=((D*W:Nat):Int):=(Int.natCast_mul D W).symm
 have hw:=c_wordsH (H:=[.live 3 [eShape ⟨D,sc,W⟩]]) (x:=.sl (l.map eLine)) (l:=l) rfl (by omega) hok
 have hw7:=words_len1 (l:=l) (by omega)
 unfold writeS
 dsimp only
 rw[Int.toNat_natCast,Int.toNat_natCast]
 generalize wordsS l=w at hw hw7 ⊢
 by_cases hfit:w.length≤D*W
 ·rw[if_pos hfit]
  have hpad:w++List.replicate ((D:Int)*(W:Int)-(w.length:Int)).toNat 0=padS (D*W) w:=by
   rw[hm,show (((D*W:Nat):Int)-(w.length:Int)).toNat=D*W-w.length by omega];rfl
  have hpl:=padS_len hfit
  repeat (any_goals (first|(apply w_any;(first|refine RT.nil ?_|refine RT.mvA ?_|refine RT.asA ?_|refine RT.ldA ?_|refine RT.faA ?_|(apply w_bn;(first|refine RT.v (f_mul (a:=(D:Int)) (b:=(W:Int)) rfl rfl (by omega) (by omega)) ?_|refine RT.v (f_gtrF rfl rfl (by omega)) ?_|refine RT.bnA ?_))|(apply w_cl;(first|(refine d_call ?_;refine RT.callS rfl hw rfl rfl rfl ?_)|refine RT.ap nrX (f_appZ (o:=w) rfl rfl rfl rfl (by omega) rfl rfl rfl rfl (by omega)) nrX ?_|refine RT.clA ?_))|refine RT.nwA ?_))|(apply v_any;(first|refine VT.seq rfl ?_|refine VT.reg rfl ?_|refine VT.condF rfl rfl ?_|refine VT.block rfl ?_|refine VT.skip rfl ?_))))
  rw[hpad]
  generalize padS (D*W) w=pw at hpl ⊢
  refine VT.phantom (i:=7) (s:=4) 1 rfl rfl rfl ?_
  refine VT.loop (fun j a H g'=>∃(k b m:Nat) (qs:List (Nat × List Int)),j=D-k∧k≤D∧H[0]? = some (.live 3 [[wI D,wI sc,wI W]])∧H[3]? = some (.live 1 (pw.map eI))∧RQ H b qs∧4≤b∧m=qs.length∧m=k∧qs.map (·.2)=rowsOf k W pw∧a=[(2,.mp 0 0 0),(6,.ms 3 0 pw.length pw.length),(7,.ms b 0 m m),(30,wI D),(31,wI k)]∧g'=g) rfl
   ⟨_,_,_,⟨0,4,0,[],rfl,Nat.zero_le _,rfl,rfl,⟨rfl,fun _ h=>by cases h⟩,by omega,rfl,rfl,rfl,rfl,rfl⟩,Wk.keep kpX⟩ ?_
  rintro j a H g' ⟨k,b,m,qs,rfl,hk,hb0,hb3,hq,hb4,hm1,hmk,hqs,rfl,rfl⟩
  have hH3:=hg_lt hb3
  have hHb:=hg_lt hq.rows
  by_cases hlt:k < D
  ·have hkW:k*W≤D*W:=Nat.mul_le_mul_right _ (by omega)
   have hkW1:(k+1)*W≤D*W:=Nat.mul_le_mul_right _ hlt
   have hsub:(k+1)*W-k*W=W:=by rw[Nat.succ_mul];omega
   have e1:(k:Int)*(W:Int)=((k*W:Nat):Int):=(Int.natCast_mul k W).symm
   have e2:((k:Int)+1)*(W:Int)=(((k+1)*W:Nat):Int):=by rw[Int.natCast_mul];rfl
   have hrl:=row_len hpl hlt
   generalize hrow:(pw.take ((k+1)*W)).drop (k*W)=row at hrl
   have hel:elemsD H (.ms 3 (k*W) ((k+1)*W-k*W) (pw.length-k*W))=some (row.map eI):=by
    simp only[elemsD,hb3]
    rw[if_pos (by rw[List.length_map];omega),show k*W+((k+1)*W-k*W)=(k+1)*W by omega,←List.map_take,←List.map_drop,hrow]
   have hcl:=c_clone (H:=H) (x:=.ms 3 (k*W) ((k+1)*W-k*W) (pw.length-k*W)) (o:=row) (.inr (.inr (.inr ⟨_,_,_,_,rfl⟩))) hel (by omega)
   repeat (any_goals (first|(apply w_any;(first|refine RT.nil ?_|refine RT.mvA ?_|refine RT.asA ?_|refine RT.v (f_ldO rfl hb0 rfl rfl rfl) ?_|refine RT.faA ?_|(apply w_bn;(first|refine RT.v (f_mul (a:=(k:Int)) (b:=(W:Int)) rfl rfl (by omega) (by omega)) ?_|refine RT.v (f_mul (a:=(k:Int)+1) (b:=(W:Int)) rfl rfl (by omega) (by omega)) ?_|refine RT.bnA ?_))|(apply w_cl;(first|(refine d_call ?_;refine RT.callS rfl hcl rfl (d2:=.ms (H.length+1) 0 row.length row.length) rfl (H2:=H++[.dead,.live 1 (row.map eI)]) rfl ?_)|refine RT.ap (s:=H.length+3) (by simp) (f_appT (f:=eQ) (o:=qs) (v:=[(H.length+1,row)]) (mm:=m+1) (by':=24) rfl rfl (hg_app _ hq.rows) (by rw[List.take_of_length_le (by simp;omega)]) (by simp;omega) (hg_at (t:=2) rfl rfl) hm1 rfl (by simp;omega) rfl (by decide) rfl rfl (fun _=>⟨rfl,rfl⟩) (by simp;omega) (by simp;omega)) rfl ?_))|refine RT.new (s:=H.length+2) (by simp) (f_bslC1 (d:=.ms (H.length+1) 0 row.length row.length) (z:=.nil) rfl rfl rfl rfl rfl) (H':=H++[.dead,.live 1 (row.map eI),.live 1 [[.ms (H.length+1) 0 row.length row.length]]]) (by simp) ?_|refine RT.v (f_slB (lo:=k*W) (hi:=(k+1)*W) rfl rfl rfl e1 e2 (by omega) (by omega) rfl hb3) ?_))|(apply v_any;(first|refine VT.seq rfl ?_|refine VT.reg rfl ?_|refine VT.block rfl ?_|refine VT.skip rfl ?_|refine VT.condY rfl rfl (by first|assumption|omega) ?_))|with_reducible (refine kLn ?_)))
   have hp:=hq.push (T:=[.dead,.live 1 (row.map eI),.live 1 [[.ms (H.length+1) 0 row.length row.length]]]) (p:=H.length+1) (row:=row) (hg_at (t:=1) rfl rfl) (by omega)
   rw[List.length_append] at hp
   exact⟨D-(k+1),by omega,_,_,⟨k+1,H.length+3,m+1,qs++[(H.length+1,row)],rfl,hlt,hg_app _ (hg_ne (hg_app _ hb0) (by omega)),hg_app _ (hg_ne (hg_app _ hb3) (by omega)),hp,by omega,by simp;omega,by omega,by rw[List.map_append,hqs,rowsOf_succ,hrow];rfl,rfl,rfl⟩,Wk.keep kpX⟩
  ·obtain rfl:k=D:=by omega
   repeat (any_goals (first|(apply w_any;(first|refine RT.nil ?_|refine RT.mvA ?_|refine RT.asA ?_|refine RT.bnA ?_))|(apply v_any;(first|refine VT.seq rfl ?_|refine VT.reg rfl ?_|refine VT.exit rfl ?_|refine VT.ret rfl ?_|refine VT.condN rfl rfl (by first|assumption|omega) ?_))|(with_reducible refine d_kEr ?_;refine kEr rfl ?_)))
   exact congrArg (fun x=>DL.D.tup [x,wB true]) ((hq.snapR hm1 1).trans (by rw[hqs]))
 ·rw[if_neg hfit]
  repeat (any_goals (first|(apply w_any;(first|refine RT.nil ?_|refine RT.mvA ?_|refine RT.asA ?_|refine RT.ldA ?_|refine RT.faA ?_|(apply w_bn;(first|refine RT.v (f_mul (a:=(D:Int)) (b:=(W:Int)) rfl rfl (by omega) (by omega)) ?_|refine RT.v (f_gtrT rfl rfl (by omega)) ?_))|(apply w_cl;(first|(refine d_call ?_;refine RT.callS rfl hw rfl rfl rfl ?_)|refine RT.clA ?_))|refine RT.nwA ?_))|(apply v_any;(first|refine VT.seq rfl ?_|refine VT.reg rfl ?_|refine VT.condT rfl rfl ?_|refine VT.ret rfl ?_))|with_reducible (refine kSr ?_)|(with_reducible refine d_kEr ?_;refine kEr rfl ?_)))
  rfl
end Go.DL

/- Write of both programs. -/
set_option maxRecDepth 100000
set_option maxHeartbeats 16000000
namespace Go.DL
open Go.Proofs Go
def WriteS (s:Shape)(l:List Line):List (List Int) × Int:=
 if CheckS s=0 then (if CheckLinesS l=0 then (match writeS s l with|some r=>(r,0)|none=>([],2)) else ([],CheckLinesS l)) else ([],1)
theorem m_Write (s:Shape)(l:List Line)(hl:l.length≤4611686018427387904):Maps Tryz.prog 34 [dSh s,.sl (l.map eLine)] (.tup [.fl ((WriteS s l).1.map eRow),wI (WriteS s l).2]):=by
 refine Maps.vt pok Tryz.f34 (n:=29) (rs:=[.tmp 4,.tmp 5]) rfl rfl rfl rfl rfl rfl fun g=>?_
 have hk:=m_Check s
 have hc:=m_CheckLines l hl
 unfold WriteS
 rcases CheckS_cases s with⟨e,h⟩|⟨e,h⟩
 ·rw[e] at hk ⊢
  rw[if_pos rfl]
  by_cases h2:CheckLinesS l=0
  ·rw[h2] at hc ⊢
   rw[if_pos rfl]
   have hok:=(checkLines_iff l).1 h2
   have hw:=m_write s h l hok.1 hok.ok
   cases q:writeS s l with
   |some r=>
    rw[q] at hw
    repeat (any_goals (first|(apply w_any;(first|refine RT.nil ?_|refine RT.mvA ?_|refine RT.asA ?_|refine RT.ldA ?_|refine RT.bnA ?_|(apply w_cl;(first|refine RT.callM rfl (hk) rfl rfl ?_|refine RT.callM rfl (hc) rfl rfl ?_|refine RT.callM rfl ((show Maps _ _ _ (D.tup [.fl (r.map eRow),wB true]) from hw)) rfl rfl ?_))|refine RT.exA ?_|refine RT.unA ?_|refine RT.nwA ?_))|(apply v_any;(first|refine VT.seq rfl ?_|refine VT.reg rfl ?_|refine VT.condF rfl rfl ?_|refine VT.skip rfl ?_|refine VT.ret rfl ?_))|(with_reducible refine d_kEr ?_;refine kEr rfl ?_)))
    rfl
   |none=>
    rw[q] at hw
    repeat (any_goals (first|(apply w_any;(first|refine RT.nil ?_|refine RT.mvA ?_|refine RT.asA ?_|refine RT.ldA ?_|refine RT.bnA ?_|(apply w_cl;(first|refine RT.callM rfl (hk) rfl rfl ?_|refine RT.callM rfl (hc) rfl rfl ?_|refine RT.callM rfl ((show Maps _ _ _ (D.tup [.fl [],wB false]) from hw)) rfl rfl ?_))|refine RT.exA ?_|refine RT.unA ?_|refine RT.nwA ?_))|(apply v_any;(first|refine VT.seq rfl ?_|refine VT.reg rfl ?_|refine VT.condT rfl rfl ?_|refine VT.condF rfl rfl ?_|refine VT.skip rfl ?_|refine VT.ret rfl ?_))|with_reducible (refine kSr ?_)|(with_reducible refine d_kEr ?_;refine kEr rfl ?_)))
    rfl
  ·rw[if_neg h2]
   repeat (any_goals (first|(apply w_any;(first|refine RT.nil ?_|refine RT.mvA ?_|refine RT.asA ?_|refine RT.ldA ?_|refine RT.bnA ?_|(apply w_cl;(first|refine RT.callM rfl (hk) rfl rfl ?_|refine RT.callM rfl (hc) rfl rfl ?_))|refine RT.nwA ?_))|(apply v_any;(first|refine VT.seq rfl ?_|refine VT.reg rfl ?_|refine VT.condF rfl rfl ?_|refine VT.skip rfl ?_|refine VT.ret rfl ?_|refine VT.condY rfl rfl (by first|assumption|omega) ?_))|with_reducible (refine kSr ?_)|(with_reducible refine d_kEr ?_;refine kEr rfl ?_)))
   rfl
 ·rw[e] at hk ⊢
  rw[if_neg (by decide)]
  repeat (any_goals (first|(apply w_any;(first|refine RT.nil ?_|refine RT.mvA ?_|refine RT.asA ?_|refine RT.ldA ?_|refine RT.bnA ?_|refine RT.callM rfl (hk) rfl rfl ?_|refine RT.nwA ?_))|(apply v_any;(first|refine VT.seq rfl ?_|refine VT.reg rfl ?_|refine VT.condT rfl rfl ?_|refine VT.ret rfl ?_))|with_reducible (refine kSr ?_)|(with_reducible refine d_kEr ?_;refine kEr rfl ?_)))
  rfl
theorem RQ.other {H:List Blk}{b p:Nat}{qs:List (Nat × List Int)}(h:RQ H b qs)(hb:p≠b)(hp:∀q,q∈qs→p≠q.1)(x:Blk):RQ (H.set p x) b qs:=
 ⟨hg_ne h.rows hb,fun q hq=>⟨hg_ne (h.row q hq).1 (hp q hq),(h.row q hq).2⟩⟩
theorem RQ.app {H:List Blk}{b:Nat}{qs:List (Nat × List Int)}(h:RQ H b qs)(T:List Blk):RQ (H++T) b qs:=
 ⟨hg_app T h.rows,fun q hq=>⟨hg_app T (h.row q hq).1,(h.row q hq).2⟩⟩
end Go.DL

/- Join of the reference. -/
set_option maxRecDepth 100000
set_option maxHeartbeats 16000000
namespace Go.DL
open Go.Proofs Go
theorem ckl_ok2 {s:Shape}:∀{l seen:List Leaf},cklS s seen l=0→(∀x,x∈l→leafOk s x=true∧numIn seen x.Number=false)∧l.Pairwise (fun x y=>x.Number≠y.Number)
 |[],_,_=>⟨fun x h=>(by cases h),List.Pairwise.nil⟩
 |x::r,seen,h=>by
  rw[cklS] at h
  split at h
  ·rename_i h1
   split at h
   ·cases h
   ·rename_i h2
    obtain⟨i1,i2⟩:=ckl_ok2 h
    have h3:∀y,y∈r→numIn seen y.Number=false∧x.Number≠y.Number:=fun y hy=>by
     have:=(i1 y hy).2
     simp only[numIn,List.any_append,Bool.or_eq_false_iff,List.any_cons,List.any_nil,decide_eq_false_iff_not,and_true] at this
     exact⟨this.1,this.2⟩
    refine⟨fun y hy=>?_,List.pairwise_cons.2 ⟨fun y hy=>(h3 y hy).2,i2⟩⟩
    rcases List.mem_cons.1 hy with rfl|hy
    ·exact⟨h1,by simpa using h2⟩
    ·exact⟨(i1 y hy).1,(h3 y hy).1⟩
  ·cases h
structure LvsOk (s:Shape)(l:List Leaf):Prop where
 len:l.length≤40
 num:∀x,x∈l→1≤x.Number∧x.Number≤s.Data+s.Checks
 wl:∀x,x∈l→(x.Words.length:Int)=s.Width∧allW x.Words
 nd:l.Pairwise (fun x y=>x.Number≠y.Number)
theorem lvs_of {s:Shape}{l:List Leaf}(h:CheckLeavesS s l=0):CkOk s∧LvsOk s l:=by
 unfold CheckLeavesS at h
 rcases CheckS_cases s with⟨e,hk⟩|⟨e,hk⟩
 ·rw[if_pos e] at h
  split at h
  ·cases h
  ·rename_i hle
   obtain⟨h1,h2⟩:=ckl_ok2 h
   have key:∀x,x∈l→(1≤x.Number∧x.Number≤s.Data+s.Checks)∧(x.Words.length:Int)=s.Width∧allW x.Words:=fun x hx=>by
    have:=(h1 x hx).1
    simp only[leafOk,Bool.and_eq_true,decide_eq_true_eq] at this
    exact⟨this.1,this.2.1,allW_of this.2.2⟩
   exact⟨hk,by omega,fun x hx=>(key x hx).1,fun x hx=>(key x hx).2,h2⟩
 ·rw[if_neg (by omega),e] at h;cases h
def ckAll (s:Shape):List (List Leaf)→Int
 |[]=>0
 |l::r=>if CheckLeavesS s l=0 then ckAll s r else CheckLeavesS s l
theorem ckAll_ok {s:Shape}:∀{cs:List (List Leaf)},ckAll s cs=0→∀l,l∈cs→CheckLeavesS s l=0
 |[],_,l,h=>(by cases h)
 |c::r,h0,l,h=>by
  rw[ckAll] at h0
  split at h0
  ·rename_i e
   rcases List.mem_cons.1 h with rfl|h
   ·exact e
   ·exact ckAll_ok h0 l h
  ·contradiction
def selL (cs:List (List Leaf))(n:Int):List Leaf:=cs.flatten.filter fun y=>decide (y.Number=n)
def rF (cs:List (List Leaf))(n:Int)(l:List Leaf):DM.RSt Leaf:=(l.filter fun y=>decide (y.Number=n)).foldl (DM.rStep Leaf.Words (DM.cnt Leaf.Words (selL cs n))) ⟨⟨0,[]⟩,0,false⟩
theorem rF_snoc (cs:List (List Leaf))(n:Int)(l:List Leaf)(x:Leaf):rF cs n (l++[x])=if x.Number=n then DM.rStep Leaf.Words (DM.cnt Leaf.Words (selL cs n)) (rF cs n l) x else rF cs n l:=by
 unfold rF
 rw[List.filter_append,List.foldl_append]
 by_cases h:x.Number=n
 ·rw[if_pos h,List.filter_cons,if_pos (by simpa using h)];rfl
 ·rw[if_neg h,List.filter_cons,if_neg (by simpa using h)];rfl
theorem rF_att {cs:List (List Leaf)}{n:Int}:∀(l:List Leaf),(rF cs n l).most≤cs.flatten.length∧(0 < (rF cs n l).most→(rF cs n l).best∈l∧(rF cs n l).best.Number=n):=by
 refine DM.snocInd ⟨Nat.zero_le _,fun h=>absurd h (Nat.lt_irrefl 0)⟩ fun l x ih=>?_
 ·rw[rF_snoc]
  split
  ·rename_i hx
   unfold DM.rStep
   have hc:DM.cnt Leaf.Words (selL cs n) x.Words≤cs.flatten.length:=by
    exact Nat.le_trans List.countP_le_length (List.length_filter_le _ _)
   split
   ·exact⟨hc,fun _=>⟨List.mem_append_right _ (List.mem_singleton.2 rfl),hx⟩⟩
   ·split
    ·exact⟨ih.1,fun h=>⟨List.mem_append_left _ (ih.2 h).1,(ih.2 h).2⟩⟩
    ·exact⟨ih.1,fun h=>⟨List.mem_append_left _ (ih.2 h).1,(ih.2 h).2⟩⟩
  ·exact⟨ih.1,fun h=>⟨List.mem_append_left _ (ih.2 h).1,(ih.2 h).2⟩⟩
def jPick (cs:List (List Leaf))(n:Int):List Leaf:=if 0 < (rF cs n cs.flatten).most∧(rF cs n cs.flatten).equal=false then [(rF cs n cs.flatten).best] else []
def joinL (cs:List (List Leaf))(N:Nat):List Leaf:=(List.range N).flatMap fun (i:Nat)=>jPick cs ((i:Int)+1)
theorem joinL_succ (cs:List (List Leaf))(N:Nat):joinL cs (N+1)=joinL cs N++jPick cs ((N:Int)+1):=by
 simp[joinL,List.range_succ]
theorem jPick_len (cs:List (List Leaf))(n:Int):(jPick cs n).length≤1:=by
 unfold jPick;split<;>simp
theorem joinL_len (cs:List (List Leaf)):∀N,(joinL cs N).length≤N
 |0=>Nat.le_refl _
 |N+1=>by
  rw[joinL_succ,List.length_append]
  have:=joinL_len cs N
  have:=jPick_len cs ((N:Int)+1)
  omega
def JoinS (s:Shape)(cs:List (List Leaf)):List Leaf × Int:=
 if CheckS s=0 then (if 5 < cs.length then ([],2) else if ckAll s cs=0 then (joinL cs (s.Data+s.Checks).toNat,0) else ([],ckAll s cs)) else ([],1)
end Go.DL
