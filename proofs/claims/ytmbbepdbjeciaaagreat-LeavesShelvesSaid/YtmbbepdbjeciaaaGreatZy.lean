/- All leaves of data. -/
import Derived.Test.YtmbbepdbjeciaaaGreatZx
import Derived.Test.YtmbbepdbjeciaaaGreatE5
set_option maxRecDepth 100000
set_option maxHeartbeats 16000000
namespace Go.DL
open Go.Proofs Go
def dotsC (d:List (List Int))(j k:Nat):List Dot:=(List.range k).map fun i:Nat=>⟨(i:Int)+1,(d.getD i []).getD j 0⟩
theorem dotsC_len (d:List (List Int))(j k:Nat):(dotsC d j k).length=k:=by simp[dotsC]
theorem dotsC_succ (d:List (List Int))(j k:Nat):dotsC d j (k+1)=dotsC d j k++[⟨(k:Int)+1,(d.getD k []).getD j 0⟩]:=by simp[dotsC,zat]
def zeL (d:List (List Int))(j:Nat):List Int:=DM.through (dX (dotsC d j d.length)) (dY (dotsC d j d.length))
def pseq (w:Nat)(d:List (List Int)):List (List D):=(List.range w).map fun j:Nat=>[wI j,.fl ((zeL d j).map eI)]
theorem pseq_len (w:Nat)(d:List (List Int)):(pseq w d).length=w:=by simp[pseq]
theorem pseq_get {w:Nat}(d:List (List Int)){j:Nat}(h:j < w):(pseq w d)[j]? = some [wI j,.fl ((zeL d j).map eI)]:=by
 simp[pseq,h]
def dataW (w:Nat)(d:List (List Int)):Prop:=d.length≤20∧∀r,r∈d→r.length=w∧allW r
theorem dotsC_W {w:Nat}{d:List (List Int)}(h:dataW w d){j:Nat}(hj:j < w):dotW (dotsC d j d.length):=fun p hp=>by
 obtain⟨i,hi,rfl⟩:=zt.1 hp
 rw[zP] at hi
 have h1:=h.1
 obtain⟨h2,h3⟩:=h.2 d[i] (zi hi)
 have e:(d.getD i []).getD j 0=d[i][j]:=by simp[List.getD,hi,h2,hj]
 refine⟨by simp only;omega,?_⟩
 simp only[e]
 exact h3 _ (zi _)
theorem c_places {H:List Blk}(s:Shape)(d:List (List Int)):CallSp Tryz.prog 126 [dSh s,.sl (d.map zcU)] H fun x H'=>x=.fn (.func 163) [] [.mp H.length 0 0,.mp (H.length+1) 0 0]∧H'=H++[.live 3 [zcq s],.live 1 [[.sl (d.map zcU)]]]:=by
 refine CallSp.vt pok Tryz.f126 (n:=6) (rs:=[.tmp 4]) rfl rfl rfl rfl rfl rfl rfl fun g=>?_
 repeat (any_goals (first|(refine zcj ?_;(first|refine zbW ?_|refine zbZ ?_|refine zco ?_|refine zdz ?_))|(refine zck ?_;(first|refine zbY rfl ?_|refine zbX rfl ?_|refine zb7 rfl ?_))|(with_reducible refine zce ?_;refine kEr rfl ?_)))
 refine⟨?_,?_⟩
 ·show D.fn (.func 163) [] [.mp H.length 0 0,.mp (H++[_]).length 0 0]=_
  rw[zw];rfl
 ·show (H++[_])++[_]=_
  rw[zT];rfl
theorem i_places (s:Shape)(w:Nat)(hw:s.Width=(w:Int))(d:List (List Int))(hd:dataW w d)(hwb:w≤1000):Iter Tryz.prog 163 [] [.rp (zcq s),.rp [.sl (d.map zcU)]] (pseq w d):=by
 refine Iter.vt pok Tryz.f163 (n:=38) rfl rfl rfl rfl (fun _=>rfl) rfl fun y=>?_
 have hdl:=hd.1
 repeat (any_goals (first|(refine zcj ?_;(first|refine zbW ?_|refine zb9 (f_fa2 rfl rfl (zaE _)) ?_|refine zb0 ?_|refine zcf ?_))|(refine zck ?_;(first|refine zbY rfl ?_|refine zbX rfl ?_|refine zb3 rfl ?_))))
 refine zcl (fun j a H g'=>∃i:Nat,j=w-i∧i≤w∧a=[(0,.fn (.yield y) [] []),(1,.rp (zcq s)),(2,.rp [.sl (d.map zcU)]),(9,wI w),(10,wI i)]∧H=[]∧g'=(i,false)) rfl
  ⟨_,_,_,⟨0,rfl,zj _,rfl,rfl,rfl⟩,zeP ⟨by exact tX10,rfl,tX7,(by first|rfl|simp_all [zdq]),by (repeat first|exact zdN|refine zcJ ?_ ?_|exact zd2 _ _|exact zeE (by simp)|exact zd8 _ _|exact bb_dead|exact bb_free|exact zdg rfl|(simp[BlkBelow,zdq];done))⟩⟩ ?_
 rintro j a H g' ⟨i,rfl,hi,rfl,rfl,rfl⟩
 by_cases hlt:i < w
 ·repeat (any_goals (first|(refine zcj ?_;(first|refine zbW ?_|refine zb0 ?_|refine zbZ ?_|refine zcf ?_|refine zb2 ?_|refine zb8 ?_))|(refine zck ?_;(first|refine zbY rfl ?_|refine zbX rfl ?_|refine zb6 rfl rfl (by first|assumption|omega) ?_|refine zb3 rfl ?_|refine zb5 rfl ?_))))
  refine zdh (i:=5) (s:=0) (H':=[.live 2 []]) 2 rfl rfl rfl ?_
  refine zcl (fun j a H g2=>∃(k:Nat) (o:List Dot),j=d.length-k∧k≤d.length∧o=dotsC d i k∧a=[(0,.fn (.yield y) [] []),(1,.rp (zcq s)),(2,.rp [.sl (d.map zcU)]),(9,wI w),(10,wI i),(4,wI i),(5,.ms 0 0 o.length o.length),(13,.sl (d.map zcU)),(14,wI d.length),(15,wI k)]∧H=[.live 2 (o.map zdn)]∧g2=(i,false)) rfl
   ⟨_,_,_,⟨0,[],rfl,zj _,rfl,rfl,rfl,rfl⟩,zeP ⟨by exact tX10,rfl,tX7,(by first|rfl|simp_all [zdq]),by (repeat first|exact zdN|refine zcJ ?_ ?_|exact zd2 _ _|exact zeE (by simp)|exact zd8 _ _|exact bb_dead|exact bb_free|exact zdg rfl|(simp[BlkBelow,zdq];done))⟩⟩ ?_
  rintro j a H g2 ⟨k,o,rfl,hk,ho,rfl,rfl,rfl⟩
  have hol:o.length=k:=by rw[ho,dotsC_len]
  by_cases hlt2:k < d.length
  ·have hrow:=(hd.2 d[k] (zi hlt2)).1
   have hi2:i < d[k].length:=by omega
   repeat (any_goals (first|(refine zcj ?_;(first|refine zbW ?_|(refine d_bld ?_;refine zb9 (zdm (d:=.agg [wI ((k:Int)+1),wI d[k][i]]) rfl) ?_)|refine zcI nrX (f_bsl (ps:=[(0,.tmp 27)]) (sz:=2) (es:=[zdn ⟨(k:Int)+1,d[k][i]⟩]) rfl) nrX ?_|refine zeH nrX (f_appG (f:=zdn) (o:=o) (v:=[⟨(k:Int)+1,d[k][i]⟩]) (by':=16) rfl rfl rfl rfl rfl rfl rfl (by decide) rfl rfl (fun _=>⟨rfl,rfl⟩) (by rw[hol];simp;omega) (by rw[hol];simp;omega)) nrX ?_|refine zb0 ?_|refine zbZ ?_|refine zcf ?_|refine zb2 ?_|refine zcO ?_))|(refine zck ?_;(first|refine zbY rfl ?_|refine zbX rfl ?_|refine zb6 rfl rfl (by first|assumption|omega) ?_|refine zb3 rfl ?_|refine zb5 rfl ?_))|with_reducible (refine kLn ?_)))
   refine⟨d.length-(k+1),by omega,_,_,⟨k+1,o++[⟨(k:Int)+1,d[k][i]⟩],rfl,hlt2,?_,rfl,rfl,rfl⟩,(Wk.mv (k:=2) (s:=0) (a':=[(0,.fn (.yield y) [] []),(1,.rp (zcq s)),(2,.rp [.sl (d.map zcU)]),(9,wI w),(10,wI i),(4,wI i),(5,.ms 0 0 (o++[Dot.mk ((k:Int)+1) d[k][i]]).length (o++[Dot.mk ((k:Int)+1) d[k][i]]).length),(13,.sl (d.map zcU)),(14,wI d.length),(15,wI (k+1:Nat))]) rfl rfl rfl (by first|decide|exact zj _) (by first|decide|exact zj _) (by (repeat first|exact True.intro|refine And.intro ?_ ?_|exact Or.inr (Or.inr (Or.inl ⟨_,_,_,rfl,rfl⟩))|exact Or.inr (Or.inl ⟨rfl,rfl⟩)|exact Or.inl rfl)) (by (repeat first|exact bn_nil|refine bn_cons ?_ ?_|exact eI_no _ _ _|exact eDot_no _ _ _|exact bn_dead|exact bn_free|exact bn_lit rfl)) nrX).trans <| zeP ⟨by exact tX10,rfl,tX7,(by first|rfl|simp_all [zdq]),by (repeat first|exact zdN|refine zcJ ?_ ?_|exact zd2 _ _|exact zeE (by simp)|exact zd8 _ _|exact bb_dead|exact bb_free|exact zdg rfl|(simp[BlkBelow,zdq];done))⟩⟩
   rw[ho,dotsC_succ]
   simp[List.getD,hlt2,hi2]
  ·obtain rfl:k=d.length:=by omega
   have ht:=m_through o (by omega) (by rw[ho];exact dotsC_W hd hlt)
   have e:DM.through (dX o) (dY o)=zeL d i:=by rw[ho];rfl
   rw[e] at ht
   repeat (any_goals (first|(refine zcj ?_;(first|refine zbW ?_|refine zb4 rfl ht (by rw[zy,z8];exact congrArg (fun d=>[d]) (snapDot rfl)) rfl ?_|refine RT.yield rfl ⟨rfl,i,rfl,pseq_get d hlt,?_,?_⟩|refine zb0 ?_|refine zb2 ?_|refine zcv ?_))|(refine zck ?_;(first|refine zbY rfl ?_|refine zbX rfl ?_|refine zch rfl rfl ?_|refine zcb rfl rfl ?_|refine zca rfl rfl (by first|assumption|omega) ?_|refine zb5 rfl ?_|refine zci rfl ?_|refine zb7 rfl ?_))|(with_reducible first|refine kSr ?_|refine kBr ?_|refine kLn ?_|refine kLr ?_)|(with_reducible refine zce ?_;refine kEr rfl ?_)))
   ·exact⟨w-(i+1),by omega,_,_,⟨i+1,rfl,hlt,rfl,rfl,rfl⟩,zeP ⟨by exact tX10,rfl,tX7,(by first|rfl|simp_all [zdq]),by (repeat first|exact zdN|refine zcJ ?_ ?_|exact zd2 _ _|exact zeE (by simp)|exact zd8 _ _|exact bb_dead|exact bb_free|exact zdg rfl|(simp[BlkBelow,zdq];done))⟩⟩
   ·exact .inr rfl
 ·repeat (any_goals (first|(refine zcj ?_;(first|refine zbW ?_|refine zb2 ?_))|(refine zck ?_;(first|refine zbY rfl ?_|refine zbX rfl ?_|refine zca rfl rfl (by first|assumption|omega) ?_|refine zci rfl ?_))|(with_reducible first|refine kSe ?_|refine kBe ?_|refine kLe ?_)|(with_reducible refine d_kEn ?_;refine kEn rfl ?_)))
  exact .inl (by rw[pseq_len];exact congrArg (·,false) (by omega))
def zdQ (N w k:Nat):List (List D):=(List.range k).map (fun i:Nat=>[wI ((i:Int)+1),.ms (i+3) 0 w w])++List.replicate (N-k) [wI 0,.nil]
theorem zeE {N w k K:Nat}(h:k+3≤K):BlkBelow K (.live 2 (zdQ N w k)):=by
 intro e he x hx
 rcases zK.1 he with h1|h1
 ·obtain⟨i,hi,rfl⟩:=zt.1 h1
  rw[zP] at hi
  simp only[zH,zai,or_false] at hx
  rcases hx with rfl|rfl
  ·rfl
  ·simp[zdq];omega
 ·obtain rfl:=(zaM.1 h1).2
  simp only[zH,zai,or_false] at hx
  rcases hx with rfl|rfl<;>rfl
theorem snap_box {lk:Nat→Option Blk}{b sz:Nat}{e:List D}(h:lk b=some (.live sz [e]))(he:e.map (snap lk 4)=e):snap lk 5 (.mp b 0 0)=.rp e:=by
 simp only[snap,h,zaQ,zS,he]
def zdp (N w:Nat)(d:List (List Int)):List Leaf:=(List.range N).map fun i:Nat=>⟨(i:Int)+1,(List.range w).map fun q:Nat=>zc8 (zeL d q) ((i:Int)+1)⟩
def rowF (d:List (List Int))(w i j r:Nat):List Int:=(List.range w).map fun q:Nat=>if q < j∨(q=j∧i < r) then zc8 (zeL d q) ((i:Int)+1) else 0
theorem rowF_len (d:List (List Int))(w i j r:Nat):(rowF d w i j r).length=w:=by simp[rowF]
def wsF (d:List (List Int))(N w j r:Nat):List Blk:=(List.range N).map fun i:Nat=>Blk.live 1 ((rowF d w i j r).map eI)
theorem zdX (d:List (List Int))(N w j r:Nat):(wsF d N w j r).length=N:=by simp[wsF]
theorem wsF_get (d:List (List Int)){N w j r i:Nat}(h:i < N):(wsF d N w j r)[i]? = some (.live 1 ((rowF d w i j r).map eI)):=by simp[wsF,h]
theorem wsF_zero (d:List (List Int))(N w:Nat):wsF d N w 0 0=List.replicate N (.live 1 ((List.replicate w 0).map eI)):=by
 have e:∀i,rowF d w i 0 0=List.replicate w 0:=fun i=>by simp[rowF,List.map_const']
 simp only[wsF,e,List.map_const',zbp]
theorem wsF_next (d:List (List Int))(N w j:Nat):wsF d N w j N=wsF d N w (j+1) 0:=by
 refine zI fun i hi=>?_
 rw[zP] at hi
 have e:rowF d w i j N=rowF d w i (j+1) 0:=zI fun q _=>by
  by_cases h:q < j∨q=j∧i < N
  ·rw[if_pos h,if_pos (by omega)]
  ·rw[if_neg h,if_neg (by omega)]
 rw[e]
theorem wsF_set (d:List (List Int)){N w j i:Nat}(hi:i < N)(hj:j < w):(wsF d N w j i).set i (.live 1 (((rowF d w i j i).set j (zc8 (zeL d j) ((i:Int)+1))).map eI))=wsF d N w j (i+1):=by
 refine zaz (by simp[wsF]) fun m h1 h2=>?_
 rw[List.getElem_set]
 simp only[wsF,zbg,zbR]
 by_cases hm:i=m
 ·subst hm
  rw[if_pos rfl]
  have e:(rowF d w i j i).set j (zc8 (zeL d j) ((i:Int)+1))=rowF d w i j (i+1):=by
   refine zaz (by simp[rowF]) fun q h3 h4=>?_
   rw[List.getElem_set]
   simp only[rowF,zbg,zbR]
   by_cases hq:j=q
   ·subst hq
    rw[if_pos rfl,if_pos (by omega)]
   ·rw[if_neg hq]
    by_cases h:q < j∨q=j∧i < i
    ·rw[if_pos h,if_pos (by omega)]
    ·rw[if_neg h,if_neg (by omega)]
  rw[e]
 ·rw[if_neg hm]
  have e:rowF d w m j i=rowF d w m j (i+1):=zI fun q _=>by
   by_cases h:q < j∨q=j∧m < i
   ·rw[if_pos h,if_pos (by omega)]
   ·rw[if_neg h,if_neg (by omega)]
  rw[e]
theorem wsF_low (d:List (List Int))(N w j r:Nat)(T:List Blk)(hT:∀b,b∈T→BlkBelow 0 b):∀b,b∈wsF d N w j r++T→BlkBelow 0 b:=fun b hb=>by
 rcases zK.1 hb with h|h
 ·obtain⟨i,_,rfl⟩:=zt.1 h
  exact zd2 _ _
 ·exact hT b h
theorem dead2:∀b,b∈[Blk.dead,.dead]→BlkBelow 0 b:=fun b hb=>by
 simp only[zH,zai,or_false,or_self] at hb
 subst hb;trivial
theorem outW_get {N w i:Nat}(h:i < N):(zdQ N w N)[i]? = some [wI ((i:Int)+1),.ms (i+3) 0 w w]:=by
 rw[zdQ,zk (by simpa using h)];simp[h]
theorem rowF_last (d:List (List Int))(w i:Nat):rowF d w i w 0=(List.range w).map fun q:Nat=>zc8 (zeL d q) ((i:Int)+1):=
 zI fun q hq=>by
  rw[zP] at hq
  rw[if_pos (Or.inl hq)]
theorem snapR_leaves {lk:Nat→Option Blk}{N w:Nat}{d:List (List Int)}(h1:lk 1=some (.live 2 (zdQ N w N)))(h2:∀i,i < N→lk (i+3)=some (.live 1 ((rowF d w i w 0).map eI))):
  snapR lk 5 (.ms 1 0 N N)=.fl ((zdp N w d).map zcn):=by
 have hl:(zdQ N w N).length=N:=by simp[zdQ]
 have e0:zdQ N w N=(List.range N).map (fun i:Nat=>[wI ((i:Int)+1),.ms (i+3) 0 w w]):=by simp[zdQ]
 simp only[snapR,h1,zQ,hl,zf,if_true,zS]
 rw[if_pos,zg (by rw[hl];exact zf _),e0,zaa,zdp,zaa]
 ·refine congrArg D.fl (zI fun i hi=>?_)
  rw[zP] at hi
  have h3:=snapW (k:=3) (m:=w) (cap:=w) (h2 i hi) (rowF_len d w i w 0).symm
  show [wI ((i:Int)+1),snap lk 4 (.ms (i+3) 0 w w)]=_
  rw[h3,rowF_last];rfl
 ·rw[e0]
  refine zh.2 fun e he=>?_
  obtain⟨i,hi,rfl⟩:=zt.1 he
  rw[zP] at hi
  have h3:frK lk 4 (.ms (i+3) 0 w w)=true:=by
   simp only[frK,h2 i hi]
   exact eI_all _ _ fun x=>rfl
  rw[List.all_cons,List.all_cons,List.all_nil,h3];rfl
theorem m_whole (s:Shape)(d:List (List Int))(h:zeJ s)(hd:dataW s.Width.toNat d):Maps Tryz.prog 71 [dSh s,.sl (d.map zcU)] (.fl ((zdp (s.Data+s.Checks).toNat s.Width.toNat d).map zcn)):=by
 refine Maps.vt pok Tryz.f71 (n:=54) (rs:=[.tmp 4]) rfl rfl rfl rfl rfl rfl fun g=>?_
 obtain⟨N,hN⟩:∃N:Nat,s.Data+s.Checks=(N:Int):=zF (by omega)
 obtain⟨w,hw⟩:∃w:Nat,s.Width=(w:Int):=zF (by omega)
 rw[hN,hw,zM,zM]
 rw[hw,zM] at hd
 repeat (any_goals (first|(refine zcj ?_;(first|refine zbW ?_|refine zcI nrX (ze3 (z:=[wI 0,.nil]) (sz:=2) (m:=N) (by':=32) rfl rfl rfl rfl rfl (by decide) rfl (by omega) (by omega) (by omega)) nrX ?_|refine zcI nrX (zcL (z:=[.nil]) (m:=1) rfl rfl) nrX ?_|refine zb0 ?_|refine zbZ ?_|refine zcf ?_|refine zcm ?_|refine zb2 ?_|refine zb8 ?_|refine zc0 ?_|refine zco ?_))|(refine zck ?_;(first|refine zbY rfl ?_|refine zbX rfl ?_|refine zb3 rfl ?_))))
 refine zcl (fun j a H g'=>∃(k:Nat) (ws:List Blk),j=N-k∧k≤N∧ws=List.replicate k (.live 1 ((List.replicate w 0).map eI))∧a=[(1,.sl (d.map zcU)),(2,.mp 0 0 0),(5,.mp 2 0 0),(17,wI N),(18,wI k)]∧H=.live 3 [zcq s]::.live 2 (zdQ N w k)::.live 1 [[.ms 1 0 N N]]::ws∧g'=g) rfl
  ⟨_,_,_,⟨0,[],rfl,zj _,rfl,rfl,rfl,rfl⟩,zeP ⟨by exact tX10,rfl,tX7,(by first|rfl|simp_all [zdq]),by (repeat first|exact zdN|refine zcJ ?_ ?_|exact zd2 _ _|exact zeE (by simp)|exact zd8 _ _|exact bb_dead|exact bb_free|exact zdg rfl|(simp[BlkBelow,zdq];done))⟩⟩ ?_
 rintro j a H g' ⟨k,ws,rfl,hk,hws,rfl,rfl,rfl⟩
 by_cases hlt:k < N
 ·have hwl:ws.length=k:=by rw[hws,z7]
  have hok:(zdQ N w k)[k]? = some [wI 0,.nil]:=by
   rw[zdQ,zu (by simp)]
   simp[show 0 < N-k by omega]
  have hset:(zdQ N w k).set k [wI ((k:Int)+1),.ms (ws.length+3) 0 w w]=zdQ N w (k+1):=by
   obtain⟨q,hq⟩:∃q,N-k=q+1:=⟨N-k-1,by omega⟩
   rw[zdQ,zal _ _ (by simp),zdQ,zat,zW,show N-(k+1)=q by omega,hq,hwl]
   simp[zaW]
  repeat (any_goals (first|(refine zcj ?_;(first|refine zbW ?_|refine zb0 ?_|refine zbZ ?_|refine zb2 ?_))|(refine zck ?_;(first|refine zbY rfl ?_|refine zbX rfl ?_|refine zcu [(2,[0,1]),(2,[0,1]),(2,[0,1]),(2,[0,1]),(2,[0,1]),(2,[0,1]),(0,[0,1]),(2,[1]),(2,[1]),(1,[1])] 3 zcr rfl (by decide +kernel) (by decide +kernel) (by decide +kernel) nrX nrX ?_|refine zb6 rfl rfl (by first|assumption|omega) ?_|refine zb3 rfl ?_|refine zb5 rfl ?_))|(refine zd3 ?_;(first|refine zeN (zb1 (H0:=_::_::_::ws) (T:=[_,_,_]) rfl) (s':=ws.length+3) rfl (ze3 (z:=[wI 0]) (sz:=1) (m:=w) (by':=8) rfl rfl rfl rfl rfl (by decide) rfl hw (by omega) (by omega)) (H':=.live 3 [zcq s]::.live 2 (zdQ N w k)::.live 1 [[.ms 1 0 N N]]::(ws++[.live 1 (List.replicate w [wI 0]),.free,.free])) (by show _::_::_::((ws++_).set ws.length _)=_;rw[zal _ _ (zf _),zaT];rfl) ?_|refine zcD (zb1 (H0:=_::_::_::ws) (T:=[_,_,_]) rfl) (zdm (d:=.agg [wI ((k:Int)+1),.ms (ws.length+3) 0 w w]) rfl) ?_|refine zey (zb1 (H0:=_::_::_::ws) (T:=[_,_,_]) rfl) (zdR rfl rfl hok rfl rfl rfl rfl (by decide) rfl) (H':=.live 3 [zcq s]::.live 2 (zdQ N w (k+1))::.live 1 [[.ms 1 0 N N]]::(ws++[.live 1 (List.replicate w [wI 0]),.free,.free])) (by rw[←hset];rfl) ?_|refine zcy (H':=.live 3 [zcq s]::.live 2 (zdQ N w (k+1))::.live 1 [[.ms 1 0 N N]]::((ws++[.live 1 (List.replicate w [wI 0])])++[.free])) (by simp[List.dropLast]) ?_|refine zdG (zb1 (H0:=_::_::_::ws) (T:=[_,_,_]) rfl) ?_|refine PT.ldI (zb1 (H0:=_::_::_::ws) (T:=[_,_,_]) rfl) ?_|refine zeI (zb1 (H0:=_::_::_::ws) (T:=[_,_,_]) rfl) ?_|refine zef (zb1 (H0:=_::_::_::ws) (T:=[_,_,_]) rfl) ?_|refine PT.ixI (zb1 (H0:=_::_::_::ws) (T:=[_,_,_]) rfl) ?_))|with_reducible (refine kLn ?_)))
  refine⟨N-(k+1),by omega,_,_,⟨k+1,ws++[.live 1 (List.replicate w [wI 0])],rfl,hlt,?_,rfl,rfl,rfl⟩,fg_ws (pre:=[.live 3 [zcq s],.live 2 (zdQ N w (k+1)),.live 1 [[.ms 1 0 N N]]]) (T:=[.free]) kpX (zj _) rfl ?_ ?_⟩
  ·rw[hws,List.replicate_succ'];first|done|simp[eI]
  ·exact zcJ (zdg rfl) (zcJ (zeE (by simp[hwl])) (zcJ (BlkBelow.mono (K:=3) (by simp) (zdg rfl)) zdN))
  ·rw[hws]
   intro b hb
   rcases zK.1 hb with h1|h1
   ·rw[(zaM.1 h1).2];exact zd2 _ _
   ·rw[zC.1 h1];exact zdg (by simp[zdq])
 ·obtain rfl:k=N:=by omega
  have hwl:ws.length=k:=by rw[hws,z7]
  rw[←wsF_zero d k w] at hws
  repeat (any_goals (first|(refine zcj ?_;(first|refine zbW ?_|refine zb0 ?_|refine zcf ?_|refine zb2 ?_|refine zdZ rfl (c_places s d) rfl nrX nrX ?_))|(refine zck ?_;(first|refine zbY rfl ?_|refine zbX rfl ?_|refine zca rfl rfl (by first|assumption|omega) ?_|refine zb3 rfl ?_|refine zci rfl ?_))))
  refine VT.range (pseq w d) [ws.length+3,ws.length+4] (fun j H=>H=.live 3 [zcq s]::.live 2 (zdQ k w k)::.live 1 [[.ms 1 0 k k]]::(wsF d k w j 0++[.dead,.dead])) rfl rfl rfl ?_ rfl ?_ (i_places s w hw d hd (by omega)) ?_ ?_ ?_ ?_
  ·simp
  ·have e:=sel_app (H0:=.live 3 [zcq s]::.live 2 (zdQ k w k)::.live 1 [[.ms 1 0 k k]]::ws) (x:=.live 3 [zcq s]) (y:=.live 1 [[.sl (d.map zcU)]])
   have e3:=congr (congrArg (fun x y=>[x,y]) (snap_box e.1 rfl)) (snap_box e.2 rfl)
   exact e3
  ·intro j args hg
   have hj:j < w:=by rw[←pseq_len w d];exact (za.1 hg).1
   rw[pseq_get d hj] at hg;cases hg;exact⟨rfl,rfl⟩
  ·exact (kill_app (H0:=.live 3 [zcq s]::.live 2 (zdQ k w k)::.live 1 [[.ms 1 0 k k]]::ws)).trans (by rw[hws];rfl)
  ·intro j args H' hg hJ
   have hj:j < w:=by rw[←pseq_len w d];exact (za.1 hg).1
   rw[pseq_get d hj] at hg;cases hg;subst hJ
   repeat (any_goals (first|(refine zcj ?_;(first|refine zbW ?_|refine zbZ ?_))|(refine zck ?_;(first|refine zbY rfl ?_|refine zbX rfl ?_))))
   refine⟨rfl,?_⟩
   repeat (any_goals (first|(refine zcj ?_;(first|refine zbW ?_|refine zb0 ?_|refine zcf ?_|refine zb8 ?_))|(refine zck ?_;(first|refine zbY rfl ?_|refine zbX rfl ?_|refine zb3 rfl ?_))))
   refine zcl (fun jj a H g2=>∃(i:Nat) (ws:List Blk),jj=k-i∧i≤k∧ws=wsF d k w j i∧a=[(5,.mp 2 0 0),(7,wI j),(8,.fl ((zeL d j).map eI)),(37,wI k),(38,wI i)]∧H=.live 3 [zcq s]::.live 2 (zdQ k w k)::.live 1 [[.ms 1 0 k k]]::(ws++[.dead,.dead])∧g2=(0,false)) rfl
    ⟨_,_,_,⟨0,wsF d k w j 0,rfl,zj _,rfl,rfl,rfl,rfl⟩,?_⟩ ?_
   ·show Wk _ 54 _ ([.live 3 [zcq s],.live 2 (zdQ k w k),.live 1 [[.ms 1 0 k k]]]++(wsF d k w j 0++[.dead,.dead])) _ ([.live 3 [zcq s],.live 2 (zdQ k w k),.live 1 [[.ms 1 0 k k]]]++(wsF d k w j 0++[.dead,.dead]))
    exact fg_ws0 kpX (zf _) rfl (zcJ (zdg rfl) (zcJ (zeE (by simp[zdX])) (zcJ (BlkBelow.mono (K:=3) (by simp) (zdg rfl)) zdN))) (wsF_low _ _ _ _ _ _ dead2)
   ·rintro jj a H g2 ⟨i,ws,rfl,hi,hws2,rfl,rfl,rfl⟩
    by_cases hlt2:i < k
    ·have hcw:allW (zeL d j):=DM.through_W _ _
     have hcl:(zeL d j).length≤4611686018427387904:=by
      have h1:=hd.1
      rw[zeL,DM.through_len,dX_len,dotsC_len];omega
     have hv:=m_value (zeL d j) ((i:Int)+1) hcl hcw ⟨by omega,by omega⟩
     have hwl2:ws.length=k:=by rw[hws2,zdX]
     have hg2:(ws++[Blk.dead,.dead]++[Blk.free,.free])[i]? = some (.live 1 ((rowF d w i j i).map eI)):=by
      rw[zT,zk (by omega),hws2];exact wsF_get d hlt2
     have hst:(ws++[Blk.dead,.dead]++[Blk.free,.free]).set i (.live 1 (((rowF d w i j i).set j (zc8 (zeL d j) ((i:Int)+1))).map eI))=wsF d k w j (i+1)++[.dead,.dead]++[.free,.free]:=by
      rw[zT,zT,zD _ _ (by omega),hws2,wsF_set d hlt2 hj]
     repeat (any_goals (first|(refine zcj ?_;(first|refine zbW ?_|refine zb0 ?_|refine zbZ ?_|refine zb2 ?_))|(refine zck ?_;(first|refine zbY rfl ?_|refine zbX rfl ?_|refine zcu [(1,[0]),(1,[0]),(1,[0]),(1,[0]),(1,[0]),(1,[0]),(1,[0]),(1,[0]),(1,[0]),(1,[0]),(1,[0]),(0,[0])] 2 zcr rfl (by decide +kernel) (by decide +kernel) (by decide +kernel) nrX nrX ?_|refine zb6 rfl rfl (by first|assumption|omega) ?_|refine zb3 rfl ?_|refine zb5 rfl ?_))|(refine zd3 ?_;(first|refine zcD (zb1 (H0:=_::_::_::(ws++[.dead,.dead])) (T:=[_,_]) rfl) (zcB rfl rfl (outW_get hlt2) rfl rfl) ?_|refine zcD (zb1 (H0:=_::_::_::(ws++[.dead,.dead])) (T:=[_,_]) rfl) (zct rfl rfl (by first|with_reducible exact castR _|rfl) hg2 rfl (by omega)) ?_|refine zey (zb1 (H0:=_::_::_::(ws++[.dead,.dead])) (T:=[_,_]) rfl) (zeB rfl hg2 (by rw[rowF_len];exact hj) rfl rfl) (H':=.live 3 [zcq s]::.live 2 (zdQ k w k)::.live 1 [[.ms 1 0 k k]]::(wsF d k w j (i+1)++[.dead,.dead]++[.free,.free])) (by rw[←hst];rfl) ?_|refine zcy (H':=.live 3 [zcq s]::.live 2 (zdQ k w k)::.live 1 [[.ms 1 0 k k]]::((wsF d k w j (i+1)++[.dead,.dead])++[.free])) (by simp[List.dropLast]) ?_|refine zdG (zb1 (H0:=_::_::_::(ws++[.dead,.dead])) (T:=[_,_]) rfl) ?_|refine PT.ldI (zb1 (H0:=_::_::_::(ws++[.dead,.dead])) (T:=[_,_]) rfl) ?_|refine zeI (zb1 (H0:=_::_::_::(ws++[.dead,.dead])) (T:=[_,_]) rfl) ?_|refine zef (zb1 (H0:=_::_::_::(ws++[.dead,.dead])) (T:=[_,_]) rfl) ?_|refine zdH (zb1 (H0:=_::_::_::(ws++[.dead,.dead])) (T:=[_,_]) rfl) rfl (hv) nrX rfl ?_|refine PT.ixI (zb1 (H0:=_::_::_::(ws++[.dead,.dead])) (T:=[_,_]) rfl) ?_))|with_reducible (refine kLn ?_)))
     refine⟨k-(i+1),by omega,_,_,⟨i+1,wsF d k w j (i+1),rfl,hlt2,rfl,rfl,rfl,rfl⟩,?_⟩
     show Wk _ 54 _ ([.live 3 [zcq s],.live 2 (zdQ k w k),.live 1 [[.ms 1 0 k k]]]++((wsF d k w j (i+1)++[.dead,.dead])++[.free])) _ ([.live 3 [zcq s],.live 2 (zdQ k w k),.live 1 [[.ms 1 0 k k]]]++(wsF d k w j (i+1)++[.dead,.dead]))
     exact fg_ws kpX (by show List.length _≤_;simp[zdX]) rfl (zcJ (zdg rfl) (zcJ (zeE (by simp[zdX])) (zcJ (BlkBelow.mono (K:=3) (by simp) (zdg rfl)) zdN))) (wsF_low _ _ _ _ _ _ dead2)
    ·obtain rfl:i=k:=by omega
     repeat (any_goals (first|(refine zcj ?_;(first|refine zbW ?_|refine zb2 ?_))|(refine zck ?_;(first|refine zbY rfl ?_|refine zbX rfl ?_|refine zca rfl rfl (by first|assumption|omega) ?_|refine zci rfl ?_))|(with_reducible first|refine kBn ?_|refine kSe ?_|refine kBe ?_|refine kLe ?_)))
     show _::_::_::_=_
     rw[hws2,wsF_next]
  ·intro H' hJ
   subst hJ
   rw[pseq_len]
   repeat (any_goals (first|(refine zcj ?_;(first|refine zbW ?_|refine zbZ ?_|refine zcf ?_))|(refine zck ?_;(first|refine zbY rfl ?_|refine zbX rfl ?_|refine zb7 rfl ?_))|(with_reducible refine zce ?_;refine kEr rfl ?_)))
   refine snapR_leaves (lk:=fun b=>(Blk.live 3 [zcq s]::Blk.live 2 (zdQ k w k)::Blk.live 1 [[.ms 1 0 k k]]::(wsF d k w w 0++[.dead,.dead]))[b]?) rfl fun i hi=>?_
   show (wsF d k w w 0++[Blk.dead,.dead])[i]? = _
   rw[zk (by rw[zdX];exact hi)]
   exact wsF_get d hi
theorem dataW_of {s:Shape}{d:List (List Int)}(h:zeJ s)(hd:DataS s d=true):dataW s.Width.toNat d:=by
 simp only[DataS,zJ,decide_eq_true_eq] at hd
 refine⟨by omega,fun r hr=>?_⟩
 have:=zh.1 hd.2 r hr
 simp only[rowOk,zJ,decide_eq_true_eq] at this
 exact⟨by omega,allW_of this.2⟩
end Go.DL
/- All leaves of data, as own blocks. -/
namespace Go.DL
open Go.Proofs Go
theorem c_whole0 (s:Shape)(d:List (List Int))(h:zeJ s)(hd:dataW s.Width.toNat d):CallSp Tryz.prog 71 [dSh s,.sl (d.map zcU)] [] fun x H'=>x=.ms 1 0 (s.Data+s.Checks).toNat (s.Data+s.Checks).toNat∧
  H'=.live 3 [zcq s]::.live 2 (zdQ (s.Data+s.Checks).toNat s.Width.toNat (s.Data+s.Checks).toNat)::.live 1 [[.ms 1 0 (s.Data+s.Checks).toNat (s.Data+s.Checks).toNat]]::(wsF d (s.Data+s.Checks).toNat s.Width.toNat s.Width.toNat 0++[.dead,.dead]):=by
 refine CallSp.vt pok Tryz.f71 (n:=54) (rs:=[.tmp 4]) rfl rfl rfl rfl rfl rfl rfl fun g=>?_
 obtain⟨N,hN⟩:∃N:Nat,s.Data+s.Checks=(N:Int):=zF (by omega)
 obtain⟨w,hw⟩:∃w:Nat,s.Width=(w:Int):=zF (by omega)
 rw[hN,hw,zM,zM]
 rw[hw,zM] at hd
 repeat (any_goals (first|(refine zcj ?_;(first|refine zbW ?_|refine zcI nrX (ze3 (z:=[wI 0,.nil]) (sz:=2) (m:=N) (by':=32) rfl rfl rfl rfl rfl (by decide) rfl (by omega) (by omega) (by omega)) nrX ?_|refine zcI nrX (zcL (z:=[.nil]) (m:=1) rfl rfl) nrX ?_|refine zb0 ?_|refine zbZ ?_|refine zcf ?_|refine zcm ?_|refine zb2 ?_|refine zb8 ?_|refine zc0 ?_|refine zco ?_))|(refine zck ?_;(first|refine zbY rfl ?_|refine zbX rfl ?_|refine zb3 rfl ?_))))
 refine zcl (fun j a H g'=>∃(k:Nat) (ws:List Blk),j=N-k∧k≤N∧ws=List.replicate k (.live 1 ((List.replicate w 0).map eI))∧a=[(1,.sl (d.map zcU)),(2,.mp 0 0 0),(5,.mp 2 0 0),(17,wI N),(18,wI k)]∧H=.live 3 [zcq s]::.live 2 (zdQ N w k)::.live 1 [[.ms 1 0 N N]]::ws∧g'=g) rfl
  ⟨_,_,_,⟨0,[],rfl,zj _,rfl,rfl,rfl,rfl⟩,zeP ⟨by exact tX10,rfl,tX7,(by first|rfl|simp_all [zdq]),by (repeat first|exact zdN|refine zcJ ?_ ?_|exact zd2 _ _|exact zeE (by simp)|exact zd8 _ _|exact bb_dead|exact bb_free|exact zdg rfl|(simp[BlkBelow,zdq];done))⟩⟩ ?_
 rintro j a H g' ⟨k,ws,rfl,hk,hws,rfl,rfl,rfl⟩
 by_cases hlt:k < N
 ·have hwl:ws.length=k:=by rw[hws,z7]
  have hok:(zdQ N w k)[k]? = some [wI 0,.nil]:=by
   rw[zdQ,zu (by simp)]
   simp[show 0 < N-k by omega]
  have hset:(zdQ N w k).set k [wI ((k:Int)+1),.ms (ws.length+3) 0 w w]=zdQ N w (k+1):=by
   obtain⟨q,hq⟩:∃q,N-k=q+1:=⟨N-k-1,by omega⟩
   rw[zdQ,zal _ _ (by simp),zdQ,zat,zW,show N-(k+1)=q by omega,hq,hwl]
   simp[zaW]
  repeat (any_goals (first|(refine zcj ?_;(first|refine zbW ?_|refine zb0 ?_|refine zbZ ?_|refine zb2 ?_))|(refine zck ?_;(first|refine zbY rfl ?_|refine zbX rfl ?_|refine zcu [(2,[0,1]),(2,[0,1]),(2,[0,1]),(2,[0,1]),(2,[0,1]),(2,[0,1]),(0,[0,1]),(2,[1]),(2,[1]),(1,[1])] 3 zcr rfl (by decide +kernel) (by decide +kernel) (by decide +kernel) nrX nrX ?_|refine zb6 rfl rfl (by first|assumption|omega) ?_|refine zb3 rfl ?_|refine zb5 rfl ?_))|(refine zd3 ?_;(first|refine zeN (zb1 (H0:=_::_::_::ws) (T:=[_,_,_]) rfl) (s':=ws.length+3) rfl (ze3 (z:=[wI 0]) (sz:=1) (m:=w) (by':=8) rfl rfl rfl rfl rfl (by decide) rfl hw (by omega) (by omega)) (H':=.live 3 [zcq s]::.live 2 (zdQ N w k)::.live 1 [[.ms 1 0 N N]]::(ws++[.live 1 (List.replicate w [wI 0]),.free,.free])) (by show _::_::_::((ws++_).set ws.length _)=_;rw[zal _ _ (zf _),zaT];rfl) ?_|refine zcD (zb1 (H0:=_::_::_::ws) (T:=[_,_,_]) rfl) (zdm (d:=.agg [wI ((k:Int)+1),.ms (ws.length+3) 0 w w]) rfl) ?_|refine zey (zb1 (H0:=_::_::_::ws) (T:=[_,_,_]) rfl) (zdR rfl rfl hok rfl rfl rfl rfl (by decide) rfl) (H':=.live 3 [zcq s]::.live 2 (zdQ N w (k+1))::.live 1 [[.ms 1 0 N N]]::(ws++[.live 1 (List.replicate w [wI 0]),.free,.free])) (by rw[←hset];rfl) ?_|refine zcy (H':=.live 3 [zcq s]::.live 2 (zdQ N w (k+1))::.live 1 [[.ms 1 0 N N]]::((ws++[.live 1 (List.replicate w [wI 0])])++[.free])) (by simp[List.dropLast]) ?_|refine zdG (zb1 (H0:=_::_::_::ws) (T:=[_,_,_]) rfl) ?_|refine PT.ldI (zb1 (H0:=_::_::_::ws) (T:=[_,_,_]) rfl) ?_|refine zeI (zb1 (H0:=_::_::_::ws) (T:=[_,_,_]) rfl) ?_|refine zef (zb1 (H0:=_::_::_::ws) (T:=[_,_,_]) rfl) ?_|refine PT.ixI (zb1 (H0:=_::_::_::ws) (T:=[_,_,_]) rfl) ?_))|with_reducible (refine kLn ?_)))
  refine⟨N-(k+1),by omega,_,_,⟨k+1,ws++[.live 1 (List.replicate w [wI 0])],rfl,hlt,?_,rfl,rfl,rfl⟩,fg_ws (pre:=[.live 3 [zcq s],.live 2 (zdQ N w (k+1)),.live 1 [[.ms 1 0 N N]]]) (T:=[.free]) kpX (zj _) rfl ?_ ?_⟩
  ·rw[hws,List.replicate_succ'];first|done|simp[eI]
  ·exact zcJ (zdg rfl) (zcJ (zeE (by simp[hwl])) (zcJ (BlkBelow.mono (K:=3) (by simp) (zdg rfl)) zdN))
  ·rw[hws]
   intro b hb
   rcases zK.1 hb with h1|h1
   ·rw[(zaM.1 h1).2];exact zd2 _ _
   ·rw[zC.1 h1];exact zdg (by simp[zdq])
 ·obtain rfl:k=N:=by omega
  have hwl:ws.length=k:=by rw[hws,z7]
  rw[←wsF_zero d k w] at hws
  repeat (any_goals (first|(refine zcj ?_;(first|refine zbW ?_|refine zb0 ?_|refine zcf ?_|refine zb2 ?_|refine zdZ rfl (c_places s d) rfl nrX nrX ?_))|(refine zck ?_;(first|refine zbY rfl ?_|refine zbX rfl ?_|refine zca rfl rfl (by first|assumption|omega) ?_|refine zb3 rfl ?_|refine zci rfl ?_))))
  refine VT.range (pseq w d) [ws.length+3,ws.length+4] (fun j H=>H=.live 3 [zcq s]::.live 2 (zdQ k w k)::.live 1 [[.ms 1 0 k k]]::(wsF d k w j 0++[.dead,.dead])) rfl rfl rfl ?_ rfl ?_ (i_places s w hw d hd (by omega)) ?_ ?_ ?_ ?_
  ·simp
  ·have e:=sel_app (H0:=.live 3 [zcq s]::.live 2 (zdQ k w k)::.live 1 [[.ms 1 0 k k]]::ws) (x:=.live 3 [zcq s]) (y:=.live 1 [[.sl (d.map zcU)]])
   have e3:=congr (congrArg (fun x y=>[x,y]) (snap_box e.1 rfl)) (snap_box e.2 rfl)
   exact e3
  ·intro j args hg
   have hj:j < w:=by rw[←pseq_len w d];exact (za.1 hg).1
   rw[pseq_get d hj] at hg;cases hg;exact⟨rfl,rfl⟩
  ·exact (kill_app (H0:=.live 3 [zcq s]::.live 2 (zdQ k w k)::.live 1 [[.ms 1 0 k k]]::ws)).trans (by rw[hws];rfl)
  ·intro j args H' hg hJ
   have hj:j < w:=by rw[←pseq_len w d];exact (za.1 hg).1
   rw[pseq_get d hj] at hg;cases hg;subst hJ
   repeat (any_goals (first|(refine zcj ?_;(first|refine zbW ?_|refine zbZ ?_))|(refine zck ?_;(first|refine zbY rfl ?_|refine zbX rfl ?_))))
   refine⟨rfl,?_⟩
   repeat (any_goals (first|(refine zcj ?_;(first|refine zbW ?_|refine zb0 ?_|refine zcf ?_|refine zb8 ?_))|(refine zck ?_;(first|refine zbY rfl ?_|refine zbX rfl ?_|refine zb3 rfl ?_))))
   refine zcl (fun jj a H g2=>∃(i:Nat) (ws:List Blk),jj=k-i∧i≤k∧ws=wsF d k w j i∧a=[(5,.mp 2 0 0),(7,wI j),(8,.fl ((zeL d j).map eI)),(37,wI k),(38,wI i)]∧H=.live 3 [zcq s]::.live 2 (zdQ k w k)::.live 1 [[.ms 1 0 k k]]::(ws++[.dead,.dead])∧g2=(0,false)) rfl
    ⟨_,_,_,⟨0,wsF d k w j 0,rfl,zj _,rfl,rfl,rfl,rfl⟩,?_⟩ ?_
   ·show Wk _ 54 _ ([.live 3 [zcq s],.live 2 (zdQ k w k),.live 1 [[.ms 1 0 k k]]]++(wsF d k w j 0++[.dead,.dead])) _ ([.live 3 [zcq s],.live 2 (zdQ k w k),.live 1 [[.ms 1 0 k k]]]++(wsF d k w j 0++[.dead,.dead]))
    exact fg_ws0 kpX (zf _) rfl (zcJ (zdg rfl) (zcJ (zeE (by simp[zdX])) (zcJ (BlkBelow.mono (K:=3) (by simp) (zdg rfl)) zdN))) (wsF_low _ _ _ _ _ _ dead2)
   ·rintro jj a H g2 ⟨i,ws,rfl,hi,hws2,rfl,rfl,rfl⟩
    by_cases hlt2:i < k
    ·have hcw:allW (zeL d j):=DM.through_W _ _
     have hcl:(zeL d j).length≤4611686018427387904:=by
      have h1:=hd.1
      rw[zeL,DM.through_len,dX_len,dotsC_len];omega
     have hv:=m_value (zeL d j) ((i:Int)+1) hcl hcw ⟨by omega,by omega⟩
     have hwl2:ws.length=k:=by rw[hws2,zdX]
     have hg2:(ws++[Blk.dead,.dead]++[Blk.free,.free])[i]? = some (.live 1 ((rowF d w i j i).map eI)):=by
      rw[zT,zk (by omega),hws2];exact wsF_get d hlt2
     have hst:(ws++[Blk.dead,.dead]++[Blk.free,.free]).set i (.live 1 (((rowF d w i j i).set j (zc8 (zeL d j) ((i:Int)+1))).map eI))=wsF d k w j (i+1)++[.dead,.dead]++[.free,.free]:=by
      rw[zT,zT,zD _ _ (by omega),hws2,wsF_set d hlt2 hj]
     repeat (any_goals (first|(refine zcj ?_;(first|refine zbW ?_|refine zb0 ?_|refine zbZ ?_|refine zb2 ?_))|(refine zck ?_;(first|refine zbY rfl ?_|refine zbX rfl ?_|refine zcu [(1,[0]),(1,[0]),(1,[0]),(1,[0]),(1,[0]),(1,[0]),(1,[0]),(1,[0]),(1,[0]),(1,[0]),(1,[0]),(0,[0])] 2 zcr rfl (by decide +kernel) (by decide +kernel) (by decide +kernel) nrX nrX ?_|refine zb6 rfl rfl (by first|assumption|omega) ?_|refine zb3 rfl ?_|refine zb5 rfl ?_))|(refine zd3 ?_;(first|refine zcD (zb1 (H0:=_::_::_::(ws++[.dead,.dead])) (T:=[_,_]) rfl) (zcB rfl rfl (outW_get hlt2) rfl rfl) ?_|refine zcD (zb1 (H0:=_::_::_::(ws++[.dead,.dead])) (T:=[_,_]) rfl) (zct rfl rfl (by first|with_reducible exact castR _|rfl) hg2 rfl (by omega)) ?_|refine zey (zb1 (H0:=_::_::_::(ws++[.dead,.dead])) (T:=[_,_]) rfl) (zeB rfl hg2 (by rw[rowF_len];exact hj) rfl rfl) (H':=.live 3 [zcq s]::.live 2 (zdQ k w k)::.live 1 [[.ms 1 0 k k]]::(wsF d k w j (i+1)++[.dead,.dead]++[.free,.free])) (by rw[←hst];rfl) ?_|refine zcy (H':=.live 3 [zcq s]::.live 2 (zdQ k w k)::.live 1 [[.ms 1 0 k k]]::((wsF d k w j (i+1)++[.dead,.dead])++[.free])) (by simp[List.dropLast]) ?_|refine zdG (zb1 (H0:=_::_::_::(ws++[.dead,.dead])) (T:=[_,_]) rfl) ?_|refine PT.ldI (zb1 (H0:=_::_::_::(ws++[.dead,.dead])) (T:=[_,_]) rfl) ?_|refine zeI (zb1 (H0:=_::_::_::(ws++[.dead,.dead])) (T:=[_,_]) rfl) ?_|refine zef (zb1 (H0:=_::_::_::(ws++[.dead,.dead])) (T:=[_,_]) rfl) ?_|refine zdH (zb1 (H0:=_::_::_::(ws++[.dead,.dead])) (T:=[_,_]) rfl) rfl (hv) nrX rfl ?_|refine PT.ixI (zb1 (H0:=_::_::_::(ws++[.dead,.dead])) (T:=[_,_]) rfl) ?_))|with_reducible (refine kLn ?_)))
     refine⟨k-(i+1),by omega,_,_,⟨i+1,wsF d k w j (i+1),rfl,hlt2,rfl,rfl,rfl,rfl⟩,?_⟩
     show Wk _ 54 _ ([.live 3 [zcq s],.live 2 (zdQ k w k),.live 1 [[.ms 1 0 k k]]]++((wsF d k w j (i+1)++[.dead,.dead])++[.free])) _ ([.live 3 [zcq s],.live 2 (zdQ k w k),.live 1 [[.ms 1 0 k k]]]++(wsF d k w j (i+1)++[.dead,.dead]))
     exact fg_ws kpX (by show List.length _≤_;simp[zdX]) rfl (zcJ (zdg rfl) (zcJ (zeE (by simp[zdX])) (zcJ (BlkBelow.mono (K:=3) (by simp) (zdg rfl)) zdN))) (wsF_low _ _ _ _ _ _ dead2)
    ·obtain rfl:i=k:=by omega
     repeat (any_goals (first|(refine zcj ?_;(first|refine zbW ?_|refine zb2 ?_))|(refine zck ?_;(first|refine zbY rfl ?_|refine zbX rfl ?_|refine zca rfl rfl (by first|assumption|omega) ?_|refine zci rfl ?_))|(with_reducible first|refine kBn ?_|refine kSe ?_|refine kBe ?_|refine kLe ?_)))
     show _::_::_::_=_
     rw[hws2,wsF_next]
  ·intro H' hJ
   subst hJ
   rw[pseq_len]
   repeat (any_goals (first|(refine zcj ?_;(first|refine zbW ?_|refine zbZ ?_|refine zcf ?_))|(refine zck ?_;(first|refine zbY rfl ?_|refine zbX rfl ?_|refine zb7 rfl ?_))|(with_reducible refine zce ?_;refine kEr rfl ?_)))
   exact⟨rfl,rfl⟩
end Go.DL
/- The reference's checks of leaves and data. -/
namespace Go.DL
open Go.Proofs Go
theorem m_Rleaf (s:Shape)(h:zeJ s)(x:Leaf)(hx:x.Words.length≤4611686018427387904):Maps Tryz.prog 80 [dSh s,.agg (zcn x)] (wB (zeF s x)):=by
 refine Maps.vt pok Tryz.f80 (n:=26) (rs:=[.tmp 4]) rfl rfl rfl rfl rfl rfl fun g=>?_
 have ha:=m_rwords x.Words hx
 unfold zeF
 by_cases q1:1≤x.Number∧x.Number≤s.Data+s.Checks
 ·rw[decide_eq_true q1,zaS]
  by_cases q2:(x.Words.length:Int)=s.Width
  ·rw[decide_eq_true q2,zaS]
   repeat (any_goals (first|(refine zcj ?_;(first|refine zbW ?_|(refine d_g ?_;(first|refine zcS rfl ?_|refine zex rfl rfl rfl (by first|assumption|omega) ?_))|refine zb0 ?_|refine zbZ ?_|refine zcf ?_|refine zcm ?_|refine zb2 ?_|(refine zcw ?_;(first|refine zb4 rfl (m_in _ _ _) rfl rfl ?_|refine zb4 rfl (ha) rfl rfl ?_|refine zb8 ?_))|refine zcx ?_|refine zco ?_))|(refine zck ?_;(first|refine zbY rfl ?_|refine zbX rfl ?_|refine zb7 rfl ?_))|(with_reducible refine zce ?_;refine kEr rfl ?_)))
   rfl
  ·rw[decide_eq_false q2,zaU]
   repeat (any_goals (first|(refine zcj ?_;(first|refine zbW ?_|(refine d_g ?_;(first|refine zcS rfl ?_|refine zdI rfl rfl ?_|refine zex rfl rfl rfl (by first|assumption|omega) ?_|refine zel rfl rfl rfl (by first|assumption|omega) ?_))|refine zb0 ?_|refine zbZ ?_|refine zcf ?_|refine zcm ?_|refine zb2 ?_|(refine zcw ?_;(first|refine zb4 rfl (m_in _ _ _) rfl rfl ?_|refine zb8 ?_))|refine zcx ?_|refine zco ?_))|(refine zck ?_;(first|refine zbY rfl ?_|refine zbX rfl ?_|refine zb7 rfl ?_))|(with_reducible refine zce ?_;refine kEr rfl ?_)))
   rfl
 ·rw[decide_eq_false q1,zaU]
  repeat (any_goals (first|(refine zcj ?_;(first|refine zbW ?_|(refine d_g ?_;(first|refine zdI rfl rfl ?_|refine zel rfl rfl rfl (by first|assumption|omega) ?_))|refine zb0 ?_|refine zbZ ?_|refine zcf ?_|refine zcm ?_|refine zb2 ?_|refine zb4 rfl (m_in _ _ _) rfl rfl ?_|refine zcx ?_|refine zco ?_))|(refine zck ?_;(first|refine zbY rfl ?_|refine zbX rfl ?_|refine zb7 rfl ?_))|(with_reducible refine zce ?_;refine kEr rfl ?_)))
  rfl
theorem numIn_no {l:List Leaf}{n:Int}{k:Nat}(hk:k < l.length)(h:numIn (l.take k) n=false)(hn:¬l[k].Number=n):numIn (l.take (k+1)) n=false:=
 any_snoc hk h (by simpa using hn)
theorem m_RCheckLeaves (s:Shape)(l:List Leaf)(hl:l.length≤4611686018427387904)(hw:∀x,x∈l→x.Words.length≤4611686018427387904):Maps Tryz.prog 24 [dSh s,.sl (l.map zcn)] (wI (zcP s l)):=by
 refine Maps.vt pok Tryz.f24 (n:=45) (rs:=[.tmp 4]) rfl rfl rfl rfl rfl rfl fun g=>?_
 have hk:=m_RCheck s
 unfold zcP
 rcases zcX s with⟨e,h⟩|⟨e,h⟩
 ·rw[e] at hk ⊢
  rw[if_pos rfl]
  by_cases h4:40 < l.length
  ·rw[if_pos h4]
   repeat (any_goals (first|(refine zcj ?_;(first|refine zbW ?_|refine zb0 ?_|refine zbZ ?_|refine zcf ?_|refine zb2 ?_|(refine zcw ?_;(first|refine zb4 rfl (hk) rfl rfl ?_|refine zb8 ?_))|refine zco ?_))|(refine zck ?_;(first|refine zbY rfl ?_|refine zbX rfl ?_|refine zcb rfl rfl ?_|refine zb6 rfl rfl (by first|assumption|omega) ?_|refine zb5 rfl ?_|refine zb7 rfl ?_))|with_reducible (refine kSr ?_)|(with_reducible refine zce ?_;refine kEr rfl ?_)))
   rfl
  ·rw[if_neg h4]
   repeat (any_goals (first|(refine zcj ?_;(first|refine zbW ?_|refine zb0 ?_|refine zbZ ?_|refine zcf ?_|refine zb2 ?_|(refine zcw ?_;(first|refine zb4 rfl (hk) rfl rfl ?_|refine zb8 ?_))|refine zco ?_))|(refine zck ?_;(first|refine zbY rfl ?_|refine zbX rfl ?_|refine zcb rfl rfl ?_|refine zca rfl rfl (by first|assumption|omega) ?_|refine zb3 rfl ?_|refine zb5 rfl ?_))))
   refine zcl (fun j a H g'=>∃k:Nat,j=l.length-k∧k≤l.length∧cklS s [] l=cklS s (l.take k) (l.drop k)∧a=[(1,.sl (l.map zcn)),(2,.mp 0 0 0),(6,wI k)]∧H=[.live 3 [zcq s]]∧g'=g) rfl
    ⟨_,_,_,⟨0,rfl,zj _,rfl,rfl,rfl,rfl⟩,fgA⟩ ?_
   rintro j a H g' ⟨k,rfl,hkl,hn,rfl,rfl,rfl⟩
   by_cases hlt:k < l.length
   ·rw[zO hlt,cklS] at hn
    rw[hn]
    have ha:=m_Rleaf s h l[k] (hw l[k] (zi hlt))
    cases q1:zeF s l[k] with
    |true=>
     rw[if_pos rfl]
     rw[q1] at ha
     repeat (any_goals (first|(refine zcj ?_;(first|refine zbW ?_|refine zb0 ?_|refine zbZ ?_|refine zb2 ?_|refine zb8 ?_))|(refine zck ?_;(first|refine zbY rfl ?_|refine zbX rfl ?_|refine zcu [(0,[]),(0,[]),(0,[]),(0,[]),(0,[]),(0,[]),(0,[])] 1 zcr rfl (by decide +kernel) (by decide +kernel) (by decide +kernel) nrX nrX ?_|refine zcb rfl rfl ?_|refine zb6 rfl rfl (by first|assumption|omega) ?_|refine zb3 rfl ?_|refine zb5 rfl ?_))|(refine zd3 ?_;(first|refine zcy nrX ?_|refine zc2 ?_|refine zda ?_|refine zcT rfl (ha) rfl rfl ?_|refine zem ?_|refine PT.unA ?_))))
     refine zcl (fun j a H g2=>∃q:Nat,j=k-q∧q≤k∧numIn ((l.take k).take q) l[k].Number=false∧a=[(1,.sl (l.map zcn)),(2,.mp 0 0 0),(6,wI k),(7,wI q)]∧H=[.live 3 [zcq s]]∧g2=g') rfl
      ⟨_,_,_,⟨0,rfl,zj _,rfl,rfl,rfl,rfl⟩,fgA⟩ ?_
     rintro j a H g2 ⟨q,rfl,hq,hnq,rfl,rfl,rfl⟩
     have hti:(l.take k).length=k:=by simp;omega
     by_cases hltq:q < k
     ·have eq:(l.take k)[q]'(by omega)=l[q]:=by simp
      by_cases hsame:l[q].Number=l[k].Number
      ·have hd:numIn (l.take k) l[k].Number=true:=zbw.2 ⟨l[q],List.mem_take_iff_getElem.2 ⟨q,by omega,rfl⟩,by simpa using hsame⟩
       rw[if_pos hd]
       repeat (any_goals (first|(refine zcj ?_;(first|refine zbW ?_|refine zb0 ?_|refine zbZ ?_|refine zb2 ?_))|(refine zck ?_;(first|refine zbY rfl ?_|refine zbX rfl ?_|refine zcu [(0,[]),(0,[]),(0,[]),(0,[]),(0,[]),(0,[]),(0,[]),(0,[]),(0,[]),(0,[]),(0,[])] 1 zcr rfl (by decide +kernel) (by decide +kernel) (by decide +kernel) nrX nrX ?_|refine zb6 rfl rfl (by first|assumption|omega) ?_|refine zb3 rfl ?_|refine zb5 rfl ?_|refine zb7 rfl ?_))|(refine zd3 ?_;(first|refine zcy nrX ?_|refine zc2 ?_|refine zda ?_|refine zdU ?_|refine PT.bnA ?_|refine zem ?_))|(with_reducible first|refine kSr ?_|refine kBr ?_|refine kLr ?_)|(with_reducible refine zce ?_;refine kEr rfl ?_)))
       rfl
      ·repeat (any_goals (first|(refine zcj ?_;(first|refine zbW ?_|refine zb0 ?_|refine zbZ ?_|refine zb2 ?_))|(refine zck ?_;(first|refine zbY rfl ?_|refine zbX rfl ?_|refine zcu [(0,[]),(0,[]),(0,[]),(0,[]),(0,[]),(0,[]),(0,[]),(0,[]),(0,[]),(0,[]),(0,[])] 1 zcr rfl (by decide +kernel) (by decide +kernel) (by decide +kernel) nrX nrX ?_|refine zb6 rfl rfl (by first|assumption|omega) ?_|refine zca rfl rfl (by first|assumption|omega) ?_|refine zb3 rfl ?_|refine zb5 rfl ?_))|(refine zd3 ?_;(first|refine zcy nrX ?_|refine zc2 ?_|refine zda ?_|refine zdU ?_|refine PT.bnA ?_|refine zem ?_))|with_reducible (refine kLn ?_)))
       exact⟨k-(q+1),by omega,_,_,⟨q+1,rfl,hltq,numIn_no (l:=l.take k) (by omega) hnq (by rw[eq];exact hsame),rfl,rfl,rfl⟩,fgA⟩
     ·have hd:numIn (l.take k) l[k].Number=false:=by rw[←hnq,zg (l:=l.take k) (by omega)]
      rw[if_neg (by rw[hd];simp)]
      repeat (any_goals (first|(refine zcj ?_;(first|refine zbW ?_|refine zb0 ?_|refine zbZ ?_|refine zb2 ?_))|(refine zck ?_;(first|refine zbY rfl ?_|refine zbX rfl ?_|refine zca rfl rfl (by first|assumption|omega) ?_|refine zci rfl ?_))|with_reducible (refine kLn ?_)))
      exact⟨l.length-(k+1),by omega,_,_,⟨k+1,rfl,hlt,by rw[zo hlt],rfl,rfl,rfl⟩,fgA⟩
    |false=>
     rw[if_neg (by simp)]
     rw[q1] at ha
     repeat (any_goals (first|(refine zcj ?_;(first|refine zbW ?_|refine zb0 ?_|refine zbZ ?_|refine zb2 ?_|refine zb8 ?_))|(refine zck ?_;(first|refine zbY rfl ?_|refine zbX rfl ?_|refine zcu [(0,[]),(0,[]),(0,[]),(0,[]),(0,[]),(0,[]),(0,[])] 1 zcr rfl (by decide +kernel) (by decide +kernel) (by decide +kernel) nrX nrX ?_|refine zch rfl rfl ?_|refine zb6 rfl rfl (by first|assumption|omega) ?_|refine zb3 rfl ?_|refine zb5 rfl ?_|refine zb7 rfl ?_))|(refine zd3 ?_;(first|refine zcy nrX ?_|refine zc2 ?_|refine zda ?_|refine zcT rfl (ha) rfl rfl ?_|refine zem ?_|refine PT.unA ?_))|(with_reducible first|refine kSr ?_|refine kBr ?_|refine kLr ?_)|(with_reducible refine zce ?_;refine kEr rfl ?_)))
     rfl
   ·rw[hn,zab (by omega),cklS]
    repeat (any_goals (first|(refine zcj ?_;(first|refine zbW ?_|refine zb0 ?_|refine zbZ ?_|refine zb2 ?_|refine zb8 ?_))|(refine zck ?_;(first|refine zbY rfl ?_|refine zbX rfl ?_|refine zca rfl rfl (by first|assumption|omega) ?_|refine zci rfl ?_|refine zb7 rfl ?_))|(with_reducible refine zce ?_;refine kEr rfl ?_)))
    rfl
 ·rw[e] at hk ⊢
  rw[if_neg (by decide)]
  repeat (any_goals (first|(refine zcj ?_;(first|refine zbW ?_|refine zb0 ?_|refine zbZ ?_|refine zcf ?_|refine zb2 ?_|refine zb4 rfl (hk) rfl rfl ?_|refine zco ?_))|(refine zck ?_;(first|refine zbY rfl ?_|refine zbX rfl ?_|refine zch rfl rfl ?_|refine zb7 rfl ?_))|with_reducible (refine kSr ?_)|(with_reducible refine zce ?_;refine kEr rfl ?_)))
  rfl
end Go.DL
