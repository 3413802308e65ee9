/- The reference's leaves of data. -/
import Derived.Test.YtmbbepdbjeciaaaGreatZy
import Derived.Test.YtmbbepdbjeciaaaGreatZc
import Derived.Test.YtmbbepdbjeciaaaGreatE5
set_option maxRecDepth 100000
set_option maxHeartbeats 16000000
namespace Go.DL
open Go.Proofs Go
theorem m_RData (s:Shape)(d:List (List Int))(hl:d.length≤4611686018427387904)(hd:∀x,x∈d→x.length≤4611686018427387904):Maps Tryz.prog 72 [dSh s,.sl (d.map zcU)] (wB (DataS s d)):=by
 refine Maps.vt pok Tryz.f72 (n:=33) (rs:=[.tmp 4]) rfl rfl rfl rfl rfl rfl fun g=>?_
 unfold DataS
 by_cases h:(d.length:Int)=s.Data
 ·rw[decide_eq_true h,zaS]
  repeat (any_goals (first|(refine zcj ?_;(first|refine zbW ?_|refine zb0 ?_|refine zbZ ?_|refine zcf ?_|refine zcm ?_|refine zb2 ?_|refine zb8 ?_|refine zco ?_))|(refine zck ?_;(first|refine zbY rfl ?_|refine zbX rfl ?_|refine zca rfl rfl (by first|assumption|omega) ?_|refine zb3 rfl ?_|refine zb5 rfl ?_))))
  refine zcl (fun j a H g'=>∃k:Nat,j=d.length-k∧k≤d.length∧(d.take k).all (rowOk s)=true∧a=[(1,.sl (d.map zcU)),(2,.mp 0 0 0),(5,wI k)]∧H=[.live 3 [zcq s]]∧g'=g) rfl
   ⟨_,_,_,⟨0,rfl,zj _,rfl,rfl,rfl,rfl⟩,zeP ⟨by exact tX10,rfl,tX7,(by first|rfl|simp_all [zdq]),by (repeat first|exact zdN|refine zcJ ?_ ?_|exact zd2 _ _|exact zd8 _ _|exact zd8 _ _|exact bb_dead|exact bb_free|exact zdg rfl|(simp[BlkBelow,zdq];done))⟩⟩ ?_
  rintro j a H g' ⟨k,rfl,hk,hn,rfl,rfl,rfl⟩
  by_cases hlt:k < d.length
  ·have ha:=m_rwords d[k] (hd _ (zi hlt))
   have hbad:rowOk s d[k]=false→d.all (rowOk s)=false:=fun e=>List.all_eq_false.2 ⟨d[k],zi hlt,by simp[e]⟩
   by_cases q2:(d[k].length:Int)=s.Width
   ·cases q3:d[k].all (fun a=>decide (W a)) with
    |true=>
     rw[q3] at ha
     repeat (any_goals (first|(refine zcj ?_;(first|refine zbW ?_|refine zb0 ?_|refine zbZ ?_|refine zb2 ?_|refine zb8 ?_))|(refine zck ?_;(first|refine zbY rfl ?_|refine zbX rfl ?_|refine zcu [(0,[]),(0,[]),(0,[]),(0,[]),(0,[]),(0,[]),(0,[]),(0,[]),(0,[]),(0,[]),(0,[]),(0,[]),(0,[]),(0,[]),(0,[]),(0,[])] 1 zcr rfl (by decide +kernel) (by decide +kernel) (by decide +kernel) nrX nrX ?_|refine zcb rfl rfl ?_|refine zb6 rfl rfl (by first|assumption|omega) ?_|refine zb3 rfl ?_|refine zb5 rfl ?_))|(refine zd3 ?_;(first|refine zcy nrX ?_|refine zdi (zeQ rfl rfl q2) ?_|refine PT.gy rfl ?_|refine zc2 ?_|refine zda ?_|refine zdU ?_|(refine p_call ?_;(first|refine zcT rfl (ha) rfl rfl ?_|refine PT.clA ?_))|refine PT.pkA ?_|refine zem ?_|refine PT.unA ?_))|with_reducible (refine kLn ?_)))
     exact⟨d.length-(k+1),by omega,_,_,⟨k+1,rfl,hlt,all_snoc hlt hn (by rw[rowOk,decide_eq_true q2,q3];rfl),rfl,rfl,rfl⟩,zeP ⟨by exact tX10,rfl,tX7,(by first|rfl|simp_all [zdq]),by (repeat first|exact zdN|refine zcJ ?_ ?_|exact zd2 _ _|exact zd8 _ _|exact zd8 _ _|exact bb_dead|exact bb_free|exact zdg rfl|(simp[BlkBelow,zdq];done))⟩⟩
    |false=>
     rw[q3] at ha
     rw[hbad (by rw[rowOk,q3];simp)]
     repeat (any_goals (first|(refine zcj ?_;(first|refine zbW ?_|refine zb0 ?_|refine zbZ ?_|refine zb2 ?_|refine zb8 ?_))|(refine zck ?_;(first|refine zbY rfl ?_|refine zbX rfl ?_|refine zcu [(0,[]),(0,[]),(0,[]),(0,[]),(0,[]),(0,[]),(0,[]),(0,[]),(0,[]),(0,[]),(0,[]),(0,[]),(0,[]),(0,[]),(0,[]),(0,[])] 1 zcr rfl (by decide +kernel) (by decide +kernel) (by decide +kernel) nrX nrX ?_|refine zch rfl rfl ?_|refine zb6 rfl rfl (by first|assumption|omega) ?_|refine zb3 rfl ?_|refine zb5 rfl ?_|refine zb7 rfl ?_))|(refine zd3 ?_;(first|refine zcy nrX ?_|refine zdi (zeQ rfl rfl q2) ?_|refine PT.gy rfl ?_|refine zc2 ?_|refine zda ?_|refine zdU ?_|(refine p_call ?_;(first|refine zcT rfl (ha) rfl rfl ?_|refine PT.clA ?_))|refine PT.pkA ?_|refine zem ?_|refine PT.unA ?_))|(with_reducible first|refine kSr ?_|refine kBr ?_|refine kLr ?_)|(with_reducible refine zce ?_;refine kEr rfl ?_)))
     rfl
   ·rw[hbad (by rw[rowOk,decide_eq_false q2];rfl)]
    repeat (any_goals (first|(refine zcj ?_;(first|refine zbW ?_|refine zb0 ?_|refine zbZ ?_|refine zb2 ?_|refine zb8 ?_))|(refine zck ?_;(first|refine zbY rfl ?_|refine zbX rfl ?_|refine zcu [(0,[]),(0,[]),(0,[]),(0,[]),(0,[]),(0,[]),(0,[]),(0,[]),(0,[]),(0,[]),(0,[]),(0,[]),(0,[]),(0,[]),(0,[]),(0,[])] 1 zcr rfl (by decide +kernel) (by decide +kernel) (by decide +kernel) nrX nrX ?_|refine zch rfl rfl ?_|refine zb6 rfl rfl (by first|assumption|omega) ?_|refine zb3 rfl ?_|refine zb5 rfl ?_|refine zb7 rfl ?_))|(refine zd3 ?_;(first|refine zcy nrX ?_|refine zdi (f_neqT rfl rfl q2) ?_|refine PT.gn rfl rfl ?_|refine zc2 ?_|refine zda ?_|refine zdU ?_|refine PT.clA ?_|refine PT.pkA ?_|refine zem ?_))|(with_reducible first|refine kSr ?_|refine kBr ?_|refine kLr ?_)|(with_reducible refine zce ?_;refine kEr rfl ?_)))
    rfl
  ·rw[zg (by omega)] at hn
   rw[hn]
   repeat (any_goals (first|(refine zcj ?_;(first|refine zbW ?_|refine zb0 ?_|refine zbZ ?_|refine zb2 ?_|refine zb8 ?_))|(refine zck ?_;(first|refine zbY rfl ?_|refine zbX rfl ?_|refine zca rfl rfl (by first|assumption|omega) ?_|refine zci rfl ?_|refine zb7 rfl ?_))|(with_reducible refine zce ?_;refine kEr rfl ?_)))
   rfl
 ·rw[decide_eq_false h,zaU]
  repeat (any_goals (first|(refine zcj ?_;(first|refine zbW ?_|refine zb0 ?_|refine zbZ ?_|refine zcf ?_|refine zcm ?_|refine zb2 ?_|refine zb8 ?_|refine zco ?_))|(refine zck ?_;(first|refine zbY rfl ?_|refine zbX rfl ?_|refine zb6 rfl rfl (by first|assumption|omega) ?_|refine zb7 rfl ?_))|with_reducible (refine kSr ?_)|(with_reducible refine zce ?_;refine kEr rfl ?_)))
  rfl
theorem m_column (w:Nat)(d:List (List Int))(hd:dataW w d)(i:Nat)(hlt:i < w):Maps Tryz.prog 128 [.sl (d.map zcU),wI i] (.fl ((zeL d i).map eI)):=by
 refine Maps.vt pok Tryz.f128 (n:=28) (rs:=[.tmp 4]) rfl rfl rfl rfl rfl rfl fun g=>?_
 have hdl:=hd.1
 repeat (any_goals (first|(refine zcj ?_;(first|refine zbW ?_|refine zbZ ?_))|(refine zck ?_;(first|refine zbY rfl ?_|refine zbX rfl ?_|refine zb3 rfl ?_))))
 refine zdh (i:=5) (s:=0) (H':=[.live 2 []]) 2 rfl rfl rfl ?_
 refine zcl (fun j a H g2=>∃(k:Nat) (o:List Dot),j=d.length-k∧k≤d.length∧o=dotsC d i k∧a=[(0,.sl (d.map zcU)),(1,wI i),(5,.ms 0 0 o.length o.length),(6,wI k)]∧H=[.live 2 (o.map zdn)]∧g2=g) rfl
  ⟨_,_,_,⟨0,[],rfl,zj _,rfl,rfl,rfl,rfl⟩,zeP ⟨by exact tX10,rfl,tX7,(by first|rfl|simp_all [zdq]),by (repeat first|exact zdN|refine zcJ ?_ ?_|exact zd2 _ _|exact zd8 _ _|exact zd8 _ _|exact bb_dead|exact bb_free|exact zdg rfl|(simp[BlkBelow,zdq];done))⟩⟩ ?_
 rintro j a H g2 ⟨k,o,rfl,hk,ho,rfl,rfl,rfl⟩
 have hol:o.length=k:=by rw[ho,dotsC_len]
 by_cases hlt2:k < d.length
 ·have hrow:=(hd.2 d[k] (zi hlt2)).1
  have hi2:i < d[k].length:=by omega
  repeat (any_goals (first|(refine zcj ?_;(first|refine zbW ?_|(refine d_bld ?_;refine zb9 (zdm (d:=.agg [wI ((k:Int)+1),wI d[k][i]]) rfl) ?_)|refine zcI nrX (f_bsl (ps:=[(0,.tmp 23)]) (sz:=2) (es:=[zdn ⟨(k:Int)+1,d[k][i]⟩]) rfl) nrX ?_|refine zeH nrX (f_appG (f:=zdn) (o:=o) (v:=[⟨(k:Int)+1,d[k][i]⟩]) (by':=16) rfl rfl rfl rfl rfl rfl rfl (by decide) rfl rfl (fun _=>⟨rfl,rfl⟩) (by rw[hol];simp;omega) (by rw[hol];simp;omega)) nrX ?_|refine zb0 ?_|refine zbZ ?_|refine zcf ?_|refine zb2 ?_|refine zb8 ?_|refine zcO ?_))|(refine zck ?_;(first|refine zbY rfl ?_|refine zbX rfl ?_|refine zb6 rfl rfl (by first|assumption|omega) ?_|refine zb3 rfl ?_|refine zb5 rfl ?_))|with_reducible (refine kLn ?_)))
  refine⟨d.length-(k+1),by omega,_,_,⟨k+1,o++[⟨(k:Int)+1,d[k][i]⟩],rfl,hlt2,?_,rfl,rfl,rfl⟩,(Wk.mv (k:=2) (s:=0) (a':=[(0,.sl (d.map zcU)),(1,wI i),(5,.ms 0 0 (o++[Dot.mk ((k:Int)+1) d[k][i]]).length (o++[Dot.mk ((k:Int)+1) d[k][i]]).length),(6,wI (k+1:Nat))]) rfl rfl rfl (by first|decide|exact zj _) (by first|decide|exact zj _) (by (repeat first|exact True.intro|refine And.intro ?_ ?_|exact Or.inr (Or.inr (Or.inl ⟨_,_,_,rfl,rfl⟩))|exact Or.inr (Or.inl ⟨rfl,rfl⟩)|exact Or.inl rfl)) (by (repeat first|exact bn_nil|refine bn_cons ?_ ?_|exact eI_no _ _ _|exact eDot_no _ _ _|exact bn_dead|exact bn_free|exact bn_lit rfl)) nrX).trans <| zeP ⟨by exact tX10,rfl,tX7,(by first|rfl|simp_all [zdq]),by (repeat first|exact zdN|refine zcJ ?_ ?_|exact zd2 _ _|exact zd8 _ _|exact zd8 _ _|exact bb_dead|exact bb_free|exact zdg rfl|(simp[BlkBelow,zdq];done))⟩⟩
  rw[ho,dotsC_succ]
  simp[List.getD,hlt2,hi2]
 ·obtain rfl:k=d.length:=by omega
  have ht:=m_rthrough o (by omega) (by rw[ho];exact dotsC_W hd hlt)
  have e:DM.through (dX o) (dY o)=zeL d i:=by rw[ho];rfl
  rw[e] at ht
  repeat (any_goals (first|(refine zcj ?_;(first|refine zbW ?_|refine zb4 rfl ht (by rw[zy,z8];exact congrArg (fun d=>[d]) (snapDot rfl)) rfl ?_|refine zb0 ?_|refine zbZ ?_|refine zb2 ?_|refine zb8 ?_))|(refine zck ?_;(first|refine zbY rfl ?_|refine zbX rfl ?_|refine zca rfl rfl (by first|assumption|omega) ?_|refine zci rfl ?_|refine zb7 rfl ?_))|(with_reducible refine zce ?_;refine kEr rfl ?_)))
  rfl
end Go.DL
/- The reference's leaves of data, all of them. -/
namespace Go.DL
open Go.Proofs Go
def fR (w i:Nat):List D:=[wI ((i:Int)+1),.ms (i+2) 0 w w]
theorem fR_low {w k K:Nat}(h:k+2≤K):BlkBelow K (.live 2 ((List.range k).map (fR w))):=by
 intro e he x hx
 obtain⟨i,hi,rfl⟩:=zt.1 he
 rw[zP] at hi
 simp only[fR,zH,zai,or_false] at hx
 rcases hx with rfl|rfl
 ·rfl
 ·simp[zdq];omega
theorem fR_no {w n:Nat}{l:List Nat}(h:∀i,i∈l→i≤n):BlkNo (n+4) 1 (.live 2 (l.map (fR w))):=by
 intro e he x hx
 obtain⟨i,hi,rfl⟩:=zt.1 he
 have:=h i hi
 simp only[fR,zH,zai,or_false] at hx
 rcases hx with rfl|rfl
 ·rfl
 ·have h1:Nat.beq (i+2) (n+4)=false:=by
   cases hh:Nat.beq (i+2) (n+4) with
   |false=>rfl
   |true=>exact absurd (za0 hh) (by omega)
  simp only[noB,h1];rfl
theorem snapR_leaves2 {lk:Nat→Option Blk}{N w:Nat}{d:List (List Int)}(h1:lk 1=some (.live 2 ((List.range N).map (fR w))))(h2:∀i,i < N→lk (i+2)=some (.live 1 ((rowF d w i w 0).map eI))):
  snapR lk 5 (.ms 1 0 N N)=.fl ((zdp N w d).map zcn):=by
 have hl:((List.range N).map (fR w)).length=N:=by simp
 simp only[snapR,h1,zQ,hl,zf,if_true,zS]
 rw[if_pos,zg (by rw[hl];exact zf _),zaa,zdp,zaa]
 ·refine congrArg D.fl (zI fun i hi=>?_)
  rw[zP] at hi
  have h3:=snapW (k:=3) (m:=w) (cap:=w) (h2 i hi) (rowF_len d w i w 0).symm
  show [wI ((i:Int)+1),snap lk 4 (.ms (i+2) 0 w w)]=_
  rw[h3,rowF_last];rfl
 ·refine zh.2 fun e he=>?_
  obtain⟨i,hi,rfl⟩:=zt.1 he
  rw[zP] at hi
  have h3:frK lk 4 (.ms (i+2) 0 w w)=true:=by
   simp only[frK,h2 i hi]
   exact eI_all _ _ fun x=>rfl
  show (frK lk 4 _&&(frK lk 4 (.ms (i+2) 0 w w)&&true))=true
  rw[h3];rfl
theorem m_Rwhole (s:Shape)(d:List (List Int))(h:zeJ s)(hd:dataW s.Width.toNat d):Maps Tryz.prog 73 [dSh s,.sl (d.map zcU)] (.fl ((zdp (s.Data+s.Checks).toNat s.Width.toNat d).map zcn)):=by
 refine Maps.vt pok Tryz.f73 (n:=54) (rs:=[.tmp 4]) rfl rfl rfl rfl rfl rfl fun g=>?_
 obtain⟨N,hN⟩:∃N:Nat,s.Data+s.Checks=(N:Int):=zF (by omega)
 obtain⟨w,hw⟩:∃w:Nat,s.Width=(w:Int):=zF (by omega)
 rw[hN,hw,zM,zM]
 rw[hw,zM] at hd
 repeat (any_goals (first|(refine zcj ?_;(first|refine zbW ?_|refine zbZ ?_|refine zco ?_))|(refine zck ?_;(first|refine zbY rfl ?_|refine zbX rfl ?_|refine zb3 rfl ?_))))
 refine zdh (i:=5) (s:=1) (H':=[.live 3 [zcq s],.live 2 []]) 2 rfl rfl rfl ?_
 refine zcl (fun j a H g'=>∃(ws:List Blk) (o:List Nat),j=N-ws.length∧ws.length≤N∧ws=List.replicate ws.length (.live 1 ((List.replicate w 0).map eI))∧o=List.range ws.length∧a=[(1,.sl (d.map zcU)),(2,.mp 0 0 0),(5,.ms 1 0 o.length o.length),(6,wI ((ws.length:Int)+1))]∧H=.live 3 [zcq s]::.live 2 (o.map (fR w))::ws∧g'=g) rfl
  ⟨_,_,_,⟨[],[],rfl,zj _,rfl,rfl,rfl,rfl,rfl⟩,fgA⟩ ?_
 rintro j a H g' ⟨ws,o,rfl,hk,hws,ho,rfl,rfl,rfl⟩
 have hol:o.length=ws.length:=by rw[ho,zbp]
 by_cases hlt:ws.length < N
 ·repeat (any_goals (first|(refine zcj ?_;(first|refine zbW ?_|refine zcI rfl (ze3 (z:=[wI 0]) (sz:=1) (m:=w) (by':=8) rfl rfl rfl rfl rfl (by decide) rfl hw (by omega) (by omega)) rfl ?_|(refine d_bld ?_;refine zb9 (zdm (d:=.agg (fR w ws.length)) rfl) ?_)|refine zcI (s:=ws.length+3) (by simp) (f_bsl (ps:=[(0,.tmp 24)]) (sz:=2) (es:=[fR w ws.length]) rfl) (H':=.live 3 [zcq s]::.live 2 (o.map (fR w))::(ws++[.live 1 (List.replicate w [wI 0]),.live 2 [fR w ws.length]])) (by simp) ?_|refine zeH (s:=ws.length+4) (by simp) (f_appG (f:=fR w) (o:=o) (v:=[ws.length]) (by':=32) rfl rfl rfl (by simp) rfl rfl rfl (by decide) rfl rfl (fun _=>⟨rfl,rfl⟩) (by rw[hol];simp;omega) (by rw[hol];simp;omega)) (H':=.live 3 [zcq s]::.dead::(ws++[.live 1 (List.replicate w [wI 0]),.live 2 [fR w ws.length],.live 2 ((o++[ws.length]).map (fR w))])) (by simp[killO]) ?_|refine zb0 ?_|refine zbZ ?_|refine zcf ?_|refine zcm ?_|refine zb2 ?_))|(refine zck ?_;(first|refine zbY rfl ?_|refine zbX rfl ?_|refine zb6 rfl rfl (by first|assumption|omega) ?_|refine zb3 rfl ?_|refine zb5 rfl ?_))|with_reducible (refine kLn ?_)))
  have hz:Blk.live 1 (List.replicate w [wI 0])=.live 1 ((List.replicate w 0).map eI):=by simp[eI]
  refine⟨N-(ws++[Blk.live 1 (List.replicate w [wI 0])]).length,by simp;omega,_,_,⟨ws++[.live 1 (List.replicate w [wI 0])],o++[ws.length],rfl,by simp;omega,?_,?_,rfl,rfl,rfl⟩,?_⟩
  ·rw[zw,zbU,List.replicate_succ',←hws,hz]
  ·rw[zw,zbU,zat,←ho]
  ·refine (Wk.mv (k:=ws.length+4) (s:=1) (a':=[(1,.sl (d.map zcU)),(2,.mp 0 0 0),(5,.ms 1 0 (o++[ws.length]).length (o++[ws.length]).length),(6,wI ((ws.length:Int)+1+1))]) (H':=.live 3 [zcq s]::.live 2 ((o++[ws.length]).map (fR w))::((ws++[Blk.live 1 (List.replicate w [wI 0])])++[.live 2 [fR w ws.length],.dead])) rfl (by simp) rfl (zj _) (zj _) (by (repeat first|exact True.intro|refine And.intro ?_ ?_|exact Or.inr (Or.inr (Or.inl ⟨_,_,_,rfl,rfl⟩))|exact Or.inr (Or.inl ⟨rfl,rfl⟩)|exact Or.inl rfl)) ?_ ?_).trans ?_
   ·refine bn_cons (bn_lit rfl) (bn_cons bn_dead fun b hb=>?_)
    rcases zK.1 hb with h1|h1
    ·rw[hws] at h1
     rw[(zaM.1 h1).2];exact eI_no _ _ _
    ·simp only[zH,zai,or_false] at h1
     rcases h1 with rfl|rfl|rfl
     ·rw[hz];exact eI_no _ _ _
     ·exact fR_no (l:=[ws.length]) (fun i hi=>by rw[zC.1 hi];exact zf _)
     ·refine fR_no fun i hi=>?_
      rcases zK.1 hi with h2|h2
      ·rw[ho,zP] at h2;omega
      ·rw[zC.1 h2];exact zf _
   ·simp[zu,zal]
   ·rw[show (((ws++[Blk.live 1 (List.replicate w [wI 0])]).length:Nat):Int)+1=(ws.length:Int)+1+1 by simp]
    show Wk _ 54 _ ([.live 3 [zcq s],.live 2 ((o++[ws.length]).map (fR w))]++((ws++[.live 1 (List.replicate w [wI 0])])++[.live 2 [fR w ws.length],.dead])) _ ([.live 3 [zcq s],.live 2 ((o++[ws.length]).map (fR w))]++(ws++[.live 1 (List.replicate w [wI 0])]))
    refine fg_ws kpX (zj _) rfl (zcJ (zdg rfl) (zcJ ?_ zdN)) fun b hb=>?_
    ·rw[ho,←zat]
     exact fR_low (by simp)
    ·rcases zK.1 hb with h1|h1
     ·rw[hws] at h1
      rw[(zaM.1 h1).2];exact zd2 _ _
     ·rw[zC.1 h1,hz];exact zd2 _ _
 ·have hwl:ws.length=N:=by omega
  rw[hwl] at hol ho
  rw[hwl] at hws
  rw[←wsF_zero d N w] at hws
  subst hws
  repeat (any_goals (first|(refine zcj ?_;(first|refine zbW ?_|refine zb0 ?_|refine zbZ ?_|refine zcf ?_|refine zcm ?_|refine zb2 ?_))|(refine zck ?_;(first|refine zbY rfl ?_|refine zbX rfl ?_|refine zca rfl rfl (by first|assumption|omega) ?_|refine zb3 rfl ?_|refine zci rfl ?_))))
  refine zcl (fun jj a H g2=>∃j:Nat,jj=w-j∧j≤w∧a=[(1,.sl (d.map zcU)),(2,.mp 0 0 0),(5,.ms 1 0 o.length o.length),(7,wI j)]∧H=.live 3 [zcq s]::.live 2 (o.map (fR w))::wsF d N w j 0∧g2=g') rfl
   ⟨_,_,_,⟨0,rfl,zj _,rfl,rfl,rfl⟩,?_⟩ ?_
  ·show Wk _ 54 _ ([.live 3 [zcq s],.live 2 (o.map (fR w))]++wsF d N w 0 0) _ ([.live 3 [zcq s],.live 2 (o.map (fR w))]++wsF d N w 0 0)
   exact fg_ws0 kpX (zj _) rfl (zcJ (zdg rfl) (zcJ (by rw[ho];exact fR_low (by simp[zdX])) zdN)) (fun b hb=>wsF_low d N w _ _ [] (fun _ h=>by cases h) b (by rw[zN];exact hb))
  rintro jj a H g2 ⟨j,rfl,hjw,rfl,rfl,rfl⟩
  by_cases hj:j < w
  ·repeat (any_goals (first|(refine zcj ?_;(first|refine zbW ?_|refine zb0 ?_|refine zbZ ?_|refine zcf ?_|refine zcm ?_|refine zb2 ?_|refine zb4 rfl (m_column w d hd j hj) rfl rfl ?_))|(refine zck ?_;(first|refine zbY rfl ?_|refine zbX rfl ?_|refine zb6 rfl rfl (by first|assumption|omega) ?_|refine zb3 rfl ?_|refine zb5 rfl ?_))))
   refine zcl (fun jj a H g3=>∃(i:Nat) (ws:List Blk),jj=N-i∧i≤N∧ws=wsF d N w j i∧a=[(1,.sl (d.map zcU)),(2,.mp 0 0 0),(5,.ms 1 0 o.length o.length),(7,wI j),(8,.fl ((zeL d j).map eI)),(9,wI i)]∧H=.live 3 [zcq s]::.live 2 (o.map (fR w))::ws∧g3=g2) rfl
    ⟨_,_,_,⟨0,wsF d N w j 0,rfl,zj _,rfl,rfl,rfl,rfl⟩,?_⟩ ?_
   ·show Wk _ 54 _ ([.live 3 [zcq s],.live 2 (o.map (fR w))]++wsF d N w j 0) _ ([.live 3 [zcq s],.live 2 (o.map (fR w))]++wsF d N w j 0)
    exact fg_ws0 kpX (zj _) rfl (zcJ (zdg rfl) (zcJ (by rw[ho];exact fR_low (by simp[zdX])) zdN)) (fun b hb=>wsF_low d N w _ _ [] (fun _ h=>by cases h) b (by rw[zN];exact hb))
   rintro jj a H g3 ⟨i,ws,rfl,hi,hws2,rfl,rfl,rfl⟩
   by_cases hlt2:i < N
   ·have hcw:allW (zeL d j):=DM.through_W _ _
    have hcl:(zeL d j).length≤4611686018427387904:=by
     have h1:=hd.1
     rw[zeL,DM.through_len,dX_len,dotsC_len];omega
    have hv:=m_rvalue (zeL d j) ((i:Int)+1) hcl hcw ⟨by omega,by omega⟩
    have hwl2:ws.length=N:=by rw[hws2,zdX]
    have hget:(o.map (fR w))[i]? = some (fR w i):=by rw[ho];simp[hlt2]
    have hg2:(ws++[Blk.free,.free])[i]? = some (.live 1 ((rowF d w i j i).map eI)):=by
     rw[zk (by omega),hws2];exact wsF_get d hlt2
    have hst:(ws++[Blk.free,.free]).set i (.live 1 (((rowF d w i j i).set j (zc8 (zeL d j) ((i:Int)+1))).map eI))=wsF d N w j (i+1)++[.free,.free]:=by
     rw[zD _ _ (by omega),hws2,wsF_set d hlt2 hj]
    repeat (any_goals (first|(refine zcj ?_;(first|refine zbW ?_|refine zb0 ?_|refine zbZ ?_|refine zb2 ?_|refine zb8 ?_))|(refine zck ?_;(first|refine zbY rfl ?_|refine zbX rfl ?_|refine zcu [(1,[0]),(1,[0]),(1,[0]),(1,[0]),(1,[0]),(1,[0]),(1,[0]),(1,[0]),(1,[0]),(1,[0]),(1,[0]),(0,[0])] 2 zcr rfl (by decide +kernel) (by decide +kernel) (by decide +kernel) nrX nrX ?_|refine zb6 rfl rfl (by first|assumption|omega) ?_|refine zb3 rfl ?_|refine zb5 rfl ?_))|(refine zd3 ?_;(first|refine zcD (zb1 (H0:=_::_::ws) (T:=[_,_]) rfl) (zcB rfl rfl hget rfl rfl) ?_|refine zcD (zb1 (H0:=_::_::ws) (T:=[_,_]) rfl) (zct rfl rfl (by first|with_reducible exact castR _|rfl) hg2 rfl (by omega)) ?_|refine zey (zb1 (H0:=_::_::ws) (T:=[_,_]) rfl) (zeB rfl hg2 (by rw[rowF_len];exact hj) rfl rfl) (H':=.live 3 [zcq s]::.live 2 (o.map (fR w))::(wsF d N w j (i+1)++[.free,.free])) (by rw[←hst];rfl) ?_|refine zcy (H':=.live 3 [zcq s]::.live 2 (o.map (fR w))::(wsF d N w j (i+1)++[.free])) (by simp[List.dropLast]) ?_|refine zdG (zb1 (H0:=_::_::ws) (T:=[_,_]) rfl) ?_|refine zeI (zb1 (H0:=_::_::ws) (T:=[_,_]) rfl) ?_|refine zef (zb1 (H0:=_::_::ws) (T:=[_,_]) rfl) ?_|refine zdH (zb1 (H0:=_::_::ws) (T:=[_,_]) rfl) rfl (hv) nrX rfl ?_|refine PT.ixI (zb1 (H0:=_::_::ws) (T:=[_,_]) rfl) ?_))|with_reducible (refine kLn ?_)))
    refine⟨N-(i+1),by omega,_,_,⟨i+1,wsF d N w j (i+1),rfl,hlt2,rfl,rfl,rfl,rfl⟩,?_⟩
    show Wk _ 54 _ ([.live 3 [zcq s],.live 2 (o.map (fR w))]++(wsF d N w j (i+1)++[.free])) _ ([.live 3 [zcq s],.live 2 (o.map (fR w))]++wsF d N w j (i+1))
    exact fg_ws kpX (zj _) rfl (zcJ (zdg rfl) (zcJ (by rw[ho];exact fR_low (by simp[zdX])) zdN)) (fun b hb=>wsF_low d N w _ _ [] (fun _ h=>by cases h) b (by rw[zN];exact hb))
   ·obtain rfl:i=N:=by omega
    rw[wsF_next] at hws2
    subst hws2
    repeat (any_goals (first|(refine zcj ?_;(first|refine zbW ?_|refine zb0 ?_|refine zbZ ?_|refine zb2 ?_|refine zb8 ?_))|(refine zck ?_;(first|refine zbY rfl ?_|refine zbX rfl ?_|refine zca rfl rfl (by first|assumption|omega) ?_|refine zci rfl ?_))|with_reducible (refine kLn ?_)))
    refine⟨w-(j+1),by omega,_,_,⟨j+1,rfl,hj,rfl,rfl,rfl⟩,?_⟩
    show Wk _ 54 _ ([.live 3 [zcq s],.live 2 (o.map (fR w))]++wsF d i w (j+1) 0) _ ([.live 3 [zcq s],.live 2 (o.map (fR w))]++wsF d i w (j+1) 0)
    exact fg_ws0 kpX (zj _) rfl (zcJ (zdg rfl) (zcJ (by rw[ho];exact fR_low (by simp[zdX])) zdN)) (fun b hb=>wsF_low d i w _ _ [] (fun _ h=>by cases h) b (by rw[zN];exact hb))
  ·obtain rfl:j=w:=by omega
   repeat (any_goals (first|(refine zcj ?_;(first|refine zbW ?_|refine zb0 ?_|refine zbZ ?_|refine zcf ?_|refine zcm ?_|refine zb2 ?_))|(refine zck ?_;(first|refine zbY rfl ?_|refine zbX rfl ?_|refine zca rfl rfl (by first|assumption|omega) ?_|refine zci rfl ?_|refine zb7 rfl ?_))|(with_reducible refine zce ?_;refine kEr rfl ?_)))
   rw[hol,ho]
   refine snapR_leaves2 (lk:=fun b=>(Blk.live 3 [zcq s]::.live 2 ((List.range N).map (fR j))::wsF d N j j 0)[b]?) rfl fun i hi=>?_
   exact wsF_get d hi
end Go.DL
/- The reference's leaves of data, as own blocks. -/
namespace Go.DL
open Go.Proofs Go
theorem c_Rwhole0 (s:Shape)(d:List (List Int))(h:zeJ s)(hd:dataW s.Width.toNat d):CallSp Tryz.prog 73 [dSh s,.sl (d.map zcU)] [] fun x H'=>x=.ms 1 0 (s.Data+s.Checks).toNat (s.Data+s.Checks).toNat∧
  H'=.live 3 [zcq s]::.live 2 ((List.range (s.Data+s.Checks).toNat).map (fR s.Width.toNat))::wsF d (s.Data+s.Checks).toNat s.Width.toNat s.Width.toNat 0:=by
 refine CallSp.vt pok Tryz.f73 (n:=54) (rs:=[.tmp 4]) rfl rfl rfl rfl rfl rfl rfl fun g=>?_
 obtain⟨N,hN⟩:∃N:Nat,s.Data+s.Checks=(N:Int):=zF (by omega)
 obtain⟨w,hw⟩:∃w:Nat,s.Width=(w:Int):=zF (by omega)
 rw[hN,hw,zM,zM]
 rw[hw,zM] at hd
 repeat (any_goals (first|(refine zcj ?_;(first|refine zbW ?_|refine zbZ ?_|refine zco ?_))|(refine zck ?_;(first|refine zbY rfl ?_|refine zbX rfl ?_|refine zb3 rfl ?_))))
 refine zdh (i:=5) (s:=1) (H':=[.live 3 [zcq s],.live 2 []]) 2 rfl rfl rfl ?_
 refine zcl (fun j a H g'=>∃(ws:List Blk) (o:List Nat),j=N-ws.length∧ws.length≤N∧ws=List.replicate ws.length (.live 1 ((List.replicate w 0).map eI))∧o=List.range ws.length∧a=[(1,.sl (d.map zcU)),(2,.mp 0 0 0),(5,.ms 1 0 o.length o.length),(6,wI ((ws.length:Int)+1))]∧H=.live 3 [zcq s]::.live 2 (o.map (fR w))::ws∧g'=g) rfl
  ⟨_,_,_,⟨[],[],rfl,zj _,rfl,rfl,rfl,rfl,rfl⟩,fgA⟩ ?_
 rintro j a H g' ⟨ws,o,rfl,hk,hws,ho,rfl,rfl,rfl⟩
 have hol:o.length=ws.length:=by rw[ho,zbp]
 by_cases hlt:ws.length < N
 ·repeat (any_goals (first|(refine zcj ?_;(first|refine zbW ?_|refine zcI rfl (ze3 (z:=[wI 0]) (sz:=1) (m:=w) (by':=8) rfl rfl rfl rfl rfl (by decide) rfl hw (by omega) (by omega)) rfl ?_|(refine d_bld ?_;refine zb9 (zdm (d:=.agg (fR w ws.length)) rfl) ?_)|refine zcI (s:=ws.length+3) (by simp) (f_bsl (ps:=[(0,.tmp 24)]) (sz:=2) (es:=[fR w ws.length]) rfl) (H':=.live 3 [zcq s]::.live 2 (o.map (fR w))::(ws++[.live 1 (List.replicate w [wI 0]),.live 2 [fR w ws.length]])) (by simp) ?_|refine zeH (s:=ws.length+4) (by simp) (f_appG (f:=fR w) (o:=o) (v:=[ws.length]) (by':=32) rfl rfl rfl (by simp) rfl rfl rfl (by decide) rfl rfl (fun _=>⟨rfl,rfl⟩) (by rw[hol];simp;omega) (by rw[hol];simp;omega)) (H':=.live 3 [zcq s]::.dead::(ws++[.live 1 (List.replicate w [wI 0]),.live 2 [fR w ws.length],.live 2 ((o++[ws.length]).map (fR w))])) (by simp[killO]) ?_|refine zb0 ?_|refine zbZ ?_|refine zcf ?_|refine zcm ?_|refine zb2 ?_))|(refine zck ?_;(first|refine zbY rfl ?_|refine zbX rfl ?_|refine zb6 rfl rfl (by first|assumption|omega) ?_|refine zb3 rfl ?_|refine zb5 rfl ?_))|with_reducible (refine kLn ?_)))
  have hz:Blk.live 1 (List.replicate w [wI 0])=.live 1 ((List.replicate w 0).map eI):=by simp[eI]
  refine⟨N-(ws++[Blk.live 1 (List.replicate w [wI 0])]).length,by simp;omega,_,_,⟨ws++[.live 1 (List.replicate w [wI 0])],o++[ws.length],rfl,by simp;omega,?_,?_,rfl,rfl,rfl⟩,?_⟩
  ·rw[zw,zbU,List.replicate_succ',←hws,hz]
  ·rw[zw,zbU,zat,←ho]
  ·refine (Wk.mv (k:=ws.length+4) (s:=1) (a':=[(1,.sl (d.map zcU)),(2,.mp 0 0 0),(5,.ms 1 0 (o++[ws.length]).length (o++[ws.length]).length),(6,wI ((ws.length:Int)+1+1))]) (H':=.live 3 [zcq s]::.live 2 ((o++[ws.length]).map (fR w))::((ws++[Blk.live 1 (List.replicate w [wI 0])])++[.live 2 [fR w ws.length],.dead])) rfl (by simp) rfl (zj _) (zj _) (by (repeat first|exact True.intro|refine And.intro ?_ ?_|exact Or.inr (Or.inr (Or.inl ⟨_,_,_,rfl,rfl⟩))|exact Or.inr (Or.inl ⟨rfl,rfl⟩)|exact Or.inl rfl)) ?_ ?_).trans ?_
   ·refine bn_cons (bn_lit rfl) (bn_cons bn_dead fun b hb=>?_)
    rcases zK.1 hb with h1|h1
    ·rw[hws] at h1
     rw[(zaM.1 h1).2];exact eI_no _ _ _
    ·simp only[zH,zai,or_false] at h1
     rcases h1 with rfl|rfl|rfl
     ·rw[hz];exact eI_no _ _ _
     ·exact fR_no (l:=[ws.length]) (fun i hi=>by rw[zC.1 hi];exact zf _)
     ·refine fR_no fun i hi=>?_
      rcases zK.1 hi with h2|h2
      ·rw[ho,zP] at h2;omega
      ·rw[zC.1 h2];exact zf _
   ·simp[zu,zal]
   ·rw[show (((ws++[Blk.live 1 (List.replicate w [wI 0])]).length:Nat):Int)+1=(ws.length:Int)+1+1 by simp]
    show Wk _ 54 _ ([.live 3 [zcq s],.live 2 ((o++[ws.length]).map (fR w))]++((ws++[.live 1 (List.replicate w [wI 0])])++[.live 2 [fR w ws.length],.dead])) _ ([.live 3 [zcq s],.live 2 ((o++[ws.length]).map (fR w))]++(ws++[.live 1 (List.replicate w [wI 0])]))
    refine fg_ws kpX (zj _) rfl (zcJ (zdg rfl) (zcJ ?_ zdN)) fun b hb=>?_
    ·rw[ho,←zat]
     exact fR_low (by simp)
    ·rcases zK.1 hb with h1|h1
     ·rw[hws] at h1
      rw[(zaM.1 h1).2];exact zd2 _ _
     ·rw[zC.1 h1,hz];exact zd2 _ _
 ·have hwl:ws.length=N:=by omega
  rw[hwl] at hol ho
  rw[hwl] at hws
  rw[←wsF_zero d N w] at hws
  subst hws
  repeat (any_goals (first|(refine zcj ?_;(first|refine zbW ?_|refine zb0 ?_|refine zbZ ?_|refine zcf ?_|refine zcm ?_|refine zb2 ?_))|(refine zck ?_;(first|refine zbY rfl ?_|refine zbX rfl ?_|refine zca rfl rfl (by first|assumption|omega) ?_|refine zb3 rfl ?_|refine zci rfl ?_))))
  refine zcl (fun jj a H g2=>∃j:Nat,jj=w-j∧j≤w∧a=[(1,.sl (d.map zcU)),(2,.mp 0 0 0),(5,.ms 1 0 o.length o.length),(7,wI j)]∧H=.live 3 [zcq s]::.live 2 (o.map (fR w))::wsF d N w j 0∧g2=g') rfl
   ⟨_,_,_,⟨0,rfl,zj _,rfl,rfl,rfl⟩,?_⟩ ?_
  ·show Wk _ 54 _ ([.live 3 [zcq s],.live 2 (o.map (fR w))]++wsF d N w 0 0) _ ([.live 3 [zcq s],.live 2 (o.map (fR w))]++wsF d N w 0 0)
   exact fg_ws0 kpX (zj _) rfl (zcJ (zdg rfl) (zcJ (by rw[ho];exact fR_low (by simp[zdX])) zdN)) (fun b hb=>wsF_low d N w _ _ [] (fun _ h=>by cases h) b (by rw[zN];exact hb))
  rintro jj a H g2 ⟨j,rfl,hjw,rfl,rfl,rfl⟩
  by_cases hj:j < w
  ·repeat (any_goals (first|(refine zcj ?_;(first|refine zbW ?_|refine zb0 ?_|refine zbZ ?_|refine zcf ?_|refine zcm ?_|refine zb2 ?_|refine zb4 rfl (m_column w d hd j hj) rfl rfl ?_))|(refine zck ?_;(first|refine zbY rfl ?_|refine zbX rfl ?_|refine zb6 rfl rfl (by first|assumption|omega) ?_|refine zb3 rfl ?_|refine zb5 rfl ?_))))
   refine zcl (fun jj a H g3=>∃(i:Nat) (ws:List Blk),jj=N-i∧i≤N∧ws=wsF d N w j i∧a=[(1,.sl (d.map zcU)),(2,.mp 0 0 0),(5,.ms 1 0 o.length o.length),(7,wI j),(8,.fl ((zeL d j).map eI)),(9,wI i)]∧H=.live 3 [zcq s]::.live 2 (o.map (fR w))::ws∧g3=g2) rfl
    ⟨_,_,_,⟨0,wsF d N w j 0,rfl,zj _,rfl,rfl,rfl,rfl⟩,?_⟩ ?_
   ·show Wk _ 54 _ ([.live 3 [zcq s],.live 2 (o.map (fR w))]++wsF d N w j 0) _ ([.live 3 [zcq s],.live 2 (o.map (fR w))]++wsF d N w j 0)
    exact fg_ws0 kpX (zj _) rfl (zcJ (zdg rfl) (zcJ (by rw[ho];exact fR_low (by simp[zdX])) zdN)) (fun b hb=>wsF_low d N w _ _ [] (fun _ h=>by cases h) b (by rw[zN];exact hb))
   rintro jj a H g3 ⟨i,ws,rfl,hi,hws2,rfl,rfl,rfl⟩
   by_cases hlt2:i < N
   ·have hcw:allW (zeL d j):=DM.through_W _ _
    have hcl:(zeL d j).length≤4611686018427387904:=by
     have h1:=hd.1
     rw[zeL,DM.through_len,dX_len,dotsC_len];omega
    have hv:=m_rvalue (zeL d j) ((i:Int)+1) hcl hcw ⟨by omega,by omega⟩
    have hwl2:ws.length=N:=by rw[hws2,zdX]
    have hget:(o.map (fR w))[i]? = some (fR w i):=by rw[ho];simp[hlt2]
    have hg2:(ws++[Blk.free,.free])[i]? = some (.live 1 ((rowF d w i j i).map eI)):=by
     rw[zk (by omega),hws2];exact wsF_get d hlt2
    have hst:(ws++[Blk.free,.free]).set i (.live 1 (((rowF d w i j i).set j (zc8 (zeL d j) ((i:Int)+1))).map eI))=wsF d N w j (i+1)++[.free,.free]:=by
     rw[zD _ _ (by omega),hws2,wsF_set d hlt2 hj]
    repeat (any_goals (first|(refine zcj ?_;(first|refine zbW ?_|refine zb0 ?_|refine zbZ ?_|refine zb2 ?_|refine zb8 ?_))|(refine zck ?_;(first|refine zbY rfl ?_|refine zbX rfl ?_|refine zcu [(1,[0]),(1,[0]),(1,[0]),(1,[0]),(1,[0]),(1,[0]),(1,[0]),(1,[0]),(1,[0]),(1,[0]),(1,[0]),(0,[0])] 2 zcr rfl (by decide +kernel) (by decide +kernel) (by decide +kernel) nrX nrX ?_|refine zb6 rfl rfl (by first|assumption|omega) ?_|refine zb3 rfl ?_|refine zb5 rfl ?_))|(refine zd3 ?_;(first|refine zcD (zb1 (H0:=_::_::ws) (T:=[_,_]) rfl) (zcB rfl rfl hget rfl rfl) ?_|refine zcD (zb1 (H0:=_::_::ws) (T:=[_,_]) rfl) (zct rfl rfl (by first|with_reducible exact castR _|rfl) hg2 rfl (by omega)) ?_|refine zey (zb1 (H0:=_::_::ws) (T:=[_,_]) rfl) (zeB rfl hg2 (by rw[rowF_len];exact hj) rfl rfl) (H':=.live 3 [zcq s]::.live 2 (o.map (fR w))::(wsF d N w j (i+1)++[.free,.free])) (by rw[←hst];rfl) ?_|refine zcy (H':=.live 3 [zcq s]::.live 2 (o.map (fR w))::(wsF d N w j (i+1)++[.free])) (by simp[List.dropLast]) ?_|refine zdG (zb1 (H0:=_::_::ws) (T:=[_,_]) rfl) ?_|refine zeI (zb1 (H0:=_::_::ws) (T:=[_,_]) rfl) ?_|refine zef (zb1 (H0:=_::_::ws) (T:=[_,_]) rfl) ?_|refine zdH (zb1 (H0:=_::_::ws) (T:=[_,_]) rfl) rfl (hv) nrX rfl ?_|refine PT.ixI (zb1 (H0:=_::_::ws) (T:=[_,_]) rfl) ?_))|with_reducible (refine kLn ?_)))
    refine⟨N-(i+1),by omega,_,_,⟨i+1,wsF d N w j (i+1),rfl,hlt2,rfl,rfl,rfl,rfl⟩,?_⟩
    show Wk _ 54 _ ([.live 3 [zcq s],.live 2 (o.map (fR w))]++(wsF d N w j (i+1)++[.free])) _ ([.live 3 [zcq s],.live 2 (o.map (fR w))]++wsF d N w j (i+1))
    exact fg_ws kpX (zj _) rfl (zcJ (zdg rfl) (zcJ (by rw[ho];exact fR_low (by simp[zdX])) zdN)) (fun b hb=>wsF_low d N w _ _ [] (fun _ h=>by cases h) b (by rw[zN];exact hb))
   ·obtain rfl:i=N:=by omega
    rw[wsF_next] at hws2
    subst hws2
    repeat (any_goals (first|(refine zcj ?_;(first|refine zbW ?_|refine zb0 ?_|refine zbZ ?_|refine zb2 ?_|refine zb8 ?_))|(refine zck ?_;(first|refine zbY rfl ?_|refine zbX rfl ?_|refine zca rfl rfl (by first|assumption|omega) ?_|refine zci rfl ?_))|with_reducible (refine kLn ?_)))
    refine⟨w-(j+1),by omega,_,_,⟨j+1,rfl,hj,rfl,rfl,rfl⟩,?_⟩
    show Wk _ 54 _ ([.live 3 [zcq s],.live 2 (o.map (fR w))]++wsF d i w (j+1) 0) _ ([.live 3 [zcq s],.live 2 (o.map (fR w))]++wsF d i w (j+1) 0)
    exact fg_ws0 kpX (zj _) rfl (zcJ (zdg rfl) (zcJ (by rw[ho];exact fR_low (by simp[zdX])) zdN)) (fun b hb=>wsF_low d i w _ _ [] (fun _ h=>by cases h) b (by rw[zN];exact hb))
  ·obtain rfl:j=w:=by omega
   repeat (any_goals (first|(refine zcj ?_;(first|refine zbW ?_|refine zb0 ?_|refine zbZ ?_|refine zcf ?_|refine zcm ?_|refine zb2 ?_))|(refine zck ?_;(first|refine zbY rfl ?_|refine zbX rfl ?_|refine zca rfl rfl (by first|assumption|omega) ?_|refine zci rfl ?_|refine zb7 rfl ?_))|(with_reducible refine zce ?_;refine kEr rfl ?_)))
   rw[hol,ho]
   exact⟨rfl,rfl⟩
end Go.DL
/- The words of lines. -/
namespace Go.DL
open Go.Proofs Go
def zd6 (x:Line):List Int:=[x.ID / 65521 / 65521,x.ID / 65521%65521,x.ID%65521,x.Day,x.What,x.Worth / 65521,x.Worth%65521]
def lineOk (x:Line):Prop:=0≤x.ID∧x.ID≤4611686018427387904∧0≤x.Worth∧x.Worth≤4611686018427387904
set_option maxHeartbeats 4000000 in
theorem m_wordsOf (x:Line)(h:lineOk x):Maps Tryz.prog 145 [.agg (zcC x)] (.agg [wI (x.ID / 65521 / 65521),wI (x.ID / 65521%65521),wI (x.ID%65521),wI x.Day,wI x.What,wI (x.Worth / 65521),wI (x.Worth%65521)]):=by
 refine Maps.vt pok Tryz.f145 (n:=25) (rs:=[.cell 2 145]) rfl rfl rfl rfl rfl rfl fun g=>?_
 obtain⟨h1,h2,h3,h4⟩:=h
 have h5:0≤x.ID / 65521∧x.ID / 65521≤4611686018427387904:=by omega
 repeat (any_goals (first|(refine zcj ?_;(first|refine zbW ?_|(refine d_bld ?_;refine zb9 (zdm (d:=.agg [wI (x.ID / 65521 / 65521),wI (x.ID / 65521%65521),wI (x.ID%65521),wI x.Day,wI x.What,wI (x.Worth / 65521),wI (x.Worth%65521)]) rfl) ?_)|refine zcI nrX (zcL (z:=[wI 0,wI 0,wI 0,wI 0,wI 0,wI 0,wI 0]) (m:=7) rfl rfl) nrX ?_|refine zcf ?_|refine zcm ?_|refine zb2 ?_|refine zc0 ?_|refine zco ?_))|(refine zck ?_;(first|refine zbY rfl ?_|refine zbX rfl ?_|refine zb7 rfl ?_))|(with_reducible refine zce ?_;refine kEr rfl ?_)))
 rfl
def zdM (l:List Line):List Int:=(l.length:Int)::l.flatMap zd6
theorem words_len:∀l:List Line,(l.flatMap zd6).length=7*l.length
 |[]=>rfl
 |x::l=>by simp only[List.flatMap_cons,zw,words_len l,z4];simp[zd6];omega
theorem c_words (l:List Line)(hl:l.length≤1000)(h:∀x,x∈l→lineOk x):CallSp Tryz.prog 98 [.sl (l.map zcC)] [] fun d' H'=>d'=.ms 0 0 (zdM l).length (zdM l).length∧H'[0]? = some (.live 1 ((zdM l).map eI)):=by
 refine CallSp.vt pok Tryz.f98 (n:=23) (rs:=[.tmp 2]) rfl rfl rfl rfl rfl rfl rfl fun g=>?_
 repeat (any_goals (first|(refine zcj ?_;(first|refine zbW ?_|refine zb0 ?_|refine zbZ ?_|refine zb8 ?_|refine zco ?_))|(refine zck ?_;(first|refine zbY rfl ?_|refine zbX rfl ?_|refine zb3 rfl ?_))))
 refine zcl (fun j a H g'=>∃(k:Nat) (o:List Int),j=l.length-k∧k≤l.length∧o=(l.length:Int)::(l.take k).flatMap zd6∧a=[(0,.sl (l.map zcC)),(3,.ms 0 0 o.length o.length),(10,.sl (l.map zcC)),(11,wI l.length),(12,wI k)]∧H=[.live 1 (o.map eI)]∧g'=g) rfl
  ⟨_,_,_,⟨0,[(l.length:Int)],rfl,zj _,rfl,rfl,rfl,rfl⟩,fgA⟩ ?_
 rintro j a H g' ⟨k,o,rfl,hk,ho,rfl,rfl,rfl⟩
 by_cases hlt:k < l.length
 ·have hw:=m_wordsOf l[k] (h _ (zi hlt))
  have hol:o.length≤1+7*k:=by
   rw[ho,z4,words_len,zA];omega
  repeat (any_goals (first|(refine zcj ?_;(first|refine zbW ?_|refine zcI nrX (zcL (z:=[wI 0,wI 0,wI 0,wI 0,wI 0,wI 0,wI 0]) (m:=7) rfl rfl) nrX ?_|refine RT.sliceArr nrX rfl rfl rfl rfl rfl (by decide) nrX ?_|refine zeH nrX (f_appW (o:=o) (v:=zd6 l[k]) rfl rfl rfl rfl rfl rfl rfl rfl rfl (by simp[zd6];omega)) nrX ?_|refine zb0 ?_|refine zbZ ?_|refine zcf ?_|refine zb2 ?_|refine zb4 rfl (hw) rfl rfl ?_|refine zcO ?_|refine zc0 ?_|refine zco ?_))|(refine zck ?_;(first|refine zbY rfl ?_|refine zbX rfl ?_|refine zb6 rfl rfl (by first|assumption|omega) ?_|refine zb3 rfl ?_|refine zb5 rfl ?_))|with_reducible (refine kLn ?_)))
  refine⟨l.length-(k+1),by omega,_,_,⟨k+1,o++zd6 l[k],rfl,hlt,?_,rfl,rfl,rfl⟩,(Wk.mv (k:=4) (s:=0) (a':=[(0,.sl (l.map zcC)),(3,.ms 0 0 (o++zd6 l[k]).length (o++zd6 l[k]).length),(10,.sl (l.map zcC)),(11,wI l.length),(12,wI (k+1:Nat))]) rfl rfl rfl (by first|decide|exact zj _) (by first|decide|exact zj _) (by (repeat first|exact True.intro|refine And.intro ?_ ?_|exact Or.inr (Or.inr (Or.inl ⟨_,_,_,rfl,rfl⟩))|exact Or.inr (Or.inl ⟨rfl,rfl⟩)|exact Or.inl rfl)) (by (repeat first|exact bn_nil|refine bn_cons ?_ ?_|exact eI_no _ _ _|exact eDot_no _ _ _|exact bn_dead|exact bn_free|exact bn_lit rfl)) nrX).trans <| fgA⟩
  rw[ho,zo hlt,List.flatMap_append];simp
 ·repeat (any_goals (first|(refine zcj ?_;(first|refine zbW ?_|refine zb0 ?_|refine zbZ ?_|refine zb2 ?_))|(refine zck ?_;(first|refine zbY rfl ?_|refine zbX rfl ?_|refine zca rfl rfl (by first|assumption|omega) ?_|refine zci rfl ?_|refine zb7 rfl ?_))|(with_reducible refine zce ?_;refine kEr rfl ?_)))
  have e:o=zdM l:=by rw[ho,zg (by omega)];rfl
  rw[e];exact⟨rfl,rfl⟩
end Go.DL
