/- A polynomial from points with few faults. -/
import Derived.Test.YtmbbepdbjeciaaaGreatZe
import Derived.Test.YtmbbepdbjeciaaaGreatZo
import Derived.Test.YtmbbepdbjeciaaaGreatE5
import Derived.Test.YtmbbepdbjeciaaaGreatP1
set_option maxRecDepth 100000
set_option maxHeartbeats 16000000
namespace Go.DL
open Go.Proofs Go
def zdP (d:Dot):Int × Int:=(d.X,d.Y)
theorem m_decoded {k e:Nat}{ds:List Dot}(hk:k+2*e≤ds.length)(hl:ds.length≤1000)(hW:∀d,d∈ds→W d.X∧W d.Y)(hA:DM.Apart ((ds.map zdP).map Prod.fst)):
  (∀c,DM.decS k e (ds.map zdP)=some c→Maps Tryz.prog 132 [.sl (ds.map zdn),wI k,wI e] (.tup [.fl (c.map eI),wB true]))∧(DM.decS k e (ds.map zdP)=none→Maps Tryz.prog 132 [.sl (ds.map zdn),wI k,wI e] (.tup [.any,wB false])):=by
 suffices h:∀r,r=(match DM.decS k e (ds.map zdP) with|some c=>D.tup [.fl (c.map eI),wB true]|none=>.tup [.any,wB false])→Maps Tryz.prog 132 [.sl (ds.map zdn),wI k,wI e] r from
  ⟨fun c hc=>h _ (by rw[hc]),fun hc=>h _ (by rw[hc])⟩
 intro res hres
 refine Maps.vt pok Tryz.f132 (n:=109) (rs:=[.tmp 6,.tmp 7]) rfl rfl rfl rfl rfl rfl fun g=>?_
 repeat (any_goals (first|(refine zcj ?_;(first|refine zbW ?_|refine zb0 ?_|refine zbZ ?_|refine zb8 ?_))|(refine zck ?_;(first|refine zbY rfl ?_|refine zbX rfl ?_|refine zb3 rfl ?_))))
 refine zdh (i:=8) (s:=0) (H':=[.live 1 []]) 1 rfl rfl rfl ?_
 obtain⟨n,hn⟩:∃n,n=k+2*e:=⟨_,rfl⟩
 refine zcl (fun j a H g'=>∃(i b:Nat) (qs:List Nat),j=ds.length-i∧i≤ds.length∧qs.length=i∧RW H b n qs (((ds.take i).map zdP).map (DM.keyRow k e))∧a=[(0,.sl (ds.map zdn)),(1,wI k),(2,wI e),(8,.ms b 0 i i),(18,.sl (ds.map zdn)),(19,wI ds.length),(20,wI i)]∧g'=g) rfl
  ⟨_,_,_,⟨0,0,[],rfl,zj _,rfl,RW.nil rfl,rfl,rfl⟩,Wk.keep kpX⟩ ?_
 rintro j a H g' ⟨i,b,qs,rfl,hi,hqs,hR,rfl,rfl⟩
 by_cases hlt:i < ds.length
 ·obtain⟨hX,hY⟩:=hW ds[i] (zi hlt)
  have hmake:(H++[Blk.live 2 [[wI 0,wI 0]]])[H.length]? = some (.live 2 [[wI 0,wI 0]]):=zcW (t:=0) rfl rfl
  have hdot:(H++[Blk.live 2 [[wI ds[i].X,wI ds[i].Y]]])[H.length]? = some (.live 2 [[wI ds[i].X,wI ds[i].Y]]):=zcW (t:=0) rfl rfl
  repeat (any_goals (first|(refine zcj ?_;(first|refine zbW ?_|(refine zcw ?_;refine zdZ rfl (c_power _ _) rfl (d2:=D.fn (.func 143) [] [.mp (H.length+1) 0 0]) (by rw[zw];rfl) (H2:=H++[.live 2 [[wI ds[i].X,wI ds[i].Y]],.live 1 [[wI ds[i].X]]]) (by rw[zT];rfl) ?_)|refine zdo (zdR rfl hmake rfl rfl rfl rfl rfl (by decide) rfl) (zcV (i:=0) (T':=[.live 2 [[wI ds[i].X,wI ds[i].Y]]]) rfl rfl) ?_|refine zb9 (zcB rfl hdot rfl rfl rfl) ?_|refine zcI (s:=H.length+2) (by simp) (f_makeC (z:=[wI 0]) (sz:=1) (k:=0) (m:=n+1) (by':=8) rfl rfl rfl rfl rfl (by decide) rfl rfl (by omega) (by omega) (by omega) (by omega)) (H':=H++[.live 2 [[wI ds[i].X,wI ds[i].Y]],.live 1 [[wI ds[i].X]],.live 1 (List.replicate (n+1) [wI 0])]) (by rw[zT];rfl) ?_|refine zb0 ?_|refine zbZ ?_|refine zcf ?_|refine zcm ?_|refine zb2 ?_|refine zcO ?_|refine zco ?_))|(refine zck ?_;(first|refine zbY rfl ?_|refine zbX rfl ?_|refine zb6 rfl rfl (by first|assumption|omega) ?_|refine zb3 rfl ?_|refine zb5 rfl ?_))))
  have h0:=IW.start hR (X:=ds[i].X) (Y:=ds[i].Y) (es:=List.replicate (n+1) [wI 0])
  clear hmake hdot hR
  generalize H++[Blk.live 2 [[wI ds[i].X,wI ds[i].Y]],.live 1 [[wI ds[i].X]],.live 1 (List.replicate (n+1) [wI 0])]=H1 at h0 ⊢
  generalize H.length+2=q0 at h0 ⊢
  generalize H.length+1=pw at h0 ⊢
  generalize H.length=dt at h0 ⊢
  obtain⟨M,hM⟩:∃M,M=((ds.take i).map zdP).map (DM.keyRow k e):=⟨_,rfl⟩
  rw[←hM] at h0
  refine zcl (fun jj a H g2=>∃(j q cap:Nat),jj=k+e-j∧j≤k+e∧IW H b n qs M dt pw ds[i].X ds[i].Y q ((List.range j).map (DM.pw ds[i].X))∧a=[(0,.sl (ds.map zdn)),(1,wI k),(2,wI e),(8,.ms b 0 i i),(18,.sl (ds.map zdn)),(19,wI ds.length),(20,wI i),(10,.mp dt 0 0),(11,.fn (.func 143) [] [.mp pw 0 0]),(12,.ms q 0 j cap),(35,wI (k+e:Nat)),(36,wI j)]∧g2=g') rfl
   ⟨_,_,_,⟨0,q0,n+1,rfl,zj _,h0,rfl,rfl⟩,Wk.keep kpX⟩ ?_
  clear h0
  rintro jj a H2 g2 ⟨j,q,cap,rfl,hj,hI,rfl,rfl⟩
  by_cases hlj:j < k+e
  ·obtain⟨es,hes,hes2,hes3⟩:=hI.es
   rw[ze,zbp] at hes2 hes3
   have hql:=zc5 hes
   have hrow:(List.range (j+1)).map (DM.pw ds[i].X)=(List.range j).map (DM.pw ds[i].X)++[DM.pw ds[i].X j]:=by rw[zat,zW];rfl
   repeat (any_goals (first|(refine zcj ?_;(first|refine zbW ?_|(refine zcw ?_;refine zb4 rfl (m_pw hX j (by omega)) (snapP hI.pow) rfl ?_)|refine zeH (s:=H2.length+1) (by simp) (zd1 (f:=eI) (o:=(List.range j).map (DM.pw ds[i].X)) (v:=[DM.pw ds[i].X j]) (mm:=j+1) (by':=8) rfl rfl (zcs _ hes) hes2 hes3 (zcW (t:=0) rfl rfl) (by simp) rfl (by simp) rfl (by decide) rfl rfl (fun _=>⟨rfl,rfl⟩) (by simp;omega) (by simp;omega)) (ap2 hql _ _) ?_|refine zb0 ?_|refine zbZ ?_|refine zb2 ?_|refine zco ?_))|(refine zck ?_;(first|refine zbY rfl ?_|refine zbX rfl ?_|refine zb6 rfl rfl (by first|assumption|omega) ?_|refine zb3 rfl ?_|refine zb5 rfl ?_))|with_reducible (refine kLn ?_)))
   exact⟨k+e-(j+1),by omega,_,_,⟨j+1,H2.length+1,j+1,rfl,hlj,by rw[hrow];exact hI.push (v:=DM.pw ds[i].X j) (T:=[_,_]) (t:=1) rfl,rfl,rfl⟩,Wk.keep kpX⟩
  ·obtain rfl:j=k+e:=by omega
   obtain⟨R0,hR0⟩:∃R0,R0=(List.range (k+e)).map (DM.pw ds[i].X):=⟨_,rfl⟩
   have hR0l:R0.length=k+e:=by rw[hR0];simp
   rw[←hR0] at hI
   repeat (any_goals (first|(refine zcj ?_;(first|refine zbW ?_|refine zb0 ?_|refine zb2 ?_))|(refine zck ?_;(first|refine zbY rfl ?_|refine zbX rfl ?_|refine zca rfl rfl (by first|assumption|omega) ?_|refine zb3 rfl ?_|refine zci rfl ?_))))
   refine zcl (fun jj a H g3=>∃(j q cap:Nat),jj=e-j∧j≤e∧IW H b n qs M dt pw ds[i].X ds[i].Y q (R0++(List.range j).map fun j=>-ds[i].Y*DM.pw ds[i].X j%65521)∧a=[(0,.sl (ds.map zdn)),(1,wI k),(2,wI e),(8,.ms b 0 i i),(18,.sl (ds.map zdn)),(19,wI ds.length),(20,wI i),(10,.mp dt 0 0),(11,.fn (.func 143) [] [.mp pw 0 0]),(12,.ms q 0 (k+e+j) cap),(46,wI e),(47,wI j)]∧g3=g2) rfl
    ⟨_,_,_,⟨0,q,cap,rfl,zj _,by simpa using hI,rfl,rfl⟩,Wk.keep kpX⟩ ?_
   clear hI
   rintro jj a H3 g3 ⟨j,q,cap,rfl,hj,hI,rfl,rfl⟩
   have hrl:(R0++(List.range j).map fun j=>-ds[i].Y*DM.pw ds[i].X j%65521).length=k+e+j:=by simp[hR0l]
   obtain⟨es,hes,hes2,hes3⟩:=hI.es
   rw[hrl] at hes2 hes3
   have hql:=zc5 hes
   by_cases hlj:j < e
   ·have hmul:0≤ds[i].Y*DM.pw ds[i].X j∧ds[i].Y*DM.pw ds[i].X j≤4292870400:=mulB hY (DM.pw_W _ _)
    have hmul2:-ds[i].Y*DM.pw ds[i].X j=-(ds[i].Y*DM.pw ds[i].X j):=Int.neg_mul _ _
    obtain⟨hY1,hY2⟩:=hY
    have hrow:(R0++(List.range (j+1)).map fun j=>-ds[i].Y*DM.pw ds[i].X j%65521)=(R0++(List.range j).map fun j=>-ds[i].Y*DM.pw ds[i].X j%65521)++[-ds[i].Y*DM.pw ds[i].X j%65521]:=by rw[zat,zW,zT];rfl
    repeat (any_goals (first|(refine zcj ?_;(first|refine zbW ?_|refine zb0 ?_|refine zbZ ?_|refine zb2 ?_))|(refine zck ?_;(first|refine zbY rfl ?_|refine zbX rfl ?_|refine zcu [(2,[0,1]),(2,[0,1]),(2,[0,1]),(2,[0,1]),(2,[0,1]),(2,[0,1]),(2,[0,1]),(2,[0,1]),(2,[0,1]),(0,[0,1]),(1,[1]),(2,[])] 3 zcr rfl (by decide +kernel) (by decide +kernel) (by decide +kernel) nrX nrX ?_|refine zb6 rfl rfl (by first|assumption|omega) ?_|refine zb3 rfl ?_|refine zb5 rfl ?_))|(refine zd3 ?_;(first|refine zcD (by first|exact zb1 (H0:=H3) (T:=[_,_,_]) rfl|exact zcc (H1:=H3.set q .dead) (T:=[_,_,_]) (by simp) rfl) (zcB rfl (zcs _ hI.dot) rfl rfl rfl) ?_|(refine p_call ?_;refine zdH (by first|exact zb1 (H0:=H3) (T:=[_,_,_]) rfl|exact zcc (H1:=H3.set q .dead) (T:=[_,_,_]) (by simp) rfl) rfl (m_pw hX j (by omega)) (snapP (zcs _ hI.pow)) rfl ?_)|refine zeN (by first|exact zb1 (H0:=H3) (T:=[_,_,_]) rfl|exact zcc (H1:=H3.set q .dead) (T:=[_,_,_]) (by simp) rfl) (s':=H3.length+0) rfl (ze1 rfl rfl rfl) (zcV (i:=0) (T':=[.live 1 ([_].map eI),.free,.free]) rfl rfl) ?_|refine PT.apI (by first|exact zb1 (H0:=H3) (T:=[_,_,_]) rfl|exact zcc (H1:=H3.set q .dead) (T:=[_,_,_]) (by simp) rfl) (s':=H3.length+1) rfl (zd1 (f:=eI) (o:=R0++(List.range j).map fun j=>-ds[i].Y*DM.pw ds[i].X j%65521) (v:=[-ds[i].Y*DM.pw ds[i].X j%65521]) (mm:=k+e+(j+1)) (by':=8) rfl rfl (zcs _ hes) hes2 hes3 (zcW (t:=0) rfl rfl) hrl.symm rfl (by rw[hrl];rfl) rfl (by decide) rfl rfl (fun _=>⟨rfl,rfl⟩) (by rw[hrl];simp;omega) (by rw[hrl];simp;omega)) (ze0 hql rfl rfl) ?_|refine zcy (zdB (H3.set q .dead) [_,_] .free) ?_|refine zdG ((by first|exact zb1 (H0:=H3) (T:=[_,_,_]) rfl|exact zcc (H1:=H3.set q .dead) (T:=[_,_,_]) (by simp) rfl)) ?_|refine PT.asI ((by first|exact zb1 (H0:=H3) (T:=[_,_,_]) rfl|exact zcc (H1:=H3.set q .dead) (T:=[_,_,_]) (by simp) rfl)) ?_|refine zeI ((by first|exact zb1 (H0:=H3) (T:=[_,_,_]) rfl|exact zcc (H1:=H3.set q .dead) (T:=[_,_,_]) (by simp) rfl)) ?_|refine zef ((by first|exact zb1 (H0:=H3) (T:=[_,_,_]) rfl|exact zcc (H1:=H3.set q .dead) (T:=[_,_,_]) (by simp) rfl)) ?_|refine zdH ((by first|exact zb1 (H0:=H3) (T:=[_,_,_]) rfl|exact zcc (H1:=H3.set q .dead) (T:=[_,_,_]) (by simp) rfl)) rfl (m_mod (-ds[i].Y*DM.pw ds[i].X j)) nrX rfl ?_|refine PT.unI ((by first|exact zb1 (H0:=H3) (T:=[_,_,_]) rfl|exact zcc (H1:=H3.set q .dead) (T:=[_,_,_]) (by simp) rfl)) ?_))|with_reducible (refine kLn ?_)))
    exact⟨e-(j+1),by omega,_,_,⟨j+1,H3.length+1,k+e+(j+1),rfl,hlj,by rw[hrow];exact hI.push (v:=-ds[i].Y*DM.pw ds[i].X j%65521) (T:=[_,_]) (t:=1) rfl,rfl,rfl⟩,Wk.keep kpX⟩
   ·obtain rfl:j=e:=by omega
    have hmul:0≤ds[i].Y*DM.pw ds[i].X j∧ds[i].Y*DM.pw ds[i].X j≤4292870400:=mulB hY (DM.pw_W _ _)
    have hn1:k+j+j+1=n+1:=by omega
    have hrows:=hI.rw.rows
    have hbl:=hI.rw.lt.1
    obtain⟨R1,hR1⟩:∃R1,R1=R0++(List.range j).map fun j=>-ds[i].Y*DM.pw ds[i].X j%65521:=⟨_,rfl⟩
    rw[←hR1] at hI hrl hes2
    repeat (any_goals (first|(refine zcj ?_;(first|refine zbW ?_|refine zb0 ?_|refine zb2 ?_))|(refine zck ?_;(first|refine zbY rfl ?_|refine zbX rfl ?_|refine zcu [(4,[0,1,2,3]),(4,[0,1,2,3]),(4,[0,1,2,3]),(4,[0,1,2,3]),(4,[0,1,2,3]),(4,[0,1,2,3]),(4,[0,1,2,3]),(4,[0,1,2,3]),(4,[0,1,2,3]),(0,[0,1,2,3]),(1,[1,2,3]),(2,[2,3]),(3,[3]),(4,[])] 5 zcr rfl (by decide +kernel) (by decide +kernel) (by decide +kernel) nrX nrX ?_|refine zca rfl rfl (by first|assumption|omega) ?_|refine zci rfl ?_))|(refine zd3 ?_;(first|refine zcD (by first|exact zb1 (H0:=H3) (T:=[_,_,_,_,_]) rfl|exact zcc (H1:=H3.set q .dead) (T:=[_,_,_,_,_]) (by simp) rfl|exact zcc (H1:=(H3.set q .dead).set b .dead) (T:=[_,_,_,_,_]) (by simp) rfl) (zcB rfl (zcs _ hI.dot) rfl rfl rfl) ?_|(refine p_call ?_;refine zdH (by first|exact zb1 (H0:=H3) (T:=[_,_,_,_,_]) rfl|exact zcc (H1:=H3.set q .dead) (T:=[_,_,_,_,_]) (by simp) rfl|exact zcc (H1:=(H3.set q .dead).set b .dead) (T:=[_,_,_,_,_]) (by simp) rfl) rfl (m_pw hX j (by omega)) (snapP (zcs _ hI.pow)) rfl ?_)|refine zeN (by first|exact zb1 (H0:=H3) (T:=[_,_,_,_,_]) rfl|exact zcc (H1:=H3.set q .dead) (T:=[_,_,_,_,_]) (by simp) rfl|exact zcc (H1:=(H3.set q .dead).set b .dead) (T:=[_,_,_,_,_]) (by simp) rfl) (s':=H3.length+0) rfl (ze1 rfl rfl rfl) (zcV (i:=0) (T':=[.live 1 ([_].map eI),.free,.free,.free,.free]) rfl rfl) ?_|refine PT.apI (by first|exact zb1 (H0:=H3) (T:=[_,_,_,_,_]) rfl|exact zcc (H1:=H3.set q .dead) (T:=[_,_,_,_,_]) (by simp) rfl|exact zcc (H1:=(H3.set q .dead).set b .dead) (T:=[_,_,_,_,_]) (by simp) rfl) (s':=H3.length+1) rfl (zd1 (f:=eI) (o:=R1) (v:=[ds[i].Y*DM.pw ds[i].X j%65521]) (mm:=n+1) (by':=8) rfl rfl (zcs _ hes) hes2 hes3 (zcW (t:=0) rfl rfl) hrl.symm rfl (by rw[hrl];exact hn1) rfl (by decide) rfl rfl (fun _=>⟨rfl,rfl⟩) (by rw[hrl];simp;omega) (by rw[hrl];simp;omega)) (ze0 hql rfl rfl) ?_|refine zeN (by first|exact zb1 (H0:=H3) (T:=[_,_,_,_,_]) rfl|exact zcc (H1:=H3.set q .dead) (T:=[_,_,_,_,_]) (by simp) rfl|exact zcc (H1:=(H3.set q .dead).set b .dead) (T:=[_,_,_,_,_]) (by simp) rfl) (s':=H3.length+2) rfl (f_bsl (ps:=[(0,.tmp 72)]) (sz:=1) (es:=[[.ms (H3.length+1) 0 (n+1) (n+1)]]) rfl) (zcV (i:=2) (T':=[_,_,.live 1 [[.ms (H3.length+1) 0 (n+1) (n+1)]],.free,.free]) (by simp) rfl) ?_|refine PT.apI (by first|exact zb1 (H0:=H3) (T:=[_,_,_,_,_]) rfl|exact zcc (H1:=H3.set q .dead) (T:=[_,_,_,_,_]) (by simp) rfl|exact zcc (H1:=(H3.set q .dead).set b .dead) (T:=[_,_,_,_,_]) (by simp) rfl) (s':=H3.length+3) rfl (zd1 (f:=fun p=>[.ms p 0 (n+1) (n+1)]) (o:=qs) (v:=[H3.length+1]) (mm:=i+1) (by':=24) rfl rfl (zcs _ (zdy hrows hI.qb)) (by rw[zg (by simp;omega)]) (by simp;omega) (zcW (t:=2) (by simp) rfl) hqs.symm rfl (by rw[hqs];rfl) rfl (by decide) rfl rfl (fun _=>⟨rfl,rfl⟩) (by rw[hqs];simp;omega) (by rw[hqs];simp;omega)) (ze0 (by simpa using hbl) (by simp) rfl) ?_|refine zcy (zdB ((H3.set q .dead).set b .dead) [_,_,_,_] .free) ?_|refine zdG ((by first|exact zb1 (H0:=H3) (T:=[_,_,_,_,_]) rfl|exact zcc (H1:=H3.set q .dead) (T:=[_,_,_,_,_]) (by simp) rfl|exact zcc (H1:=(H3.set q .dead).set b .dead) (T:=[_,_,_,_,_]) (by simp) rfl)) ?_|refine PT.asI ((by first|exact zb1 (H0:=H3) (T:=[_,_,_,_,_]) rfl|exact zcc (H1:=H3.set q .dead) (T:=[_,_,_,_,_]) (by simp) rfl|exact zcc (H1:=(H3.set q .dead).set b .dead) (T:=[_,_,_,_,_]) (by simp) rfl)) ?_|refine zeI ((by first|exact zb1 (H0:=H3) (T:=[_,_,_,_,_]) rfl|exact zcc (H1:=H3.set q .dead) (T:=[_,_,_,_,_]) (by simp) rfl|exact zcc (H1:=(H3.set q .dead).set b .dead) (T:=[_,_,_,_,_]) (by simp) rfl)) ?_|refine zef ((by first|exact zb1 (H0:=H3) (T:=[_,_,_,_,_]) rfl|exact zcc (H1:=H3.set q .dead) (T:=[_,_,_,_,_]) (by simp) rfl|exact zcc (H1:=(H3.set q .dead).set b .dead) (T:=[_,_,_,_,_]) (by simp) rfl)) ?_|refine zdH ((by first|exact zb1 (H0:=H3) (T:=[_,_,_,_,_]) rfl|exact zcc (H1:=H3.set q .dead) (T:=[_,_,_,_,_]) (by simp) rfl|exact zcc (H1:=(H3.set q .dead).set b .dead) (T:=[_,_,_,_,_]) (by simp) rfl)) rfl (m_mod (ds[i].Y*DM.pw ds[i].X j)) nrX rfl ?_))|with_reducible (refine kLn ?_)))
    have hM2:((ds.take (i+1)).map zdP).map (DM.keyRow k j)=M++[R1++[ds[i].Y*DM.pw ds[i].X j%65521]]:=by
     rw[za9,zb hlt,zW,zW,←hM,hR1,hR0,zT];rfl
    refine⟨ds.length-(i+1),by omega,_,_,⟨i+1,H3.length+3,qs++[H3.length+1],rfl,hlt,by simp[hqs],?_,rfl,rfl⟩,Wk.keep kpX⟩
    rw[hM2]
    exact hI.done
 ·obtain rfl:i=ds.length:=by omega
  rw[z0] at hR
  have hrl:∀r,r∈(ds.map zdP).map (DM.keyRow k e)→r.length=n+1∧allW r:=fun r hr=>by
   obtain⟨p,_,rfl⟩:=zt.1 hr
   exact⟨by rw[DM.keyRow_len,hn],DM.keyRow_W k e p⟩
  have hsol:=c_solve (n:=n) (L:=ds.length) hqs (by omega) hl (by simp) hrl hR.rows (fun i hi=>hR.row i (by omega)) (fun i hi=>hR.ne i (by omega)) (fun i j hi hj=>hR.nd i j (by omega) (by omega))
  have hcast:((n:Nat):Int)=k+2*e:=by omega
  rw[hcast] at hsol
  repeat (any_goals (first|(refine zcj ?_;(first|refine zbW ?_|(refine zcw ?_;refine zdL rfl (hsol.mono ?_))|refine zb0 ?_|refine zb2 ?_))|(refine zck ?_;(first|refine zbY rfl ?_|refine zbX rfl ?_|refine zca rfl rfl (by first|assumption|omega) ?_|refine zci rfl ?_))))
  rintro d H4 (⟨q,x,rfl,hq,hx,hxW⟩|⟨y,rfl,hno⟩)
  ·have hxl:x.length=n:=hx.1
   change RT _ _ _ _ ((82,D.tup [.ms q 0 n n,wB true])::_) _ _ _
   repeat (any_goals (first|(refine zcj ?_;(first|refine zbW ?_|refine zb0 ?_|refine zbZ ?_|refine zdF ?_|refine zcv ?_))|(refine zck ?_;(first|refine VT.drawQ [none,none,none,none,none,none,none,none,none,none,none,none,none,none,none,some 0,none,none,none,none,none,none] [(4,[0,1,2,3,0],none),(4,[0,1,2,3,0],none),(4,[0,1,2,3,0],none),(4,[0,1,2,3,0],none),(4,[0,1,2,3,0],none),(4,[0,1,2,3,0],none),(4,[0,1,2,3,0],none),(4,[0,1,2,3,0],none),(4,[0,1,2,3],none),(4,[0,1,2,3],none),(4,[0,1,2,3],none),(4,[0,1,2,3],none),(4,[0,1,2,3],none),(0,[0,1,2,3],none),(1,[0,1,2,3],none),(2,[2,3],some 0),(3,[3],none),(4,[],none),(4,[],none),(4,[],none),(4,[],none),(4,[],none)] 5 zcr rfl (by decide +kernel) (by decide +kernel) (by decide +kernel) rfl (H1:=H4++[.free,.free,.free,.free,.free]) rfl ?_|refine zbY rfl ?_|refine zbX rfl ?_|refine zcb rfl rfl ?_|refine zb5 rfl ?_))))
   have hq5:∀T,(H4++T)[q]? = some (.live 1 (x.map eI)):=fun T=>zcs T hq
   have hdl:(x.drop (k+e)).length=e:=by rw[z6,hxl];omega
   have al:(x.take (k+e)).length=k+e:=by rw[zA,hxl];omega
   have bl:(x.drop (k+e)++[1]).length=e+1:=by rw[zw,hdl];rfl
   have aW:allW (x.take (k+e)):=fun z hz=>hxW z (z9 hz)
   have bW:allW (x.drop (k+e)++[1]):=fun z hz=>by
    rcases zK.1 hz with h|h
    ·exact hxW z (zaO h)
    ·rw[zC.1 h];exact⟨by decide,by decide⟩
   have mon:(x.drop (k+e)++[1]).getD e 0=1:=by
    rw[zc,zu (by omega),hdl,zaT];rfl
   have hov:=m_over (k:=k) (e:=e) (by omega) al aW bl bW mon
   have hdv:=DM.dv_ok al aW bl mon k (zf _)
   generalize DM.dvS k e (x.take (k+e)) (x.drop (k+e)++[1]) k=OR at hov hdv
   obtain⟨O,R⟩:=OR
   simp only at hov hdv
   refine QT.vI (by first|exact zb1 (H0:=H4) (T:=[_,_,_,_,_]) rfl) (f_mv (d:=.ms q 0 n n) rfl) ?_
   refine QT.vI (by first|exact zb1 (H0:=H4) (T:=[_,_,_,_,_]) rfl) (f_mv (d:=wI k) rfl) ?_
   refine QT.vI (by first|exact zb1 (H0:=H4) (T:=[_,_,_,_,_]) rfl) (f_mv (d:=wI e) rfl) ?_
   refine QT.vI (by first|exact zb1 (H0:=H4) (T:=[_,_,_,_,_]) rfl) (f_add rfl rfl (by omega) (by omega)) ?_
   refine QT.vI (by first|exact zb1 (H0:=H4) (T:=[_,_,_,_,_]) rfl) (f_mv (d:=wI k) rfl) ?_
   refine QT.vI (by first|exact zb1 (H0:=H4) (T:=[_,_,_,_,_]) rfl) (f_mv (d:=wI e) rfl) ?_
   refine QT.vI (by first|exact zb1 (H0:=H4) (T:=[_,_,_,_,_]) rfl) (f_add rfl rfl (by omega) (by omega)) ?_
   refine QT.vI (by first|exact zb1 (H0:=H4) (T:=[_,_,_,_,_]) rfl) (f_sl3O (k:=k+e) rfl rfl rfl (by omega) (by omega) (by omega) rfl (hq5 _)) ?_
   refine QT.vI (by first|exact zb1 (H0:=H4) (T:=[_,_,_,_,_]) rfl) (f_mv (d:=.ms q 0 n n) rfl) ?_
   refine QT.vI (by first|exact zb1 (H0:=H4) (T:=[_,_,_,_,_]) rfl) (f_mv (d:=wI k) rfl) ?_
   refine QT.vI (by first|exact zb1 (H0:=H4) (T:=[_,_,_,_,_]) rfl) (f_mv (d:=wI e) rfl) ?_
   refine QT.vI (by first|exact zb1 (H0:=H4) (T:=[_,_,_,_,_]) rfl) (f_add rfl rfl (by omega) (by omega)) ?_
   refine QT.vI (by first|exact zb1 (H0:=H4) (T:=[_,_,_,_,_]) rfl) (f_slLo0 (k:=k+e) rfl rfl (by omega) (by omega) (by omega) rfl (hq5 _)) ?_
   refine QT.callAt (by first|exact zb1 (H0:=H4) (T:=[_,_,_,_,_]) rfl) rfl (s':=H4.length+0) rfl (CallAt.of (off:=0) (len:=(x.drop (k+e)).length) (cap:=(x.drop (k+e)).length) (sz:=1) (es:=(x.drop (k+e)).map eI) (fun H hs=>c_clone (o:=x.drop (k+e)) (.inr (.inr (.inr ⟨_,_,_,_,rfl⟩))) ?_ (by omega)) (zd2 _ _)) (zcV (i:=0) (T':=[.live 1 ((x.drop (k+e)).map eI),.free,.free,.free,.free]) rfl rfl) ?_
   ·show zcF H (.ms q (k+e) (n-(k+e)) (n-(k+e)))=_
    simp only[zcF,hs q _ _ (hq5 _)]
    rw[if_pos (by simp;omega),zg (by simp;omega),zbf]
   refine QT.new rfl (s':=H4.length+1) rfl (ze1 rfl rfl rfl) (zcV (i:=1) (T':=[.live 1 ((x.drop (k+e)).map eI),.live 1 ([1].map eI),.free,.free,.free]) rfl rfl) ?_
   refine QT.apI (by first|exact zb1 (H0:=H4) (T:=[_,_,_,_,_]) rfl) (q:=0) rfl (s':=H4.length+2) rfl (zd1 (f:=eI) (o:=x.drop (k+e)) (v:=[1]) (mm:=e+1) (by':=8) rfl rfl (zcW (t:=0) rfl rfl) (zg (by simp)) (by simp) (zcW (t:=1) rfl rfl) rfl rfl (by rw[hdl];rfl) rfl (by decide) rfl rfl (fun _=>⟨rfl,rfl⟩) (by rw[hdl];simp;omega) (by rw[hdl];simp;omega)) (killSet (i:=0) (j:=2) (T'':=[.dead,.live 1 ([1].map eI),.live 1 ((x.drop (k+e)++[1]).map eI),.free,.free]) rfl rfl rfl) ?_
   refine QT.callMI (by first|exact zb1 (H0:=H4) (T:=[_,_,_,_,_]) rfl) rfl hov (snap2 (snapWt (k:=4) (m:=k+e) (hq5 _) (by omega)) (snapW (k:=4) (zcW (t:=2) rfl rfl) bl.symm)) rfl ?_
   generalize hB:(R.all fun n=>decide (n=0))=B at hov ⊢
   change QT _ _ _ _ _ _ ((104,D.tup [.fl (O.map eI),wB B])::_) _ _
   refine QT.vI (by first|exact zb1 (H0:=H4) (T:=[_,_,_,_,_]) rfl) (f_mv (d:=.tup [.fl (O.map eI),wB B]) rfl) ?_
   refine QT.vI (by first|exact zb1 (H0:=H4) (T:=[_,_,_,_,_]) rfl) (f_ext (d:=.fl (O.map eI)) rfl rfl) ?_
   refine QT.vI (by first|exact zb1 (H0:=H4) (T:=[_,_,_,_,_]) rfl) (f_ext (d:=wB B) rfl rfl) ?_
   refine QT.vI (by first|exact zb1 (H0:=H4) (T:=[_,_,_,_,_]) rfl) (f_as (d:=.fl (O.map eI)) rfl) ?_
   refine QT.vI (by first|exact zb1 (H0:=H4) (T:=[_,_,_,_,_]) rfl) (f_as (d:=wB B) rfl) ?_
   refine QT.done (zdB H4 [_,_,_,_] .free) ?_
   have hdec:=DM.dec_yes (x:=x) hA (by simpa using hk) (by omega) (by rw[hn] at hx;exact hx) hdv.ol hdv.oW hdv.rl hdv.rW (fun j hj=>hdv.r0 j (by omega)) hdv.ev
   cases B with
   |true=>
    rw[hdec.1 fun z hz=>of_decide_eq_true (zh.1 hB z hz)] at hres
    repeat (any_goals (first|(refine zcj ?_;(first|refine zbW ?_|refine zb0 ?_|refine zbZ ?_))|(refine zck ?_;(first|refine zbY rfl ?_|refine zbX rfl ?_|refine zb7 rfl ?_))|(with_reducible refine zce ?_;refine kEr rfl ?_)))
    exact hres.symm
   |false=>
    rw[hdec.2 fun h=>by rw[zh.2 fun z hz=>decide_eq_true (h z hz)] at hB;cases hB] at hres
    repeat (any_goals (first|(refine zcj ?_;(first|refine zbW ?_|refine zb0 ?_|refine zbZ ?_))|(refine zck ?_;(first|refine VT.retA (a':=[(6,.any),(7,wB false)]) rfl kpX ?_|refine zbY rfl ?_|refine zbX rfl ?_))|(with_reducible refine zce ?_;refine kEr rfl ?_)))
    exact hres.symm
  ·have hnone:DM.decS k e (ds.map zdP)=none:=DM.dec_no (fun p hp=>by obtain⟨d,hd,rfl⟩:=zt.1 hp;exact (hW d hd).1.1) (by rw[hn] at hno;exact hno)
   rw[hnone] at hres
   change RT _ _ _ _ ((82,D.tup [y,wB false])::_) _ _ _
   repeat (any_goals (first|(refine zcj ?_;(first|refine zbW ?_|refine zb9 (f_as (d:=y) rfl) ?_|refine zb9 (f_ext (d:=y) rfl rfl) ?_|refine zb0 ?_|refine zbZ ?_|refine zdF ?_|refine zcv ?_))|(refine zck ?_;(first|refine VT.retA (a':=[(6,.any),(7,wB false)]) rfl kpX ?_|refine zbY rfl ?_|refine zbX rfl ?_|refine zch rfl rfl ?_))|with_reducible (refine kSr ?_)|(with_reducible refine zce ?_;refine kEr rfl ?_)))
   exact hres.symm
end Go.DL
/- Rows of words that grow: each is nil, or lies in a block of its own. -/
namespace Go.DL
open Go.Proofs Go
structure CS (H:List Blk)(L N b k:Nat)(cs:List D)(M:List (List Int)):Prop where
 rows:H[b]? = some (.live 1 (cs.map fun c=>[c]))
 cl:cs.length=k
 ml:M.length=k
 row:∀i,i < k→(cs.getD i .nil=.nil∧M.getD i []=[])∨∃p m,cs.getD i .nil=.ms p 0 m m∧m=(M.getD i []).length∧H[p]? = some (.live 1 ((M.getD i []).map eI))
 lt:∀i p m,i < k→cs.getD i .nil=.ms p 0 m m→L≤p∧p < N
 nd:∀i j p m m',i < k→j < k→cs.getD i .nil=.ms p 0 m m→cs.getD j .nil=.ms p 0 m' m'→i=j
section
variable {H T:List Blk}{L N b k q i m:Nat}{cs:List D}{M:List (List Int)}
theorem CS.app (h:CS H L N b k cs M)(T:List Blk):CS (H++T) L N b k cs M:=
 ⟨zcs T h.rows,h.cl,h.ml,fun i hi=>(h.row i hi).imp id fun⟨p,m,h1,h2,h3⟩=>⟨p,m,h1,h2,zcs T h3⟩,h.lt,h.nd⟩
theorem CS.other (h:CS H L N b k cs M)(hb:q≠b)(hq:q < L∨N≤q)(x:Blk):CS (H.set q x) L N b k cs M:=
 ⟨zdy h.rows hb,h.cl,h.ml,fun i hi=>(h.row i hi).imp id fun⟨p,m,h1,h2,h3⟩=>⟨p,m,h1,h2,zdy h3 (by have:=h.lt i p m hi h1;omega)⟩,h.lt,h.nd⟩
theorem CS.mono (h:CS H L N b k cs M){N':Nat}(hN:N≤N'):CS H L N' b k cs M:=
 ⟨h.rows,h.cl,h.ml,h.row,fun i p m hi e=>by have:=h.lt i p m hi e;omega,h.nd⟩
theorem CS.cell (h:CS H L N b k cs M)(hi:i < k):(cs.map fun c=>[c])[i]? = some [cs.getD i .nil]:=by
 have:=h.cl
 rw[zl,zb (by omega),zc,zb (by omega)];rfl
theorem getD_setX {α:Type}(l:List α)(i j:Nat)(x d:α)(hi:i < l.length):(l.set i x).getD j d=if i=j then x else l.getD j d:=by
 simp only[zc,zX]
 split
 ·simp[hi]
 ·rfl
theorem CS.upd {H1:List Blk}(h:CS H L N b k cs M)(hN:N≤H.length)(hbL:b < L)(hL:L≤H.length)(hi:i < k)(hl:H1.length=H.length)(hH:∀j p m,j < k→j≠i→cs.getD j .nil=.ms p 0 m m→H1[p]? = H[p]?){v:Int}{t:Nat}(hm:m=(M.getD i []).length+1)(ht:T[t]? = some (.live 1 ((M.getD i []++[v]).map eI))):
  CS (H1.set b (.live 1 ((cs.map fun c=>[c]).set i [.ms (H.length+t) 0 m m]))++T) L (H.length+T.length) b k (cs.set i (.ms (H.length+t) 0 m m)) (M.set i (M.getD i []++[v])):=by
 have htl:=(za.1 ht).1
 have hcl:=h.cl
 have hml:=h.ml
 have hbl:b < H1.length:=by omega
 have hl1:(H1.set b (.live 1 ((cs.map fun c=>[c]).set i [.ms (H.length+t) 0 m m]))).length=H.length:=by simp[hl]
 refine⟨?_,by simp[hcl],by simp[hml],fun j hj=>?_,fun j p m' hj e=>?_,fun j j' p m1 m2 hj hj' e1 e2=>?_⟩
 ·refine zcs _ ?_
  rw[zp hbl,zaB]
 ·rw[getD_setX _ _ _ _ _ (by omega),getD_setX _ _ _ _ _ (by omega)]
  by_cases hij:i=j
  ·rw[if_pos hij,if_pos hij]
   exact .inr ⟨_,_,rfl,by simp[hm],zcW (t:=t) hl1 ht⟩
  ·rw[if_neg hij,if_neg hij]
   rcases h.row j hj with h1|⟨p,m',h1,h2,h3⟩
   ·exact .inl h1
   ·have h4:=h.lt j p m' hj h1
    refine .inr ⟨p,m',h1,h2,zcs _ (zdy ?_ (by omega))⟩
    rw[hH j p m' hj (fun e=>hij e.symm) h1];exact h3
 ·rw[getD_setX _ _ _ _ _ (by omega)] at e
  split at e
  ·cases e;omega
  ·have:=h.lt j p m' hj e;omega
 ·rw[getD_setX _ _ _ _ _ (by omega)] at e1 e2
  split at e1<;>split at e2
  ·omega
  ·cases e1
   have:=h.lt j' _ _ hj' e2;omega
  ·cases e2
   have:=h.lt j _ _ hj e1;omega
  ·exact h.nd j j' p m1 m2 hj hj' e1 e2
end
theorem f_appT0 {P:Program}{H:List Blk}{s n:Nat}{al:AL}{tx:TypeId}{x y:Operand}{α:Type}{f:α→List D}{te:TypeId}{mm m' c' b2 sz by':Nat}{v:List α}(hx:evA n al x=.nil)(hy:evA n al y=.ms b2 0 m' c')(hb2:H[b2]? = some (.live sz (v.map f)))(hm':m'=v.length)
  (hmm:v.length=mm) (he:zc3 P tx=some (te,sz)) (h0:0 < sz) (hz:(zdC P te).map List.length=some sz) (hby:P.bytesOf te=by') (hf:∀a,(f a).length=sz∧(f a).all isCell=true) (hl:v.length*by'≤140737488355328) (hl2:v.length≤9223372036854775807):
  Ap P H s n al (.call { callee:=.builtin .append,args:=#[x,y],argTypes:=#[tx,tx] }) mm none (.live sz (v.map f)):=by
 subst hm';subst hmm
 have hu:P.underlying tx=some (.slice te):=by
  unfold zc3 at he
  split at he
  ·rename_i e hu;simp only[zd] at he;obtain⟨_,_,h⟩:=he;cases h;exact hu
  ·cases he
 refine f_app hx hy ?_ (by simp) rfl
 have e2:zcF H (.ms b2 0 v.length c')=some (v.map f):=by
  simp only[zcF,hb2,zQ,ze,zf,if_true,zS]
  rw[zg (by simp)]
 have e3:∀l:List α,(l.map f).all (fun e=>e.length==sz)=true:=fun l=>zh.2 fun e he=>by
  obtain⟨a,_,rfl⟩:=zt.1 he
  simpa using (hf a).1
 have e4:(v.map f).all (fun e=>e.all isCell)=true:=zh.2 fun e he=>by
  obtain⟨a,_,rfl⟩:=zt.1 he
  exact (hf a).2
 have e1:zcF H .nil=some []:=rfl
 simp only[zew,addedD,he,hu,e1,e2]
 rw[if_pos]
 ·refine⟨h0,hz,rfl,e3 v,e4,?_,?_⟩
  ·rw[hby,ze];simpa using hl
  ·rw[ze];simpa using hl2
theorem resA_cell {P:Program}{n j b x sz m:Nat}{t:TypeId}{a:AL}{H:List Blk}{e:List D}(h1:lkN n a b=.mp x 0 0)(h2:H[x]? = some (.live sz [e]))(ht:zdT P t=some true)(hs:tsz P t=some m)(hn:e.length=m):resA P [.cell b t,.tmp j] n a H=some (.tup [.agg e,lkN n a j]):=by
 subst hn
 have h3:zeO P H t (.mp x 0 0)=some (.agg e):=by
  simp[zeO,peek,zeT,ht,hs,h2]
 simp[resA,resAL,resA1,h1,h3]
theorem CS.snapR {H:List Blk}{L N b k:Nat}{cs:List D}{M:List (List Int)}(h:CS H L N b k cs M)(hw:∀i,i < k→M.getD i []≠[])(lv:Nat):snapR (fun b=>H[b]?) (lv+3) (.ms b 0 k k)=.fl (M.map zcU):=by
 have hcl:=h.cl
 have hml:=h.ml
 have hl:(cs.map fun c=>[c]).length=k:=by rw[ze,hcl]
 have key:∀i,i < k→∃p m,cs.getD i .nil=.ms p 0 m m∧m=(M.getD i []).length∧H[p]? = some (.live 1 ((M.getD i []).map eI)):=fun i hi=>
  (h.row i hi).resolve_left fun⟨_,e⟩=>hw i hi e
 simp only[DL.snapR,h.rows,zQ,hl,zf,if_true,zS]
 rw[if_pos,zg (by rw[hl];exact zf _),zaa]
 ·refine congrArg D.fl (zaz (by simp[hcl,hml]) fun i h1 h2=>?_)
  have hi:i < k:=by simpa[hcl] using h1
  obtain⟨p,m,e1,e2,e3⟩:=key i hi
  have ec:cs[i]'(by omega)=.ms p 0 m m:=by rw[←e1,zc,zb (by omega)];rfl
  have em:M[i]'(by omega)=M.getD i []:=by rw[zc,zb (by omega)];rfl
  simp only[zbg,Function.comp,zy,z8,ec,em,zcU]
  rw[snapW (k:=lv+1) e3 e2]
 ·refine zh.2 fun e he=>?_
  obtain⟨c,hc,rfl⟩:=zt.1 he
  obtain⟨i,hi,rfl⟩:=zaH hc
  obtain⟨p,m,e1,e2,e3⟩:=key i (by omega)
  have ec:cs[i]=.ms p 0 m m:=by rw[←e1,zc,zb (by omega)];rfl
  rw[List.all_cons,List.all_nil,Bool.and_true,ec]
  simp only[frK,e3]
  exact eI_all _ _ fun x=>rfl
theorem CS.snap {H:List Blk}{L N b k:Nat}{cs:List D}{M:List (List Int)}(h:CS H L N b k cs M)(hw:∀i,i < k→M.getD i []≠[])(lv:Nat):snap (fun b=>H[b]?) (lv+2) (.ms b 0 k k)=.sl (M.map zcU):=by
 have hcl:=h.cl
 have hml:=h.ml
 have hl:(cs.map fun c=>[c]).length=k:=by rw[ze,hcl]
 have key:∀i,i < k→∃p m,cs.getD i .nil=.ms p 0 m m∧m=(M.getD i []).length∧H[p]? = some (.live 1 ((M.getD i []).map eI)):=fun i hi=>
  (h.row i hi).resolve_left fun⟨_,e⟩=>hw i hi e
 simp only[DL.snap,h.rows,zQ,hl,zf,if_true,zS]
 rw[zg (by rw[hl];exact zf _),zaa]
 refine congrArg D.sl (zaz (by simp[hcl,hml]) fun i h1 h2=>?_)
 have hi:i < k:=by simpa[hcl] using h1
 obtain⟨p,m,e1,e2,e3⟩:=key i hi
 have ec:cs[i]'(by omega)=.ms p 0 m m:=by rw[←e1,zc,zb (by omega)];rfl
 have em:M[i]'(by omega)=M.getD i []:=by rw[zc,zb (by omega)];rfl
 simp only[zbg,Function.comp,zy,z8,ec,em,zcU]
 rw[snapW (k:=lv) e3 e2]
end Go.DL
