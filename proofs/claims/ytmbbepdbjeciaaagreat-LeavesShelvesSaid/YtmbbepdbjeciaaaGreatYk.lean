/- The reference's Mend and Spare. -/
import Derived.Test.YtmbbepdbjeciaaaGreatYi
import Derived.Test.YtmbbepdbjeciaaaGreatZy
import Derived.Test.YtmbbepdbjeciaaaGreatZe
set_option maxRecDepth 100000
set_option maxHeartbeats 16000000
namespace Go.DL
open Go.Proofs Go
structure RB (H:List Blk)(k c w:Nat):Prop where
 sh:H[0]? = some (.live 3 [[wI k,wI c,wI w]])
 res:H[1]? = some (.live 3 [[.nil,.nil,wI 0]])
section
variable {H:List Blk}{k c w q:Nat}
theorem RB.app (h:RB H k c w)(T:List Blk):RB (H++T) k c w:=⟨zcs T h.sh,zcs T h.res⟩
theorem RB.other (h:RB H k c w)(h0:2≤q)(y:Blk):RB (H.set q y) k c w:=⟨zdy h.sh (by omega),zdy h.res (by omega)⟩
theorem RB.lt (h:RB H k c w):2≤H.length:=zc5 h.res
end
theorem resA_one {P:Program}{n b x sz m:Nat}{t:TypeId}{a:AL}{H:List Blk}{e:List D}(h1:lkN n a b=.mp x 0 0)(h2:H[x]? = some (.live sz [e]))(ht:zdT P t=some true)(hs:tsz P t=some m)(hn:e.length=m):resA P [.cell b t] n a H=some (.agg e):=by
 subst hn
 have h3:zeO P H t (.mp x 0 0)=some (.agg e):=by
  simp[zeO,peek,zeT,ht,hs,h2]
 simp[resA,resAL,resA1,h1,h3]
theorem snap3x {lk:Nat→Option Blk}{x x':D}{a:Int}(h:snap lk 5 x=x'):[x,wI a].map (snap lk 5)=[x',wI a]:=by
 rw[zy,h];rfl
abbrev dMR (r:(List (List Int) × List Int) × Int):D:=.agg [.fl (r.1.1.map zcU),.fl (r.1.2.map eI),wI r.2]
theorem m_RMend0 {k c w e:Nat}{l:List Leaf}(hck:zeJ ⟨k,c,w⟩)(hv:LvOk k c w l)(hkl:k≤l.length)(he:((l.length:Int)-k) / 2=(e:Int))(hc0:Maps Tryz.prog 24 [dSh ⟨k,c,w⟩,.sl (l.map zcn)] (wI 0)):
  ∀res,res=(match zeV k e l w with|some cs=>(if 2*((wrongM (zdp (k+c) w (zdD cs k)) l (k+c)).length:Int)+k≤l.length then D.agg [.fl ((zdD cs k).map zcU),.fl ((wrongM (zdp (k+c) w (zdD cs k)) l (k+c)).map eI),wI 0] else .agg [.fl [],.fl [],wI 9])|none=>.agg [.fl [],.fl [],wI 9])→Maps Tryz.prog 26 [dSh ⟨k,c,w⟩,.sl (l.map zcn)] res:=by
 intro res hres
 have hk1:=hv.k1
 have hk2:=hv.k2
 have hw1:=hv.w1
 have hw2:=hv.w2
 have hll:=hv.len
 have hke:k+2*e≤l.length:=by omega
 change Maps Tryz.prog 24 [.agg [wI k,wI c,wI w],.sl (l.map zcn)] (wI 0) at hc0
 change Maps Tryz.prog 26 [.agg [wI k,wI c,wI w],.sl (l.map zcn)] res
 refine Maps.vt pok Tryz.f26 (n:=106) (rs:=[.cell 4 46]) rfl rfl rfl rfl rfl rfl fun g=>?_
 repeat (any_goals (first|(refine zcj ?_;(first|refine zbW ?_|refine zcI rfl (zcL (z:=[.nil,.nil,wI 0]) (m:=3) rfl rfl) nrX ?_|refine zcI rfl (ze3 (z:=[.nil]) (sz:=1) (m:=k) (by':=24) rfl rfl rfl rfl rfl (by decide) rfl rfl (by omega) (by omega)) nrX ?_|refine zb0 ?_|refine zbZ ?_|refine zcf ?_|refine zcm ?_|refine zb2 ?_|(refine zcw ?_;(first|refine zb4 rfl (hc0) rfl rfl ?_|refine zb8 ?_))|refine zco ?_))|(refine zck ?_;(first|refine zbY rfl ?_|refine zbX rfl ?_|refine zcb rfl rfl ?_|refine zca rfl rfl (by first|assumption|omega) ?_|refine zb3 rfl ?_|refine zb5 rfl ?_))))
 refine zcl (fun jj a H g'=>∃(j N:Nat) (cells:List D) (cs:List (List Int)),jj=w-j∧j≤w∧zeV k e l j=some cs∧RB H k c w∧CS H 3 N 2 k cells (zdD cs k)∧N≤H.length∧a=[(1,.sl (l.map zcn)),(2,.mp 0 0 0),(4,.mp 1 0 0),(6,.ms 2 0 k k),(7,wI j)]∧g'=g) rfl
  ⟨_,_,[.live 3 [[wI k,wI c,wI w]],.live 3 [[.nil,.nil,wI 0]],.live 1 (List.replicate k [.nil])],⟨0,3,List.replicate k .nil,[],rfl,zj _,rfl,⟨rfl,rfl⟩,?_,zf _,rfl,rfl⟩,Wk.keep kpX⟩ ?_
 ·rw[rowsM_zero]
  have hn:∀i,(List.replicate k D.nil).getD i .nil=.nil:=fun i=>by
   simp only[zc,zY];split<;>rfl
  have hn2:∀i,(List.replicate k ([]:List Int)).getD i []=[]:=fun i=>by
   simp only[zc,zY];split<;>rfl
  refine⟨?_,by simp,by simp,fun i hi=>.inl ⟨hn i,hn2 i⟩,fun i p m hi h=>(by rw[hn] at h;cases h),fun i j p m m' hi hj h=>(by rw[hn] at h;cases h)⟩
  rw[zaN];rfl
 rintro jj a H g' ⟨j,N,cells,cs,rfl,hj,hcs,hMB,hCS,hN,rfl,rfl⟩
 have h4:=hMB.lt
 have h3:=zc5 hCS.rows
 by_cases hlj:j < w
 ·repeat (any_goals (first|(refine zcj ?_;(first|refine zbW ?_|refine zb9 (zcB rfl hMB.sh rfl rfl rfl) ?_|refine zb0 ?_|refine zbZ ?_|refine zcm ?_|refine zb2 ?_))|(refine zck ?_;(first|refine zbY rfl ?_|refine zbX rfl ?_|refine zb6 rfl rfl (by first|assumption|omega) ?_|refine zb3 rfl ?_|refine zb5 rfl ?_))))
  refine zdh (i:=8) (s:=H.length) (H':=H++[.live 2 []]) 2 rfl rfl rfl ?_
  obtain⟨N0,hN0⟩:∃N0,N0=H.length:=⟨_,rfl⟩
  rw[←hN0]
  refine zcl (fun jj a H1 g2=>∃(i b:Nat),jj=l.length-i∧i≤l.length∧RB H1 k c w∧CS H1 3 N0 2 k cells (zdD cs k)∧N0≤b∧H1[b]? = some (.live 2 ((zfe (l.take i) j).map zdn))∧a=[(1,.sl (l.map zcn)),(2,.mp 0 0 0),(4,.mp 1 0 0),(6,.ms 2 0 k k),(7,wI j),(8,.ms b 0 i i),(9,wI i)]∧g2=g') rfl
   ⟨_,_,H++[.live 2 []],⟨0,N0,rfl,zj _,hMB.app _,(hCS.mono (by omega)).app _,zf _,by rw[hN0];exact zcW (t:=0) rfl rfl,rfl,rfl⟩,Wk.keep kpX⟩ ?_
  rw[hN0] at*
  clear hN0 N0
  rintro jj a H1 g2 ⟨i,b,rfl,hi,hMB1,hCS1,hb,hdots,rfl,rfl⟩
  have h41:=hMB1.lt
  have h31:=zc5 hCS1.rows
  have hbl:=zc5 hdots
  by_cases hlt:i < l.length
  ·obtain⟨hwl,hwW⟩:=hv.wl l[i] (zi hlt)
   have hwj:l[i].Words.getD j 0=l[i].Words[j]'(by omega):=by rw[zc,zb (by omega)];rfl
   have hdl:(zfe (l.take i) j).length=i:=by rw[zfd,zA];omega
   repeat (any_goals (first|(refine zcj ?_;(first|refine zbW ?_|refine zb0 ?_|refine zbZ ?_|refine zb2 ?_|refine zb8 ?_))|(refine zck ?_;(first|refine zbY rfl ?_|refine zbX rfl ?_|refine zcu [(2,[0,1]),(2,[0,1]),(2,[0,1]),(2,[0,1]),(2,[0,1]),(2,[0,1]),(2,[0,1]),(2,[0,1]),(2,[0,1]),(2,[0,1]),(2,[0,1]),(2,[0,1]),(2,[0,1]),(2,[0,1]),(2,[0,1]),(0,[0,1]),(1,[1]),(2,[])] 3 zcr rfl (by decide +kernel) (by decide +kernel) (by decide +kernel) nrX nrX ?_|refine zb6 rfl rfl (by first|assumption|omega) ?_|refine zb3 rfl ?_|refine zb5 rfl ?_))|(refine zd3 ?_;(first|refine zcD (by first|exact zb1 (H0:=H1) (T:=[_,_,_]) rfl|exact zcc (H1:=H1.set b .dead) (T:=[_,_,_]) (by simp) rfl) (zdm (d:=.agg (zdn (Dot.mk l[i].Number (l[i].Words[j]'(by omega))))) rfl) ?_|refine zeN (by first|exact zb1 (H0:=H1) (T:=[_,_,_]) rfl|exact zcc (H1:=H1.set b .dead) (T:=[_,_,_]) (by simp) rfl) (s':=H1.length+0) rfl (f_bsl (ps:=[(0,.tmp 56)]) (sz:=2) (es:=[zdn (Dot.mk l[i].Number (l[i].Words[j]'(by omega)))]) rfl) (zcV (i:=0) (T':=[.live 2 [zdn (Dot.mk l[i].Number (l[i].Words[j]'(by omega)))],.free,.free]) rfl rfl) ?_|refine PT.apI (by first|exact zb1 (H0:=H1) (T:=[_,_,_]) rfl|exact zcc (H1:=H1.set b .dead) (T:=[_,_,_]) (by simp) rfl) (s':=H1.length+1) rfl (zd1 (f:=zdn) (o:=zfe (l.take i) j) (v:=[(Dot.mk l[i].Number (l[i].Words[j]'(by omega)))]) (mm:=i+1) (by':=16) rfl rfl (zcs _ hdots) (zg (by rw[ze,hdl];exact zf _)) (by rw[ze,hdl];exact zf _) (zcW (t:=0) rfl rfl) hdl.symm rfl (by rw[hdl];rfl) rfl (by decide) rfl rfl (fun _=>⟨rfl,rfl⟩) (by rw[hdl];simp;omega) (by rw[hdl];simp;omega)) (ze0 (T':=[.live 2 [zdn (Dot.mk l[i].Number (l[i].Words[j]'(by omega)))],.live 2 ((zfe (l.take i) j++[(Dot.mk l[i].Number (l[i].Words[j]'(by omega)))]).map zdn),.free]) hbl rfl rfl) ?_|refine zcy (zdB (H1.set b .dead) [_,_] .free) ?_|refine zdG ((by first|exact zb1 (H0:=H1) (T:=[_,_,_]) rfl|exact zcc (H1:=H1.set b .dead) (T:=[_,_,_]) (by simp) rfl)) ?_|refine PT.asI ((by first|exact zb1 (H0:=H1) (T:=[_,_,_]) rfl|exact zcc (H1:=H1.set b .dead) (T:=[_,_,_]) (by simp) rfl)) ?_|refine PT.ldI ((by first|exact zb1 (H0:=H1) (T:=[_,_,_]) rfl|exact zcc (H1:=H1.set b .dead) (T:=[_,_,_]) (by simp) rfl)) ?_|refine zeI ((by first|exact zb1 (H0:=H1) (T:=[_,_,_]) rfl|exact zcc (H1:=H1.set b .dead) (T:=[_,_,_]) (by simp) rfl)) ?_|refine PT.ixI ((by first|exact zb1 (H0:=H1) (T:=[_,_,_]) rfl|exact zcc (H1:=H1.set b .dead) (T:=[_,_,_]) (by simp) rfl)) ?_))|with_reducible (refine kLn ?_)))
   refine⟨l.length-(i+1),by omega,_,_,⟨i+1,H1.length+1,rfl,hlt,(hMB1.other (by omega) _).app _,(hCS1.other (by omega) (by omega) _).app _,by omega,?_,rfl,rfl⟩,Wk.keep kpX⟩
   rw[dotsL_snoc l j i hlt,hwj]
   exact zcW (t:=1) (by simp) rfl
  ·obtain rfl:i=l.length:=by omega
   rw[z0] at hdots
   have hsn:([.ms b 0 l.length l.length,wI k]:List D).map (snap (fun b=>H1[b]?) 5)=[.sl ((zfe l j).map zdn),wI k]:=by
    have h1:=snapDot (lk:=fun b=>H1[b]?) (cap:=l.length) hdots
    rw[zfd] at h1
    exact snap3x h1
   have hdec:=m_rdecode (k:=k) (e:=e) (ds:=zfe l j) (by rw[zfd];exact hkl) (by rw[zfd];exact he) (by rw[zfd];omega) (hv.dots hlj) (by rw[dotsL_num];exact hv.ap)
   cases hcol:colM k e l j with
   |none=>
    have h66:=hdec.2 hcol
    rw[colsM_none (colsM_stop hcs hcol) w (by omega)] at hres
    repeat (any_goals (first|(refine zcj ?_;(first|refine zbW ?_|(refine zcw ?_;refine zb4 rfl h66 hsn rfl ?_)|refine zb9 (zcB rfl hMB1.sh rfl rfl rfl) ?_|(refine d_bld ?_;refine zb9 (zdm (d:=.agg [.nil,.nil,wI 9]) rfl) ?_)|refine zdo (zdR rfl hMB1.res rfl rfl rfl rfl rfl (by decide) rfl) rfl ?_|refine zb0 ?_|refine zbZ ?_|refine zcm ?_|refine zb2 ?_|refine zb8 ?_|refine zdF ?_|refine zcv ?_))|(refine zck ?_;(first|refine zbY rfl ?_|refine zbX rfl ?_|refine zch rfl rfl ?_|refine zca rfl rfl (by first|assumption|omega) ?_|refine zci rfl ?_|refine zb7 rfl ?_))|(with_reducible first|refine kSr ?_|refine kBr ?_|refine kLr ?_)))
    refine kEr (resA_one (sz:=3) (e:=[.nil,.nil,wI 9]) rfl (zp (zc5 hMB1.res)) rfl rfl rfl) ?_
    exact hres.symm
   |some col=>
    have h66:=hdec.1 col hcol
    repeat (any_goals (first|(refine zcj ?_;(first|refine zbW ?_|(refine zcw ?_;refine zb4 rfl h66 hsn rfl ?_)|refine zb9 (zcB rfl hMB1.sh rfl rfl rfl) ?_|refine zb0 ?_|refine zbZ ?_|refine zcm ?_|refine zb2 ?_|refine zb8 ?_|refine zdF ?_|refine zcv ?_))|(refine zck ?_;(first|refine zbY rfl ?_|refine zbX rfl ?_|refine zcb rfl rfl ?_|refine zca rfl rfl (by first|assumption|omega) ?_|refine zb3 rfl ?_|refine zb5 rfl ?_|refine zci rfl ?_))))
    have hgood:=DM.decS_good hcol
    have hcl:=hgood.len
    have hcW:allW col:=hgood.W
    refine zcl (fun jj a H2 g3=>∃(i N:Nat) (cells:List D),jj=k-i∧i≤k∧RB H2 k c w∧CS H2 3 N 2 k cells (rowsP cs col k i)∧N≤H2.length∧a=[(1,.sl (l.map zcn)),(2,.mp 0 0 0),(4,.mp 1 0 0),(6,.ms 2 0 k k),(7,wI j),(10,.fl (col.map eI)),(12,wI i)]∧g3=g2) rfl
     ⟨_,_,H1,⟨0,H.length,cells,rfl,zj _,hMB1,by rw[rowsP_zero];exact hCS1,by omega,rfl,rfl⟩,Wk.keep kpX⟩ ?_
    clear hMB hCS hMB1 hCS1 hdots hbl hsn hdec h66 hb h41 hN h4 hres h31 h3
    rintro jj a H2 g3 ⟨i,N2,cells2,rfl,hi2,hMB2,hCS2,hN2,rfl,rfl⟩
    have h42:=hMB2.lt
    have h32:=zc5 hCS2.rows
    by_cases hlt2:i < k
    ·have hval:=m_rvalue col ((i:Int)+1) (by omega) hcW ⟨by omega,by omega⟩
     have hcell:=hCS2.cell hlt2
     rcases hCS2.row i hlt2 with⟨hc,hM⟩|⟨p,m,hc,hm,hp⟩
     ·rw[hc] at hcell
      repeat (any_goals (first|(refine zcj ?_;(first|refine zbW ?_|refine zb9 (zcB rfl hMB2.sh rfl rfl rfl) ?_|refine zb0 ?_|refine zbZ ?_|refine zcm ?_|refine zb2 ?_))|(refine zck ?_;(first|refine zbY rfl ?_|refine zbX rfl ?_|refine zcu [(3,[0,1,2]),(3,[0,1,2]),(3,[0,1,2]),(3,[0,1,2]),(3,[0,1,2]),(3,[0,1,2]),(3,[0,1,2]),(3,[0,1,2]),(3,[0,1,2]),(3,[0,1,2]),(0,[0,1,2]),(1,[1,2]),(3,[2]),(2,[2])] 4 zcr rfl (by decide +kernel) (by decide +kernel) (by decide +kernel) nrX nrX ?_|refine zb6 rfl rfl (by first|assumption|omega) ?_|refine zb3 rfl ?_|refine zb5 rfl ?_))|(refine zd3 ?_;(first|refine zcD (by first|exact zb1 (H0:=H2) (T:=[_,_,_,_]) rfl|exact zcc (H1:=H2.set 2 _) (T:=[_,_,_,_]) (by simp) rfl) (zct (k:=i) rfl rfl rfl (zcs _ hCS2.rows) rfl hlt2) ?_|refine zcD (by first|exact zb1 (H0:=H2) (T:=[_,_,_,_]) rfl|exact zcc (H1:=H2.set 2 _) (T:=[_,_,_,_]) (by simp) rfl) (zcB rfl (zcs _ hCS2.rows) hcell rfl rfl) ?_|refine zeN (by first|exact zb1 (H0:=H2) (T:=[_,_,_,_]) rfl|exact zcc (H1:=H2.set 2 _) (T:=[_,_,_,_]) (by simp) rfl) (s':=H2.length+0) rfl (ze1 rfl rfl rfl) (zcV (i:=0) (T':=[.live 1 ([zc8 col ((i:Int)+1)].map eI),.free,.free,.free]) rfl rfl) ?_|refine PT.apI (by first|exact zb1 (H0:=H2) (T:=[_,_,_,_]) rfl|exact zcc (H1:=H2.set 2 _) (T:=[_,_,_,_]) (by simp) rfl) (s':=H2.length+1) rfl (f_appT0 (f:=eI) (v:=[zc8 col ((i:Int)+1)]) (mm:=1) (by':=8) rfl rfl (zcW (t:=0) rfl rfl) rfl rfl rfl (by decide) rfl rfl (fun _=>⟨rfl,rfl⟩) (by simp) (by simp)) (zcV (i:=1) (T':=[.live 1 ([zc8 col ((i:Int)+1)].map eI),.live 1 ([zc8 col ((i:Int)+1)].map eI),.free,.free]) rfl rfl) ?_|refine zey (by first|exact zb1 (H0:=H2) (T:=[_,_,_,_]) rfl|exact zcc (H1:=H2.set 2 _) (T:=[_,_,_,_]) (by simp) rfl) (f_stV rfl (zcs _ hCS2.rows) hcell rfl rfl rfl rfl) (zD _ _ (by omega)) ?_|refine zcy (zdB (H2.set 2 _) [_,_,_] .free) ?_|refine zdG ((by first|exact zb1 (H0:=H2) (T:=[_,_,_,_]) rfl|exact zcc (H1:=H2.set 2 _) (T:=[_,_,_,_]) (by simp) rfl)) ?_|refine zef ((by first|exact zb1 (H0:=H2) (T:=[_,_,_,_]) rfl|exact zcc (H1:=H2.set 2 _) (T:=[_,_,_,_]) (by simp) rfl)) ?_|refine zdH ((by first|exact zb1 (H0:=H2) (T:=[_,_,_,_]) rfl|exact zcc (H1:=H2.set 2 _) (T:=[_,_,_,_]) (by simp) rfl)) rfl (hval) nrX rfl ?_))|with_reducible (refine kLn ?_)))
      refine⟨k-(i+1),by omega,_,_,⟨i+1,H2.length+3,cells2.set i (.ms (H2.length+1) 0 1 1),rfl,hlt2,(hMB2.other (by omega) _).app _,?_,by simp,rfl,rfl⟩,Wk.keep kpX⟩
      rw[←rowsP_set cs col hlt2]
      exact hCS2.upd (H1:=H2) hN2 (by omega) (by omega) hlt2 rfl (fun _ _ _ _ _ _=>rfl) (t:=1) (m:=1) (by rw[hM];rfl) (by rw[hM];rfl)
     ·rw[hc] at hcell
      have hpl:=hCS2.lt i p m hlt2 hc
      have hmj:m≤32:=by rw[hm,rowsP_get cs col hlt2,if_neg (zbr _),ze,colsM_len hcs];omega
      repeat (any_goals (first|(refine zcj ?_;(first|refine zbW ?_|refine zb9 (zcB rfl hMB2.sh rfl rfl rfl) ?_|refine zb0 ?_|refine zbZ ?_|refine zcm ?_|refine zb2 ?_))|(refine zck ?_;(first|refine zbY rfl ?_|refine zbX rfl ?_|refine zcu [(3,[0,1,2]),(3,[0,1,2]),(3,[0,1,2]),(3,[0,1,2]),(3,[0,1,2]),(3,[0,1,2]),(3,[0,1,2]),(3,[0,1,2]),(3,[0,1,2]),(3,[0,1,2]),(0,[0,1,2]),(1,[1,2]),(3,[2]),(2,[2])] 4 zcr rfl (by decide +kernel) (by decide +kernel) (by decide +kernel) nrX nrX ?_|refine zb6 rfl rfl (by first|assumption|omega) ?_|refine zb3 rfl ?_|refine zb5 rfl ?_))|(refine zd3 ?_;(first|refine zcD (by first|exact zb1 (H0:=H2) (T:=[_,_,_,_]) rfl|exact zcc (H1:=H2.set p .dead) (T:=[_,_,_,_]) (by simp) rfl|exact zcc (H1:=(H2.set p .dead).set 2 _) (T:=[_,_,_,_]) (by simp) rfl) (zct (k:=i) rfl rfl rfl (zcs _ hCS2.rows) rfl hlt2) ?_|refine zcD (by first|exact zb1 (H0:=H2) (T:=[_,_,_,_]) rfl|exact zcc (H1:=H2.set p .dead) (T:=[_,_,_,_]) (by simp) rfl|exact zcc (H1:=(H2.set p .dead).set 2 _) (T:=[_,_,_,_]) (by simp) rfl) (zct (k:=i) rfl rfl rfl (zcs _ (zdy hCS2.rows (by omega))) rfl hlt2) ?_|refine zcD (by first|exact zb1 (H0:=H2) (T:=[_,_,_,_]) rfl|exact zcc (H1:=H2.set p .dead) (T:=[_,_,_,_]) (by simp) rfl|exact zcc (H1:=(H2.set p .dead).set 2 _) (T:=[_,_,_,_]) (by simp) rfl) (zcB rfl (zcs _ hCS2.rows) hcell rfl rfl) ?_|refine zeN (by first|exact zb1 (H0:=H2) (T:=[_,_,_,_]) rfl|exact zcc (H1:=H2.set p .dead) (T:=[_,_,_,_]) (by simp) rfl|exact zcc (H1:=(H2.set p .dead).set 2 _) (T:=[_,_,_,_]) (by simp) rfl) (s':=H2.length+0) rfl (ze1 rfl rfl rfl) (zcV (i:=0) (T':=[.live 1 ([zc8 col ((i:Int)+1)].map eI),.free,.free,.free]) rfl rfl) ?_|refine PT.apI (by first|exact zb1 (H0:=H2) (T:=[_,_,_,_]) rfl|exact zcc (H1:=H2.set p .dead) (T:=[_,_,_,_]) (by simp) rfl|exact zcc (H1:=(H2.set p .dead).set 2 _) (T:=[_,_,_,_]) (by simp) rfl) (s':=H2.length+1) rfl (zd1 (f:=eI) (o:=(rowsP cs col k i).getD i []) (v:=[zc8 col ((i:Int)+1)]) (mm:=m+1) (by':=8) rfl rfl (zcs _ hp) (zg (by rw[ze];omega)) (by rw[ze];omega) (zcW (t:=0) rfl rfl) hm rfl (by rw[←hm];rfl) rfl (by decide) rfl rfl (fun _=>⟨rfl,rfl⟩) (by rw[←hm];simp;omega) (by rw[←hm];simp;omega)) (ze0 (T':=[.live 1 ([zc8 col ((i:Int)+1)].map eI),.live 1 (((rowsP cs col k i).getD i []++[zc8 col ((i:Int)+1)]).map eI),.free,.free]) (zc5 hp) rfl rfl) ?_|refine zey (by first|exact zb1 (H0:=H2) (T:=[_,_,_,_]) rfl|exact zcc (H1:=H2.set p .dead) (T:=[_,_,_,_]) (by simp) rfl|exact zcc (H1:=(H2.set p .dead).set 2 _) (T:=[_,_,_,_]) (by simp) rfl) (f_stV rfl (zcs _ (zdy hCS2.rows (by omega))) hcell rfl rfl rfl rfl) (zD _ _ (by rw[zE];omega)) ?_|refine zcy (zdB ((H2.set p .dead).set 2 _) [_,_,_] .free) ?_|refine zdG ((by first|exact zb1 (H0:=H2) (T:=[_,_,_,_]) rfl|exact zcc (H1:=H2.set p .dead) (T:=[_,_,_,_]) (by simp) rfl|exact zcc (H1:=(H2.set p .dead).set 2 _) (T:=[_,_,_,_]) (by simp) rfl)) ?_|refine zef ((by first|exact zb1 (H0:=H2) (T:=[_,_,_,_]) rfl|exact zcc (H1:=H2.set p .dead) (T:=[_,_,_,_]) (by simp) rfl|exact zcc (H1:=(H2.set p .dead).set 2 _) (T:=[_,_,_,_]) (by simp) rfl)) ?_|refine zdH ((by first|exact zb1 (H0:=H2) (T:=[_,_,_,_]) rfl|exact zcc (H1:=H2.set p .dead) (T:=[_,_,_,_]) (by simp) rfl|exact zcc (H1:=(H2.set p .dead).set 2 _) (T:=[_,_,_,_]) (by simp) rfl)) rfl (hval) nrX rfl ?_))|with_reducible (refine kLn ?_)))
      refine⟨k-(i+1),by omega,_,_,⟨i+1,H2.length+3,cells2.set i (.ms (H2.length+1) 0 (m+1) (m+1)),rfl,hlt2,((hMB2.other (by omega) _).other (by omega) _).app _,?_,by simp,rfl,rfl⟩,Wk.keep kpX⟩
      rw[←rowsP_set cs col hlt2]
      exact hCS2.upd (H1:=H2.set p .dead) hN2 (by omega) (by omega) hlt2 (by simp) (fun j' p' m' hj' hne hc'=>zr fun e=>hne (hCS2.nd j' i p' m' m hj' hlt2 hc' (by rw[hc,e]))) (t:=1) (m:=m+1) (by rw[hm]) rfl
    ·obtain rfl:i=k:=by omega
     rw[rowsP_all] at hCS2
     repeat (any_goals (first|(refine zcj ?_;(first|refine zbW ?_|refine zb9 (zcB rfl hMB2.sh rfl rfl rfl) ?_|refine zb0 ?_|refine zbZ ?_|refine zcm ?_|refine zb2 ?_))|(refine zck ?_;(first|refine zbY rfl ?_|refine zbX rfl ?_|refine zca rfl rfl (by first|assumption|omega) ?_|refine zci rfl ?_))|with_reducible (refine kLn ?_)))
     exact⟨w-(j+1),by omega,_,_,⟨j+1,N2,cells2,cs++[col],rfl,hlj,colsM_next hcs hcol,hMB2,hCS2,hN2,rfl,rfl⟩,Wk.keep kpX⟩
 ·obtain rfl:j=w:=by omega
  rw[hcs] at hres
  dsimp only at hres
  have hcl:=colsM_len hcs
  have hne:∀i,i < k→(zdD cs k).getD i []≠[]:=fun i hi e=>by
   rw[rowsM_get cs hi] at e
   have:=congrArg List.length e
   simp at this
   rw[this] at hcl;simp at hcl;omega
  have hwr:=m_rwrong (l:=l) (d:=zdD cs k) hck (rowsM_dataW hk2 hcl) (by omega) (fun x hx=>by have:=(hv.wl x hx).1;omega)
  change Maps Tryz.prog 84 [.agg [wI k,wI c,wI j],.sl (l.map zcn),.sl ((zdD cs k).map zcU)] _ at hwr
  have hwl:(wrongM (zdp (k+c) j (zdD cs k)) l (k+c)).length≤l.length:=DM.wrong_len _ _ _ _
  generalize wrongM (zdp (k+c) j (zdD cs k)) l (k+c)=wr at hres hwr hwl
  have hsn:([.agg [wI k,wI c,wI j],.sl (l.map zcn),.ms 2 0 k k]:List D).map (snap (fun b=>H[b]?) 5)=[.agg [wI k,wI c,wI j],.sl (l.map zcn),.sl ((zdD cs k).map zcU)]:=by
   rw[zy,zy,zy,z8,hCS.snap hne 3];rfl
  by_cases h2:2*(wr.length:Int)+k≤l.length
  ·rw[if_pos h2] at hres
   repeat (any_goals (first|(refine zcj ?_;(first|refine zbW ?_|refine zb9 (zev rfl hMB.sh rfl rfl rfl rfl) ?_|refine zb9 (zcB rfl hMB.sh rfl rfl rfl) ?_|(refine zcw ?_;refine zb4 rfl hwr hsn rfl ?_)|(refine d_bld ?_;refine zb9 (zdm (d:=.agg [.ms 2 0 k k,.fl (wr.map eI)]) rfl) ?_)|(refine d_bld ?_;refine zb9 (zdm (d:=.agg [.ms 2 0 k k,.fl (wr.map eI),wI 0]) rfl) ?_)|refine zdo (zdR rfl hMB.res rfl rfl rfl rfl rfl (by decide) rfl) rfl ?_|refine zb0 ?_|refine zbZ ?_|refine zcm ?_|refine zb2 ?_|refine zb8 ?_))|(refine zck ?_;(first|refine zbY rfl ?_|refine zbX rfl ?_|refine zca rfl rfl (by first|assumption|omega) ?_|refine zb5 rfl ?_|refine zci rfl ?_|refine zb7 rfl ?_))))
   refine kEr (resA_one (sz:=3) (e:=[.ms 2 0 k k,.fl (wr.map eI),wI 0]) rfl (zp (zc5 hMB.res)) rfl rfl rfl) ?_
   have hs1:=(hCS.other (q:=1) (by omega) (by omega) (.live 3 [[.ms 2 0 k k,.fl (wr.map eI),wI 0]])).snapR hne 1
   refine Eq.trans ?_ hres.symm
   show D.agg [snapR _ 4 (.ms 2 0 k k),.fl (wr.map eI),wI 0]=_
   rw[←hs1];rfl
  ·rw[if_neg h2] at hres
   repeat (any_goals (first|(refine zcj ?_;(first|refine zbW ?_|refine zb9 (zev rfl hMB.sh rfl rfl rfl rfl) ?_|refine zb9 (zcB rfl hMB.sh rfl rfl rfl) ?_|(refine zcw ?_;refine zb4 rfl hwr hsn rfl ?_)|(refine d_bld ?_;refine zb9 (zdm (d:=.agg [.nil,.nil,wI 9]) rfl) ?_)|refine zdo (zdR rfl hMB.res rfl rfl rfl rfl rfl (by decide) rfl) rfl ?_|refine zb0 ?_|refine zbZ ?_|refine zcm ?_|refine zb2 ?_|refine zb8 ?_))|(refine zck ?_;(first|refine zbY rfl ?_|refine zbX rfl ?_|refine zb6 rfl rfl (by first|assumption|omega) ?_|refine zca rfl rfl (by first|assumption|omega) ?_|refine zci rfl ?_|refine zb7 rfl ?_))|with_reducible (refine kSr ?_)))
   refine kEr (resA_one (sz:=3) (e:=[.nil,.nil,wI 9]) rfl (zp (zc5 hMB.res)) rfl rfl rfl) ?_
   exact hres.symm
end Go.DL
/- Contracts at given arguments, as a table for the interpreter. -/
namespace Go.DL
open Go.Proofs Go
def eqL {α:Type}(f:α→α→Bool):List α→List α→Bool
 |[],[]=>true
 |a::l,b::m=>f a b&&eqL f l m
 |_,_=>false
theorem eqL_ok {α:Type}{f:α→α→Bool}(hf:∀a b,f a b=true→a=b):∀{l m:List α},eqL f l m=true→l=m
 |[],[],_=>rfl
 |a::l,b::m,h=>by
  simp only[eqL,zJ] at h
  rw[hf a b h.1,eqL_ok hf h.2]
 |[],_::_,h=>by cases h
 |_::_,[],h=>by cases h
def eqS (f:D→D→Bool):D→D→Bool
 |.v (.int .i64 x),.v (.int .i64 y)=>decide (x=y)
 |.v (.bool x),.v (.bool y)=>decide (x=y)
 |.sl x,.sl y=>eqL (eqL f) x y
 |.fl x,.fl y=>eqL (eqL f) x y
 |.agg x,.agg y=>eqL f x y
 |.tup x,.tup y=>eqL f x y
 |.nil,.nil=>true
 |_,_=>false
theorem eqS_ok {f:D→D→Bool}(hf:∀a b,f a b=true→a=b)(a b:D)(h:eqS f a b=true):a=b:=by
 unfold eqS at h
 split at h
 ·rw[of_decide_eq_true h]
 ·rw[of_decide_eq_true h]
 ·rw[eqL_ok (fun _ _=>eqL_ok hf) h]
 ·rw[eqL_ok (fun _ _=>eqL_ok hf) h]
 ·rw[eqL_ok hf h]
 ·rw[eqL_ok hf h]
 ·rfl
 ·cases h
def eqD:Nat→D→D→Bool
 |0=>fun _ _=>false
 |n+1=>eqS (eqD n)
theorem eqD_ok:∀(n:Nat) (a b:D),eqD n a b=true→a=b
 |0,_,_,h=>by cases h
 |n+1,a,b,h=>eqS_ok (eqD_ok n) a b h
def lookE:List (FuncId × List D × D)→FuncId→List D→Option D
 |[],_,_=>none
 |e::l,g,xs=>if e.1=g∧eqL (eqD 8) e.2.1 xs=true then some e.2.2 else lookE l g xs
theorem lookE_ok {P:Program}:∀{l:List (FuncId × List D × D)} {g:FuncId} {xs:List D} {d:D},(∀e,e∈l→Maps P e.1 e.2.1 e.2.2)→lookE l g xs=some d→Maps P g xs d
 |[],_,_,_,_,h=>by cases h
 |e::l,g,xs,d,hl,h=>by
  unfold lookE at h
  split at h
  ·rename_i hc
   cases h
   have h1:=hl e (zB ..)
   rw[hc.1,eqL_ok (eqD_ok 8) hc.2] at h1
   exact h1
  ·exact lookE_ok (fun e he=>hl e (zG _ he)) h
noncomputable def C1 (l:List (FuncId × List D × D))(own:List FuncId):Tbl:=
 { C0 with
  T:=fun g xs=>match lookE l g xs with
   |some d=>some d
   |none=>tblT g xs
  own:=fun g H=>C0.own g H||own.contains g }
theorem C1_ok {l:List (FuncId × List D × D)}{own:List FuncId}(hl:∀e,e∈l→Maps Tryz.prog e.1 e.2.1 e.2.2):(C1 l own).Ok where
 map:=fun g xs d h=>by
  simp only[C1] at h
  split at h
  ·rename_i hd
   cases h
   exact lookE_ok hl hd
  ·exact tblT_ok h
 it:=C0_ok.it
 mixed:=C0_ok.mixed
 names:=C0_ok.names
 cat:=C0_ok.cat
 sp:=C0_ok.sp
def dShape (a b c:Int):D:=.agg [wI a,wI b,wI c]
def eLf (r:Int × List Int):List D:=[wI r.1,.sl (r.2.map eI)]
def dLvs (l:List (Int × List Int)):D:=.sl (l.map eLf)
def dRows (l:List (List Int)):D:=.sl (l.map fun r=>[.sl (r.map eI)])
end Go.DL
/- The chapter's examples: Mend of two leaves; of three, one of which is wrong; and what Mend of all four, one of which is wrong, calls. -/
namespace Go.DL
open Go.Proofs Go
theorem m_mend1:Maps Tryz.prog 25 [dShape 2 2 1,dLvs [(3,[11]),(4,[14])]] (.tup [.agg [.fl [[.sl [[wI 5]]],[.sl [[wI 8]]]],.fl []],wI 0]):=
 (run_ok C0_ok 300).own (by kernel_rfl)
theorem m_mend3:Maps Tryz.prog 25 [dShape 2 2 1,dLvs [(1,[5]),(2,[9]),(3,[11])]] (.tup [.agg [.fl [],.fl []],wI 9]):=
 (run_ok C0_ok 300).own (by kernel_rfl)
theorem C1_ok0 (own:List FuncId):(C1 [] own).Ok:=C1_ok fun _ h=>by cases h
theorem m_dec2:Maps Tryz.prog 132 [.sl [zdn ⟨1,5⟩,zdn ⟨2,9⟩,zdn ⟨3,11⟩,zdn ⟨4,14⟩],wI 2,wI 1] (.tup [.fl [[wI 2],[wI 3]],wB true]):=
 (run_ok (C1_ok0 [132]) 300).own (by kernel_rfl)
theorem m_whole1:Maps Tryz.prog 71 [dShape 2 2 1,dRows [[5],[8]]] (.fl [[wI 1,.sl [[wI 5]]],[wI 2,.sl [[wI 8]]],[wI 3,.sl [[wI 11]]],[wI 4,.sl [[wI 14]]]]):=
 (run_ok C0_ok 300).own (by kernel_rfl)
end Go.DL
/- The chapter's examples: Mend of four leaves, one of which is wrong. -/
namespace Go.DL
open Go.Proofs Go
def tab1:List (FuncId × List D × D):=
 [(132,[.sl [zdn ⟨1,5⟩,zdn ⟨2,9⟩,zdn ⟨3,11⟩,zdn ⟨4,14⟩],wI 2,wI 1],.tup [.fl [[wI 2],[wI 3]],wB true]),(71,[dShape 2 2 1,dRows [[5],[8]]],.fl [[wI 1,.sl [[wI 5]]],[wI 2,.sl [[wI 8]]],[wI 3,.sl [[wI 11]]],[wI 4,.sl [[wI 14]]]])]
theorem tab1_ok:∀e,e∈tab1→Maps Tryz.prog e.1 e.2.1 e.2.2:=by
 intro e he
 simp only[tab1,zH,zai,or_false] at he
 rcases he with rfl|rfl
 ·exact m_dec2
 ·exact m_whole1
theorem m_mend2:Maps Tryz.prog 25 [dShape 2 2 1,dLvs [(1,[5]),(2,[9]),(3,[11]),(4,[14])]] (.tup [.agg [.fl [[.sl [[wI 5]]],[.sl [[wI 8]]]],.fl [[wI 2]]],wI 0]):=
 (run_ok (C1_ok (own:=[132]) tab1_ok) 300).own (by kernel_rfl)
end Go.DL
/- The chapter's examples: head returns true. -/
namespace Go.DL
open Go.Proofs Go
def tab2:List (FuncId × List D × D):=
 [(25,[dShape 2 2 1,dLvs [(3,[11]),(4,[14])]],.tup [.agg [.fl [[.sl [[wI 5]]],[.sl [[wI 8]]]],.fl []],wI 0]),(25,[dShape 2 2 1,dLvs [(1,[5]),(2,[9]),(3,[11])]],.tup [.agg [.fl [],.fl []],wI 9]),(25,[dShape 2 2 1,dLvs [(1,[5]),(2,[9]),(3,[11]),(4,[14])]],.tup [.agg [.fl [[.sl [[wI 5]]],[.sl [[wI 8]]]],.fl [[wI 2]]],wI 0])]
theorem tab2_ok:∀e,e∈tab2→Maps Tryz.prog e.1 e.2.1 e.2.2:=by
 intro e he
 simp only[tab2,zH,zai,or_false] at he
 rcases he with rfl|rfl|rfl
 ·exact m_mend1
 ·exact m_mend3
 ·exact m_mend2
theorem m_head:Maps Tryz.prog 14 [] (wB true):=
 (run_ok (C1_ok (own:=[25]) tab2_ok) 300).own (isTrueD_ok (by kernel_rfl))
end Go.DL
/- The law LeavesMend. -/
namespace Go.DL
open Go.Proofs Go
theorem m_RMend (s:Shape)(l:List Leaf)(hl:l.length≤4611686018427387904)(hw:∀x,x∈l→x.Words.length≤4611686018427387904)(hsm:zcP s l=0→l.length≤12):Maps Tryz.prog 26 [dSh s,.sl (l.map zcn)] (dMR (MendS s l)):=by
 have hk:=m_RCheckLeaves s l hl hw
 unfold MendS
 by_cases h0:zcP s l=0
 ·obtain⟨hck,hv⟩:=lv_of h0 (hsm h0)
  rw[h0] at hk
  rw[if_pos h0]
  by_cases h1:(l.length:Int) < s.Data
  ·rw[if_pos h1]
   refine Maps.vt pok Tryz.f26 (n:=106) (rs:=[.cell 4 46]) rfl rfl rfl rfl rfl rfl fun g=>?_
   repeat (any_goals (first|(refine zcj ?_;(first|refine zbW ?_|refine zb0 ?_|refine zbZ ?_|refine zcf ?_|refine zcm ?_|refine zb2 ?_|(refine zcw ?_;(first|refine zb4 rfl (hk) rfl rfl ?_|refine zb8 ?_))|refine zc0 ?_|refine zco ?_|refine zdz ?_))|(refine zck ?_;(first|refine zbY rfl ?_|refine zbX rfl ?_|refine zcb rfl rfl ?_|refine zb6 rfl rfl (by first|assumption|omega) ?_|refine zb5 rfl ?_|refine zb7 rfl ?_))|with_reducible (refine kSr ?_)|(with_reducible refine zce ?_;refine kEr rfl ?_)))
   rfl
  ·rw[if_neg h1]
   have hsn:=shape_nat hck
   have hck2:=hck
   rw[hsn] at hck2
   have hk2:=hk
   rw[hsn] at hk2
   have hm:=m_RMend0 (e:=(l.length-s.Data.toNat) / 2) hck2 hv (by omega) (by omega) hk2 _ rfl
   rw[←hsn] at hm
   cases hc:zeV s.Data.toNat ((l.length-s.Data.toNat) / 2) l s.Width.toNat with
   |none=>
    rw[hc] at hm
    exact hm
   |some cs=>
    rw[hc] at hm
    dsimp only at hm ⊢
    split at hm
    ·rename_i h2
     rw[if_pos h2]
     exact hm
    ·rename_i h2
     rw[if_neg h2]
     exact hm
 ·rw[if_neg h0]
  refine Maps.vt pok Tryz.f26 (n:=106) (rs:=[.cell 4 46]) rfl rfl rfl rfl rfl rfl fun g=>?_
  repeat (any_goals (first|(refine zcj ?_;(first|refine zbW ?_|refine zb0 ?_|refine zbZ ?_|refine zcf ?_|refine zb2 ?_|refine zb4 rfl (hk) rfl rfl ?_|refine zc0 ?_|refine zco ?_|refine zdz ?_))|(refine zck ?_;(first|refine zbY rfl ?_|refine zbX rfl ?_|refine zb6 rfl rfl (by first|assumption|omega) ?_|refine zb7 rfl ?_))|with_reducible (refine kSr ?_)|(with_reducible refine zce ?_;refine kEr rfl ?_)))
  rfl
theorem MendS_small (s:Shape)(l:List Leaf):(MendS s l).1.1.length≤1000∧(∀x,x∈(MendS s l).1.1→x.length≤1000)∧(MendS s l).1.2.length≤1000:=by
 have hz:∀e:Int,((([],[]),e):(List (List Int) × List Int) × Int).1.1.length≤1000∧(∀x,x∈((([],[]),e):(List (List Int) × List Int) × Int).1.1→x.length≤1000)∧((([],[]),e):(List (List Int) × List Int) × Int).1.2.length≤1000:=fun e=>⟨zj _,fun x h=>(by cases h),zj _⟩
 unfold MendS
 by_cases h0:zcP s l=0
 ·rw[if_pos h0]
  have h40:zeJ s∧l.length≤40:=by
   unfold zcP at h0
   rcases zcX s with⟨e,hk⟩|⟨e,hk⟩
   ·rw[if_pos e] at h0
    split at h0
    ·cases h0
    ·exact⟨hk,by omega⟩
   ·rw[if_neg (by omega),e] at h0;cases h0
  obtain⟨hck,h40⟩:=h40
  split
  ·exact hz _
  ·cases hc:zeV s.Data.toNat ((l.length-s.Data.toNat) / 2) l s.Width.toNat with
   |none=>exact hz _
   |some cs=>
    dsimp only
    split
    ·have h1:=rowsM_dataW (k:=s.Data.toNat) (by omega) (colsM_len hc)
     refine⟨zR h1.1 (by decide),fun x hx=>by have:=(h1.2 x hx).1;omega,?_⟩
     have h3:l.length≤1000:=by omega
     exact zR (DM.wrong_len _ _ _ _) h3
    ·exact hz _
 ·rw[if_neg h0];exact hz _
end Go.DL
