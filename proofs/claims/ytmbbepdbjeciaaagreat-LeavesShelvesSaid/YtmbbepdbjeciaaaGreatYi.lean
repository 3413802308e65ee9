/- The reference's polynomial from points with few faults. -/
import Derived.Test.YtmbbepdbjeciaaaGreatYg
import Derived.Test.YtmbbepdbjeciaaaGreatE5
import Derived.Test.YtmbbepdbjeciaaaGreatZm
import Derived.Test.YtmbbepdbjeciaaaGreatYb
set_option maxRecDepth 100000
set_option maxHeartbeats 16000000
namespace Go.DL
open Go.Proofs Go
theorem f_appY {P:Program}{H:List Blk}{s n:Nat}{al:AL}{tx:TypeId}{x y:Operand}{α:Type}{f:α→List D}{te:TypeId}{m mm c b1 sz by':Nat}{es:List (List D)}{o v:List α}{d':D}(hx:evA n al x=.ms b1 0 m c)(hy:evA n al y=d')(hb1:H[b1]? = some (.live sz es))(hes:es.take m=o.map f)(hle:m≤es.length)(hv:zcF H d'=some (v.map f))(hm:m=o.length)
  (hmm:o.length+v.length=mm) (he:zc3 P tx=some (te,sz)) (h0:0 < sz) (hz:(zdC P te).map List.length=some sz) (hby:P.bytesOf te=by') (hf:∀a,(f a).length=sz∧(f a).all isCell=true) (hl:(o.length+v.length)*by'≤140737488355328) (hl2:o.length+v.length≤9223372036854775807) (hsb:sameB (.ms b1 0 m c) d'=false:=by exact tX18):
  Ap P H s n al (.call { callee:=.builtin .append,args:=#[x,y],argTypes:=#[tx,tx] }) mm (some b1) (.live sz ((o++v).map f)):=by
 subst hm;subst hmm
 have hu:P.underlying tx=some (.slice te):=by
  unfold zc3 at he
  split at he
  ·rename_i e hu;simp only[zd] at he;obtain⟨_,_,h⟩:=he;cases h;exact hu
  ·cases he
 refine f_app hx hy ?_ (by simp) hsb
 have e1:zcF H (.ms b1 0 o.length c)=some (o.map f):=by
  simp only[zcF,hb1,zQ,hle,if_true,zS,hes]
 have e3:∀l:List α,(l.map f).all (fun e=>e.length==sz)=true:=fun l=>zh.2 fun e he=>by
  obtain⟨a,_,rfl⟩:=zt.1 he
  simpa using (hf a).1
 have e4:(v.map f).all (fun e=>e.all isCell)=true:=zh.2 fun e he=>by
  obtain⟨a,_,rfl⟩:=zt.1 he
  exact (hf a).2
 simp only[zew,addedD,he,hu,e1,hv]
 rw[if_pos]
 ·simp only[hb1,zcZ];simp
 ·refine⟨h0,hz,e3 o,e3 v,e4,?_,?_⟩
  ·rw[hby,ze,ze];exact hl
  ·rw[ze,ze];exact hl2
theorem f_slHiY {P:Program}{H:List Blk}{s n:Nat}{al:AL}{x y:Operand}{tx te:TypeId}{a:Int}{bk len cap sz k:Nat}{es:List (List D)}(hx:evA n al x=.ms bk 0 len cap)(hy:evA n al y=wI a)(hn:a=k)(hk:k≤cap)
  (he:zc3 P tx=some (te,sz)) (hb:H[bk]? = some (.live sz es)):Val P H s n al (.slice tx x none (some y) none) (.ms bk 0 k cap):=by
 subst hn
 refine⟨?_⟩
 simp only[zcp,zc7,sliceD,he,hx,unfl,zbc,zq,hy,bndD,intD,za3,zah,false_and,if_false]
 rw[if_pos ⟨by simp[zcZ,hb],by omega,by omega,by omega⟩]
 simp[zcQ]
structure QW (H:List Blk)(b n:Nat)(ps:List Nat)(M:List (List Int))(q:Nat)(row:List Int):Prop where
 rw:RW H b n ps M
 at_:H[q]? = some (.live 1 (row.map eI))
 qb:q≠b
 qr:∀i,i < ps.length→ps.getD i 0≠q
section
variable {H:List Blk}{b n q:Nat}{ps:List Nat}{M:List (List Int)}{row:List Int}
theorem QW.start (h:RW H b n ps M)(r:List Int):QW (H++[.live 1 (r.map eI)]) b n ps M H.length r:=by
 obtain⟨h1,h2⟩:=h.lt
 exact⟨h.app _,zcW (t:=0) rfl rfl,by omega,fun i hi=>by have:=h2 i hi;omega⟩
theorem QW.app (h:QW H b n ps M q row)(T:List Blk):QW (H++T) b n ps M q row:=⟨h.rw.app T,zcs T h.at_,h.qb,h.qr⟩
theorem QW.set (h:QW H b n ps M q row)(r:List Int):QW (H.set q (.live 1 (r.map eI))) b n ps M q r:=⟨h.rw.other h.qb h.qr _,zp (zc5 h.at_),h.qb,h.qr⟩
theorem QW.done (h:QW H b n ps M q row){x:Blk}:RW (H.set b .dead++[x,.live 1 ((ps++[q]).map fun p=>[.ms p 0 (n+1) (n+1)])]) (H.length+1) n (ps++[q]) (M++[row]):=by
 obtain⟨h1,h2⟩:=h.rw.lt
 have h3:=zc5 h.at_
 have hl:(H.set b Blk.dead).length=H.length:=by simp
 have hL:=h.rw.len
 have hp:(ps++[q]).length=ps.length+1:=by simp
 refine⟨zcW (t:=1) hl rfl,fun i hi=>?_,fun i hi=>?_,fun i j hi hj he=>?_,by simp[hL]⟩
 ·rw[hp] at hi
  rw[zee _ _ _ _ hi,zee _ _ _ _ (by omega),hL]
  split
  ·rename_i hlt
   exact zcs _ (zdy (h.rw.row i hlt) fun e=>h.rw.ne i hlt e.symm)
  ·exact zcs _ (zdy h.at_ (Ne.symm h.qb))
 ·rw[hp] at hi
  rw[zee _ _ _ _ hi]
  split
  ·rename_i hlt;have:=h2 i hlt;omega
  ·omega
 ·rw[hp] at hi hj
  rw[zee _ _ _ _ hi,zee _ _ _ _ hj] at he
  split at he<;>split at he
  ·rename_i a1 a2;exact h.rw.nd i j a1 a2 he
  ·rename_i a1 a2;exact absurd he (h.qr i a1)
  ·rename_i a1 a2;exact absurd he.symm (h.qr j a2)
  ·omega
end
theorem key1 {k e j:Nat}{p:Int × Int}(h:j < k+e):(DM.keyRow k e p).getD j 0=DM.pw p.1 j:=by
 rw[DM.keyRow,zc,zk (by simpa using h)];simp[h]
theorem key2 {k e j:Nat}{p:Int × Int}(h:j < e):(DM.keyRow k e p).getD (k+e+j) 0=-p.2*DM.pw p.1 j%65521:=by
 have h1:((List.range (k+e)).map (DM.pw p.1)).length=k+e:=by simp
 rw[DM.keyRow,zc,zu (by omega),h1,Nat.add_sub_cancel_left,zk (by simpa using h)];simp[h]
theorem key3 {k e:Nat}{p:Int × Int}:(DM.keyRow k e p).getD (k+2*e) 0=p.2*DM.pw p.1 e%65521:=by
 have h1:((List.range (k+e)).map (DM.pw p.1)).length=k+e:=by simp
 have h2:((List.range e).map fun j=>-p.2*DM.pw p.1 j%65521).length=e:=by simp
 rw[DM.keyRow,zc,zu (by omega),h1,zu (by omega),h2,show k+2*e-(k+e)-e=0 by omega];rfl
theorem negm (y p:Int):(65521-y)%65521*p%65521=-y*p%65521:=by
 rw[Int.mul_emod,Int.emod_emod_of_dvd _ (Int.dvd_refl _),←Int.mul_emod,show (65521-y)*p=-y*p+p*65521 by rw[Int.sub_mul,Int.neg_mul];omega,Int.add_mul_emod_self_right]
theorem m_rdecode {k e:Nat}{ds:List Dot}(hk:k≤ds.length)(he:((ds.length:Int)-k) / 2=(e:Int))(hl:ds.length≤500)(hW:∀d,d∈ds→W d.X∧W d.Y)(hA:DM.Apart ((ds.map zdP).map Prod.fst)):
  (∀c,DM.decS k e (ds.map zdP)=some c→Maps Tryz.prog 82 [.sl (ds.map zdn),wI k] (.tup [.fl (c.map eI),wB true]))∧(DM.decS k e (ds.map zdP)=none→Maps Tryz.prog 82 [.sl (ds.map zdn),wI k] (.tup [.fl [],wB false])):=by
 suffices h:∀r,r=(match DM.decS k e (ds.map zdP) with|some c=>D.tup [.fl (c.map eI),wB true]|none=>.tup [.fl [],wB false])→Maps Tryz.prog 82 [.sl (ds.map zdn),wI k] r from
  ⟨fun c hc=>h _ (by rw[hc]),fun hc=>h _ (by rw[hc])⟩
 intro res hres
 have hke:k+2*e≤ds.length:=by omega
 obtain⟨n,hn⟩:∃n,n=k+2*e:=⟨_,rfl⟩
 refine Maps.vt pok Tryz.f82 (n:=124) (rs:=[.tmp 4,.tmp 5]) rfl rfl rfl rfl rfl rfl fun g=>?_
 repeat (any_goals (first|(refine zcj ?_;(first|refine zbW ?_|refine zb9 (f_quoE (e:=e) rfl rfl (by omega) (by omega) (by omega) he) ?_|refine zb0 ?_|refine zbZ ?_|refine zb2 ?_|refine zb8 ?_))|(refine zck ?_;(first|refine zbY rfl ?_|refine zbX rfl ?_|refine zb3 rfl ?_))))
 refine zdh (i:=8) (s:=0) (H':=[.live 1 []]) 1 rfl rfl rfl ?_
 refine zcl (fun j a H g'=>∃(i b:Nat) (qs:List Nat),j=ds.length-i∧i≤ds.length∧qs.length=i∧RW H b n qs (((ds.take i).map zdP).map (DM.keyRow k e))∧a=[(0,.sl (ds.map zdn)),(1,wI k),(6,wI e),(7,wI n),(8,.ms b 0 i i),(9,wI i)]∧g'=g) rfl
  ⟨_,_,[.live 1 []],⟨0,0,[],rfl,zj _,rfl,RW.nil rfl,rfl,rfl⟩,Wk.keep kpX⟩ ?_
 rintro j a H g' ⟨i,b,qs,rfl,hi,hqs,hR,rfl,rfl⟩
 by_cases hlt:i < ds.length
 ·obtain⟨hX,hY⟩:=hW ds[i] (zi hlt)
  obtain⟨hX1,hX2⟩:=hX
  obtain⟨hY1,hY2⟩:=hY
  obtain⟨Z,hZ⟩:∃Z:List Int,Z=List.replicate (n+1) 0:=⟨_,rfl⟩
  have hZl:Z.length=n+1:=by rw[hZ];simp
  have hrl:(DM.keyRow k e (zdP ds[i])).length=Z.length:=by rw[DM.keyRow_len,hZl,hn]
  have hzr:(List.replicate (n+1) [wI 0]:List (List D))=Z.map eI:=by rw[hZ];simp[eI]
  repeat (any_goals (first|(refine zcj ?_;(first|refine zbW ?_|refine zcI (s:=H.length) rfl (ze3 (z:=[wI 0]) (sz:=1) (m:=n+1) (by':=8) rfl rfl rfl rfl rfl (by decide) rfl (by omega) (by omega) (by omega)) (H':=H++[.live 1 (List.replicate (n+1) [wI 0])]) rfl ?_|refine zb0 ?_|refine zbZ ?_|refine zb2 ?_|refine zb8 ?_))|(refine zck ?_;(first|refine zbY rfl ?_|refine zbX rfl ?_|refine zb6 rfl rfl (by first|assumption|omega) ?_|refine zb3 rfl ?_|refine zb5 rfl ?_))))
  rw[hzr]
  have h0:=QW.start hR Z
  obtain⟨M,hM⟩:∃M,M=((ds.take i).map zdP).map (DM.keyRow k e):=⟨_,rfl⟩
  rw[←hM] at h0
  generalize H.length=q at h0 ⊢
  generalize H++[Blk.live 1 (Z.map eI)]=H1 at h0 ⊢
  refine zcl (fun jj a H g2=>∃j:Nat,jj=k+e-j∧j≤k+e∧QW H b n qs M q (zeU (DM.keyRow k e (zdP ds[i])) Z j)∧a=[(0,.sl (ds.map zdn)),(1,wI k),(6,wI e),(7,wI n),(8,.ms b 0 i i),(9,wI i),(10,.ms q 0 (n+1) (n+1)),(11,wI j)]∧g2=g') rfl
   ⟨_,_,H1,⟨0,rfl,zj _,by rw[mixL_zero];exact h0,rfl,rfl⟩,Wk.keep kpX⟩ ?_
  clear h0 hR hzr hZ
  rintro jj a H2 g2 ⟨j,rfl,hj,hQ,rfl,rfl⟩
  by_cases hlj:j < k+e
  ·have hg:=key1 (p:=zdP ds[i]) hlj
   have hset:=hQ.set (zeU (DM.keyRow k e (zdP ds[i])) Z (j+1))
   rw[←zdV hrl (by omega),hg] at hset
   repeat (any_goals (first|(refine zcj ?_;(first|refine zbW ?_|refine zb9 (zct (k:=j) rfl rfl rfl hQ.at_ rfl (by omega)) ?_|refine zdo (zeB (k:=j) rfl hQ.at_ (by rw[mixL_len hrl (by omega)];omega) rfl rfl) rfl ?_|refine zb0 ?_|refine zbZ ?_|refine zcf ?_|refine zcm ?_|refine zb2 ?_|refine zb4 rfl (m_rpower ⟨hX1,hX2⟩ j (by omega)) rfl rfl ?_|refine zcO ?_))|(refine zck ?_;(first|refine zbY rfl ?_|refine zbX rfl ?_|refine zb6 rfl rfl (by first|assumption|omega) ?_|refine zb3 rfl ?_|refine zb5 rfl ?_))|with_reducible (refine kLn ?_)))
   exact⟨k+e-(j+1),by omega,_,_,⟨j+1,rfl,hlj,by rw[←zdV hrl (by omega),hg];exact hset,rfl,rfl⟩,Wk.keep kpX⟩
  ·obtain rfl:j=k+e:=by omega
   repeat (any_goals (first|(refine zcj ?_;(first|refine zbW ?_|refine zb0 ?_|refine zbZ ?_|refine zb2 ?_))|(refine zck ?_;(first|refine zbY rfl ?_|refine zbX rfl ?_|refine zca rfl rfl (by first|assumption|omega) ?_|refine zb3 rfl ?_|refine zci rfl ?_))))
   refine zcl (fun jj a H g3=>∃j:Nat,jj=e-j∧j≤e∧QW H b n qs M q (zeU (DM.keyRow k e (zdP ds[i])) Z (k+e+j))∧a=[(0,.sl (ds.map zdn)),(1,wI k),(6,wI e),(7,wI n),(8,.ms b 0 i i),(9,wI i),(10,.ms q 0 (n+1) (n+1)),(12,wI j)]∧g3=g2) rfl
    ⟨_,_,H2,⟨0,rfl,zj _,hQ,rfl,rfl⟩,Wk.keep kpX⟩ ?_
   clear hQ
   rintro jj a H3 g3 ⟨j,rfl,hj,hQ,rfl,rfl⟩
   have hql:=zc5 hQ.at_
   by_cases hlj:j < e
   ·have hg:=key2 (k:=k) (p:=zdP ds[i]) hlj
    have hset:=hQ.set (zeU (DM.keyRow k e (zdP ds[i])) Z (k+e+j+1))
    rw[←zdV hrl (by omega),hg,←negm] at hset
    have hmul:=mulB (a:=(65521-ds[i].Y)%65521) (b:=DM.pw ds[i].X j) ⟨by omega,by omega⟩ (DM.pw_W _ _)
    repeat (any_goals (first|(refine zcj ?_;(first|refine zbW ?_|refine zb0 ?_|refine zbZ ?_|refine zb2 ?_))|(refine zck ?_;(first|refine zbY rfl ?_|refine zbX rfl ?_|refine zcu [(1,[0]),(1,[0]),(1,[0]),(1,[0]),(1,[0]),(1,[0]),(1,[0]),(1,[0]),(1,[0]),(1,[0]),(1,[0]),(1,[0]),(1,[0]),(1,[0]),(1,[0]),(1,[0]),(1,[0]),(1,[0]),(1,[0]),(1,[0]),(1,[0]),(1,[0]),(1,[0]),(0,[0])] 2 zcr rfl (by decide +kernel) (by decide +kernel) (by decide +kernel) nrX nrX ?_|refine zb6 rfl rfl (by first|assumption|omega) ?_|refine zb3 rfl ?_|refine zb5 rfl ?_))|(refine zd3 ?_;(first|refine zcD (zb1 (H0:=H3) (T:=[_,_]) rfl) (zct (k:=k+e+j) rfl rfl (by omega) (zcs _ hQ.at_) rfl (by omega)) ?_|refine zey (zb1 (H0:=H3) (T:=[_,_]) rfl) (zeB (k:=k+e+j) rfl (zcs _ hQ.at_) (by rw[mixL_len hrl (by omega)];omega) rfl rfl) (zD _ _ hql) ?_|refine zcy (dropL2 _ _ _) ?_|refine zdG ((zb1 (H0:=H3) (T:=[_,_]) rfl)) ?_|refine PT.ldI ((zb1 (H0:=H3) (T:=[_,_]) rfl)) ?_|refine zeI ((zb1 (H0:=H3) (T:=[_,_]) rfl)) ?_|refine zef ((zb1 (H0:=H3) (T:=[_,_]) rfl)) ?_|refine zdH ((zb1 (H0:=H3) (T:=[_,_]) rfl)) rfl (m_rpower ⟨hX1,hX2⟩ j (by omega)) nrX rfl ?_|refine PT.ixI ((zb1 (H0:=H3) (T:=[_,_]) rfl)) ?_))|with_reducible (refine kLn ?_)))
    exact⟨e-(j+1),by omega,_,_,⟨j+1,rfl,hlj,by rw[show k+e+(j+1)=k+e+j+1 by omega,←zdV hrl (by omega),hg,←negm];exact hset.app [.free],rfl,rfl⟩,Wk.keep kpX⟩
   ·obtain rfl:j=e:=by omega
    have hn2:k+j+j=n:=by omega
    have hg:=key3 (k:=k) (e:=j) (p:=zdP ds[i])
    rw[←hn] at hg
    rw[hn2] at hQ
    have hset:=hQ.set (zeU (DM.keyRow k j (zdP ds[i])) Z (n+1))
    rw[←zdV hrl (by omega),hg] at hset
    have hfull:zeU (DM.keyRow k j (zdP ds[i])) Z (n+1)=DM.keyRow k j (zdP ds[i]):=mixL_all' hrl hZl
    have hset2:=hset.app [.free]
    rw[←hg,zdV hrl (by omega),hfull] at hset2
    have hmul:=mulB (a:=ds[i].Y) (b:=DM.pw ds[i].X j) ⟨hY1,hY2⟩ (DM.pw_W _ _)
    obtain⟨H4,hH4⟩:∃H4,H4=H3.set q (.live 1 ((DM.keyRow k j (zdP ds[i])).map eI))++[.free]:=⟨_,rfl⟩
    have hst:((zeU (DM.keyRow k j (zdP ds[i])) Z n).set n (ds[i].Y*DM.pw ds[i].X j%65521))=DM.keyRow k j (zdP ds[i]):=by
     have h:=zdV hrl (k:=n) (by omega)
     rw[hg,hfull] at h
     exact h
    rw[←hH4] at hset2
    have hbl:=hset2.rw.lt.1
    repeat (any_goals (first|(refine zcj ?_;(first|refine zbW ?_|refine zcI (s:=H4.length) rfl (f_bsl (ps:=[(0,.tmp 96)]) (sz:=1) (es:=[[.ms q 0 (n+1) (n+1)]]) rfl) (H':=H4++[.live 1 [[.ms q 0 (n+1) (n+1)]]]) rfl ?_|refine zeH (s:=H4.length+1) (by simp) (zd1 (f:=fun p=>[.ms p 0 (n+1) (n+1)]) (o:=qs) (v:=[q]) (mm:=i+1) (by':=24) rfl rfl (zcs _ hset2.rw.rows) (zg (by rw[ze];omega)) (by rw[ze];omega) (zcW (t:=0) rfl rfl) hqs.symm rfl (by rw[hqs];rfl) rfl (by decide) rfl rfl (fun _=>⟨rfl,rfl⟩) (by rw[hqs];simp;omega) (by rw[hqs];simp;omega)) (ap2 hbl _ _) ?_|refine zb0 ?_|refine zbZ ?_|refine zb2 ?_))|(refine zck ?_;(first|refine zbY rfl ?_|refine zbX rfl ?_|refine zcu [(1,[0]),(1,[0]),(1,[0]),(1,[0]),(1,[0]),(1,[0]),(1,[0]),(1,[0]),(1,[0]),(1,[0]),(1,[0]),(1,[0]),(1,[0]),(1,[0]),(1,[0]),(1,[0]),(1,[0]),(0,[0])] 2 zcr rfl (by decide +kernel) (by decide +kernel) (by decide +kernel) nrX nrX ?_|refine zca rfl rfl (by first|assumption|omega) ?_|refine zci rfl ?_))|(refine zd3 ?_;(first|refine zcD (zb1 (H0:=H3) (T:=[_,_]) rfl) (zct (k:=n) rfl rfl rfl (zcs _ hQ.at_) rfl (by omega)) ?_|refine zey (zb1 (H0:=H3) (T:=[_,_]) rfl) (zeB (k:=n) rfl (zcs _ hQ.at_) (by rw[mixL_len hrl (by omega)];omega) rfl rfl) (zD _ _ hql) ?_|refine zcy (H':=H4) (by rw[hH4];refine (dropL2 _ _ _).trans ?_;rw[hst]) ?_|refine zdG ((zb1 (H0:=H3) (T:=[_,_]) rfl)) ?_|refine PT.ldI ((zb1 (H0:=H3) (T:=[_,_]) rfl)) ?_|refine zeI ((zb1 (H0:=H3) (T:=[_,_]) rfl)) ?_|refine zef ((zb1 (H0:=H3) (T:=[_,_]) rfl)) ?_|refine zdH ((zb1 (H0:=H3) (T:=[_,_]) rfl)) rfl (m_rpower ⟨hX1,hX2⟩ j (by omega)) nrX rfl ?_|refine PT.ixI ((zb1 (H0:=H3) (T:=[_,_]) rfl)) ?_))|with_reducible (refine kLn ?_)))
    refine⟨ds.length-(i+1),by omega,_,_,⟨i+1,H4.length+1,qs++[q],rfl,hlt,by simp[hqs],?_,rfl,rfl⟩,Wk.keep kpX⟩
    have hM2:((ds.take (i+1)).map zdP).map (DM.keyRow k j)=M++[DM.keyRow k j (zdP ds[i])]:=by
     rw[za9,zb hlt,zW,zW,←hM];rfl
    rw[hM2]
    exact hset2.done
 ·obtain rfl:i=ds.length:=by omega
  rw[z0] at hR
  have hrl:∀r,r∈(ds.map zdP).map (DM.keyRow k e)→r.length=n+1∧allW r:=fun r hr=>by
   obtain⟨p,_,rfl⟩:=zt.1 hr
   exact⟨by rw[DM.keyRow_len,hn],DM.keyRow_W k e p⟩
  have hsol:=c_rsolved (n:=n) (L:=ds.length) hqs (by omega) (by omega) (by simp) hrl hR
  repeat (any_goals (first|(refine zcj ?_;(first|refine zbW ?_|(refine zcw ?_;refine zdL rfl (hsol.mono ?_))|refine zb0 ?_|refine zb2 ?_|refine zb8 ?_))|(refine zck ?_;(first|refine zbY rfl ?_|refine zbX rfl ?_|refine zca rfl rfl (by first|assumption|omega) ?_|refine zci rfl ?_))))
  rintro d H4 (⟨q,x,rfl,hq,hx,hxW⟩|⟨rfl,hno⟩)
  ·have hxl:x.length=n:=hx.1
   change RT _ _ _ _ ((102,D.tup [.ms q 0 n n,wB true])::_) _ _ _
   have hdl:(x.drop (k+e)).length=e:=by rw[z6,hxl];omega
   have al:(x.take (k+e)).length=k+e:=by rw[zA,hxl];omega
   have bl:(x.drop (k+e)++[1]).length=e+1:=by rw[zw,hdl];rfl
   have aW:allW (x.take (k+e)):=fun z hz=>hxW z (z9 hz)
   have bW:allW (x.drop (k+e)++[1]):=fun z hz=>by
    rcases zK.1 hz with h|h
    ·exact hxW z (zaO h)
    ·rw[zC.1 h];exact⟨by decide,by decide⟩
   have mon:(x.drop (k+e)++[1]).getD e 0=1:=by
    rw[zc,zu (by omega),hdl,zaT];rfl
   have hov:=m_rdivided (k:=k) (e:=e) (by omega) al aW bl bW mon
   have hdv:=DM.dv_ok al aW bl mon k (zf _)
   have hdec:=DM.dec_yes (x:=x) (ps:=ds.map zdP) (k:=k) (e:=e) (out:=(DM.dvS k e (x.take (k+e)) (x.drop (k+e)++[1]) k).1) hA (by simpa using hke) (by omega) (by rw[hn] at hx;exact hx) hdv.ol hdv.oW hdv.rl hdv.rW (fun j hj=>hdv.r0 j (by omega)) hdv.ev
   generalize DM.dvS k e (x.take (k+e)) (x.drop (k+e)++[1]) k=OR at hov hdec
   obtain⟨O,R⟩:=OR
   simp only at hov hdec
   have hel:∀H:List Blk,H[q]? = some (.live 1 (x.map eI))→zcF H (.ms q (k+e) (n-(k+e)) (n-(k+e)))=some ((x.drop (k+e)).map eI):=fun H h=>by
    simp only[zcF,h]
    rw[if_pos (by simp;omega),zg (by simp;omega),zbf]
   have hq4:=zc5 hq
   obtain⟨r,hr,hrm⟩:∃r,r=res∧Maps Tryz.prog 136 [.sl ((x.take (k+e)).map eI),.sl ((x.drop (k+e)++[1]).map eI)] r:=by
    cases hB:R.all (fun n=>decide (n=0)) with
    |true=>
     rw[hdec.1 fun z hz=>of_decide_eq_true (zh.1 hB z hz)] at hres
     exact⟨_,hres.symm,hov.1 hB⟩
    |false=>
     rw[hdec.2 fun h=>by rw[zh.2 fun z hz=>decide_eq_true (h z hz)] at hB;cases hB] at hres
     exact⟨_,hres.symm,hov.2 hB⟩
   have hrt:∃(y:List Int) (z:Bool),res=.tup [.fl (y.map eI),wB z]:=by
    rw[hres]
    split
    ·exact⟨_,_,rfl⟩
    ·exact⟨[],_,rfl⟩
   obtain⟨y,z,hyz⟩:=hrt
   rw[hr,hyz] at hrm
   repeat (any_goals (first|(refine zcj ?_;(first|refine zbW ?_|refine zb0 ?_|refine zbZ ?_|refine zdF ?_|refine zcv ?_))|(refine zck ?_;(first|refine zd9 [] 0 [none,none,none,none,none,none,none,none,none,none,none,some 0,none,some 1,none,none,none,none,none] [(5,[0,1,2,3,4,0,1],none),(5,[0,1,2,3,4,0,1],none),(5,[0,1,2,3,4,0,1],none),(5,[0,1,2,3,4,0,1],none),(5,[0,1,2,3,4,0,1],none),(0,[0,1,2,3,4],none),(5,[0,1,2,3,4],none),(5,[0,1,2,3,4],none),(5,[0,1,2,3,4],none),(5,[0,1,2,3,4],none),(5,[0,1,2,3,4],none),(1,[1,2,3,4],some 0),(2,[0,1,2,3,4,0],none),(3,[3,4],some 1),(4,[4],none),(5,[],none),(5,[],none),(5,[],none),(5,[],none)] 6 rfl (by simp) (by simp) zcr rfl (by decide +kernel) (by decide +kernel) (by decide +kernel) rfl (H1:=H4++[.free,.free,.free,.free,.free,.free]) rfl ?_|refine zbY rfl ?_|refine zbX rfl ?_|refine zcb rfl rfl ?_|refine zb5 rfl ?_|refine zb7 rfl ?_))|(with_reducible refine zce ?_;refine kEr rfl ?_)|(refine d_ST ?_;(first|refine zdA (f_slHiY (k:=k+e) rfl rfl (by omega) (by omega) rfl (mskR (zcs _ hq) rhX)) ?_|refine zdA (f_slLo0 (k:=k+e) rfl rfl (by omega) (by omega) (by omega) rfl (mskR (zcs _ hq) rhX)) ?_|refine ST.new rfl (s':=H4.length+0) rfl (f_bsl (ps:=[]) (sz:=1) (es:=[]) rfl) (zcV (i:=0) (T':=[.live 1 [],.free,.free,.free,.free,.free]) rfl rfl) ?_|refine ST.new rfl (s':=H4.length+2) rfl (ze1 rfl rfl rfl) (zcV (i:=2) (T':=[.dead,.live 1 ((x.drop (k+e)).map eI),.live 1 ([1].map eI),.free,.free,.free]) rfl rfl) ?_|refine ST.ap (q:=0) (b:=H4.length+0) rfl rfl (s':=H4.length+1) rfl (f_appY (f:=eI) (o:=[]) (v:=x.drop (k+e)) (mm:=e) (by':=8) rfl rfl (mskR (zcW (t:=0) rfl rfl) rhX) rfl (zj _) (hel _ (mskR (zcs _ hq) rhX)) rfl (by rw[hdl];simp) rfl (by decide) rfl rfl (fun _=>⟨rfl,rfl⟩) (by rw[hdl];simp;omega) (by rw[hdl];simp;omega)) (killSet (i:=0) (j:=1) (T'':=[.dead,.live 1 ((x.drop (k+e)).map eI),.free,.free,.free,.free]) rfl rfl rfl) ?_|refine ST.ap (q:=1) (b:=H4.length+1) rfl rfl (s':=H4.length+3) rfl (zd1 (f:=eI) (o:=x.drop (k+e)) (v:=[1]) (mm:=e+1) (by':=8) rfl rfl (mskR (zcW (t:=1) rfl rfl) rhX) (zg (by rw[ze,hdl];exact zf _)) (by rw[ze,hdl];exact zf _) (mskR (zcW (t:=2) rfl rfl) rhX) hdl.symm rfl (by rw[hdl];rfl) rfl (by decide) rfl rfl (fun _=>⟨rfl,rfl⟩) (by rw[hdl];simp;omega) (by rw[hdl];simp;omega)) (killSet (i:=1) (j:=3) (T'':=[.dead,.dead,.live 1 ([1].map eI),.live 1 ((x.drop (k+e)++[1]).map eI),.free,.free]) rfl rfl rfl) ?_|refine ST.callM rfl hrm (snap2 (snapWt (k:=4) (m:=k+e) (mskR (zcs _ hq) rhX) (by omega)) (snapW (k:=4) (mskR (zcW (t:=3) rfl rfl) rhX) bl.symm)) rfl ?_|refine zdA (f_ext (d:=.fl (y.map eI)) rfl rfl) ?_|refine zdA (f_ext (d:=wB z) rfl rfl) ?_|refine zdA (f_as (d:=.fl (y.map eI)) rfl) ?_|refine zdA (f_as (d:=wB z) rfl) ?_|refine zeC (zdB H4 [_,_,_,_,_] .free) ?_|refine ST.mvA ?_|refine ST.bnA ?_))))
   exact hyz.symm
  ·have hnone:DM.decS k e (ds.map zdP)=none:=DM.dec_no (fun p hp=>by obtain⟨d,hd,rfl⟩:=zt.1 hp;exact (hW d hd).1.1) (by rw[hn] at hno;exact hno)
   rw[hnone] at hres
   change RT _ _ _ _ ((102,D.tup [.nil,wB false])::_) _ _ _
   repeat (any_goals (first|(refine zcj ?_;(first|refine zbW ?_|refine zb9 (f_ext (d:=.nil) rfl rfl) ?_|refine zb0 ?_|refine zbZ ?_|refine zdF ?_|refine zcv ?_))|(refine zck ?_;(first|refine zbY rfl ?_|refine zbX rfl ?_|refine zch rfl rfl ?_|refine zb7 rfl ?_))|with_reducible (refine kSr ?_)|(with_reducible refine zce ?_;refine kEr rfl ?_)))
   exact hres.symm
end Go.DL
/- Mend and Spare. -/
namespace Go.DL
open Go.Proofs Go
theorem ckl_ok {s:Shape}:∀{l seen:List Leaf},cklS s seen l=0→(∀x,x∈l→zeF s x=true∧numIn seen x.Number=false)∧l.Pairwise (fun x y=>x.Number≠y.Number)
 |[],_,_=>⟨fun x h=>(by cases h),zbb⟩
 |x::r,seen,h=>by
  rw[cklS] at h
  split at h
  ·rename_i h1
   split at h
   ·cases h
   ·rename_i h2
    obtain⟨i1,i2⟩:=ckl_ok h
    have h3:∀y,y∈r→numIn seen y.Number=false∧x.Number≠y.Number:=fun y hy=>by
     have:=(i1 y hy).2
     simp only[numIn,List.any_append,zbG,List.any_cons,List.any_nil,decide_eq_false_iff_not,and_true] at this
     exact⟨this.1,this.2⟩
    refine⟨fun y hy=>?_,zam.2 ⟨fun y hy=>(h3 y hy).2,i2⟩⟩
    rcases zH.1 hy with rfl|hy
    ·exact⟨h1,by simpa using h2⟩
    ·exact⟨(i1 y hy).1,(h3 y hy).1⟩
  ·cases h
theorem lv_of {s:Shape}{l:List Leaf}(h:zcP s l=0)(hl:l.length≤12):zeJ s∧LvOk s.Data.toNat s.Checks.toNat s.Width.toNat l:=by
 unfold zcP at h
 rcases zcX s with⟨e,hk⟩|⟨e,hk⟩
 ·rw[if_pos e,if_neg (by omega)] at h
  obtain⟨h1,h2⟩:=ckl_ok h
  have key:∀x,x∈l→(1≤x.Number∧x.Number≤s.Data+s.Checks)∧(x.Words.length:Int)=s.Width∧allW x.Words:=fun x hx=>by
   have:=(h1 x hx).1
   simp only[zeF,zJ,decide_eq_true_eq] at this
   exact⟨this.1,this.2.1,allW_of this.2.2⟩
  refine⟨hk,by omega,by omega,by omega,by omega,by omega,hl,fun x hx=>?_,fun x hx=>?_,fun n hn=>?_,fun i j hij hj=>?_⟩
  ·have:=(key x hx).1;omega
  ·have:=(key x hx).2;exact⟨by omega,this.2⟩
  ·obtain⟨x,hx,rfl⟩:=zt.1 hn
   have:=(key x hx).1;omega
  ·rw[ze] at hj
   simp only[zc,zl]
   rw[zb (by omega),zb hj]
   exact zaZ.1 h2 i j (by omega) hj hij
 ·rw[if_neg (by omega),e] at h;cases h
theorem shape_nat {s:Shape}(h:zeJ s):s=⟨(s.Data.toNat:Nat),(s.Checks.toNat:Nat),(s.Width.toNat:Nat)⟩:=by
 obtain⟨a,b,c⟩:=s
 simp only[Shape.mk.injEq]
 simp only[zeJ] at h
 omega
noncomputable def MendS (s:Shape)(l:List Leaf):(List (List Int) × List Int) × Int:=
 if zcP s l=0 then
  if (l.length:Int) < s.Data then (([],[]),5) else
  match zeV s.Data.toNat ((l.length-s.Data.toNat) / 2) l s.Width.toNat with
  |none=>(([],[]),9)
  |some cs=>if 2*((wrongM (zdp (s.Data.toNat+s.Checks.toNat) s.Width.toNat (zdD cs s.Data.toNat)) l (s.Data.toNat+s.Checks.toNat)).length:Int)+s.Data.toNat≤l.length then
    ((zdD cs s.Data.toNat,wrongM (zdp (s.Data.toNat+s.Checks.toNat) s.Width.toNat (zdD cs s.Data.toNat)) l (s.Data.toNat+s.Checks.toNat)),0) else (([],[]),9)
 else (([],[]),zcP s l)
abbrev dM (r:List (List Int) × List Int):D:=.agg [.fl (r.1.map zcU),.fl (r.2.map eI)]
theorem m_Mend (s:Shape)(l:List Leaf)(hl:l.length≤4611686018427387904)(hw:∀x,x∈l→x.Words.length≤4611686018427387904)(hsm:zcP s l=0→l.length≤12):Maps Tryz.prog 25 [dSh s,.sl (l.map zcn)] (.tup [dM (MendS s l).1,wI (MendS s l).2]):=by
 refine Maps.vt pok Tryz.f25 (n:=32) (rs:=[.cell 4 42,.tmp 5]) rfl rfl rfl rfl rfl rfl fun g=>?_
 have hk:=m_CheckLeaves s l hl hw
 unfold MendS
 by_cases h0:zcP s l=0
 ·obtain⟨hck,hv⟩:=lv_of h0 (hsm h0)
  rw[h0] at hk
  rw[if_pos h0]
  by_cases h1:(l.length:Int) < s.Data
  ·rw[if_pos h1]
   repeat (any_goals (first|(refine zcj ?_;(first|refine zbW ?_|refine zb0 ?_|refine zbZ ?_|refine zcf ?_|refine zcm ?_|refine zb2 ?_|(refine zcw ?_;(first|refine zb4 rfl (hk) rfl rfl ?_|refine zb8 ?_))|refine zc0 ?_|refine zco ?_|refine zdz ?_))|(refine zck ?_;(first|refine zbY rfl ?_|refine zbX rfl ?_|refine zcb rfl rfl ?_|refine zb6 rfl rfl (by first|assumption|omega) ?_|refine zb5 rfl ?_|refine zb7 rfl ?_))|with_reducible (refine kSr ?_)|(with_reducible refine zce ?_;refine kEr rfl ?_)))
   rfl
  ·rw[if_neg h1]
   have hsn:=shape_nat hck
   have hm:=m_mend (e:=(l.length-s.Data.toNat) / 2) hv (by omega) (by omega)
   rw[←hsn] at hm
   cases hc:zeV s.Data.toNat ((l.length-s.Data.toNat) / 2) l s.Width.toNat with
   |none=>
    have hm2:=hm.1 hc
    repeat (any_goals (first|(refine zcj ?_;(first|refine zbW ?_|refine zb0 ?_|refine zbZ ?_|refine zcf ?_|refine zcm ?_|refine zb2 ?_|(refine zcw ?_;(first|refine zb4 rfl (hk) rfl rfl ?_|refine zb4 rfl (hm2) rfl rfl ?_|refine zb8 ?_))|refine zdF ?_|refine zcv ?_|refine zc0 ?_|refine zco ?_|refine zdz ?_))|(refine zck ?_;(first|refine zbY rfl ?_|refine zbX rfl ?_|refine zch rfl rfl ?_|refine zcb rfl rfl ?_|refine zca rfl rfl (by first|assumption|omega) ?_|refine zb5 rfl ?_|refine zb7 rfl ?_))|with_reducible (refine kSr ?_)|(with_reducible refine zce ?_;refine kEr rfl ?_)))
    rfl
   |some cs=>
    obtain⟨wr,hwr⟩:∃wr,wr=wrongM (zdp (s.Data.toNat+s.Checks.toNat) s.Width.toNat (zdD cs s.Data.toNat)) l (s.Data.toNat+s.Checks.toNat):=⟨_,rfl⟩
    have hm2:=hm.2 cs wr hc hwr
    dsimp only
    rw[←hwr]
    by_cases h2:2*(wr.length:Int)+s.Data.toNat≤l.length
    ·rw[decide_eq_true h2] at hm2
     rw[if_pos h2]
     repeat (any_goals (first|(refine zcj ?_;(first|refine zbW ?_|refine zb0 ?_|refine zbZ ?_|refine zcf ?_|refine zcm ?_|refine zb2 ?_|(refine zcw ?_;(first|refine zb4 rfl (hk) rfl rfl ?_|refine zb4 rfl (hm2) rfl rfl ?_|refine zb8 ?_))|refine zdF ?_|refine zcv ?_|refine zc0 ?_|refine zco ?_))|(refine zck ?_;(first|refine zbY rfl ?_|refine zbX rfl ?_|refine zcb rfl rfl ?_|refine zca rfl rfl (by first|assumption|omega) ?_|refine zb5 rfl ?_|refine zb7 rfl ?_))|(with_reducible refine zce ?_;refine kEr rfl ?_)))
     rfl
    ·rw[decide_eq_false h2] at hm2
     rw[if_neg h2]
     repeat (any_goals (first|(refine zcj ?_;(first|refine zbW ?_|refine zb0 ?_|refine zbZ ?_|refine zcf ?_|refine zcm ?_|refine zb2 ?_|(refine zcw ?_;(first|refine zb4 rfl (hk) rfl rfl ?_|refine zb4 rfl (hm2) rfl rfl ?_|refine zb8 ?_))|refine zdF ?_|refine zcv ?_|refine zc0 ?_|refine zco ?_|refine zdz ?_))|(refine zck ?_;(first|refine zbY rfl ?_|refine zbX rfl ?_|refine zch rfl rfl ?_|refine zcb rfl rfl ?_|refine zca rfl rfl (by first|assumption|omega) ?_|refine zb5 rfl ?_|refine zb7 rfl ?_))|with_reducible (refine kSr ?_)|(with_reducible refine zce ?_;refine kEr rfl ?_)))
     rfl
 ·rw[if_neg h0]
  repeat (any_goals (first|(refine zcj ?_;(first|refine zbW ?_|refine zb0 ?_|refine zbZ ?_|refine zcf ?_|refine zb2 ?_|refine zb4 rfl (hk) rfl rfl ?_|refine zc0 ?_|refine zco ?_|refine zdz ?_))|(refine zck ?_;(first|refine zbY rfl ?_|refine zbX rfl ?_|refine zb6 rfl rfl (by first|assumption|omega) ?_|refine zb7 rfl ?_))|with_reducible (refine kSr ?_)|(with_reducible refine zce ?_;refine kEr rfl ?_)))
  rfl
end Go.DL
/- The reference's list of wrong leaves. -/
namespace Go.DL
open Go.Proofs Go
theorem m_rwrong {k c w:Nat}{l:List Leaf}{d:List (List Int)}(hck:zeJ ⟨k,c,w⟩)(hd:dataW w d)(hl:l.length≤40)(hw:∀x,x∈l→x.Words.length≤1000):
  Maps Tryz.prog 84 [dSh ⟨k,c,w⟩,.sl (l.map zcn),.sl (d.map zcU)] (.fl ((wrongM (zdp (k+c) w d) l (k+c)).map eI)):=by
 have hwhole:=m_Rwhole ⟨k,c,w⟩ d hck (by simpa using hd)
 have hc3:=hck.2.1
 have hc4:=hck.1
 have hc5:=hck.2.2
 simp only at hc3 hc4 hc5
 rw[show ((⟨k,c,w⟩:Shape).Data+(⟨k,c,w⟩:Shape).Checks).toNat=k+c from by simp;omega,show ((⟨k,c,w⟩:Shape).Width).toNat=w from by simp] at hwhole
 have hRl:(zdp (k+c) w d).length=k+c:=by simp[zdp]
 have hRw:∀x,x∈zdp (k+c) w d→x.Words.length≤1000:=fun x hx=>by
  obtain⟨i,_,rfl⟩:=zt.1 hx
  simp;omega
 generalize zdp (k+c) w d=R at hwhole hRl hRw
 change Maps Tryz.prog 84 [.agg [wI k,wI c,wI w],.sl (l.map zcn),.sl (d.map zcU)] _
 change Maps Tryz.prog 73 [.agg [wI k,wI c,wI w],.sl (d.map zcU)] _ at hwhole
 refine Maps.vt pok Tryz.f84 (n:=53) (rs:=[.tmp 6]) rfl rfl rfl rfl rfl rfl fun g=>?_
 repeat (any_goals (first|(refine zcj ?_;(first|refine zbW ?_|refine zb0 ?_|refine zbZ ?_|refine zcf ?_|refine zb4 rfl (hwhole) rfl rfl ?_|refine zco ?_))|(refine zck ?_;(first|refine zbY rfl ?_|refine zbX rfl ?_|refine zb3 rfl ?_))))
 refine zdh (i:=8) (s:=1) (H':=[.live 3 [[wI k,wI c,wI w]],.live 1 []]) 1 rfl rfl rfl ?_
 refine zcl (fun j a H g'=>∃(n b m:Nat) (out:List Int),j=k+c-n∧n≤k+c∧out=DM.wrongS Leaf.Number (badM R) l n∧m=out.length∧H[b]? = some (.live 1 (out.map eI))∧a=[(1,.sl (l.map zcn)),(7,.fl (R.map zcn)),(8,.ms b 0 m m),(9,wI ((n:Int)+1))]∧g'=g) rfl
  ⟨_,_,[.live 3 [[wI k,wI c,wI w]],.live 1 []],⟨0,1,0,[],rfl,zj _,rfl,rfl,rfl,rfl,rfl⟩,Wk.keep kpX⟩ ?_
 rintro j a H g' ⟨n,b,m,out,rfl,hn,hout,hm,hb,rfl,rfl⟩
 have hol:out.length≤40:=by rw[hout];exact zR (DM.wrong_len _ _ _ _) hl
 by_cases hlt:n < k+c
 ·repeat (any_goals (first|(refine zcj ?_;(first|refine zbW ?_|refine zb0 ?_|refine zbZ ?_|refine zb2 ?_|refine zb8 ?_))|(refine zck ?_;(first|refine zbY rfl ?_|refine zbX rfl ?_|refine zb6 rfl rfl (by first|assumption|omega) ?_|refine zb3 rfl ?_|refine zb5 rfl ?_))))
  refine zcl (fun j a H2 g2=>∃(i b m:Nat) (o:List Int),j=l.length-i∧i≤l.length∧o=out++((l.take i).filter fun x=>decide (x.Number=(n:Int)+1)&&badM R x).map Leaf.Number∧m=o.length∧H2[b]? = some (.live 1 (o.map eI))∧a=[(1,.sl (l.map zcn)),(7,.fl (R.map zcn)),(8,.ms b 0 m m),(9,wI ((n:Int)+1)),(10,wI i)]∧g2=g') rfl
   ⟨_,_,H,⟨0,b,m,out,rfl,zj _,by simp,hm,hb,rfl,rfl⟩,Wk.keep kpX⟩ ?_
  clear hb hm
  rintro j a H2 g2 ⟨i,b,m,o,rfl,hi,ho,hm,hb,rfl,rfl⟩
  have hm80:m≤80:=by
   rw[hm,ho,zw,ze]
   have:=za2 (fun x:Leaf=>decide (x.Number=(n:Int)+1)&&badM R x) (l.take i)
   rw[zA] at this;omega
  by_cases hli:i < l.length
  ·have hfs:=filt_snoc (fun x:Leaf=>decide (x.Number=(n:Int)+1)&&badM R x) Leaf.Number hli
   have hnR:n < R.length:=by omega
   have hwl:=hw l[i] (zi hli)
   have hwr:=hRw R[n] (zi hnR)
   by_cases hnum:l[i].Number=(n:Int)+1
   ·have hbad:badM R l[i]=!decide (R[n].Words=l[i].Words):=by
     unfold badM
     rw[show (l[i].Number-1).toNat=n by omega,zc,zb hnR];rfl
    have hs:=m_same l[i].Words R[n].Words (by omega) (by omega)
    by_cases hws:l[i].Words=R[n].Words
    ·rw[decide_eq_true hws] at hs
     rw[if_neg (by rw[hbad,decide_eq_true hws.symm];simp)] at hfs
     repeat (any_goals (first|(refine zcj ?_;(first|refine zbW ?_|refine zb0 ?_|refine zbZ ?_|refine zb2 ?_|refine zb8 ?_))|(refine zck ?_;(first|refine zbY rfl ?_|refine zbX rfl ?_|refine zcu [(0,[]),(0,[]),(0,[]),(0,[]),(0,[]),(0,[]),(0,[]),(0,[]),(0,[]),(0,[]),(0,[]),(0,[]),(0,[]),(0,[]),(0,[]),(0,[]),(0,[]),(0,[]),(0,[]),(0,[]),(0,[]),(0,[])] 1 zcr rfl (by decide +kernel) (by decide +kernel) (by decide +kernel) nrX nrX ?_|refine zcb rfl rfl ?_|refine zb6 rfl rfl (by first|assumption|omega) ?_|refine zb3 rfl ?_|refine zb5 rfl ?_))|(refine zd3 ?_;(first|refine zcD (zb1 (H0:=H2) (T:=[_]) rfl) (zeG rfl rfl hnum) ?_|refine zcD (zb1 (H0:=H2) (T:=[_]) rfl) (zeq (l:=l) (f:=zcn) (k:=i) rfl rfl rfl hli rfl rfl) ?_|refine zcD (zb1 (H0:=H2) (T:=[_]) rfl) (zeq (l:=R) (f:=zcn) (k:=n) rfl rfl (by omega) hnR rfl rfl) ?_|refine zcy (zdB H2 [] .free) ?_|refine PT.gy rfl ?_|refine zdG ((zb1 (H0:=H2) (T:=[_]) rfl)) ?_|refine PT.ldI ((zb1 (H0:=H2) (T:=[_]) rfl)) ?_|refine zeI ((zb1 (H0:=H2) (T:=[_]) rfl)) ?_|refine zef ((zb1 (H0:=H2) (T:=[_]) rfl)) ?_|refine zdH ((zb1 (H0:=H2) (T:=[_]) rfl)) rfl (hs) nrX rfl ?_|refine PT.pkI ((zb1 (H0:=H2) (T:=[_]) rfl)) ?_|refine PT.unI ((zb1 (H0:=H2) (T:=[_]) rfl)) ?_))|with_reducible (refine kLn ?_)))
     exact⟨l.length-(i+1),by omega,_,_,⟨i+1,b,m,o,rfl,hli,by rw[hfs];exact ho,hm,by rw[zN];exact hb,rfl,rfl⟩,Wk.keep kpX⟩
    ·rw[decide_eq_false hws] at hs
     rw[if_pos (by rw[decide_eq_true hnum,hbad,decide_eq_false (fun e:R[n].Words=l[i].Words=>hws e.symm)];rfl)] at hfs
     have hbl:=zc5 hb
     repeat (any_goals (first|(refine zcj ?_;(first|refine zbW ?_|refine zcI (s:=H2.length) rfl (ze1 rfl rfl rfl) (H':=H2++[.live 1 ([(n:Int)+1].map eI)]) rfl ?_|refine zeH (s:=H2.length+1) (by simp) (zd1 (f:=eI) (o:=o) (v:=[(n:Int)+1]) (mm:=m+1) (by':=8) rfl rfl (zcs _ hb) (zg (by rw[ze];omega)) (by rw[ze];omega) (zcW (t:=0) rfl rfl) hm rfl (by rw[←hm];rfl) rfl (by decide) rfl rfl (fun _=>⟨rfl,rfl⟩) (by rw[←hm];simp;omega) (by rw[←hm];simp;omega)) (ap2 hbl _ _) ?_|refine zb0 ?_|refine zbZ ?_|refine zb2 ?_|refine zb8 ?_))|(refine zck ?_;(first|refine zbY rfl ?_|refine zbX rfl ?_|refine zcu [(0,[]),(0,[]),(0,[]),(0,[]),(0,[]),(0,[]),(0,[]),(0,[]),(0,[]),(0,[]),(0,[]),(0,[]),(0,[]),(0,[]),(0,[]),(0,[]),(0,[]),(0,[]),(0,[]),(0,[]),(0,[]),(0,[])] 1 zcr rfl (by decide +kernel) (by decide +kernel) (by decide +kernel) nrX nrX ?_|refine zch rfl rfl ?_|refine zb6 rfl rfl (by first|assumption|omega) ?_|refine zb3 rfl ?_|refine zb5 rfl ?_))|(refine zd3 ?_;(first|refine zcD (zb1 (H0:=H2) (T:=[_]) rfl) (zeG rfl rfl hnum) ?_|refine zcD (zb1 (H0:=H2) (T:=[_]) rfl) (zeq (l:=l) (f:=zcn) (k:=i) rfl rfl rfl hli rfl rfl) ?_|refine zcD (zb1 (H0:=H2) (T:=[_]) rfl) (zeq (l:=R) (f:=zcn) (k:=n) rfl rfl (by omega) hnR rfl rfl) ?_|refine zcy ((zdB H2 [] .free).trans (zN _)) ?_|refine PT.gy rfl ?_|refine zdG ((zb1 (H0:=H2) (T:=[_]) rfl)) ?_|refine PT.ldI ((zb1 (H0:=H2) (T:=[_]) rfl)) ?_|refine zeI ((zb1 (H0:=H2) (T:=[_]) rfl)) ?_|refine zef ((zb1 (H0:=H2) (T:=[_]) rfl)) ?_|refine zdH ((zb1 (H0:=H2) (T:=[_]) rfl)) rfl (hs) nrX rfl ?_|refine PT.pkI ((zb1 (H0:=H2) (T:=[_]) rfl)) ?_|refine PT.unI ((zb1 (H0:=H2) (T:=[_]) rfl)) ?_))|with_reducible (refine kLn ?_)))
     refine⟨l.length-(i+1),by omega,_,_,⟨i+1,H2.length+1,m+1,o++[(n:Int)+1],rfl,hli,?_,by simp[hm],zcW (t:=1) (by simp) rfl,rfl,rfl⟩,Wk.keep kpX⟩
     rw[hfs,hnum,ho,zT]
   ·rw[if_neg (by rw[decide_eq_false hnum];simp)] at hfs
    repeat (any_goals (first|(refine zcj ?_;(first|refine zbW ?_|refine zb0 ?_|refine zbZ ?_|refine zb2 ?_|refine zb8 ?_))|(refine zck ?_;(first|refine zbY rfl ?_|refine zbX rfl ?_|refine zcu [(0,[]),(0,[]),(0,[]),(0,[]),(0,[]),(0,[]),(0,[]),(0,[]),(0,[]),(0,[]),(0,[]),(0,[]),(0,[]),(0,[]),(0,[]),(0,[]),(0,[]),(0,[]),(0,[]),(0,[]),(0,[]),(0,[])] 1 zcr rfl (by decide +kernel) (by decide +kernel) (by decide +kernel) nrX nrX ?_|refine zcb rfl rfl ?_|refine zb6 rfl rfl (by first|assumption|omega) ?_|refine zb3 rfl ?_|refine zb5 rfl ?_))|(refine zd3 ?_;(first|refine zcD (zb1 (H0:=H2) (T:=[_]) rfl) (ze7 rfl rfl hnum) ?_|refine zcD (zb1 (H0:=H2) (T:=[_]) rfl) (zeq (l:=l) (f:=zcn) (k:=i) rfl rfl rfl hli rfl rfl) ?_|refine zcy (zdB H2 [] .free) ?_|refine PT.gn rfl rfl ?_|refine zdG ((zb1 (H0:=H2) (T:=[_]) rfl)) ?_|refine PT.ldI ((zb1 (H0:=H2) (T:=[_]) rfl)) ?_|refine zeI ((zb1 (H0:=H2) (T:=[_]) rfl)) ?_|refine PT.pkI ((zb1 (H0:=H2) (T:=[_]) rfl)) ?_))|with_reducible (refine kLn ?_)))
    exact⟨l.length-(i+1),by omega,_,_,⟨i+1,b,m,o,rfl,hli,by rw[hfs];exact ho,hm,by rw[zN];exact hb,rfl,rfl⟩,Wk.keep kpX⟩
  ·obtain rfl:i=l.length:=by omega
   rw[z0] at ho
   repeat (any_goals (first|(refine zcj ?_;(first|refine zbW ?_|refine zb0 ?_|refine zbZ ?_|refine zb2 ?_|refine zb8 ?_))|(refine zck ?_;(first|refine zbY rfl ?_|refine zbX rfl ?_|refine zca rfl rfl (by first|assumption|omega) ?_|refine zci rfl ?_))|with_reducible (refine kLn ?_)))
   refine⟨k+c-(n+1),by omega,_,_,⟨n+1,b,m,o,rfl,hlt,by rw[DM.wrongS_succ,ho,hout],hm,hb,rfl,rfl⟩,Wk.keep kpX⟩
 ·obtain rfl:n=k+c:=by omega
  repeat (any_goals (first|(refine zcj ?_;(first|refine zbW ?_|refine zb0 ?_|refine zbZ ?_|refine zb2 ?_|refine zb8 ?_))|(refine zck ?_;(first|refine zbY rfl ?_|refine zbX rfl ?_|refine zca rfl rfl (by first|assumption|omega) ?_|refine zci rfl ?_|refine zb7 rfl ?_))|(with_reducible refine zce ?_;refine kEr rfl ?_)))
  show snapR _ 5 (.ms b 0 m m)=_
  rw[snapRW (k:=4) hb hm,hout]
  rfl
end Go.DL
