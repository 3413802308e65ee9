/- Lines as data. -/
import Derived.Test.YtmbbepdbjeciaaaGreatYu1
set_option maxRecDepth 100000
set_option maxHeartbeats 16000000
namespace Go.DL
open Go.Proofs Go
def padS (n:Nat)(w:List Int):List Int:=w++List.replicate (n-w.length) 0
theorem padS_len {n:Nat}{w:List Int}(h:w.length≤n):(padS n w).length=n:=by simp[padS];omega
def rowsOf (D W:Nat)(w:List Int):List (List Int):=(List.range D).map fun k=>(w.take ((k+1)*W)).drop (k*W)
theorem rowsOf_succ (k W:Nat)(w:List Int):rowsOf (k+1) W w=rowsOf k W w++[(w.take ((k+1)*W)).drop (k*W)]:=by simp[rowsOf,zat]
theorem row_len {D k W:Nat}{w:List Int}(hw:w.length=D*W)(hk:k < D):((w.take ((k+1)*W)).drop (k*W)).length=W:=by
 have h1:(k+1)*W≤D*W:=zL _ hk
 rw[z6,zA,hw,zbz h1,zax];omega
def writeS (s:Shape)(l:List Line):Option (List (List Int)):=
 if (zdM l).length≤s.Data.toNat*s.Width.toNat then some (rowsOf s.Data.toNat s.Width.toNat (padS (s.Data.toNat*s.Width.toNat) (zdM l))) else none
def writeD (r:Option (List (List Int))):D:=match r with
 |some r=>.tup [.fl (r.map zcU),wB true]
 |none=>.tup [.fl [],wB false]
theorem m_write (s:Shape)(h:zeJ s)(l:List Line)(hl:l.length≤60)(hok:∀x,x∈l→lineOk x):Maps Tryz.prog 87 [dSh s,.sl (l.map zcC)] (writeD (writeS s l)):=by
 refine Maps.vt pok Tryz.f87 (n:=51) (rs:=[.tmp 4,.tmp 5]) rfl rfl rfl rfl rfl rfl fun g=>?_
 obtain⟨sd,sc,sw⟩:=s
 obtain⟨⟨h1,h2⟩,h3,h4,h5⟩:=h
 obtain⟨D,rfl⟩:∃D:Nat,sd=D:=zF (by dsimp only at h1;omega)
 obtain⟨W,rfl⟩:∃W:Nat,sw=W:=zF (by dsimp only at h4;omega)
 dsimp only at h1 h2 h4 h5
 have hDW:D*W≤640:=zaK (show D≤20 by omega) (show W≤32 by omega)
 have hm:(D:Int)*(W:Int)=((D*W:Nat):Int):=(zay D W).symm
 have hw:=c_wordsH (H:=[.live 3 [zcq ⟨D,sc,W⟩]]) (x:=.sl (l.map zcC)) (l:=l) rfl (by omega) hok
 have hw7:=words_len1 (l:=l) (by omega)
 unfold writeS
 dsimp only
 rw[zM,zM]
 generalize zdM l=w at hw hw7 ⊢
 by_cases hfit:w.length≤D*W
 ·rw[if_pos hfit]
  have hpad:w++List.replicate ((D:Int)*(W:Int)-(w.length:Int)).toNat 0=padS (D*W) w:=by
   rw[hm,show (((D*W:Nat):Int)-(w.length:Int)).toNat=D*W-w.length by omega];rfl
  have hpl:=padS_len hfit
  repeat (any_goals (first|(apply zcd;(first|refine zbW ?_|refine zb0 ?_|refine zbZ ?_|refine zcf ?_|refine zcm ?_|(apply zea;(first|refine zb9 (f_mul (a:=(D:Int)) (b:=(W:Int)) rfl rfl (by omega) (by omega)) ?_|refine zb9 (ze6 rfl rfl (by omega)) ?_|refine zb2 ?_))|(apply zdc;(first|(refine zcw ?_;refine zdZ rfl hw rfl rfl rfl ?_)|refine zeH nrX (f_appZ (o:=w) rfl rfl rfl rfl (by omega) rfl rfl rfl rfl (by omega)) nrX ?_|refine zb8 ?_))|refine zco ?_))|(apply zcg;(first|refine zbY rfl ?_|refine zbX rfl ?_|refine zcb rfl rfl ?_|refine zb3 rfl ?_|refine zb5 rfl ?_))))
  rw[hpad]
  generalize padS (D*W) w=pw at hpl ⊢
  refine zdh (i:=7) (s:=4) 1 rfl rfl rfl ?_
  refine zcl (fun j a H g'=>∃(k b m:Nat) (qs:List (Nat × List Int)),j=D-k∧k≤D∧H[0]? = some (.live 3 [[wI D,wI sc,wI W]])∧H[3]? = some (.live 1 (pw.map eI))∧RQ H b qs∧4≤b∧m=qs.length∧m=k∧qs.map (·.2)=rowsOf k W pw∧a=[(2,.mp 0 0 0),(6,.ms 3 0 pw.length pw.length),(7,.ms b 0 m m),(30,wI D),(31,wI k)]∧g'=g) rfl
   ⟨_,_,_,⟨0,4,0,[],rfl,zj _,rfl,rfl,⟨rfl,fun _ h=>by cases h⟩,by omega,rfl,rfl,rfl,rfl,rfl⟩,Wk.keep kpX⟩ ?_
  rintro j a H g' ⟨k,b,m,qs,rfl,hk,hb0,hb3,hq,hb4,hm1,hmk,hqs,rfl,rfl⟩
  have hH3:=zcR hb3
  have hHb:=zcR hq.rows
  by_cases hlt:k < D
  ·have hkW:k*W≤D*W:=zL _ (by omega)
   have hkW1:(k+1)*W≤D*W:=zL _ hlt
   have hsub:(k+1)*W-k*W=W:=by rw[zax];omega
   have e1:(k:Int)*(W:Int)=((k*W:Nat):Int):=(zay k W).symm
   have e2:((k:Int)+1)*(W:Int)=(((k+1)*W:Nat):Int):=by rw[zay];rfl
   have hrl:=row_len hpl hlt
   generalize hrow:(pw.take ((k+1)*W)).drop (k*W)=row at hrl
   have hel:zcF H (.ms 3 (k*W) ((k+1)*W-k*W) (pw.length-k*W))=some (row.map eI):=by
    simp only[zcF,hb3]
    rw[if_pos (by rw[ze];omega),show k*W+((k+1)*W-k*W)=(k+1)*W by omega,←zbs,←zbf,hrow]
   have hcl:=c_clone (H:=H) (x:=.ms 3 (k*W) ((k+1)*W-k*W) (pw.length-k*W)) (o:=row) (.inr (.inr (.inr ⟨_,_,_,_,rfl⟩))) hel (by omega)
   repeat (any_goals (first|(apply zcd;(first|refine zbW ?_|refine zb0 ?_|refine zbZ ?_|refine zb9 (zcB rfl hb0 rfl rfl rfl) ?_|refine zcm ?_|(apply zea;(first|refine zb9 (f_mul (a:=(k:Int)) (b:=(W:Int)) rfl rfl (by omega) (by omega)) ?_|refine zb9 (f_mul (a:=(k:Int)+1) (b:=(W:Int)) rfl rfl (by omega) (by omega)) ?_|refine zb2 ?_))|(apply zdc;(first|(refine zcw ?_;refine zdZ rfl hcl rfl (d2:=.ms (H.length+1) 0 row.length row.length) rfl (H2:=H++[.dead,.live 1 (row.map eI)]) rfl ?_)|refine zeH (s:=H.length+3) (by simp) (zd1 (f:=eQ) (o:=qs) (v:=[(H.length+1,row)]) (mm:=m+1) (by':=24) rfl rfl (zcA _ hq.rows) (by rw[zg (by simp;omega)]) (by simp;omega) (zdO (t:=2) rfl rfl) hm1 rfl (by simp;omega) rfl (by decide) rfl rfl (fun _=>⟨rfl,rfl⟩) (by simp;omega) (by simp;omega)) rfl ?_))|refine zcI (s:=H.length+2) (by simp) (f_bslC1 (d:=.ms (H.length+1) 0 row.length row.length) (z:=.nil) rfl rfl rfl rfl rfl) (H':=H++[.dead,.live 1 (row.map eI),.live 1 [[.ms (H.length+1) 0 row.length row.length]]]) (by simp) ?_|refine zb9 (f_slB (lo:=k*W) (hi:=(k+1)*W) rfl rfl rfl e1 e2 (by omega) (by omega) rfl hb3) ?_))|(apply zcg;(first|refine zbY rfl ?_|refine zbX rfl ?_|refine zb3 rfl ?_|refine zb5 rfl ?_|refine zb6 rfl rfl (by first|assumption|omega) ?_))|with_reducible (refine kLn ?_)))
   have hp:=hq.push (T:=[.dead,.live 1 (row.map eI),.live 1 [[.ms (H.length+1) 0 row.length row.length]]]) (p:=H.length+1) (row:=row) (zdO (t:=1) rfl rfl) (by omega)
   rw[zw] at hp
   exact⟨D-(k+1),by omega,_,_,⟨k+1,H.length+3,m+1,qs++[(H.length+1,row)],rfl,hlt,zcA _ (zdv (zcA _ hb0) (by omega)),zcA _ (zdv (zcA _ hb3) (by omega)),hp,by omega,by simp;omega,by omega,by rw[zW,hqs,rowsOf_succ,hrow];rfl,rfl,rfl⟩,Wk.keep kpX⟩
  ·obtain rfl:k=D:=by omega
   repeat (any_goals (first|(apply zcd;(first|refine zbW ?_|refine zb0 ?_|refine zbZ ?_|refine zb2 ?_))|(apply zcg;(first|refine zbY rfl ?_|refine zbX rfl ?_|refine zci rfl ?_|refine zb7 rfl ?_|refine zca rfl rfl (by first|assumption|omega) ?_))|(with_reducible refine zce ?_;refine kEr rfl ?_)))
   exact congrArg (fun x=>DL.D.tup [x,wB true]) ((hq.snapR hm1 1).trans (by rw[hqs]))
 ·rw[if_neg hfit]
  repeat (any_goals (first|(apply zcd;(first|refine zbW ?_|refine zb0 ?_|refine zbZ ?_|refine zcf ?_|refine zcm ?_|(apply zea;(first|refine zb9 (f_mul (a:=(D:Int)) (b:=(W:Int)) rfl rfl (by omega) (by omega)) ?_|refine zb9 (ze5 rfl rfl (by omega)) ?_))|(apply zdc;(first|(refine zcw ?_;refine zdZ rfl hw rfl rfl rfl ?_)|refine zb8 ?_))|refine zco ?_))|(apply zcg;(first|refine zbY rfl ?_|refine zbX rfl ?_|refine zch rfl rfl ?_|refine zb7 rfl ?_))|with_reducible (refine kSr ?_)|(with_reducible refine zce ?_;refine kEr rfl ?_)))
  rfl
end Go.DL
/- Write of both programs. -/
namespace Go.DL
open Go.Proofs Go
def zd4 (s:Shape)(l:List Line):List (List Int) × Int:=
 if ze9 s=0 then (if zdS l=0 then (match writeS s l with|some r=>(r,0)|none=>([],2)) else ([],zdS l)) else ([],1)
theorem m_Write (s:Shape)(l:List Line)(hl:l.length≤4611686018427387904):Maps Tryz.prog 34 [dSh s,.sl (l.map zcC)] (.tup [.fl ((zd4 s l).1.map zcU),wI (zd4 s l).2]):=by
 refine Maps.vt pok Tryz.f34 (n:=29) (rs:=[.tmp 4,.tmp 5]) rfl rfl rfl rfl rfl rfl fun g=>?_
 have hk:=m_Check s
 have hc:=m_CheckLines l hl
 unfold zd4
 rcases zcX s with⟨e,h⟩|⟨e,h⟩
 ·rw[e] at hk ⊢
  rw[if_pos rfl]
  by_cases h2:zdS l=0
  ·rw[h2] at hc ⊢
   rw[if_pos rfl]
   have hok:=(checkLines_iff l).1 h2
   have hw:=m_write s h l hok.1 hok.ok
   cases q:writeS s l with
   |some r=>
    rw[q] at hw
    repeat (any_goals (first|(apply zcd;(first|refine zbW ?_|refine zb0 ?_|refine zbZ ?_|refine zcf ?_|refine zb2 ?_|(apply zdc;(first|refine zb4 rfl (hk) rfl rfl ?_|refine zb4 rfl (hc) rfl rfl ?_|refine zb4 rfl ((show Maps _ _ _ (D.tup [.fl (r.map zcU),wB true]) from hw)) rfl rfl ?_))|refine zdF ?_|refine zcv ?_|refine zco ?_))|(apply zcg;(first|refine zbY rfl ?_|refine zbX rfl ?_|refine zcb rfl rfl ?_|refine zb5 rfl ?_|refine zb7 rfl ?_))|(with_reducible refine zce ?_;refine kEr rfl ?_)))
    rfl
   |none=>
    rw[q] at hw
    repeat (any_goals (first|(apply zcd;(first|refine zbW ?_|refine zb0 ?_|refine zbZ ?_|refine zcf ?_|refine zb2 ?_|(apply zdc;(first|refine zb4 rfl (hk) rfl rfl ?_|refine zb4 rfl (hc) rfl rfl ?_|refine zb4 rfl ((show Maps _ _ _ (D.tup [.fl [],wB false]) from hw)) rfl rfl ?_))|refine zdF ?_|refine zcv ?_|refine zco ?_))|(apply zcg;(first|refine zbY rfl ?_|refine zbX rfl ?_|refine zch rfl rfl ?_|refine zcb rfl rfl ?_|refine zb5 rfl ?_|refine zb7 rfl ?_))|with_reducible (refine kSr ?_)|(with_reducible refine zce ?_;refine kEr rfl ?_)))
    rfl
  ·rw[if_neg h2]
   repeat (any_goals (first|(apply zcd;(first|refine zbW ?_|refine zb0 ?_|refine zbZ ?_|refine zcf ?_|refine zb2 ?_|(apply zdc;(first|refine zb4 rfl (hk) rfl rfl ?_|refine zb4 rfl (hc) rfl rfl ?_))|refine zco ?_))|(apply zcg;(first|refine zbY rfl ?_|refine zbX rfl ?_|refine zcb rfl rfl ?_|refine zb5 rfl ?_|refine zb7 rfl ?_|refine zb6 rfl rfl (by first|assumption|omega) ?_))|with_reducible (refine kSr ?_)|(with_reducible refine zce ?_;refine kEr rfl ?_)))
   rfl
 ·rw[e] at hk ⊢
  rw[if_neg (by decide)]
  repeat (any_goals (first|(apply zcd;(first|refine zbW ?_|refine zb0 ?_|refine zbZ ?_|refine zcf ?_|refine zb2 ?_|refine zb4 rfl (hk) rfl rfl ?_|refine zco ?_))|(apply zcg;(first|refine zbY rfl ?_|refine zbX rfl ?_|refine zch rfl rfl ?_|refine zb7 rfl ?_))|with_reducible (refine kSr ?_)|(with_reducible refine zce ?_;refine kEr rfl ?_)))
  rfl
theorem RQ.other {H:List Blk}{b p:Nat}{qs:List (Nat × List Int)}(h:RQ H b qs)(hb:p≠b)(hp:∀q,q∈qs→p≠q.1)(x:Blk):RQ (H.set p x) b qs:=
 ⟨zdv h.rows hb,fun q hq=>⟨zdv (h.row q hq).1 (hp q hq),(h.row q hq).2⟩⟩
theorem RQ.app {H:List Blk}{b:Nat}{qs:List (Nat × List Int)}(h:RQ H b qs)(T:List Blk):RQ (H++T) b qs:=
 ⟨zcA T h.rows,fun q hq=>⟨zcA T (h.row q hq).1,(h.row q hq).2⟩⟩
def cpS (row:List Int)(W j:Nat):List Int:=row.take j++List.replicate (W-j) 0
theorem cpS_zero (row:List Int)(W:Nat):cpS row W 0=List.replicate W 0:=by simp[cpS]
theorem cpS_len {row:List Int}{W j:Nat}(hr:row.length=W)(hj:j≤W):(cpS row W j).length=W:=by simp[cpS,hr];omega
theorem cpS_set {row:List Int}{W j:Nat}(hr:row.length=W)(hj:j < W):(cpS row W j).set j (row[j]'(by omega))=cpS row W (j+1):=by
 have h1:(row.take j).length=j:=by rw[zA];omega
 obtain⟨q,hq⟩:∃q,W-j=q+1:=⟨W-j-1,by omega⟩
 rw[cpS,zal _ _ (by omega),h1,zaT,hq,zaW,List.set_cons_zero,cpS,zo (by omega),show W-(j+1)=q by omega,zT]
 rfl
theorem cpS_all {row:List Int}{W j:Nat}(hr:row.length=W)(hj:j≤W)(hz:∀i,j≤i→(hi:i < row.length)→row[i]=0):cpS row W j=row:=by
 unfold cpS
 refine zaz (by simp[hr];omega) fun i h1 h2=>?_
 by_cases h:i < j
 ·rw[List.getElem_append_left (by rw[zA];omega),List.getElem_take]
 ·rw[zbM (by rw[zA];omega),List.getElem_replicate,hz i (by omega) h2]
theorem row_get {D k W i n:Nat}{w:List Int}(hn:n=D*W)(hw:w.length≤n)(hk:k < D)(hi:i < W)(h:i < (((padS n w).take ((k+1)*W)).drop (k*W)).length):
  (((padS n w).take ((k+1)*W)).drop (k*W))[i]=w.getD (k*W+i) 0:=by
 have hpl:=padS_len hw
 rw[List.getElem_drop,List.getElem_take]
 unfold padS
 rw[zc]
 by_cases h2:k*W+i < w.length
 ·rw[List.getElem_append_left h2,zb h2];rfl
 ·rw[zbM (by omega),List.getElem_replicate,zs (by omega)];rfl
theorem resA_cell1 {P:Program}{n b x sz m:Nat}{t:TypeId}{a:AL}{H:List Blk}{e:List D}(h1:lkN n a b=.mp x 0 0)(h2:H[x]? = some (.live sz [e]))(ht:zdT P t=some true)(hs:tsz P t=some m)(hn:e.length=m):resA P [.cell b t] n a H=some (.agg e):=by
 subst hn
 have h3:zeO P H t (.mp x 0 0)=some (.agg e):=by
  simp[zeO,peek,zeT,ht,hs,h2]
 simp[resA,resAL,resA1,h1,h3]
theorem m_RWrite (s:Shape)(l:List Line)(hl:l.length≤4611686018427387904):Maps Tryz.prog 35 [dSh s,.sl (l.map zcC)] (.agg [.fl ((zd4 s l).1.map zcU),wI (zd4 s l).2]):=by
 refine Maps.vt pok Tryz.f35 (n:=76) (rs:=[.cell 4 60]) rfl rfl rfl rfl rfl rfl fun g=>?_
 have hk:=m_RCheck s
 have hc:=m_RCheckLines l hl
 unfold zd4
 rcases zcX s with⟨e,h⟩|⟨e,h⟩
 ·rw[e] at hk ⊢
  rw[if_pos rfl]
  by_cases h2:zdS l=0
  ·rw[h2] at hc ⊢
   rw[if_pos rfl]
   have hok:=(checkLines_iff l).1 h2
   obtain⟨sd,sc,sw⟩:=s
   obtain⟨⟨h1,h2⟩,h3,h4,h5⟩:=h
   obtain⟨D,rfl⟩:∃D:Nat,sd=D:=zF (by dsimp only at h1;omega)
   obtain⟨W,rfl⟩:∃W:Nat,sw=W:=zF (by dsimp only at h4;omega)
   dsimp only at h1 h2 h4 h5
   have hDW:D*W≤640:=zaK (show D≤20 by omega) (show W≤32 by omega)
   have hm:(D:Int)*(W:Int)=((D*W:Nat):Int):=(zay D W).symm
   have hl60:=hok.1
   have hw:=c_RWords (H:=[.live 3 [zcq ⟨D,sc,W⟩],.live 2 [[.nil,wI 0]]]) (x:=.sl (l.map zcC)) (l:=l) rfl (by omega) hok.ok
   have hw7:=words_len1 (l:=l) (by omega)
   unfold writeS
   dsimp only
   rw[zM,zM]
   generalize zdM l=w at hw hw7 ⊢
   by_cases hfit:w.length≤D*W
   ·rw[if_pos hfit]
    have hrg:∀{k i:Nat} (hk:k < D) (hi:i < W) (h:i < (((padS (D*W) w).take ((k+1)*W)).drop (k*W)).length),(((padS (D*W) w).take ((k+1)*W)).drop (k*W))[i]=w.getD (k*W+i) 0:=fun hk hi h=>row_get rfl hfit hk hi h
    have hpl:=padS_len hfit
    generalize padS (D*W) w=pw at hpl hrg ⊢
    repeat (any_goals (first|(apply zcd;(first|refine zbW ?_|refine zb0 ?_|refine zbZ ?_|refine zcf ?_|refine zcm ?_|(apply zea;(first|refine zb9 (f_mul (a:=(D:Int)) (b:=(W:Int)) rfl rfl (by omega) (by omega)) ?_|refine zb9 (ze6 rfl rfl (by omega)) ?_|refine zb2 ?_))|(apply zdc;(first|(refine zcw ?_;refine zdZ rfl hw rfl rfl rfl ?_)|refine zb4 rfl (hk) rfl rfl ?_|refine zb4 rfl (hc) rfl rfl ?_|refine zb8 ?_))|refine zco ?_))|(apply zcg;(first|refine zbY rfl ?_|refine zbX rfl ?_|refine zch rfl rfl ?_|refine zcb rfl rfl ?_|refine zb3 rfl ?_|refine zb5 rfl ?_))))
    refine zdh (i:=7) (s:=4) 1 rfl rfl rfl ?_
    refine zcl (fun j a H g'=>∃(k b m:Nat) (qs:List (Nat × List Int)),j=D-k∧k≤D∧H[0]? = some (.live 3 [[wI D,wI sc,wI W]])∧H[1]? = some (.live 2 [[.nil,wI 0]])∧H[3]? = some (.live 1 (w.map eI))∧RQ H b qs∧4≤b∧m=qs.length∧m=k∧qs.map (·.2)=rowsOf k W pw∧a=[(2,.mp 0 0 0),(4,.mp 1 0 0),(6,.ms 3 0 w.length w.length),(7,.ms b 0 m m),(8,wI k)]∧g'=g) rfl
     ⟨_,_,_,⟨0,4,0,[],rfl,zj _,rfl,rfl,rfl,⟨rfl,fun _ h=>by cases h⟩,by omega,rfl,rfl,rfl,rfl,rfl⟩,Wk.keep kpX⟩ ?_
    rintro j a H g' ⟨k,b,m,qs,rfl,hkD,hb0,hb1,hb3,hq,hb4,hm1,hmk,hqs,rfl,rfl⟩
    have hH3:=zcR hb3
    have hHb:=zcR hq.rows
    by_cases hlt:k < D
    ·have hkW:k*W≤D*W:=zL _ (by omega)
     have e1:(k:Int)*(W:Int)=((k*W:Nat):Int):=(zay k W).symm
     have hrl:=row_len hpl hlt
     have hrk:∀{i:Nat} (hi:i < W) (h:i < ((pw.take ((k+1)*W)).drop (k*W)).length),((pw.take ((k+1)*W)).drop (k*W))[i]=w.getD (k*W+i) 0:=fun hi h=>hrg hlt hi h
     generalize hrow:(pw.take ((k+1)*W)).drop (k*W)=row at hrl hrk
     have hb2:(H++[.live 1 (row.map eI),.live 1 [[.ms H.length 0 W W]]])[H.length+1]? = some (.live 1 ([(H.length,row)].map eQ)):=by
      show _=some (Blk.live 1 [[.ms H.length 0 row.length row.length]])
      rw[hrl];exact zdO (t:=1) rfl rfl
     have hp:=hq.push (T:=[.live 1 (row.map eI),.live 1 [[.ms H.length 0 W W]]]) (p:=H.length) (row:=row) (zdO (t:=0) rfl rfl) (by omega)
     rw[zw] at hp
     repeat (any_goals (first|(apply zcd;(first|refine zbW ?_|refine zb0 ?_|refine zbZ ?_|refine zb9 (zcB rfl hb0 rfl rfl rfl) ?_|refine zcm ?_|refine zb2 ?_|refine zcI (s:=H.length) rfl (ze3 (z:=[wI 0]) (sz:=1) (m:=W) (by':=8) rfl rfl rfl rfl rfl (by decide) rfl rfl (by omega) (by omega)) rfl ?_))|(apply zcg;(first|refine zbY rfl ?_|refine zbX rfl ?_|refine zb3 rfl ?_|refine zb5 rfl ?_|refine zb6 rfl rfl (by first|assumption|omega) ?_))))
     refine zcl (fun jj a H1 g2=>∃i:Nat,jj=W-i∧i≤W∧H1=H++[.live 1 ((cpS row W i).map eI)]∧a=[(2,.mp 0 0 0),(4,.mp 1 0 0),(6,.ms 3 0 w.length w.length),(7,.ms b 0 m m),(8,wI k),(9,.ms H.length 0 W W),(10,wI i)]∧g2=g') rfl
      ⟨_,_,_,⟨0,rfl,zj _,by rw[cpS_zero,zaN];rfl,rfl,rfl⟩,Wk.keep kpX⟩ ?_
     rintro jj a H1 g2 ⟨i,rfl,hiW,rfl,rfl,rfl⟩
     by_cases hgo:i < W∧k*W+i < w.length
     ·obtain⟨hi,hx⟩:=hgo
      have hself:(H++[.live 1 ((cpS row W i).map eI)])[H.length]? = some (.live 1 ((cpS row W i).map eI)):=zdO (t:=0) rfl rfl
      have hset:(cpS row W i).set i (w.getD (k*W+i) 0)=cpS row W (i+1):=by
       rw[←hrk hi (by omega),cpS_set hrl hi]
      repeat (any_goals (first|(apply zcd;(first|refine zbW ?_|(apply w_g;(first|refine zcS rfl ?_|refine zex rfl rfl rfl (by first|assumption|omega) ?_))|refine zb0 ?_|refine zbZ ?_|(apply zeS;(first|refine zb9 (zcB rfl (zcA _ hb0) rfl rfl rfl) ?_|refine zb9 (f_ldWD (k:=k*W+i) rfl (zcA _ hb3) (by omega) rfl) ?_))|refine zcm ?_|(apply zea;(first|refine zb9 (f_mul (a:=(k:Int)) (b:=(W:Int)) rfl rfl (by omega) (by omega)) ?_|refine zb2 ?_))|refine zb8 ?_|refine zcx ?_|(apply w_ix;(first|refine zb9 (zct (k:=k*W+i) rfl rfl (by omega) (zcA _ hb3) rfl (by omega)) ?_|refine zb9 (zct (k:=i) rfl rfl rfl hself rfl hi) ?_))|refine zdo (zeB (k:=i) (a:=w.getD (k*W+i) 0) rfl hself (by rw[cpS_len hrl hiW];exact hi) rfl rfl) (H':=H++[.live 1 ((cpS row W (i+1)).map eI)]) (by rw[hset];exact zcV (i:=0) rfl rfl) ?_))|(apply zcg;(first|refine zbY rfl ?_|refine zbX rfl ?_|refine zb3 rfl ?_|refine zb5 rfl ?_|refine zb6 rfl rfl (by first|assumption|omega) ?_))|with_reducible (refine kLn ?_)))
      exact⟨W-(i+1),by omega,_,_,⟨i+1,rfl,hi,rfl,rfl,rfl⟩,Wk.keep kpX⟩
     ·have hall:cpS row W i=row:=cpS_all hrl hiW fun q hq hqi=>by
       rw[hrk (by omega) hqi,zc,zs (by omega)];rfl
      rw[hall]
      rcases zZ i W with hi|hi
      ·repeat (any_goals (first|(apply zcd;(first|refine zbW ?_|(apply w_g;(first|refine zcS rfl ?_|refine zex rfl rfl rfl (by first|assumption|omega) ?_))|refine zb0 ?_|refine zbZ ?_|refine zb9 (zcB rfl (zcA _ hb0) rfl rfl rfl) ?_|refine zcm ?_|(apply zea;(first|refine zb9 (f_mul (a:=(k:Int)) (b:=(W:Int)) rfl rfl (by omega) (by omega)) ?_|refine zb2 ?_))|(apply zdc;(first|refine zeH (s:=H.length+2) (by simp) (zd1 (f:=eQ) (o:=qs) (v:=[(H.length,row)]) (mm:=m+1) (by':=24) rfl rfl (zcA _ hq.rows) (by rw[zg (by simp;omega)]) (by simp;omega) hb2 hm1 rfl (by simp;omega) rfl (by decide) rfl rfl (fun _=>⟨rfl,rfl⟩) (by simp;omega) (by simp;omega)) rfl ?_|refine zb8 ?_))|refine zcx ?_|refine zcI (s:=H.length+1) (by simp) (f_bslC1 (d:=.ms H.length 0 W W) (z:=.nil) rfl rfl rfl rfl rfl) (H':=H++[.live 1 (row.map eI),.live 1 [[.ms H.length 0 W W]]]) (by simp) ?_))|(apply zcg;(first|refine zbY rfl ?_|refine zbX rfl ?_|refine zci rfl ?_|refine zca rfl rfl (by first|assumption|omega) ?_))|with_reducible (refine kLn ?_)))
       exact⟨D-(k+1),by omega,_,_,⟨k+1,H.length+2,m+1,qs++[(H.length,row)],rfl,hlt,zcA _ (zdv (zcA _ hb0) (by omega)),zcA _ (zdv (zcA _ hb1) (by omega)),zcA _ (zdv (zcA _ hb3) (by omega)),hp,by omega,by simp;omega,by omega,by rw[zW,hqs,rowsOf_succ,hrow];rfl,rfl,rfl⟩,Wk.keep kpX⟩
      ·repeat (any_goals (first|(apply zcd;(first|refine zbW ?_|(apply w_g;(first|refine zdI rfl rfl ?_|refine zel rfl rfl rfl (by first|assumption|omega) ?_))|refine zb0 ?_|refine zbZ ?_|refine zb9 (zcB rfl (zcA _ hb0) rfl rfl rfl) ?_|refine zcm ?_|refine zb2 ?_|refine zeH (s:=H.length+2) (by simp) (zd1 (f:=eQ) (o:=qs) (v:=[(H.length,row)]) (mm:=m+1) (by':=24) rfl rfl (zcA _ hq.rows) (by rw[zg (by simp;omega)]) (by simp;omega) hb2 hm1 rfl (by simp;omega) rfl (by decide) rfl rfl (fun _=>⟨rfl,rfl⟩) (by simp;omega) (by simp;omega)) rfl ?_|refine zcx ?_|refine zcI (s:=H.length+1) (by simp) (f_bslC1 (d:=.ms H.length 0 W W) (z:=.nil) rfl rfl rfl rfl rfl) (H':=H++[.live 1 (row.map eI),.live 1 [[.ms H.length 0 W W]]]) (by simp) ?_))|(apply zcg;(first|refine zbY rfl ?_|refine zbX rfl ?_|refine zcb rfl rfl ?_|refine zci rfl ?_))|with_reducible (refine kLn ?_)))
       exact⟨D-(k+1),by omega,_,_,⟨k+1,H.length+2,m+1,qs++[(H.length,row)],rfl,hlt,zcA _ (zdv (zcA _ hb0) (by omega)),zcA _ (zdv (zcA _ hb1) (by omega)),zcA _ (zdv (zcA _ hb3) (by omega)),hp,by omega,by simp;omega,by omega,by rw[zW,hqs,rowsOf_succ,hrow];rfl,rfl,rfl⟩,Wk.keep kpX⟩
    ·obtain rfl:k=D:=by omega
     repeat (any_goals (first|(apply zcd;(first|refine zbW ?_|refine zb0 ?_|refine zc1 ?_|refine zcm ?_|refine zb2 ?_|refine zdo (zdR rfl hb1 rfl rfl rfl rfl rfl (by decide) rfl) rfl ?_|refine zb9 (zdm (d:=.agg [.ms b 0 m m,wI 0]) rfl) ?_))|(apply zcg;(first|refine zbY rfl ?_|refine zbX rfl ?_|refine zci rfl ?_|refine zb7 rfl ?_|refine zca rfl rfl (by first|assumption|omega) ?_))))
     refine kEr (resA_cell1 (sz:=2) (e:=[.ms b 0 m m,wI 0]) rfl (zp (zcR hb1)) rfl rfl rfl) ?_
     have hq2:=hq.other (p:=1) (by omega) (fun q hq3 e=>by have:=(hq.row q hq3).1;rw[←e,hb1] at this;cases this) (.live 2 [[.ms b 0 m m,wI 0]])
     exact congrArg (fun x=>DL.D.agg [x,wI 0]) ((hq2.snapR hm1 1).trans (by rw[hqs]))
   ·rw[if_neg hfit]
    repeat (any_goals (first|(apply zcd;(first|refine zbW ?_|refine zb0 ?_|refine zbZ ?_|refine zcf ?_|refine zcm ?_|(apply zea;(first|refine zb9 (f_mul (a:=(D:Int)) (b:=(W:Int)) rfl rfl (by omega) (by omega)) ?_|refine zb9 (ze5 rfl rfl (by omega)) ?_|refine zb2 ?_))|(apply zdc;(first|(refine zcw ?_;refine zdZ rfl hw rfl rfl rfl ?_)|refine zb4 rfl (hk) rfl rfl ?_|refine zb4 rfl (hc) rfl rfl ?_|refine zb8 ?_))|refine zc0 ?_|refine zco ?_|refine zdz ?_))|(apply zcg;(first|refine zbY rfl ?_|refine zbX rfl ?_|refine zch rfl rfl ?_|refine zcb rfl rfl ?_|refine zb5 rfl ?_|refine zb7 rfl ?_))|with_reducible (refine kSr ?_)|(with_reducible refine zce ?_;refine kEr rfl ?_)))
    rfl
  ·rw[if_neg h2]
   repeat (any_goals (first|(apply zcd;(first|refine zbW ?_|refine zb0 ?_|refine zbZ ?_|refine zcf ?_|refine zb2 ?_|(apply zdc;(first|refine zb4 rfl (hk) rfl rfl ?_|refine zb4 rfl (hc) rfl rfl ?_))|refine zc0 ?_|refine zco ?_|refine zdz ?_))|(apply zcg;(first|refine zbY rfl ?_|refine zbX rfl ?_|refine zch rfl rfl ?_|refine zb7 rfl ?_|refine zb6 rfl rfl (by first|assumption|omega) ?_))|with_reducible (refine kSr ?_)|(with_reducible refine zce ?_;refine kEr rfl ?_)))
   rfl
 ·rw[e] at hk ⊢
  rw[if_neg (by decide)]
  repeat (any_goals (first|(apply zcd;(first|refine zbW ?_|refine zb0 ?_|refine zbZ ?_|refine zcf ?_|refine zb2 ?_|refine zb4 rfl (hk) rfl rfl ?_|refine zc0 ?_|refine zco ?_|refine zdz ?_))|(apply zcg;(first|refine zbY rfl ?_|refine zbX rfl ?_|refine zch rfl rfl ?_|refine zcb rfl rfl ?_|refine zb5 rfl ?_|refine zb7 rfl ?_))|with_reducible (refine kSr ?_)|(with_reducible refine zce ?_;refine kEr rfl ?_)))
  rfl
end Go.DL
