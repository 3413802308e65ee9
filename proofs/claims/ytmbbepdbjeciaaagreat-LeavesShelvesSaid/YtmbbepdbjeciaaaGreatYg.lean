/- The reference's power and division. -/
import Derived.Test.YtmbbepdbjeciaaaGreatZe
import Derived.Test.YtmbbepdbjeciaaaGreatZo
import Derived.Test.YtmbbepdbjeciaaaGreatZp
set_option maxRecDepth 100000
set_option maxHeartbeats 16000000
namespace Go.DL
open Go.Proofs Go
theorem pw_succ {x:Int}(hx:0≤x)(i:Nat):DM.pw x (i+1)=DM.pw x i*x%65521:=by
 obtain⟨m,rfl⟩:=zF hx
 simp only[DM.pw,DM.powN,zM,Nat.pow_succ]
 have h1:((m ^ i*m%65521:Nat):Int)=((m ^ i%65521*m%65521:Nat):Int):=by
  rw[Nat.mod_mul_mod]
 have h2:((m ^ i%65521*m%65521:Nat):Int)=((m ^ i%65521:Nat):Int)*(m:Int)%65521:=by
  rw[Int.natCast_emod,zay];rfl
 exact h1.trans h2
theorem m_rpower {x:Int}(hX:W x)(n:Nat)(hn:n≤4611686018427387904):Maps Tryz.prog 134 [wI x,wI n] (wI (DM.pw x n)):=by
 refine Maps.vt pok Tryz.f134 (n:=17) (rs:=[.tmp 4]) rfl rfl rfl rfl rfl rfl fun g=>?_
 repeat (any_goals (first|(refine zcj ?_;(first|refine zbW ?_|refine zbZ ?_))|(refine zck ?_;(first|refine zbY rfl ?_|refine zbX rfl ?_|refine zb3 rfl ?_))))
 refine zcl (fun j a H g'=>∃i:Nat,j=n-i∧i≤n∧a=[(0,wI x),(1,wI n),(5,wI (DM.pw x i)),(6,wI i)]∧H=[]∧g'=g) rfl
  ⟨_,_,_,⟨0,rfl,zj _,rfl,rfl,rfl⟩,fgA⟩ ?_
 rintro j a H g' ⟨i,rfl,hi,rfl,rfl,rfl⟩
 by_cases hlt:i < n
 ·have hmul:=mulB (DM.pw_W x i) hX
  repeat (any_goals (first|(refine zcj ?_;(first|refine zbW ?_|refine zb0 ?_|refine zbZ ?_|refine zb2 ?_))|(refine zck ?_;(first|refine zbY rfl ?_|refine zbX rfl ?_|refine zb6 rfl rfl (by first|assumption|omega) ?_|refine zb3 rfl ?_|refine zb5 rfl ?_))|with_reducible (refine kLn ?_)))
  exact⟨n-(i+1),by omega,_,_,⟨i+1,rfl,hlt,by rw[pw_succ hX.1],rfl,rfl⟩,fgA⟩
 ·obtain rfl:i=n:=by omega
  repeat (any_goals (first|(refine zcj ?_;(first|refine zbW ?_|refine zb0 ?_|refine zbZ ?_|refine zb2 ?_))|(refine zck ?_;(first|refine zbY rfl ?_|refine zbX rfl ?_|refine zca rfl rfl (by first|assumption|omega) ?_|refine zci rfl ?_|refine zb7 rfl ?_))|(with_reducible refine zce ?_;refine kEr rfl ?_)))
  rfl
theorem f_appSl {P:Program}{H:List Blk}{s n:Nat}{al:AL}{tx:TypeId}{x y:Operand}{te:TypeId}{m mm c b1:Nat}{o v:List Int}(hx:evA n al x=.ms b1 0 m c)(hy:evA n al y=.sl (v.map eI))(hb1:H[b1]? = some (.live 1 (o.map eI)))(hm:m=o.length)
  (hmm:o.length+v.length=mm) (he:zc3 P tx=some (te,1)) (hz:zdC P te=some [wI 0]) (hby:P.bytesOf te=8) (hl:o.length+v.length≤17592186044416):
  Ap P H s n al (.call { callee:=.builtin .append,args:=#[x,y],argTypes:=#[tx,tx] }) mm (some b1) (.live 1 ((o++v).map eI)):=by
 subst hm;subst hmm
 have hu:P.underlying tx=some (.slice te):=by
  unfold zc3 at he
  split at he
  ·rename_i e hu;simp only[zd] at he;obtain⟨_,_,h⟩:=he;cases h;exact hu
  ·cases he
 refine f_app hx hy ?_ (by simp) rfl
 have e1:zcF H (.ms b1 0 o.length c)=some (o.map eI):=by
  simp only[zcF,hb1,zQ,ze,zf,if_true,zS]
  rw[zg (by simp)]
 have e2:zcF H (.sl (v.map eI))=some (v.map eI):=by
  simp only[zcF];exact congrArg some (eI_map _ _ fun x=>rfl)
 have e3:∀l:List Int,(l.map eI).all (fun e=>e.length==1)=true:=fun l=>zh.2 fun e he=>by
  obtain⟨a,_,rfl⟩:=zt.1 he;rfl
 have e4:(v.map eI).all (fun e=>e.all isCell)=true:=zh.2 fun e he=>by
  obtain⟨a,_,rfl⟩:=zt.1 he;rfl
 simp only[zew,addedD,he,hu,e1,e2]
 rw[if_pos]
 ·simp only[hb1,zcZ];simp
 ·refine⟨by decide,by rw[hz];rfl,e3 o,e3 v,e4,?_,?_⟩
  ·rw[hby,ze,ze];omega
  ·rw[ze,ze];omega
theorem m_rdivided {k e:Nat}{a b:List Int}(hs:k+e≤1000)(al:a.length=k+e)(aW:allW a)(bl:b.length=e+1)(bW:allW b)(mon:b.getD e 0=1):
  ((DM.dvS k e a b k).2.all (fun n=>decide (n=0))=true→Maps Tryz.prog 136 [.sl (a.map eI),.sl (b.map eI)] (.tup [.fl ((DM.dvS k e a b k).1.map eI),wB true]))∧((DM.dvS k e a b k).2.all (fun n=>decide (n=0))=false→Maps Tryz.prog 136 [.sl (a.map eI),.sl (b.map eI)] (.tup [.fl [],wB false])):=by
 suffices h:∀res,res=(if (DM.dvS k e a b k).2.all (fun n=>decide (n=0))=true then D.tup [.fl ((DM.dvS k e a b k).1.map eI),wB true] else .tup [.fl [],wB false])→Maps Tryz.prog 136 [.sl (a.map eI),.sl (b.map eI)] res from
  ⟨fun hc=>h _ (by rw[if_pos hc]),fun hc=>h _ (by rw[if_neg (by rw[hc];decide)])⟩
 intro res hres
 refine Maps.vt pok Tryz.f136 (n:=80) (rs:=[.tmp 4,.tmp 5]) rfl rfl rfl rfl rfl rfl fun g=>?_
 repeat (any_goals (first|(refine zcj ?_;(first|refine zbW ?_|refine zcI rfl (f_bsl (ps:=[]) (sz:=1) (es:=[]) rfl) rfl ?_|refine zeH (s:=1) rfl (f_appSl (o:=[]) (v:=a) (mm:=k+e) rfl rfl rfl rfl (by rw[al];simp) rfl rfl rfl (by rw[al];simp;omega)) (H':=[.dead,.live 1 (a.map eI)]) rfl ?_|refine zcI rfl (ze3 (z:=[wI 0]) (sz:=1) (m:=k) (by':=8) rfl rfl rfl rfl rfl (by decide) rfl (by omega) (by omega) (by omega)) nrX ?_|refine zb0 ?_|refine zbZ ?_|refine zb2 ?_|refine zb8 ?_))|(refine zck ?_;(first|refine zbY rfl ?_|refine zbX rfl ?_|refine zb3 rfl ?_))))
 have hk0:((k:Int)-1-(0:Nat))=k-1:=by omega
 refine zcl (fun j aa H g'=>∃(m:Nat) (o r:List Int),j=k-m∧m≤k∧DM.dvS k e a b m=(o,r)∧aa=[(1,.sl (b.map eI)),(6,.ms 1 0 (k+e) (k+e)),(7,.ms 2 0 k k),(8,wI ((k:Int)-1-m))]∧H=[.dead,.live 1 (r.map eI),.live 1 (o.map eI)]∧g'=g) rfl
  ⟨_,_,_,⟨0,List.replicate k 0,a,rfl,zj _,rfl,by rw[hk0],rfl,rfl⟩,?_⟩ ?_
 ·have e0:(List.replicate k [wI 0]:List (List D))=(List.replicate k 0).map eI:=by simp[eI]
  rw[e0]
  exact Wk.keep kpX
 rintro j aa H g' ⟨m,o,r,rfl,hm,hd,rfl,rfl,rfl⟩
 have hv:=DM.dv_ok al aW bl mon m hm
 rw[hd] at hv
 have hol:=hv.ol
 have hrl:=hv.rl
 simp only at hol hrl
 by_cases hlt:m < k
 ·obtain⟨i,hi⟩:∃i:Nat,i=k-(m+1):=⟨_,rfl⟩
  have e1:(k:Int)-1-m=(i:Int):=by omega
  have hie:i+e < r.length:=by omega
  have hf:r.getD (i+e) 0=r[i+e]:=by simp[zc,hie]
  have hfW:=hv.rW _ (zi hie)
  rw[e1]
  repeat (any_goals (first|(refine zcj ?_;(first|refine zbW ?_|refine zb9 (zct (k:=i+e) rfl rfl (by omega) rfl rfl (by omega)) ?_|refine zb9 (zct (k:=i) rfl rfl rfl rfl rfl (by omega)) ?_|refine zb9 (f_ldW (k:=i+e) rfl rfl hie rfl) ?_|refine zdo (zeB (k:=i) rfl rfl (by omega) rfl rfl) nrX ?_|refine zb0 ?_|refine zbZ ?_|refine zb2 ?_|refine zb8 ?_))|(refine zck ?_;(first|refine zbY rfl ?_|refine zbX rfl ?_|refine zch rfl rfl ?_|refine zb3 rfl ?_|refine zb5 rfl ?_))))
  rw[←hf]
  rw[←hf] at hfW
  generalize hF:r.getD (i+e) 0=f at hfW
  refine zcl (fun j aa H g2=>∃(q:Nat) (r':List Int),j=b.length-q∧q≤b.length∧r'=DM.subA f (b.take q) i r∧aa=[(1,.sl (b.map eI)),(6,.ms 1 0 (k+e) (k+e)),(7,.ms 2 0 k k),(8,wI i),(9,wI f),(10,wI q)]∧H=[.dead,.live 1 (r'.map eI),.live 1 ((o.set i f).map eI)]∧g2=g') rfl
   ⟨_,_,_,⟨0,r,rfl,zj _,by simp[DM.subP,DM.subA_nil],rfl,rfl,rfl⟩,fgA⟩ ?_
  rintro j aa H g2 ⟨q,r',rfl,hq,hr',rfl,rfl,rfl⟩
  have hfit:i+b.length≤r.length:=by omega
  have hrl':r'.length=r.length:=by rw[hr',DM.subA_len]
  by_cases hlq:q < b.length
  ·have hbq:b.getD q 0=b[q]:=by simp[zc,hlq]
   have hbW:=bW _ (zi hlq)
   have hg1:r'[i+q]? = some (r.getD (i+q) 0):=by
    rw[zdr (by omega),hr',DM.subA_same f hfit hlq]
   have hrW:0≤r.getD (i+q) 0∧r.getD (i+q) 0≤65520:=hv.rW _ (zm (zdr (show i+q < r.length by omega)))
   have hmul:0≤(65521-f)*b[q]∧(65521-f)*b[q]≤4292935920:=⟨Int.mul_nonneg (by omega) hbW.1,Int.le_trans (Int.mul_le_mul (show 65521-f≤65521 by omega) hbW.2 hbW.1 (by decide)) (by decide)⟩
   have heq:(r.getD (i+q) 0+(65521-f)*b[q])%65521=(r.getD (i+q) 0-f*b[q])%65521:=by
    rw[show r.getD (i+q) 0+(65521-f)*b[q]=(r.getD (i+q) 0-f*b[q])+b[q]*65521 by rw[Int.sub_mul];omega,Int.add_mul_emod_self_right]
   repeat (any_goals (first|(refine zcj ?_;(first|refine zbW ?_|refine zb0 ?_|refine zbZ ?_|refine zb2 ?_|refine zb8 ?_))|(refine zck ?_;(first|refine zbY rfl ?_|refine zbX rfl ?_|refine zcu [(1,[0]),(1,[0]),(1,[0]),(1,[0]),(1,[0]),(1,[0]),(1,[0]),(1,[0]),(1,[0]),(1,[0]),(1,[0]),(1,[0]),(1,[0]),(1,[0]),(1,[0]),(1,[0]),(1,[0]),(1,[0]),(1,[0]),(1,[0]),(0,[0])] 2 zcr rfl (by decide +kernel) (by decide +kernel) (by decide +kernel) nrX nrX ?_|refine zb6 rfl rfl (by first|assumption|omega) ?_|refine zb3 rfl ?_|refine zb5 rfl ?_))|(refine zd3 ?_;(first|refine zcy nrX ?_|refine zdi (zct (k:=i+q) rfl rfl (by omega) rfl rfl (by omega)) ?_|refine zdi (zc9 rfl rfl rfl hg1) ?_|refine PT.wr (zeB (k:=i+q) rfl rfl (by omega) rfl rfl) nrX ?_|refine zc2 ?_|refine zda ?_|refine PT.bnA ?_|refine zem ?_))|with_reducible (refine kLn ?_)))
   refine⟨b.length-(q+1),by omega,_,_,⟨q+1,r'.set (i+q) ((r.getD (i+q) 0+(65521-f)*b[q])%65521),rfl,hlq,?_,rfl,rfl,rfl⟩,fgA⟩
   rw[hr',heq,←hbq]
   exact DM.subA_step f hfit hlq
  ·obtain rfl:q=b.length:=by omega
   rw[z0] at hr'
   repeat (any_goals (first|(refine zcj ?_;(first|refine zbW ?_|refine zb0 ?_|refine zbZ ?_|refine zb2 ?_|refine zb8 ?_))|(refine zck ?_;(first|refine zbY rfl ?_|refine zbX rfl ?_|refine zca rfl rfl (by first|assumption|omega) ?_|refine zci rfl ?_))|with_reducible (refine kLn ?_)))
   refine⟨k-(m+1),by omega,_,_,⟨m+1,o.set i f,r',rfl,hlt,?_,rfl,rfl,rfl⟩,fgA⟩
   simp only[DM.dvS,hd]
   rw[←hi,hF,hr']
 ·obtain rfl:m=k:=by omega
  rw[hd] at hres
  simp only at hres
  repeat (any_goals (first|(refine zcj ?_;(first|refine zbW ?_|refine zb0 ?_|refine zbZ ?_|refine zb2 ?_))|(refine zck ?_;(first|refine zbY rfl ?_|refine zbX rfl ?_|refine zca rfl rfl (by first|assumption|omega) ?_|refine zb3 rfl ?_|refine zci rfl ?_))))
  refine zcl (fun j aa H g2=>∃i:Nat,j=r.length-i∧i≤r.length∧(r.take i).all (fun n=>decide (n=0))=true∧aa=[(6,.ms 1 0 (m+e) (m+e)),(7,.ms 2 0 m m),(11,wI i)]∧H=[.dead,.live 1 (r.map eI),.live 1 (o.map eI)]∧g2=g') rfl
   ⟨_,_,_,⟨0,rfl,zj _,by simp,rfl,rfl,rfl⟩,fgA⟩ ?_
  rintro j aa H g2 ⟨i,rfl,hi,hz,rfl,rfl,rfl⟩
  by_cases hli:i < r.length
  ·have hri:=zdr hli
   by_cases h0:r.getD i 0=0
   ·repeat (any_goals (first|(refine zcj ?_;(first|refine zbW ?_|refine zb9 (zct (k:=i) rfl rfl rfl rfl rfl (by omega)) ?_|refine zb9 (zc9 rfl rfl rfl hri) ?_|refine zb9 (zeQ rfl rfl h0) ?_|refine zb0 ?_|refine zbZ ?_|refine zb2 ?_|refine zb8 ?_))|(refine zck ?_;(first|refine zbY rfl ?_|refine zbX rfl ?_|refine zcb rfl rfl ?_|refine zb6 rfl rfl (by first|assumption|omega) ?_|refine zb3 rfl ?_|refine zb5 rfl ?_))|with_reducible (refine kLn ?_)))
    refine⟨r.length-(i+1),by omega,_,_,⟨i+1,rfl,hli,?_,rfl,rfl,rfl⟩,fgA⟩
    rw[za9,List.all_append,hz,hri,h0];rfl
   ·repeat (any_goals (first|(refine zcj ?_;(first|refine zbW ?_|refine zb9 (zct (k:=i) rfl rfl rfl rfl rfl (by omega)) ?_|refine zb9 (zc9 rfl rfl rfl hri) ?_|refine zb9 (f_neqT rfl rfl h0) ?_|refine zb0 ?_|refine zbZ ?_|refine zb2 ?_|refine zb8 ?_))|(refine zck ?_;(first|refine zbY rfl ?_|refine zbX rfl ?_|refine zch rfl rfl ?_|refine zb6 rfl rfl (by first|assumption|omega) ?_|refine zb3 rfl ?_|refine zb5 rfl ?_|refine zb7 rfl ?_))|(with_reducible first|refine kSr ?_|refine kBr ?_|refine kLr ?_)|(with_reducible refine zce ?_;refine kEr rfl ?_)))
    rw[hres,if_neg]
    ·rfl
    ·intro h
     have:=zh.1 h _ (zm hri)
     exact h0 (of_decide_eq_true this)
  ·obtain rfl:i=r.length:=by omega
   rw[z0] at hz
   repeat (any_goals (first|(refine zcj ?_;(first|refine zbW ?_|refine zb0 ?_|refine zbZ ?_|refine zb2 ?_|refine zb8 ?_))|(refine zck ?_;(first|refine zbY rfl ?_|refine zbX rfl ?_|refine zca rfl rfl (by first|assumption|omega) ?_|refine zci rfl ?_|refine zb7 rfl ?_))|(with_reducible refine zce ?_;refine kEr rfl ?_)))
   rw[hres,if_pos hz]
   show D.tup [snapR _ 4 (.ms 2 0 m m),_]=_
   rw[snapRW (o:=o) rfl hol.symm]
   rfl
end Go.DL
/- The reference's linear equations, solved in place. -/
namespace Go.DL
open Go.Proofs Go
section
variable {P:Program}{H:List Blk}{s n:Nat}{al:AL}{tx ty':TypeId}{x y:Operand}{a b:Int}
theorem f_lssTh (hx:evA n al x=wI a)(hy:evA n al y=wI b)(h:a < b):Val P H s n al (.binOp .lss tx x y ty') (wB true):=by
 have h1:=f_lss (P:=P) (H:=H) (s:=s) (tx:=tx) (ty':=ty') hx hy
 rwa [decide_eq_true h] at h1
theorem f_lssFh (hx:evA n al x=wI a)(hy:evA n al y=wI b)(h:¬a < b):Val P H s n al (.binOp .lss tx x y ty') (wB false):=by
 have h1:=f_lss (P:=P) (H:=H) (s:=s) (tx:=tx) (ty':=ty') hx hy
 rwa [decide_eq_false h] at h1
end
structure KH (H:List Blk)(bt b n:Nat)(ps:List Nat)(M:List (List Int))(cl:List Int):Prop where
 rw:RW H b n ps M
 att:H[bt]? = some (.live 1 (cl.map eI))
 dt:bt≠b
 dr:∀i,i < ps.length→ps.getD i 0≠bt
section
variable {H T:List Blk}{bt b n q i u p:Nat}{ps:List Nat}{M:List (List Int)}{cl:List Int}
theorem RW.setRow (h:RW H b n ps M)(hi:i < ps.length)(r:List Int):RW (H.set (ps.getD i 0) (.live 1 (r.map eI))) b n ps (M.set i r):=by
 refine⟨zdy h.rows (h.ne i hi),fun j hj=>?_,h.ne,h.nd,by rw[zE];exact h.len⟩
 have hl:=h.len
 by_cases e:i=j
 ·subst e
  rw[zp (h.lt.2 i hi),setD_get (by omega)]
 ·rw[zr (fun q=>e (h.nd i j hi hj q)),setD_ne e];exact h.row j hj
theorem RW.swap (h:RW H b n ps M)(hu:u < ps.length)(hp:p < ps.length):
  RW (H.set b (.live 1 (((ps.map fun p=>[D.ms p 0 (n+1) (n+1)]).set p [.ms (ps.getD u 0) 0 (n+1) (n+1)]).set u [.ms (ps.getD p 0) 0 (n+1) (n+1)]))) b n ((ps.set p (ps.getD u 0)).set u (ps.getD p 0)) ((M.set p (M.getD u [])).set u (M.getD p [])):=by
 have hl:((ps.set p (ps.getD u 0)).set u (ps.getD p 0)).length=ps.length:=by simp
 have hlM:=h.len
 have hg:∀i,((ps.set p (ps.getD u 0)).set u (ps.getD p 0)).getD i 0=ps.getD (if i=u then p else if i=p then u else i) 0:=fun i=>by
  rw[swapM_get hp hu];split<;>(try split)<;>rfl
 have hgM:∀i,((M.set p (M.getD u [])).set u (M.getD p [])).getD i []=M.getD (if i=u then p else if i=p then u else i) []:=fun i=>by
  rw[swapM_get (by omega) (by omega)];split<;>(try split)<;>rfl
 have hi:∀i,i < ps.length→(if i=u then p else if i=p then u else i) < ps.length:=fun i hi=>by split<;>(try split)<;>omega
 refine⟨?_,fun i hil=>?_,fun i hil=>?_,fun i j hil hjl he=>?_,by simp[h.len]⟩
 ·rw[zp h.lt.1,zaB,zaB]
 ·rw[hl] at hil
  rw[hg,hgM,zr (Ne.symm (h.ne _ (hi i hil)))]
  exact h.row _ (hi i hil)
 ·rw[hl] at hil
  rw[hg];exact h.ne _ (hi i hil)
 ·rw[hl] at hil hjl
  rw[hg,hg] at he
  have:=h.nd _ _ (hi i hil) (hi j hjl) he
  revert this
  repeat' split
  all_goals omega
theorem RW.ptr (h:RW H b n ps M)(hi:i < ps.length):(ps.map fun p=>[D.ms p 0 (n+1) (n+1)])[i]? = some [.ms (ps.getD i 0) 0 (n+1) (n+1)]:=by
 simp[zc,hi]
theorem RW.get {L c used j:Nat}{M0:List (List Int)}{at':List Int}(_:RW H b n ps M)(hE:DM.Elim L n M0 c used at' M)(hi:i < L)(hj:j < n+1):(M.getD i [])[j]? = some (DM.ent M i j):=by
 have hr:=(hE.row hi).1
 rw[zdr (by omega)];rfl
theorem KH.app (h:KH H bt b n ps M cl)(T:List Blk):KH (H++T) bt b n ps M cl:=⟨h.rw.app T,zcs T h.att,h.dt,h.dr⟩
theorem KH.setRow (h:KH H bt b n ps M cl)(hi:i < ps.length)(r:List Int):KH (H.set (ps.getD i 0) (.live 1 (r.map eI))) bt b n ps (M.set i r) cl:=
 ⟨h.rw.setRow hi r,zdy h.att (h.dr i hi),h.dt,h.dr⟩
theorem KH.swap (h:KH H bt b n ps M cl)(hu:u < ps.length)(hp:p < ps.length):
  KH (H.set b (.live 1 (((ps.map fun p=>[D.ms p 0 (n+1) (n+1)]).set p [.ms (ps.getD u 0) 0 (n+1) (n+1)]).set u [.ms (ps.getD p 0) 0 (n+1) (n+1)]))) bt b n ((ps.set p (ps.getD u 0)).set u (ps.getD p 0)) ((M.set p (M.getD u [])).set u (M.getD p [])) cl:=by
 refine⟨h.rw.swap hu hp,zdy h.att (Ne.symm h.dt),h.dt,fun i hi=>?_⟩
 rw[swapM_get hp hu]
 simp only[zE] at hi
 split
 ·exact h.dr p hp
 ·split
  ·exact h.dr u hu
  ·exact h.dr i hi
theorem KH.newAt (h:KH H bt b n ps M cl){v:Int}{x:Blk}:KH (H.set bt .dead++[x,.live 1 ((cl++[v]).map eI)]) (H.length+1) b n ps M (cl++[v]):=by
 obtain⟨l1,l2⟩:=h.rw.lt
 exact⟨(h.rw.other h.dt h.dr _).app _,zcW (t:=1) (by simp) rfl,by omega,fun i hi=>by have:=l2 i hi;omega⟩
theorem KH.start (h:RW H b n ps M):KH (H++[.live 1 []]) H.length b n ps M []:=by
 obtain⟨l1,l2⟩:=h.lt
 exact⟨h.app _,zcW (t:=0) rfl rfl,by omega,fun i hi=>by have:=l2 i hi;omega⟩
end
def ALs (n used:Nat)(cl at':List Int):Prop:=cl.length=used∧∀r,r < used→∃j:Nat,cl.getD r 0=j∧j < n∧at'.getD j 0=(r:Int)+1
theorem ALs.next {n used c:Nat}{cl at':List Int}(h:ALs n used cl at')(hc:c < n)(h0:at'.getD c 0=0)(hl:at'.length=n):ALs n (used+1) (cl++[(c:Int)]) (at'.set c ((used:Int)+1)):=by
 refine⟨by simp[h.1],fun r hr=>?_⟩
 have h1:=h.1
 rw[zee _ _ _ _ (by omega)]
 by_cases hu:r < used
 ·obtain⟨j,e1,e2,e3⟩:=h.2 r hu
  refine⟨j,by rw[if_pos (by omega)];exact e1,e2,?_⟩
  rw[getD_setX _ _ _ _ _ (by omega),if_neg]
  ·exact e3
  ·intro e;subst e;omega
 ·refine⟨c,by rw[if_neg (by omega)],hc,?_⟩
  rw[getD_setX _ _ _ _ _ (by omega),if_pos rfl];omega
def outR (n:Nat)(at':List Int)(M:List (List Int))(i:Nat):List Int:=(List.range n).map fun j=>if 0 < at'.getD j 0∧at'.getD j 0≤(i:Int) then DM.ent M (at'.getD j 0-1).toNat n else 0
theorem outR_set {L n used i j0:Nat}{M0 M:List (List Int)}{at':List Int}(hE:DM.Elim L n M0 n used at' M)(hj:j0 < n)(ha:at'.getD j0 0=(i:Int)+1):(outR n at' M i).set j0 (DM.ent M i n)=outR n at' M (i+1):=by
 refine zaz (by simp[outR]) fun j h1 h2=>?_
 have hjn:j < n:=by simpa[outR] using h2
 rw[List.getElem_set]
 simp only[outR,zbg,zbR]
 split
 ·rename_i e;subst e
  rw[ha,if_pos (by omega),show ((i:Int)+1-1).toNat=i by omega]
 ·rename_i e
  by_cases h:0 < at'.getD j 0∧at'.getD j 0≤(i:Int)
  ·rw[if_pos h,if_pos (by omega)]
  ·rw[if_neg h,if_neg]
   intro h3
   have h4:at'.getD j 0=(i:Int)+1:=by omega
   exact e (hE.inj hj hjn (by rw[ha,h4]) (by omega))
theorem outR_all {L n used:Nat}{M0 M:List (List Int)}{at':List Int}(hE:DM.Elim L n M0 n used at' M):outR n at' M used=DM.readX n at' M:=by
 refine zI fun j hj=>?_
 rw[zP] at hj
 rcases hE.a0 j hj with h0|⟨_,r,hr,h1⟩
 ·rw[if_neg (by omega),if_neg (by omega)]
 ·rw[if_pos (by omega),if_pos (by omega)]
theorem outR_zero {L n used:Nat}{M0 M:List (List Int)}{at':List Int}(hE:DM.Elim L n M0 n used at' M):outR n at' M 0=List.replicate n 0:=by
 have:outR n at' M 0=(List.range n).map fun _=>(0:Int):=zI fun j hj=>by rw[if_neg (by omega)]
 rw[this,List.map_const',zbp]
theorem sub_mod (a f b:Int):(a+(65521-f)*b)%65521=(a-f*b)%65521:=by
 rw[show a+(65521-f)*b=(a-f*b)+b*65521 by rw[Int.sub_mul];omega,Int.add_mul_emod_self_right]
theorem mulB2 {f b:Int}(hf:W f)(hb:W b):0≤(65521-f)*b∧(65521-f)*b≤4292935920:=⟨Int.mul_nonneg (by omega) hb.1,Int.le_trans (Int.mul_le_mul (show 65521-f≤65521 by omega) hb.2 hb.1 (by decide)) (by decide)⟩
theorem c_rsolved {H0:List Blk}{b n L:Nat}{ps:List Nat}{M0:List (List Int)}(hL:ps.length=L)(hn:n≤1000)(hLb:L≤1000)(hM:M0.length=L)(hrl:∀r,r∈M0→r.length=n+1∧allW r)(hR0:RW H0 b n ps M0):
  CallSp Tryz.prog 135 [.ms b 0 L L,wI n] H0 fun d H=>(∃q x,d=.tup [.ms q 0 n n,wB true]∧H[q]? = some (.live 1 (x.map eI))∧DM.Sol n M0 x∧allW x)∨(d=.tup [.nil,wB false]∧∀x,¬DM.Sol n M0 x):=by
 refine CallSp.vt pok Tryz.f135 (n:=170) (rs:=[.tmp 4,.tmp 5]) rfl rfl rfl rfl rfl rfl rfl fun g=>?_
 have hE0:=DM.Elim.start hM hrl
 repeat (any_goals (first|(refine zcj ?_;(first|refine zbW ?_|refine zbZ ?_))|(refine zck ?_;(first|refine zbY rfl ?_|refine zbX rfl ?_|refine zb3 rfl ?_))))
 refine zdh (i:=7) (s:=H0.length) (H':=H0++[.live 1 []]) 1 rfl rfl rfl ?_
 have hK0:=KH.start hR0
 refine zcl (fun j a H g'=>∃(c used bt:Nat) (at' cl:List Int) (M:List (List Int)) (ps:List Nat),j=n-c∧c≤n∧DM.Elim L n M0 c used at' M∧ALs n used cl at'∧a=[(0,.ms b 0 L L),(1,wI n),(6,wI used),(7,.ms bt 0 used used),(8,wI c)]∧KH H bt b n ps M cl∧ps.length=L∧g'=g) rfl
  ⟨_,_,_,⟨0,0,H0.length,_,[],M0,ps,rfl,zj _,hE0,⟨rfl,fun r hr=>absurd hr (zap _)⟩,rfl,hK0,hL,rfl⟩,Wk.keep kpX⟩ ?_
 clear hK0 hE0 hR0 hL
 rintro j a H g' ⟨c,used,bt,at',cl,M,ps,rfl,hc,hE,hA,rfl,hK,hL,rfl⟩
 have hul:=hE.ul
 by_cases hlt:c < n
 ·repeat (any_goals (first|(refine zcj ?_;(first|refine zbW ?_|refine zb0 ?_|refine zbZ ?_|refine zb2 ?_))|(refine zck ?_;(first|refine zbY rfl ?_|refine zbX rfl ?_|refine zb6 rfl rfl (by first|assumption|omega) ?_|refine zb3 rfl ?_|refine zb5 rfl ?_))))
  refine zcl (fun j a H2 g2=>∃r:Nat,j=L-r∧used≤r∧r≤L∧(∀i,used≤i→i < r→DM.ent M i c=0)∧a=[(0,.ms b 0 L L),(1,wI n),(6,wI used),(7,.ms bt 0 used used),(8,wI c),(9,wI r)]∧H2=H∧g2=g') rfl
   ⟨_,_,_,⟨used,rfl,zf _,hE.ul,fun i h1 h2=>absurd h2 (by omega),rfl,rfl,rfl⟩,Wk.keep kpX⟩ ?_
  rintro j a H2 g2 ⟨r,rfl,hur,hr,hz,rfl,rfl,rfl⟩
  by_cases hlr:r < L
  ·by_cases hne:DM.ent M r c=0
   ·repeat (any_goals (first|(refine zcj ?_;(first|refine zbW ?_|refine zb9 (f_lssTh rfl rfl (by omega)) ?_|refine zb9 (zct (k:=r) rfl rfl rfl hK.rw.rows rfl (by omega)) ?_|refine zb9 (zcB rfl hK.rw.rows (hK.rw.ptr (by omega)) rfl rfl) ?_|refine zb9 (zct (k:=c) rfl rfl rfl (hK.rw.row r (by omega)) rfl (by omega)) ?_|refine zb9 (zc9 rfl (hK.rw.row r (by omega)) rfl (hK.rw.get hE hlr (by omega))) ?_|refine zb9 (zeG rfl rfl hne) ?_|refine zcS rfl ?_|refine zb0 ?_|refine zbZ ?_|refine zb2 ?_|refine zb8 ?_|refine zcx ?_))|(refine zck ?_;(first|refine zbY rfl ?_|refine zbX rfl ?_|refine zch rfl rfl ?_|refine zb3 rfl ?_|refine zb5 rfl ?_))|(with_reducible first|refine kBn ?_|refine kLn ?_)))
    refine⟨L-(r+1),by omega,_,_,⟨r+1,rfl,by omega,by omega,fun i h1 h2=>?_,rfl,rfl,rfl⟩,Wk.keep kpX⟩
    rcases zZ i r with h3|h3
    ·exact hz i h1 h3
    ·obtain rfl:i=r:=by omega
     exact hne
   ·have hbl:=hK.rw.lt.1
    obtain⟨X1,hX1⟩:∃X1:List (List D),X1=(ps.map fun p=>[D.ms p 0 (n+1) (n+1)]).set r [.ms (ps.getD used 0) 0 (n+1) (n+1)]:=⟨_,rfl⟩
    obtain⟨H3,hH3⟩:∃H3,H3=H2.set b (.live 1 X1):=⟨_,rfl⟩
    have hS:=hK.swap (u:=used) (p:=r) (by omega) (by omega)
    rw[←hX1] at hS
    obtain⟨ps',hps'⟩:∃p,p=((ps.set r (ps.getD used 0)).set used (ps.getD r 0)):=⟨_,rfl⟩
    obtain⟨M',hM'⟩:∃p,p=((M.set r (M.getD used [])).set used (M.getD r [])):=⟨_,rfl⟩
    rw[←hps',←hM'] at hS
    have hL':ps'.length=L:=by rw[hps'];simp[hL]
    have hxp:ps'.getD used 0=ps.getD r 0:=by rw[hps',swapM_get (by omega) (by omega),if_pos rfl]
    have hb3:H3[b]? = some (.live 1 X1):=by rw[hH3];exact zp hbl
    obtain⟨X2,hX2⟩:∃X2:Blk,X2=.live 1 (X1.set used [.ms (ps.getD r 0) 0 (n+1) (n+1)]):=⟨_,rfl⟩
    have hS3:KH (H3.set b X2) bt b n ps' M' cl:=by rw[hH3,zbJ,hX2];exact hS
    have hX1u:∃w,X1[used]? = some [w]:=by
     rw[hX1]
     by_cases e:r=used
     ·subst e;exact⟨_,by rw[zp (by simp;omega)]⟩
     ·exact⟨_,by rw[zr e];exact hK.rw.ptr (by omega)⟩
    obtain⟨w0,hw0⟩:=hX1u
    have hML:M'.length=L:=by rw[hS3.rw.len,hL']
    have hO:∀i,M'.getD i []=DM.origR M used r i:=fun i=>by
     rw[hM',swapM_get (by rw[hE.ml];omega) (by rw[hE.ml];omega)]
     unfold DM.origR
     by_cases h1:i=used
     ·simp[h1]
     ·simp[h1]
    obtain⟨R,hR⟩:∃R,R=M.getD r []:=⟨_,rfl⟩
    have hMu:M'.getD used []=R:=by rw[hO,DM.origR,if_pos rfl,hR]
    obtain⟨hRl,hRW⟩:=hE.row hlr
    rw[←hR] at hRl
    have hent:∀j,DM.ent M r j=R.getD j 0:=fun j=>by rw[hR];rfl
    have hnb:ps.getD r 0≠b:=hK.rw.ne r (by omega)
    have hr4:H3[ps.getD r 0]? = some (.live 1 (R.map eI)):=by rw[hH3,hR];exact zdy (hK.rw.row r (by omega)) (Ne.symm hnb)
    have hpv:R[c]? = some (DM.ent M r c):=by rw[hent];exact zdr (by omega)
    have hne1:1≤DM.ent M r c:=by have:=hRW c;omega
    repeat (any_goals (first|(refine zcj ?_;(first|refine zbW ?_|refine zb9 (f_lssTh rfl rfl (by omega)) ?_|refine zb9 (zct (k:=r) rfl rfl rfl hK.rw.rows rfl (by omega)) ?_|refine zb9 (zct (k:=used) rfl rfl rfl hK.rw.rows rfl (by omega)) ?_|refine zb9 (zcB rfl hK.rw.rows (hK.rw.ptr (by omega)) rfl rfl) ?_|refine zb9 (zct (k:=c) rfl rfl rfl (hK.rw.row r (by omega)) rfl (by omega)) ?_|refine zb9 (zc9 rfl (hK.rw.row r (by omega)) rfl (hK.rw.get hE hlr (by omega))) ?_|refine zb9 (ze7 rfl rfl hne) ?_|refine zb9 (ze7 rfl rfl (by omega)) ?_|refine zdo (f_stV (d:=.ms (ps.getD used 0) 0 (n+1) (n+1)) rfl hK.rw.rows (hK.rw.ptr (by omega)) rfl rfl rfl rfl) (H':=H3) (by rw[hH3,hX1]) ?_|refine zb9 (zct (k:=c) rfl rfl rfl hr4 rfl (by omega)) ?_|refine zb9 (zc9 rfl hr4 rfl hpv) ?_|refine zcS rfl ?_|refine zb0 ?_|refine zbZ ?_|(refine zcw ?_;(first|refine zb4 rfl (m_rinverseW _ (hRW c)) rfl rfl ?_|refine zb8 ?_))|refine zcx ?_))|(refine zck ?_;(first|refine zbY rfl ?_|refine zbX rfl ?_|refine zcb rfl rfl ?_|refine zb3 rfl ?_|refine zb5 rfl ?_|refine zci rfl ?_))))
    obtain⟨s,hs⟩:∃s,s=inv (DM.ent M r c):=⟨_,rfl⟩
    have hsW:0≤s∧s≤65520:=by rw[hs];exact inv_W _
    have hpivR:DM.pivR M c r=DM.scaleR s R:=by rw[hs,hR];rfl
    rw[←hs]
    have hsl:(DM.scaleR s R).length=R.length:=by rw[DM.scaleR,ze]
    refine zcl (fun j a H g3=>∃k:Nat,j=n+1-k∧k≤n+1∧a=[(0,.ms b 0 L L),(1,wI n),(6,wI used),(7,.ms bt 0 used used),(8,wI c),(10,.ms (ps.getD r 0) 0 (n+1) (n+1)),(11,wI s),(12,wI k)]∧H[b]? = some (.live 1 X1)∧KH (H.set b X2) bt b n ps' (M'.set used (zeU (DM.scaleR s R) R k)) cl∧g3=g2) rfl
     ⟨_,_,H3,⟨0,rfl,zj _,rfl,hb3,by rw[mixL_zero,←hMu,setD_self];exact hS3,rfl⟩,Wk.keep kpX⟩ ?_
    clear hS3 hr4 hpv hb3 hH3 hS hK
    rintro j a H4 g3 ⟨k,rfl,hk,rfl,hb4,hK4,rfl⟩
    have hx4:H4[ps.getD r 0]? = some (.live 1 ((zeU (DM.scaleR s R) R k).map eI)):=by
     have h1:=hK4.rw.row used (by omega)
     rw[setD_get (by omega),hxp,zr (Ne.symm hnb)] at h1
     exact h1
    by_cases hlk:k < n+1
    ·have hvk:=mixL_get hsl (k:=k) (by omega)
     have hmul:0≤R.getD k 0*s∧R.getD k 0*s≤4292870400:=mulB (by rw[←hent];exact hRW k) hsW
     have hset:=hK4.setRow (i:=used) (by omega) (zeU (DM.scaleR s R) R (k+1))
     rw[zbJ,hxp,List.set_comm _ _ (Ne.symm hnb),←zdV hsl (by omega),DM.getD_scale] at hset
     repeat (any_goals (first|(refine zcj ?_;(first|refine zbW ?_|refine zb9 (zct (k:=k) rfl rfl rfl hx4 rfl (by omega)) ?_|refine zb9 (zc9 rfl hx4 rfl hvk) ?_|refine zdo (zeB (k:=k) rfl hx4 (by rw[mixL_len hsl (by omega)];omega) rfl rfl) rfl ?_|refine zb0 ?_|refine zbZ ?_|refine zb2 ?_))|(refine zck ?_;(first|refine zbY rfl ?_|refine zbX rfl ?_|refine zb6 rfl rfl (by first|assumption|omega) ?_|refine zb3 rfl ?_|refine zb5 rfl ?_))|with_reducible (refine kLn ?_)))
     exact⟨n+1-(k+1),by omega,_,_,⟨k+1,rfl,by omega,rfl,zdy hb4 hnb,by rw[←zdV hsl (by omega),DM.getD_scale];exact hset,rfl⟩,Wk.keep kpX⟩
    ·obtain rfl:k=n+1:=by omega
     rw[mixL_all' hsl hRl,←hpivR] at hK4
     have hQ0:∀q,q < L→(M'.set used (DM.pivR M c r)).getD q []=if q < 0∨q=used then DM.rowA M c used r q else DM.origR M used r q:=fun q hq=>by
      by_cases e:q=used
      ·subst e;rw[setD_get (by omega),if_pos (.inr rfl),DM.rowA,if_pos rfl]
      ·rw[setD_ne (fun x=>e x.symm),if_neg (by omega),hO]
     have hpl:(DM.pivR M c r).length=n+1:=by rw[hpivR,hsl,hRl]
     have hpW:∀j,0≤(DM.pivR M c r).getD j 0∧(DM.pivR M c r).getD j 0≤65520:=fun j=>by rw[hpivR,DM.getD_scale];omega
     have hml0:(M'.set used (DM.pivR M c r)).length=L:=by rw[zE,hML]
     have hog:∀i,i < L→_:=fun i hi=>hE.orig hur hlr (i:=i) hi
     generalize hu:DM.pivR M c r=u at*
     obtain⟨H5,hH5⟩:∃H5,H5=H4.set b X2:=⟨_,rfl⟩
     rw[←hH5] at hK4
     repeat (any_goals (first|(refine zcj ?_;(first|refine zbW ?_|refine zb9 (zct (k:=used) rfl rfl rfl hb4 rfl (by omega)) ?_|refine zdo (f_stV (d:=.ms (ps.getD r 0) 0 (n+1) (n+1)) rfl hb4 hw0 rfl rfl rfl rfl) (H':=H5) (by rw[hH5,hX2]) ?_|refine zb0 ?_|refine zbZ ?_|refine zb2 ?_))|(refine zck ?_;(first|refine zbY rfl ?_|refine zbX rfl ?_|refine zca rfl rfl (by first|assumption|omega) ?_|refine zb3 rfl ?_|refine zci rfl ?_))))
     refine zcl (fun j a H g4=>∃(i:Nat) (M2:List (List Int)),j=L-i∧i≤L∧M2.length=L∧(∀q,q < L→M2.getD q []=if q < i∨q=used then DM.rowA M c used r q else DM.origR M used r q)∧a=[(0,.ms b 0 L L),(1,wI n),(6,wI used),(7,.ms bt 0 used used),(8,wI c),(10,.ms (ps.getD r 0) 0 (n+1) (n+1)),(13,wI i)]∧KH H bt b n ps' M2 cl∧g4=g3) rfl
      ⟨_,_,H5,⟨0,_,rfl,zj _,hml0,hQ0,rfl,hK4,rfl⟩,Wk.keep kpX⟩ ?_
     clear hK4 hQ0 hml0 hs hsl hpivR hx4 hb4 hH5 hw0
     rintro j a H5 g4 ⟨i,M2,rfl,hi,hm2,hQ,rfl,hK6,rfl⟩
     by_cases hli:i < L
     ·by_cases hiu:i=used
      ·repeat (any_goals (first|(refine zcj ?_;(first|refine zbW ?_|refine zb9 (zct (k:=i) rfl rfl rfl hK6.rw.rows rfl (by omega)) ?_|refine zb9 (zcB rfl hK6.rw.rows (hK6.rw.ptr (by omega)) rfl rfl) ?_|refine zb9 (zct (k:=c) rfl rfl rfl (hK6.rw.row i (by omega)) rfl (by omega)) ?_|refine zb9 (zc9 rfl (hK6.rw.row i (by omega)) rfl (zdr (by rw[hQ _ hli,if_pos (.inr hiu),DM.rowA,if_pos hiu,hu];omega))) ?_|refine zb9 (zeG rfl rfl (by omega)) ?_|refine zdI rfl rfl ?_|refine zb0 ?_|refine zbZ ?_|refine zb2 ?_|refine zb8 ?_|refine zcx ?_))|(refine zck ?_;(first|refine zbY rfl ?_|refine zbX rfl ?_|refine zch rfl rfl ?_|refine zb6 rfl rfl (by first|assumption|omega) ?_|refine zb3 rfl ?_|refine zb5 rfl ?_|refine zci rfl ?_))|with_reducible (refine kLn ?_)))
       exact⟨L-(i+1),by omega,_,_,⟨i+1,M2,rfl,hli,hm2,fun q hq=>by rw[hQ q hq];simp only[show (q < i∨q=used)↔(q < i+1∨q=used) by omega],rfl,hK6,rfl⟩,Wk.keep kpX⟩
      ·obtain⟨r0,hr0⟩:∃r0,r0=DM.origR M used r i:=⟨_,rfl⟩
       obtain⟨hol,hoW⟩:=hog i hli
       rw[←hr0] at hol hoW
       have hMi:M2.getD i []=r0:=by rw[hQ i hli,if_neg (by omega),hr0]
       have hr6:=hK6.rw.row i (by omega)
       rw[hMi] at hr6
       have hA2:DM.rowA M c used r i=DM.elimR (r0.getD c 0) u r0:=by rw[DM.rowA,if_neg hiu,hr0,hu]
       have hQ1:∀M3:List (List Int),M3=M2.set i (DM.elimR (r0.getD c 0) u r0)→M3.length=L∧∀q,q < L→M3.getD q []=if q < i+1∨q=used then DM.rowA M c used r q else DM.origR M used r q:=fun M3 h3=>by
        subst h3
        refine⟨by rw[zE,hm2],fun q hq=>?_⟩
        by_cases e:q=i
        ·subst e;rw[setD_get (by omega),if_pos (by omega),hA2]
        ·rw[setD_ne (fun x=>e x.symm),hQ q hq];simp only[show (q < i∨q=used)↔(q < i+1∨q=used) by omega]
       have hcv:r0[c]? = some (r0.getD c 0):=zdr (by omega)
       generalize hf:r0.getD c 0=f at hcv hQ1 hA2
       have hfW:=hoW c
       rw[hf] at hfW
       by_cases hf0:f=0
       ·repeat (any_goals (first|(refine zcj ?_;(first|refine zbW ?_|refine zb9 (zct (k:=i) rfl rfl rfl hK6.rw.rows rfl (by omega)) ?_|refine zb9 (zcB rfl hK6.rw.rows (hK6.rw.ptr (by omega)) rfl rfl) ?_|refine zb9 (zct (k:=c) rfl rfl rfl hr6 rfl (by omega)) ?_|refine zb9 (zc9 rfl hr6 rfl hcv) ?_|refine zb9 (ze7 rfl rfl (by omega)) ?_|refine zb9 (zeG rfl rfl (by omega)) ?_|refine zcS rfl ?_|refine zb0 ?_|refine zbZ ?_|refine zb2 ?_|refine zb8 ?_|refine zcx ?_))|(refine zck ?_;(first|refine zbY rfl ?_|refine zbX rfl ?_|refine zch rfl rfl ?_|refine zb6 rfl rfl (by first|assumption|omega) ?_|refine zb3 rfl ?_|refine zb5 rfl ?_|refine zci rfl ?_))|with_reducible (refine kLn ?_)))
        have h3:=hQ1 M2 (by rw[elim_zero hf0 (by omega) hoW,←hMi,setD_self])
        exact⟨L-(i+1),by omega,_,_,⟨i+1,M2,rfl,hli,h3.1,h3.2,rfl,hK6,rfl⟩,Wk.keep kpX⟩
       ·repeat (any_goals (first|(refine zcj ?_;(first|refine zbW ?_|refine zb9 (zct (k:=i) rfl rfl rfl hK6.rw.rows rfl (by omega)) ?_|refine zb9 (zcB rfl hK6.rw.rows (hK6.rw.ptr (by omega)) rfl rfl) ?_|refine zb9 (zct (k:=c) rfl rfl rfl hr6 rfl (by omega)) ?_|refine zb9 (zc9 rfl hr6 rfl hcv) ?_|refine zb9 (ze7 rfl rfl (by omega)) ?_|refine zcS rfl ?_|refine zb0 ?_|refine zbZ ?_|refine zb2 ?_|refine zb8 ?_|refine zcx ?_))|(refine zck ?_;(first|refine zbY rfl ?_|refine zbX rfl ?_|refine zcb rfl rfl ?_|refine zb6 rfl rfl (by first|assumption|omega) ?_|refine zb3 rfl ?_|refine zb5 rfl ?_))))
        have hel:(DM.elimR f u r0).length=r0.length:=by rw[DM.elimR,List.length_zipWith];omega
        refine zcl (fun j a H g5=>∃k:Nat,j=n+1-k∧k≤n+1∧a=[(0,.ms b 0 L L),(1,wI n),(6,wI used),(7,.ms bt 0 used used),(8,wI c),(10,.ms (ps.getD r 0) 0 (n+1) (n+1)),(13,wI i),(14,wI f),(15,wI k)]∧KH H bt b n ps' (M2.set i (zeU (DM.elimR f u r0) r0 k)) cl∧g5=g4) rfl
         ⟨_,_,H5,⟨0,rfl,zj _,rfl,by rw[mixL_zero,←hMi,setD_self];exact hK6,rfl⟩,Wk.keep kpX⟩ ?_
        have hMu2:M2.getD used []=u:=by rw[hQ used (by omega),if_pos (.inr rfl),DM.rowA,if_pos rfl,hu]
        clear hK6 hr6
        rintro j a H6 g5 ⟨k,rfl,hk2,rfl,hK7,rfl⟩
        by_cases hlk2:k < n+1
        ·have hK8:=hK7.app [.free,.free]
         have hrow:=hK8.rw.row i (by omega)
         have hrowu:=hK8.rw.row used (by omega)
         have hul2:ps'.getD i 0 < H6.length:=hK7.rw.lt.2 i (by omega)
         rw[setD_get (by omega)] at hrow
         rw[setD_ne hiu,hMu2,hxp] at hrowu
         have hvk:=mixL_get hel (k:=k) (by omega)
         have hvu:u[k]? = some (u.getD k 0):=zdr (by omega)
         have hmul:=mulB2 hfW (hpW k)
         have hrk:=hoW k
         have hset:=hK7.setRow (i:=i) (by omega) (zeU (DM.elimR f u r0) r0 (k+1))
         rw[zbJ,←zdV hel (by omega),DM.getD_elim f (by omega),←sub_mod] at hset
         repeat (any_goals (first|(refine zcj ?_;(first|refine zbW ?_|refine zb0 ?_|refine zbZ ?_|refine zb2 ?_))|(refine zck ?_;(first|refine zbY rfl ?_|refine zbX rfl ?_|refine zcu [(1,[0]),(1,[0]),(1,[0]),(1,[0]),(1,[0]),(1,[0]),(1,[0]),(1,[0]),(1,[0]),(1,[0]),(1,[0]),(1,[0]),(1,[0]),(1,[0]),(1,[0]),(1,[0]),(1,[0]),(1,[0]),(1,[0]),(1,[0]),(1,[0]),(1,[0]),(0,[0])] 2 zcr rfl (by decide +kernel) (by decide +kernel) (by decide +kernel) nrX nrX ?_|refine zb6 rfl rfl (by first|assumption|omega) ?_|refine zb3 rfl ?_|refine zb5 rfl ?_))|(refine zd3 ?_;(first|refine zcD (zb1 (H0:=H6) (T:=[_,_]) rfl) (zct (k:=i) rfl rfl rfl hK8.rw.rows rfl (by omega)) ?_|refine zcD (zb1 (H0:=H6) (T:=[_,_]) rfl) (zcB rfl hK8.rw.rows (hK8.rw.ptr (i:=i) (by omega)) rfl rfl) ?_|refine zcD (zb1 (H0:=H6) (T:=[_,_]) rfl) (zct (k:=k) rfl rfl rfl hrow rfl (by omega)) ?_|refine zcD (zb1 (H0:=H6) (T:=[_,_]) rfl) (zct (k:=k) rfl rfl rfl hrowu rfl (by omega)) ?_|refine zcD (zb1 (H0:=H6) (T:=[_,_]) rfl) (zc9 rfl hrow rfl hvk) ?_|refine zcD (zb1 (H0:=H6) (T:=[_,_]) rfl) (zc9 rfl hrowu rfl hvu) ?_|refine zey (zb1 (H0:=H6) (T:=[_,_]) rfl) (zeB (k:=k) rfl hrow (by rw[mixL_len hel (by omega)];omega) rfl rfl) (zD _ _ hul2) ?_|refine zcy (dropL2 _ _ _) ?_|refine zdG ((zb1 (H0:=H6) (T:=[_,_]) rfl)) ?_|refine zef ((zb1 (H0:=H6) (T:=[_,_]) rfl)) ?_))|with_reducible (refine kLn ?_)))
         exact⟨n+1-(k+1),by omega,_,_,⟨k+1,rfl,by omega,rfl,by rw[←zdV hel (by omega),DM.getD_elim f (by omega),←sub_mod];exact hset.app [.free],rfl⟩,Wk.keep kpX⟩
        ·obtain rfl:k=n+1:=by omega
         rw[mixL_all' hel hol] at hK7
         repeat (any_goals (first|(refine zcj ?_;(first|refine zbW ?_|refine zb0 ?_|refine zbZ ?_|refine zb2 ?_))|(refine zck ?_;(first|refine zbY rfl ?_|refine zbX rfl ?_|refine zca rfl rfl (by first|assumption|omega) ?_|refine zci rfl ?_))|with_reducible (refine kLn ?_)))
         have h3:=hQ1 _ rfl
         exact⟨L-(i+1),by omega,_,_,⟨i+1,_,rfl,hli,h3.1,h3.2,rfl,hK7,rfl⟩,Wk.keep kpX⟩
     ·have hst:=step_eq hm2 hQ (by omega)
      subst hst
      have hP:=hE.pivot hlt hur hlr hne
      have hcl:=hA.1
      have hbl5:=zc5 hK6.att
      repeat (any_goals (first|(refine zcj ?_;(first|refine zbW ?_|refine zcI (s:=H5.length) rfl (ze1 rfl rfl rfl) (H':=H5++[.live 1 ([(c:Int)].map eI)]) rfl ?_|refine zeH (s:=H5.length+1) (by simp) (zd1 (f:=eI) (o:=cl) (v:=[(c:Int)]) (mm:=used+1) (by':=8) rfl rfl (zcs _ hK6.att) (zg (by rw[ze];omega)) (by rw[ze];omega) (zcW (t:=0) rfl rfl) hcl.symm rfl (by rw[hcl];rfl) rfl (by decide) rfl rfl (fun _=>⟨rfl,rfl⟩) (by rw[hcl];simp;omega) (by rw[hcl];simp;omega)) (ap2 hbl5 _ _) ?_|refine zb0 ?_|refine zbZ ?_|refine zb2 ?_|refine zb8 ?_))|(refine zck ?_;(first|refine zbY rfl ?_|refine zbX rfl ?_|refine zca rfl rfl (by first|assumption|omega) ?_|refine zci rfl ?_))|with_reducible (refine kLn ?_)))
      exact⟨n-(c+1),by omega,_,_,⟨c+1,used+1,H5.length+1,_,cl++[(c:Int)],_,ps',rfl,hlt,hP,hA.next hlt (hE.none hlt) hE.al,rfl,hK6.newAt,hL',rfl⟩,Wk.keep kpX⟩
  ·obtain rfl:r=L:=by omega
   repeat (any_goals (first|(refine zcj ?_;(first|refine zbW ?_|refine zb9 (f_lssFh rfl rfl (by omega)) ?_|refine zb9 (zeG rfl rfl rfl) ?_|refine zdI rfl rfl ?_|refine zb0 ?_|refine zbZ ?_|refine zb2 ?_|refine zb8 ?_|refine zcx ?_))|(refine zck ?_;(first|refine zbY rfl ?_|refine zbX rfl ?_|refine zch rfl rfl ?_|refine zcb rfl rfl ?_|refine zci rfl ?_))|with_reducible (refine kLn ?_)))
   exact⟨n-(c+1),by omega,_,_,⟨c+1,used,bt,at',cl,M,ps,rfl,hlt,hE.skip hlt hz,hA,rfl,hK,hL,rfl⟩,Wk.keep kpX⟩
 ·obtain rfl:c=n:=by omega
  have hcl:=hA.1
  repeat (any_goals (first|(refine zcj ?_;(first|refine zbW ?_|refine zb0 ?_|refine zbZ ?_|refine zb2 ?_))|(refine zck ?_;(first|refine zbY rfl ?_|refine zbX rfl ?_|refine zca rfl rfl (by first|assumption|omega) ?_|refine zb3 rfl ?_|refine zci rfl ?_))))
  refine zcl (fun j a H2 g2=>∃i:Nat,j=L-i∧used≤i∧i≤L∧(∀q,used≤q→q < i→DM.ent M q c=0)∧a=[(0,.ms b 0 L L),(1,wI c),(6,wI used),(7,.ms bt 0 used used),(16,wI i)]∧H2=H∧g2=g') rfl
   ⟨_,_,_,⟨used,rfl,zf _,hul,fun q h1 h2=>absurd h2 (by omega),rfl,rfl,rfl⟩,Wk.keep kpX⟩ ?_
  rintro j a H2 g2 ⟨i,rfl,hui,hi,hz,rfl,rfl,rfl⟩
  by_cases hli:i < L
  ·by_cases hne:DM.ent M i c=0
   ·repeat (any_goals (first|(refine zcj ?_;(first|refine zbW ?_|refine zb9 (zct (k:=i) rfl rfl rfl hK.rw.rows rfl (by omega)) ?_|refine zb9 (zcB rfl hK.rw.rows (hK.rw.ptr (by omega)) rfl rfl) ?_|refine zb9 (zct (k:=c) rfl rfl rfl (hK.rw.row i (by omega)) rfl (by omega)) ?_|refine zb9 (zc9 rfl (hK.rw.row i (by omega)) rfl (hK.rw.get hE hli (by omega))) ?_|refine zb9 (zeQ rfl rfl hne) ?_|refine zb0 ?_|refine zbZ ?_|refine zb2 ?_|refine zb8 ?_))|(refine zck ?_;(first|refine zbY rfl ?_|refine zbX rfl ?_|refine zcb rfl rfl ?_|refine zb6 rfl rfl (by first|assumption|omega) ?_|refine zb3 rfl ?_|refine zb5 rfl ?_))|with_reducible (refine kLn ?_)))
    refine⟨L-(i+1),by omega,_,_,⟨i+1,rfl,by omega,by omega,fun q h1 h2=>?_,rfl,rfl,rfl⟩,Wk.keep kpX⟩
    rcases zZ q i with h3|h3
    ·exact hz q h1 h3
    ·obtain rfl:q=i:=by omega
     exact hne
   ·repeat (any_goals (first|(refine zcj ?_;(first|refine zbW ?_|refine zb9 (zct (k:=i) rfl rfl rfl hK.rw.rows rfl (by omega)) ?_|refine zb9 (zcB rfl hK.rw.rows (hK.rw.ptr (by omega)) rfl rfl) ?_|refine zb9 (zct (k:=c) rfl rfl rfl (hK.rw.row i (by omega)) rfl (by omega)) ?_|refine zb9 (zc9 rfl (hK.rw.row i (by omega)) rfl (hK.rw.get hE hli (by omega))) ?_|refine zb9 (f_neqT rfl rfl hne) ?_|refine zb0 ?_|refine zbZ ?_|refine zb2 ?_|refine zb8 ?_))|(refine zck ?_;(first|refine zbY rfl ?_|refine zbX rfl ?_|refine zch rfl rfl ?_|refine zb6 rfl rfl (by first|assumption|omega) ?_|refine zb3 rfl ?_|refine zb5 rfl ?_|refine zb7 rfl ?_))|(with_reducible first|refine kSr ?_|refine kBr ?_|refine kLr ?_)|(with_reducible refine zce ?_;refine kEr rfl ?_)))
    exact .inr ⟨rfl,hE.no hui hli hne⟩
  ·obtain rfl:i=L:=by omega
   obtain⟨hsol,hsW⟩:=hE.yes hz
   have hz0:=outR_zero hE
   repeat (any_goals (first|(refine zcj ?_;(first|refine zbW ?_|refine zcI (s:=H2.length) rfl (ze3 (z:=[wI 0]) (sz:=1) (m:=c) (by':=8) rfl rfl rfl rfl rfl (by decide) rfl rfl (by omega) (by omega)) (H':=H2++[.live 1 (List.replicate c [wI 0])]) rfl ?_|refine zb0 ?_|refine zbZ ?_|refine zb2 ?_|refine zb8 ?_))|(refine zck ?_;(first|refine zbY rfl ?_|refine zbX rfl ?_|refine zca rfl rfl (by first|assumption|omega) ?_|refine zb3 rfl ?_|refine zci rfl ?_))))
   have hzr:(List.replicate c [wI 0]:List (List D))=(outR c at' M 0).map eI:=by rw[hz0];simp[eI]
   rw[hzr]
   have hql:∀k,(outR c at' M k).length=c:=fun k=>by simp[outR]
   obtain⟨q,hq⟩:∃q,q=H2.length:=⟨_,rfl⟩
   rw[←hq]
   refine zcl (fun j a H3 g3=>∃k:Nat,j=used-k∧k≤used∧a=[(0,.ms b 0 i i),(1,wI c),(7,.ms bt 0 used used),(17,.ms q 0 c c),(18,wI k)]∧KH H3 bt b c ps M cl∧H3[q]? = some (.live 1 ((outR c at' M k).map eI))∧g3=g2) rfl
    ⟨_,_,_,⟨0,rfl,zj _,rfl,hK.app _,by rw[hq];exact zcW (t:=0) rfl rfl,rfl⟩,Wk.keep kpX⟩ ?_
   obtain⟨l1,l2⟩:=hK.rw.lt
   have l3:=zc5 hK.att
   have hqd:q≠b∧q≠bt∧∀i,i < ps.length→ps.getD i 0≠q:=⟨by omega,by omega,fun i hi=>by have:=l2 i hi;omega⟩
   clear hK l1 l2 l3 hq
   rintro j a H3 g3 ⟨k,rfl,hk,rfl,hK,hq3,rfl⟩
   have hq3l:=zc5 hq3
   by_cases hlk:k < used
   ·obtain⟨j0,e1,e2,e3⟩:=hA.2 k hlk
    have hK5:=hK.app [.free,.free]
    have hq5:(H3++[Blk.free,.free])[q]? = some (.live 1 ((outR c at' M k).map eI)):=zcs _ hq3
    have hck:cl[k]? = some (j0:Int):=by rw[←e1];exact zdr (by omega)
    have hrv:(M.getD k [])[c]? = some (DM.ent M k c):=hK.rw.get hE (by omega) (by omega)
    repeat (any_goals (first|(refine zcj ?_;(first|refine zbW ?_|refine zb0 ?_|refine zbZ ?_|refine zb2 ?_|refine zb8 ?_))|(refine zck ?_;(first|refine zbY rfl ?_|refine zbX rfl ?_|refine zcu [(1,[0]),(1,[0]),(1,[0]),(1,[0]),(1,[0]),(1,[0]),(1,[0]),(1,[0]),(1,[0]),(1,[0]),(1,[0]),(1,[0]),(1,[0]),(0,[0])] 2 zcr rfl (by decide +kernel) (by decide +kernel) (by decide +kernel) nrX nrX ?_|refine zb6 rfl rfl (by first|assumption|omega) ?_|refine zb3 rfl ?_|refine zb5 rfl ?_))|(refine zd3 ?_;(first|refine zcD (zb1 (H0:=H3) (T:=[_,_]) rfl) (zct (k:=k) rfl rfl rfl hK5.att rfl (by omega)) ?_|refine zcD (zb1 (H0:=H3) (T:=[_,_]) rfl) (zc9 rfl hK5.att rfl hck) ?_|refine zcD (zb1 (H0:=H3) (T:=[_,_]) rfl) (zct (k:=k) rfl rfl rfl hK5.rw.rows rfl (by omega)) ?_|refine zcD (zb1 (H0:=H3) (T:=[_,_]) rfl) (zcB rfl hK5.rw.rows (hK5.rw.ptr (by omega)) rfl rfl) ?_|refine zcD (zb1 (H0:=H3) (T:=[_,_]) rfl) (zct (k:=c) rfl rfl rfl (hK5.rw.row k (by omega)) rfl (by omega)) ?_|refine zcD (zb1 (H0:=H3) (T:=[_,_]) rfl) (zc9 rfl (hK5.rw.row k (by omega)) rfl hrv) ?_|refine zcD (zb1 (H0:=H3) (T:=[_,_]) rfl) (zct (k:=j0) rfl rfl rfl hq5 rfl (by omega)) ?_|refine zey (zb1 (H0:=H3) (T:=[_,_]) rfl) (zeB (k:=j0) rfl hq5 (by rw[hql];omega) rfl rfl) (zD _ _ hq3l) ?_|refine zcy (dropL2 _ _ _) ?_|refine zdG ((zb1 (H0:=H3) (T:=[_,_]) rfl)) ?_))|with_reducible (refine kLn ?_)))
    refine⟨used-(k+1),by omega,_,_,⟨k+1,rfl,hlk,rfl,?_,?_,rfl⟩,Wk.keep kpX⟩
    ·exact KH.app ⟨hK.rw.other hqd.1 hqd.2.2 _,zdy hK.att hqd.2.1,hK.dt,hK.dr⟩ _
    ·rw[←outR_set hE e2 e3]
     exact zcs _ (zp hq3l)
   ·obtain rfl:k=used:=by omega
    rw[outR_all hE] at hq3
    repeat (any_goals (first|(refine zcj ?_;(first|refine zbW ?_|refine zb0 ?_|refine zbZ ?_|refine zb2 ?_|refine zb8 ?_))|(refine zck ?_;(first|refine zbY rfl ?_|refine zbX rfl ?_|refine zca rfl rfl (by first|assumption|omega) ?_|refine zci rfl ?_|refine zb7 rfl ?_))|(with_reducible refine zce ?_;refine kEr rfl ?_)))
    exact .inl ⟨q,_,rfl,hq3,hsol,hsW⟩
end Go.DL
