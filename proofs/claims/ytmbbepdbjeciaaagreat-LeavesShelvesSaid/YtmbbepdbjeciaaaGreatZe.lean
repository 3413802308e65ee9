/- slices.Clone of words; the chapter's examples, by the interpreter. -/
import Derived.Test.YtmbbepdbjeciaaaGreatYb
import Derived.Test.YtmbbepdbjeciaaaGreatE5
import Derived.Test.YtmbbepdbjeciaaaGreatBitsLen
import Derived.Test.YtmbbepdbjeciaaaGreatP1
set_option maxRecDepth 100000
set_option maxHeartbeats 16000000
namespace Go.DL
open Go.Proofs Go
theorem c_clone {H:List Blk}{x:D}{o:List Int}(hx:x=.nil∨(∃es,x=.sl es)∨(∃es,x=.fl es)∨∃b k m c,x=.ms b k m c)(he:zcF H x=some (o.map eI))(hl:o.length≤1000000):
  CallSp Tryz.prog 139 [x] H fun d H'=>d=.ms (H.length+1) 0 o.length o.length∧H'=H++[.dead,.live 1 (o.map eI)]:=by
 refine CallSp.vt pok Tryz.f139 (n:=8) (rs:=[.tmp 2]) rfl rfl rfl rfl rfl rfl rfl fun g=>?_
 repeat (any_goals (first|(refine zcj ?_;(first|refine zbW ?_|refine zb9 (f_mv (d:=x) rfl) ?_|refine RT.nilEq rfl hx (fun b hb=>?_)|refine zbZ ?_))|(refine zck ?_;(first|(refine VT.retP (i:=2) 1 rfl rfl ?_)|refine zbY rfl ?_|refine zbX rfl ?_|refine VT.cond rfl rfl (fun hc=>?_) (fun hc=>?_)|refine zb5 rfl ?_))|with_reducible (refine kSr ?_)|(with_reducible refine zce ?_;refine kEr rfl ?_)))
 ·have ho:o=[]:=by simpa using hb hc _ he
  subst ho
  exact⟨rfl,rfl⟩
 ·have he':zcF (H++[.live 1 []]) x=some (o.map eI):=by
   rcases hx with rfl|⟨es,rfl⟩|⟨es,rfl⟩|⟨b,k,m,c,rfl⟩
   ·exact he
   ·exact he
   ·exact he
   ·simp only[zcF] at he ⊢
    split at he
    ·rename_i sz es hb'
     rw[zk (za.1 hb').1,hb'];exact he
    ·cases he
  have hap:zew Tryz.prog (H++[.live 1 []]) 40 40 (.ms H.length 0 0 0) x=some (some H.length,1,o.map eI):=by
   have e1:zcF (H++[.live 1 []]) (.ms H.length 0 0 0)=some []:=by simp[zcF]
   have e2:zc3 Tryz.prog 40=some (3,1):=rfl
   have e3:Tryz.prog.underlying 40=some (.slice 3):=rfl
   have e4:Tryz.prog.bytesOf 3=8:=rfl
   have e5:zdC Tryz.prog 3=some [wI 0]:=rfl
   simp only[zew,addedD,e2,e3,e1,he']
   rw[if_pos]
   ·simp[zcZ]
   ·refine⟨by decide,by rw[e5];rfl,rfl,by simp[eI],eI_all _ _ fun x=>rfl,?_,?_⟩
    ·rw[e4];simp;omega
    ·simp;omega
  repeat (any_goals (first|(refine zcj ?_;(first|refine zbW ?_|refine zcI nrX (f_bsl (ps:=[]) (sz:=1) (es:=[]) rfl) rfl ?_|refine zb9 (f_mv (d:=x) rfl) ?_|refine zeH (s:=H.length+1) (m:=o.length) (H':=H++[.dead,.live 1 (o.map eI)]) (by simp) (f_app rfl rfl hap (by simp) (sameB_full (zf _))) (by simp[killO]) ?_|refine zbZ ?_))|refine zb7 rfl ?_|(with_reducible refine zce ?_;refine kEr rfl ?_)))
  exact⟨rfl,rfl⟩
def toInt:List D→Option Int
 |[.v (.int .i64 x)]=>some x
 |_=>none
def toInts:List (List D)→Option (List Int)
 |[]=>some []
 |e::es=>match toInt e,toInts es with
  |some x,some xs=>some (x::xs)
  |_,_=>none
theorem toInt_ok {e:List D}{x:Int}(h:toInt e=some x):e=eI x:=by
 unfold toInt at h
 split at h
 ·cases h;rfl
 ·cases h
theorem toInts_ok:∀{es:List (List D)} {xs:List Int},toInts es=some xs→es=xs.map eI
 |[],xs,h=>by cases h;rfl
 |e::es,xs,h=>by
  unfold toInts at h
  split at h
  ·rename_i x ys h1 h2
   cases h
   rw[toInt_ok h1,toInts_ok h2];rfl
  ·cases h
def slD:D→Bool
 |.nil|.sl _|.fl _|.ms _ _ _ _=>true
 |_=>false
theorem slD_ok {x:D}(h:slD x=true):x=.nil∨(∃es,x=.sl es)∨(∃es,x=.fl es)∨∃b k m c,x=.ms b k m c:=by
 cases x with
 |nil=>exact .inl rfl
 |sl es=>exact .inr (.inl ⟨es,rfl⟩)
 |fl es=>exact .inr (.inr (.inl ⟨es,rfl⟩))
 |ms b k m c=>exact .inr (.inr (.inr ⟨b,k,m,c,rfl⟩))
 |_=>cases h
def cloneS (xs:List D)(H:List Blk):Option (D × List Blk):=
 match xs with
 |[x]=>if slD x=true then match zcF H x with
   |some es=>match toInts es with
    |some o=>if o.length≤1000000 then some (.ms (H.length+1) 0 o.length o.length,H++[.dead,.live 1 es]) else none
    |none=>none
   |none=>none
  else none
 |_=>none
theorem cloneS_ok {xs:List D}{H H':List Blk}{d:D}(h:cloneS xs H=some (d,H')):CallSp Tryz.prog 139 xs H fun d' H''=>d'=d∧H''=H':=by
 unfold cloneS at h
 split at h
 ·rename_i x
  split at h
  ·rename_i hs
   split at h
   ·rename_i es he
    split at h
    ·rename_i o ho
     split at h
     ·rename_i hl
      cases h
      have:=toInts_ok ho
      subst this
      exact c_clone (slD_ok hs) he hl
     ·cases h
    ·cases h
   ·cases h
  ·cases h
 ·cases h
theorem elemsD_sub {Hm H:List Blk}(hs:Sub Hm H){x:D}{es:List (List D)}(h:zcF Hm x=some es):zcF H x=some es:=by
 cases x<;>try exact h
 simp only[zcF] at h ⊢
 split at h
 ·rename_i sz fs hb;rw[hs _ _ _ hb];exact h
 ·cases h
def cloneA (xs:List D)(Hm:List Blk)(s:Nat):Option (D × Blk):=
 match xs with
 |[x]=>if slD x=true then match zcF Hm x with
   |some es=>match toInts es with
    |some o=>if o.length≤1000000 then some (.ms s 0 o.length o.length,.live 1 es) else none
    |none=>none
   |none=>none
  else none
 |_=>none
theorem cloneA_ok {xs:List D}{Hm:List Blk}{s:Nat}{d:D}{k:Blk}(h:cloneA xs Hm s=some (d,k)):CallAt Tryz.prog 139 xs Hm s d k:=by
 unfold cloneA at h
 split at h
 ·rename_i x
  split at h
  ·rename_i hs
   split at h
   ·rename_i es he
    split at h
    ·rename_i o ho
     split at h
     ·rename_i hl
      cases h
      have:=toInts_ok ho
      subst this
      exact CallAt.of (fun H hsub=>c_clone (slD_ok hs) (elemsD_sub hsub he) hl) (zd2 _ _)
     ·cases h
    ·cases h
   ·cases h
  ·cases h
 ·cases h
theorem m_len (x:Int)(h0:0≤x)(h1:x≤18446744073709551615):Maps Tryz.prog 169 [.v (.int .u64 x)] (wI (Lib.bitLen x.toNat:Nat)):=
 Maps.ofCalls pok Tryz.f169 (vs:=[.int .u64 x]) rfl rfl fun w=>Tryz.bits_Len x w h0 h1
def toLine:List D→Option Line
 |[.v (.int .i64 a),.v (.int .i64 b),.v (.int .i64 c),.v (.int .i64 d)]=>if 0≤a∧a≤4611686018427387904∧0≤d∧d≤4611686018427387904 then some ⟨a,b,c,d⟩ else none
 |_=>none
theorem toLine_ok {e:List D}{x:Line}(h:toLine e=some x):e=zcC x∧lineOk x:=by
 unfold toLine at h
 split at h
 ·split at h
  ·rename_i hc;cases h;exact⟨rfl,hc⟩
  ·cases h
 ·cases h
def toLines:List (List D)→Option (List Line)
 |[]=>some []
 |e::es=>match toLine e,toLines es with
  |some x,some xs=>some (x::xs)
  |_,_=>none
theorem toLines_ok:∀{es:List (List D)} {xs:List Line},toLines es=some xs→es=xs.map zcC∧∀x,x∈xs→lineOk x
 |[],xs,h=>by cases h;exact⟨rfl,fun _ h=>by cases h⟩
 |e::es,xs,h=>by
  unfold toLines at h
  split at h
  ·rename_i x ys h1 h2
   cases h
   obtain⟨q1,q2⟩:=toLine_ok h1
   obtain⟨r1,r2⟩:=toLines_ok h2
   refine⟨by rw[q1,r1];rfl,fun y hy=>?_⟩
   rcases zH.1 hy with e|e
   ·rw[e];exact q2
   ·exact r2 y e
  ·cases h
theorem c_wordsH {H:List Blk}{x:D}{l:List Line}(hx:snap (fun b=>H[b]?) 5 x=.sl (l.map zcC))(hl:l.length≤1000)(h:∀x,x∈l→lineOk x):
  CallSp Tryz.prog 98 [x] H fun d' H'=>d'=.ms (H.length+1) 0 (zdM l).length (zdM l).length∧H'=H++[.dead,.live 1 ((zdM l).map eI)]:=
 CallSp.frame (k:=0) (by rw[zy,z8,hx];exact c_words l hl h) fun e he d hd=>by
  obtain⟨z,_,rfl⟩:=zt.1 he
  obtain rfl:d=wI z:=by simpa[eI] using hd
  rfl
def wordsS' (xs:List D)(H:List Blk):Option (D × List Blk):=
 match xs with
 |[x]=>match snap (fun b=>H[b]?) 5 x with
  |.sl es=>match toLines es with
   |some l=>if l.length≤1000 then some (.ms (H.length+1) 0 (zdM l).length (zdM l).length,H++[.dead,.live 1 ((zdM l).map eI)]) else none
   |none=>none
  |_=>none
 |_=>none
theorem wordsS_ok {xs:List D}{H H':List Blk}{d:D}(h:wordsS' xs H=some (d,H')):CallSp Tryz.prog 98 xs H fun d' H''=>d'=d∧H''=H':=by
 unfold wordsS' at h
 split at h
 ·rename_i x
  split at h
  ·rename_i es hs
   split at h
   ·rename_i l hl
    split at h
    ·rename_i hn
     cases h
     obtain⟨q1,q2⟩:=toLines_ok hl
     exact c_wordsH (by rw[hs,q1]) hn q2
    ·cases h
   ·cases h
  ·cases h
 ·cases h
def roE:D→Option (List (List D))
 |.sl es=>some es
 |.fl es=>some es
 |.nil=>some []
 |_=>none
theorem snap_ro {lk:Nat→Option Blk}{x:D}{es:List (List D)}(h:roE x=some es):snap lk 5 x=.sl es:=by
 unfold roE at h
 split at h<;>cases h<;>rfl
def wordsA (xs:List D)(s:Nat):Option (D × Blk):=
 match xs with
 |[x]=>match roE x with
  |some es=>match toLines es with
   |some l=>if l.length≤1000 then some (.ms s 0 (zdM l).length (zdM l).length,.live 1 ((zdM l).map eI)) else none
   |none=>none
  |none=>none
 |_=>none
theorem wordsA_ok {xs:List D}{Hm:List Blk}{s:Nat}{d:D}{k:Blk}(h:wordsA xs s=some (d,k)):CallAt Tryz.prog 98 xs Hm s d k:=by
 unfold wordsA at h
 split at h
 ·split at h
  ·rename_i es he
   split at h
   ·rename_i l hl
    split at h
    ·rename_i hn
     cases h
     obtain⟨q1,q2⟩:=toLines_ok hl
     exact CallAt.of (fun H _=>c_wordsH (by rw[←q1];exact snap_ro he) hn q2) (zd2 _ _)
    ·cases h
   ·cases h
  ·cases h
 ·cases h
def tblT (g:FuncId)(xs:List D):Option D:=
 match g,xs with
 |143,[.v (.int .i64 e),.rp [.v (.int .i64 x)]]=>if 0≤e∧e≤1000000∧0≤x∧x≤65520 then some (wI (DM.powN x.toNat e.toNat:Nat)) else none
 |144,[.v (.int .i64 x)]=>some (wI (x%65521))
 |169,[.v (.int .u64 x)]=>if 0≤x∧x≤18446744073709551615 then some (wI (Lib.bitLen x.toNat:Nat)) else none
 |_,_=>none
theorem tblT_ok {g:FuncId}{xs:List D}{d:D}(h:tblT g xs=some d):Maps Tryz.prog g xs d:=by
 unfold tblT at h
 split at h
 ·rename_i e x
  split at h
  ·rename_i hc
   cases h
   have h1:=m_power1 x.toNat e.toNat (by omega) (by omega)
   rw[Int.toNat_of_nonneg hc.1,Int.toNat_of_nonneg hc.2.2.1] at h1
   exact h1
  ·cases h
 ·cases h;exact m_mod _
 ·split at h
  ·rename_i hc;cases h;exact m_len _ hc.1 hc.2
  ·cases h
 ·cases h
noncomputable def C0:Tbl where
 P:=Tryz.prog
 T:=tblT
 own:=fun g H=>[67,99999,68,99999,69,99999,30,27,29,74,117,75,170,77,76,118,127,113,83,119,123,164,21,70,23,85,86,39,144,160,177,132,92,98,143,167,169].contains g||(g==71&&Nat.ble 20 H.length)
 S:=fun g xs H=>if g=139 then cloneS xs H else if g=98 then wordsS' xs H else none
 A:=fun g xs H s=>if g=139 then cloneA xs H s else if g=98 then wordsA xs s else none
theorem C0_ok:C0.Ok where
 map:=fun _ _ _ h=>tblT_ok h
 it:=fun _ _ _ _ h=>by cases h
 mixed:=pok.mixed
 names:=pok.names
 cat:=fun f xs Hm s d x h=>by
  simp only[C0] at h
  split at h
  ·rename_i e;subst e;exact cloneA_ok h
  ·split at h
   ·rename_i e;subst e;exact wordsA_ok h
   ·cases h
 sp:=fun f xs H d H' h=>by
  simp only[C0] at h
  split at h
  ·rename_i e;subst e;exact cloneS_ok h
  ·split at h
   ·rename_i e;subst e;exact wordsS_ok h
   ·cases h
def isTrueD (d:Option D):Bool:=match d with
 |some (.v (.bool true))=>true
 |_=>false
theorem isTrueD_ok {d:Option D}(h:isTrueD d=true):d=some (wB true):=by
 unfold isTrueD at h
 split at h
 ·rfl
 ·cases h
end Go.DL
/- A polynomial divided by another. -/
namespace Go.DL
open Go.Proofs Go
theorem m_over1 (n:Int):Maps Tryz.prog 179 ([wI n]++[]) (wB (decide (n=0))):=by
 refine Maps.vt pok Tryz.f179 (n:=5) (rs:=[.tmp 2]) rfl rfl rfl rfl rfl rfl fun g=>?_
 repeat (any_goals (first|(refine zcj ?_;(first|refine zbW ?_|refine zb0 ?_|refine zbZ ?_|refine zb2 ?_))|(refine zck ?_;(first|refine zbY rfl ?_|refine zbX rfl ?_|refine zb7 rfl ?_))|(with_reducible refine zce ?_;refine kEr rfl ?_)))
 rfl
section
variable {P:Program}{n s:Nat}{al:AL}{H:List Blk}{x:Operand}{tx:TypeId}
theorem zc9 {bk k:Nat}{o:List Int}{v:Int}(hx:evA n al x=.mp bk k 0)(hb:H[bk]? = some (.live 1 (o.map eI)))(ht:zdT P tx=some false)(hv:o[k]? = some v):Val P H s n al (.load tx x) (wI v):=by
 obtain⟨hk,rfl⟩:=za.1 hv
 exact f_ldW hx hb hk ht
end
theorem zdr {l:List Int}{i:Nat}(h:i < l.length):l[i]? = some (l.getD i 0):=by
 simp[zc,h]
theorem m_over {k e:Nat}{a b:List Int}(hs:k+e≤1000)(al:a.length=k+e)(aW:allW a)(bl:b.length=e+1)(bW:allW b)(mon:b.getD e 0=1):
  Maps Tryz.prog 167 [.sl (a.map eI),.sl (b.map eI)] (.tup [.fl ((DM.dvS k e a b k).1.map eI),wB ((DM.dvS k e a b k).2.all fun n=>decide (n=0))]):=by
 refine Maps.vt pok Tryz.f167 (n:=68) (rs:=[.tmp 4,.tmp 5]) rfl rfl rfl rfl rfl rfl fun g=>?_
 repeat (any_goals (first|(refine zcj ?_;(first|refine zbW ?_|refine zcI nrX (ze3 (z:=[wI 0]) (sz:=1) (m:=k) (by':=8) rfl rfl rfl rfl rfl (by decide) rfl (by omega) (by omega) (by omega)) nrX ?_|refine zb0 ?_|refine zbZ ?_|refine zb2 ?_|(refine zcw ?_;(first|refine zdZ rfl (c_clone (o:=a) (.inr (.inl ⟨_,rfl⟩)) (by simp only[zcF];exact congrArg some (eI_map _ _ fun x=>rfl)) (by omega)) rfl nrX nrX ?_|refine zb8 ?_))))|(refine zck ?_;(first|refine zbY rfl ?_|refine zbX rfl ?_|refine zb3 rfl ?_))))
 refine zcl (fun j aa H g'=>∃(m:Nat) (o r:List Int),j=k-m∧m≤k∧DM.dvS k e a b m=(o,r)∧aa=[(0,.ms 1 0 (k+e) (k+e)),(1,.sl (b.map eI)),(6,.ms 2 0 k k),(7,wI ((k:Int)-1-m))]∧H=[.dead,.live 1 (r.map eI),.live 1 (o.map eI)]∧g'=g) rfl
  ⟨_,_,_,⟨0,List.replicate k 0,a,rfl,zj _,rfl,rfl,rfl,rfl⟩,?_⟩ ?_
 ·rw[al]
  have e0:(List.replicate k [wI 0]:List (List D))=(List.replicate k 0).map eI:=by simp[eI]
  rw[e0]
  exact fgA
 rintro j aa H g' ⟨m,o,r,rfl,hm,hd,rfl,rfl,rfl⟩
 have hv:=DM.dv_ok al aW bl mon m hm
 rw[hd] at hv
 have hol:=hv.ol
 have hrl:=hv.rl
 simp only at hol hrl
 by_cases hlt:m < k
 ·obtain⟨i,hi⟩:∃i:Nat,i=k-(m+1):=⟨_,rfl⟩
  have e1:(k:Int)-1-m=(i:Int):=by omega
  have hie:i+e < r.length:=by omega
  have hf:r.getD (i+e) 0=r[i+e]:=by simp[zc,hie]
  have hfW:=hv.rW _ (zi hie)
  rw[e1]
  repeat (any_goals (first|(refine zcj ?_;(first|refine zbW ?_|refine zb9 (zct (k:=i+e) rfl rfl (by omega) rfl rfl (by omega)) ?_|refine zb9 (zct (k:=i) rfl rfl rfl rfl rfl (by omega)) ?_|refine zb9 (f_ldW (k:=i+e) rfl rfl hie rfl) ?_|refine zdo (zeB (k:=i) rfl rfl (by omega) rfl rfl) nrX ?_|refine zb0 ?_|refine zb2 ?_|refine zb8 ?_))|(refine zck ?_;(first|refine zbY rfl ?_|refine zbX rfl ?_|refine zch rfl rfl ?_|refine zb3 rfl ?_|refine zb5 rfl ?_))))
  rw[←hf]
  rw[←hf] at hfW
  generalize hF:r.getD (i+e) 0=f at hfW
  refine zcl (fun j aa H g2=>∃(q:Nat) (r':List Int),j=b.length-q∧q≤b.length∧r'=DM.subA f (b.take q) i r∧aa=[(0,.ms 1 0 (k+e) (k+e)),(1,.sl (b.map eI)),(6,.ms 2 0 k k),(7,wI i),(38,.sl (b.map eI)),(39,wI b.length),(40,wI q)]∧H=[.dead,.live 1 (r'.map eI),.live 1 ((o.set i f).map eI)]∧g2=g') rfl
   ⟨_,_,_,⟨0,r,rfl,zj _,by simp[DM.subP,DM.subA_nil],rfl,rfl,rfl⟩,fgA⟩ ?_
  rintro j aa H g2 ⟨q,r',rfl,hq,hr',rfl,rfl,rfl⟩
  have hfit:i+b.length≤r.length:=by omega
  have hrl':r'.length=r.length:=by rw[hr',DM.subA_len]
  by_cases hlq:q < b.length
  ·have hbq:b.getD q 0=b[q]:=by simp[zc,hlq]
   have hbW:=bW _ (zi hlq)
   have hg1:r'[i+q]? = some (r.getD (i+q) 0):=by
    rw[zdr (by omega),hr',DM.subA_same f hfit hlq]
   have hg2:(o.set i f)[i]? = some f:=by rw[zp (by omega)]
   have hrW:0≤r.getD (i+q) 0∧r.getD (i+q) 0≤65520:=hv.rW _ (zm (zdr (show i+q < r.length by omega)))
   have hmul:0≤f*b[q]∧f*b[q]≤4292870400:=mulB hfW hbW
   repeat (any_goals (first|(refine zcj ?_;(first|refine zbW ?_|refine zb0 ?_|refine zbZ ?_|refine zcf ?_|refine zb2 ?_|refine zcO ?_))|(refine zck ?_;(first|refine zbY rfl ?_|refine zbX rfl ?_|refine zcu [(1,[0]),(1,[0]),(1,[0]),(1,[0]),(1,[0]),(1,[0]),(1,[0]),(1,[0]),(1,[0]),(1,[0]),(1,[0]),(1,[0]),(1,[0]),(1,[0]),(1,[0]),(1,[0]),(1,[0]),(1,[0]),(1,[0]),(0,[0])] 2 zcr rfl (by decide +kernel) (by decide +kernel) (by decide +kernel) nrX nrX ?_|refine zb6 rfl rfl (by first|assumption|omega) ?_|refine zb3 rfl ?_|refine zb5 rfl ?_))|(refine zd3 ?_;(first|refine zcy nrX ?_|refine zdi (zct (k:=i+q) rfl rfl (by omega) rfl rfl (by omega)) ?_|refine zdi (zct (k:=i) rfl rfl rfl rfl rfl (by omega)) ?_|refine zdi (zc9 rfl rfl rfl hg1) ?_|refine zdi (zc9 rfl rfl rfl hg2) ?_|refine PT.wr (zeB (k:=i+q) rfl rfl (by omega) rfl rfl) nrX ?_|refine zc2 ?_|refine PT.bnA ?_|refine zcT rfl (m_mod _) rfl rfl ?_))|with_reducible (refine kLn ?_)))
   refine⟨b.length-(q+1),by omega,_,_,⟨q+1,r'.set (i+q) ((r.getD (i+q) 0-f*b[q])%65521),rfl,hlq,?_,rfl,rfl,rfl⟩,fgA⟩
   rw[hr',←hbq]
   exact DM.subA_step f hfit hlq
  ·obtain rfl:q=b.length:=by omega
   rw[z0] at hr'
   repeat (any_goals (first|(refine zcj ?_;(first|refine zbW ?_|refine zb0 ?_|refine zbZ ?_|refine zb2 ?_))|(refine zck ?_;(first|refine zbY rfl ?_|refine zbX rfl ?_|refine zca rfl rfl (by first|assumption|omega) ?_|refine zci rfl ?_))|with_reducible (refine kLn ?_)))
   refine⟨k-(m+1),by omega,_,_,⟨m+1,o.set i f,r',rfl,hlt,?_,rfl,rfl,rfl⟩,fgA⟩
   simp only[DM.dvS,hd]
   rw[←hi,hF,hr']
 ·obtain rfl:m=k:=by omega
  have ha:=m_all_Int (p:=fun n=>decide (n=0)) (F:=179) (cs:=[]) (l:=r) (by omega) rfl fun y _=>m_over1 y
  rw[hd]
  repeat (any_goals (first|(refine zcj ?_;(first|refine zbW ?_|refine zb4 rfl ha (by rw[zy,zy,z8];exact congrArg (fun d=>[d,_]) (snapW rfl hrl.symm)) rfl ?_|refine zb0 ?_|refine zbZ ?_|refine zb2 ?_))|(refine zck ?_;(first|refine zbY rfl ?_|refine zbX rfl ?_|refine zca rfl rfl (by first|assumption|omega) ?_|refine zci rfl ?_|refine zb7 rfl ?_))|(with_reducible refine zce ?_;refine kEr rfl ?_)))
  show D.tup [snapR _ 4 (.ms 2 0 m m),_]=_
  rw[snapRW (o:=o) rfl hol.symm]
  rfl
end Go.DL
/- Linear equations, solved in place. -/
namespace Go.DL
open Go.Proofs Go
structure SH (H:List Blk)(bx bt b n:Nat)(ps:List Nat)(M:List (List Int))(at':List Int):Prop where
 box:H[bx]? = some (.live 1 [[wI n]])
 att:H[bt]? = some (.live 1 (at'.map eI))
 rows:H[b]? = some (.live 1 (ps.map fun p=>[.ms p 0 (n+1) (n+1)]))
 row:∀i,i < ps.length→H[ps.getD i 0]? = some (.live 1 ((M.getD i []).map eI))
 d1:bx≠bt∧bx≠b∧bt≠b
 d2:∀i,i < ps.length→ps.getD i 0≠bx∧ps.getD i 0≠bt∧ps.getD i 0≠b
 nd:∀i j,i < ps.length→j < ps.length→ps.getD i 0=ps.getD j 0→i=j
 len:M.length=ps.length
theorem SH.lt {H:List Blk}{bx bt b n:Nat}{ps:List Nat}{M:List (List Int)}{at':List Int}(h:SH H bx bt b n ps M at'):bx < H.length∧bt < H.length∧b < H.length∧∀i,i < ps.length→ps.getD i 0 < H.length:=
 ⟨(za.1 h.box).1,(za.1 h.att).1,(za.1 h.rows).1,fun i hi=>(za.1 (h.row i hi)).1⟩
theorem SH.app {H:List Blk}{bx bt b n:Nat}{ps:List Nat}{M:List (List Int)}{at':List Int}(h:SH H bx bt b n ps M at')(T:List Blk):SH (H++T) bx bt b n ps M at':=by
 obtain⟨h1,h2,h3,h4⟩:=h.lt
 exact⟨by rw[zk h1];exact h.box,by rw[zk h2];exact h.att,by rw[zk h3];exact h.rows,fun i hi=>by rw[zk (h4 i hi)];exact h.row i hi,h.d1,h.d2,h.nd,h.len⟩
theorem SH.setRow {H:List Blk}{bx bt b n:Nat}{ps:List Nat}{M:List (List Int)}{at':List Int}(h:SH H bx bt b n ps M at'){i:Nat}(hi:i < ps.length)(r:List Int):SH (H.set (ps.getD i 0) (.live 1 (r.map eI))) bx bt b n ps (M.set i r) at':=by
 obtain⟨g1,g2,g3⟩:=h.d2 i hi
 obtain⟨h1,h2,h3,h4⟩:=h.lt
 refine⟨by rw[zr g1];exact h.box,by rw[zr g2];exact h.att,by rw[zr g3];exact h.rows,fun j hj=>?_,h.d1,h.d2,h.nd,by rw[zE];exact h.len⟩
 by_cases e:i=j
 ·subst e
  rw[zp (h4 i hi)]
  simp[zc,h.len,hi]
 ·rw[zr (fun q=>e (h.nd i j hi hj q)),h.row j hj]
  simp[zc,zr e]
theorem SH.setAt {H:List Blk}{bx bt b n:Nat}{ps:List Nat}{M:List (List Int)}{at':List Int}(h:SH H bx bt b n ps M at')(t:List Int):SH (H.set bt (.live 1 (t.map eI))) bx bt b n ps M t:=by
 obtain⟨h1,h2,h3,h4⟩:=h.lt
 obtain⟨e1,e2,e3⟩:=h.d1
 exact⟨by rw[zr (Ne.symm e1)];exact h.box,by rw[zp h2],by rw[zr e3];exact h.rows,fun i hi=>by rw[zr (Ne.symm (h.d2 i hi).2.1)];exact h.row i hi,h.d1,h.d2,h.nd,h.len⟩
theorem SH.ptr {H:List Blk}{bx bt b n:Nat}{ps:List Nat}{M:List (List Int)}{at':List Int}(_:SH H bx bt b n ps M at'){i:Nat}(hi:i < ps.length):(ps.map fun p=>[D.ms p 0 (n+1) (n+1)])[i]? = some [.ms (ps.getD i 0) 0 (n+1) (n+1)]:=by
 simp[zc,hi]
theorem SH.other {H:List Blk}{bx bt b n q:Nat}{ps:List Nat}{M:List (List Int)}{at':List Int}(h:SH H bx bt b n ps M at')(hq:q≠bx∧q≠bt∧q≠b∧∀i,i < ps.length→q≠ps.getD i 0)(z:Blk):SH (H.set q z) bx bt b n ps M at':=
 ⟨by rw[zr hq.1];exact h.box,by rw[zr hq.2.1];exact h.att,by rw[zr hq.2.2.1];exact h.rows,fun i hi=>by rw[zr (hq.2.2.2 i hi)];exact h.row i hi,h.d1,h.d2,h.nd,h.len⟩
theorem SH.get {H:List Blk}{bx bt b n L c used:Nat}{ps:List Nat}{M0 M:List (List Int)}{at':List Int}(h:SH H bx bt b n ps M at')(hE:DM.Elim L n M0 c used at' M)(hL:ps.length=L){i j:Nat}(hi:i < L)(hj:j < n+1):(M.getD i [])[j]? = some (DM.ent M i j):=by
 have hr:=(hE.row hi).1
 rw[zdr (by omega)];rfl
theorem swapM_get {α:Type}{l:List α}{u p:Nat}(hu:u < l.length)(hp:p < l.length)(dft:α)(i:Nat):((l.set u (l.getD p dft)).set p (l.getD u dft)).getD i dft=if i=p then l.getD u dft else if i=u then l.getD p dft else l.getD i dft:=by
 simp only[zc,zX,zE]
 by_cases h1:i=p
 ·subst h1;simp[hp]
 ·rw[if_neg (show ¬p=i from fun e=>h1 e.symm),if_neg h1]
  by_cases h2:i=u
  ·subst h2;simp[hu]
  ·rw[if_neg (show ¬u=i from fun e=>h2 e.symm),if_neg h2]
theorem SH.swap {H:List Blk}{bx bt b n:Nat}{ps:List Nat}{M:List (List Int)}{at':List Int}(h:SH H bx bt b n ps M at'){u p:Nat}(hu:u < ps.length)(hp:p < ps.length):
  SH (H.set b (.live 1 (((ps.map fun p=>[D.ms p 0 (n+1) (n+1)]).set u [.ms (ps.getD p 0) 0 (n+1) (n+1)]).set p [.ms (ps.getD u 0) 0 (n+1) (n+1)]))) bx bt b n ((ps.set u (ps.getD p 0)).set p (ps.getD u 0)) ((M.set u (M.getD p [])).set p (M.getD u [])) at':=by
 obtain⟨h1,h2,h3,h4⟩:=h.lt
 obtain⟨e1,e2,e3⟩:=h.d1
 have hl:((ps.set u (ps.getD p 0)).set p (ps.getD u 0)).length=ps.length:=by simp
 have hg:∀i,((ps.set u (ps.getD p 0)).set p (ps.getD u 0)).getD i 0=ps.getD (if i=p then u else if i=u then p else i) 0:=fun i=>by
  rw[swapM_get hu hp];split<;>(try split)<;>rfl
 have hgM:∀i,((M.set u (M.getD p [])).set p (M.getD u [])).getD i []=M.getD (if i=p then u else if i=u then p else i) []:=fun i=>by
  rw[swapM_get (by rw[h.len];exact hu) (by rw[h.len];exact hp)];split<;>(try split)<;>rfl
 have hi:∀i,i < ps.length→(if i=p then u else if i=u then p else i) < ps.length:=fun i hi=>by split<;>(try split)<;>omega
 refine⟨by rw[zr (Ne.symm e2)];exact h.box,by rw[zr (Ne.symm e3)];exact h.att,?_,fun i hil=>?_,h.d1,fun i hil=>?_,fun i j hil hjl he=>?_,by simp[h.len]⟩
 ·rw[zp h3,zaB,zaB]
 ·rw[hl] at hil
  rw[hg,hgM,zr (Ne.symm (h.d2 _ (hi i hil)).2.2)]
  exact h.row _ (hi i hil)
 ·rw[hl] at hil
  rw[hg];exact h.d2 _ (hi i hil)
 ·rw[hl] at hil hjl
  rw[hg,hg] at he
  have:=h.nd _ _ (hi i hil) (hi j hjl) he
  revert this
  repeat' split
  all_goals omega
def zeU (x y:List Int)(k:Nat):List Int:=x.take k++y.drop k
theorem mixL_len {x y:List Int}{k:Nat}(h:x.length=y.length)(hk:k≤y.length):(zeU x y k).length=y.length:=by
 simp[zeU];omega
theorem mixL_get {x y:List Int}{k:Nat}(h:x.length=y.length)(hk:k < y.length):(zeU x y k)[k]? = some (y.getD k 0):=by
 rw[zeU,zu (by simp;omega),zA,show k-min k x.length=0 by omega,zV,za6]
 exact zdr hk
theorem zdV {x y:List Int}{k:Nat}(h:x.length=y.length)(hk:k < y.length):(zeU x y k).set k (x.getD k 0)=zeU x y (k+1):=by
 refine zae fun i=>?_
 simp only[zeU,zX,zan,zw,zA,z6,z5,zV]
 have hx:=zdr (l:=x) (i:=k) (by omega)
 by_cases e:k=i
 ·subst e
  rw[if_pos rfl,if_pos (by omega),if_pos (by omega),if_pos (by omega),hx]
 ·rw[if_neg e]
  by_cases h1:i < k
  ·rw[if_pos (by omega),if_pos h1,if_pos (by omega),if_pos (by omega)]
  ·by_cases h2:i < y.length
   ·rw[if_neg (by omega),if_neg (by omega)];congr 1;omega
   ·rw[if_neg (by omega),if_neg (by omega),zs (by omega),zs (by omega)]
theorem mixL_zero (x y:List Int):zeU x y 0=y:=by simp[zeU]
theorem mixL_all {x y:List Int}(h:x.length=y.length):zeU x y y.length=x:=by simp[zeU,←h]
theorem mixL_all' {x y:List Int}{m:Nat}(h:x.length=y.length)(hy:y.length=m):zeU x y m=x:=by rw[←hy];exact mixL_all h
theorem elim_zero {f:Int}(hf:f=0):∀{u r:List Int},u.length=r.length→(∀j,0≤r.getD j 0∧r.getD j 0≤65520)→DM.elimR f u r=r
 |[],[],_,_=>rfl
 |b::u,a::r,h,hr=>by
  have h0:=hr 0
  have ih:=elim_zero hf (u:=u) (r:=r) (by simpa using h) fun j=>by have:=hr (j+1);simpa using this
  subst hf
  simp only[List.getD_cons_zero] at h0
  simp only[DM.elimR,List.zipWith_cons_cons] at ih ⊢
  rw[ih];congr 1;omega
 |[],_::_,h,_=>by simp at h
 |_::_,[],h,_=>by simp at h
theorem setD_self (M:List (List Int))(u:Nat):M.set u (M.getD u [])=M:=by
 refine zae fun i=>?_
 rw[zX]
 split
 ·rename_i h;subst h
  split
  ·rename_i h;simp[zc,h]
  ·rename_i h;rw[zs (by omega)]
 ·rfl
theorem setD_get {M:List (List Int)}{u:Nat}(h:u < M.length){r:List Int}:(M.set u r).getD u []=r:=by
 simp[zc,h]
theorem setD_ne {M:List (List Int)}{u i:Nat}(h:u≠i){r:List Int}:(M.set u r).getD i []=M.getD i []:=by
 simp[zc,zr h]
theorem dropL2 (H:List Blk)(x y:Blk):(H++[x,y]).dropLast=H++[x]:=by
 rw[List.dropLast_append_of_ne_nil (by simp)];rfl
theorem step_eq {L c u p i:Nat}{M M2:List (List Int)}(hl:M2.length=L)(h:∀q,q < L→M2.getD q []=if q < i∨q=u then DM.rowA M c u p q else DM.origR M u p q)(hi:i=L):M2=DM.stepM L M c u p:=by
 refine zaz (by simp[DM.stepM,hl]) fun q h1 h2=>?_
 have h3:=h q (by omega)
 rw[if_pos (by omega)] at h3
 simp only[DM.stepM,zbg,zbR]
 rw[←h3];simp[zc,h1]
theorem mixL_skip {x y:List Int}{k:Nat}(h:x.length=y.length)(hk:k < y.length)(he:x.getD k 0=y.getD k 0):zeU x y (k+1)=zeU x y k:=by
 rw[←zdV h hk,he]
 refine zae fun i=>?_
 rw[zX]
 split
 ·rename_i e;subst e
  rw[mixL_get h hk,if_pos (by rw[mixL_len h (by omega)];exact hk)]
 ·rfl
theorem readX_get {n k:Nat}{at':List Int}{M:List (List Int)}(h:k < n):(DM.readX n at' M).getD k 0=if 0 < at'.getD k 0 then DM.ent M (at'.getD k 0-1).toNat n else 0:=by
 simp[DM.readX,zc,h]
theorem snapRows {H:List Blk}{bx bt b n u:Nat}{ps:List Nat}{M:List (List Int)}{at':List Int}(h:SH H bx bt b n ps M at')(hr:∀i,i < ps.length→(M.getD i []).length=n+1)(hu:u≤ps.length):
  snap (fun b=>H[b]?) 5 (.ms b u (ps.length-u) (ps.length-u))=.sl ((M.drop u).map zcU):=by
 have e1:u+(ps.length-u)=ps.length:=by omega
 simp only[snap,h.rows,e1,ze,zf,if_true]
 rw[zg (by simp),←zbf,zaa]
 congr 1
 have hl:=h.len
 refine zaz (by simp;omega) fun i h1 h2=>?_
 simp only[ze,z6] at h1 h2
 have h3:=h.row (u+i) (by omega)
 have e2:ps.getD (u+i) 0=ps[u+i]:=by simp[zc,show u+i < ps.length by omega]
 have e3:M.getD (u+i) []=M[u+i]:=by simp[zc,show u+i < M.length by omega]
 have h4:=hr (u+i) (by omega)
 rw[e2] at h3
 rw[e3] at h3 h4
 simp only[zbg,List.getElem_drop,Function.comp,zy,z8]
 rw[snapW (lk:=fun b=>H[b]?) h3 h4.symm]
end Go.DL
/- The rows of the equations, while they are laid. -/
namespace Go.DL
open Go.Proofs Go
structure RW (H:List Blk)(b n:Nat)(ps:List Nat)(M:List (List Int)):Prop where
 rows:H[b]? = some (.live 1 (ps.map fun p=>[.ms p 0 (n+1) (n+1)]))
 row:∀i,i < ps.length→H[ps.getD i 0]? = some (.live 1 ((M.getD i []).map eI))
 ne:∀i,i < ps.length→ps.getD i 0≠b
 nd:∀i j,i < ps.length→j < ps.length→ps.getD i 0=ps.getD j 0→i=j
 len:M.length=ps.length
structure IW (H:List Blk)(b n:Nat)(ps:List Nat)(M:List (List Int))(dt pw:Nat)(X Y:Int)(q:Nat)(row:List Int):Prop where
 rw:RW H b n ps M
 dot:H[dt]? = some (.live 2 [[wI X,wI Y]])
 pow:H[pw]? = some (.live 1 [[wI X]])
 es:∃es,H[q]? = some (.live 1 es)∧es.take row.length=row.map eI∧row.length≤es.length
 qb:q≠b
 qd:q≠dt
 qp:q≠pw
 qr:∀i,i < ps.length→ps.getD i 0≠q
section
variable {H T:List Blk}{b n dt pw q:Nat}{ps:List Nat}{M:List (List Int)}{X Y:Int}{row:List Int}
theorem zc5 {i:Nat}{x:Blk}(h:H[i]? = some x):i < H.length:=(za.1 h).1
theorem zcs {i:Nat}{x:Blk}(T:List Blk)(h:H[i]? = some x):(H++T)[i]? = some x:=by
 rw[zk (zc5 h)];exact h
theorem zdy {i j:Nat}{x y:Blk}(h:H[i]? = some x)(hn:j≠i):(H.set j y)[i]? = some x:=by
 rw[zr hn];exact h
theorem zcW {t:Nat}{x:Blk}{l:Nat}(hl:H.length=l)(h:T[t]? = some x):(H++T)[l+t]? = some x:=by
 subst hl
 rw[zu (by omega)]
 rw[show H.length+t-H.length=t by omega];exact h
theorem RW.app (h:RW H b n ps M)(T:List Blk):RW (H++T) b n ps M:=
 ⟨zcs T h.rows,fun i hi=>zcs T (h.row i hi),h.ne,h.nd,h.len⟩
theorem RW.other (h:RW H b n ps M)(hb:q≠b)(hr:∀i,i < ps.length→ps.getD i 0≠q)(x:Blk):RW (H.set q x) b n ps M:=
 ⟨zdy h.rows hb,fun i hi=>zdy (h.row i hi) fun e=>hr i hi e.symm,h.ne,h.nd,h.len⟩
theorem RW.lt (h:RW H b n ps M):b < H.length∧∀i,i < ps.length→ps.getD i 0 < H.length:=⟨zc5 h.rows,fun i hi=>zc5 (h.row i hi)⟩
theorem RW.nil (h:H[b]? = some (.live 1 [])):RW H b n [] []:=
 ⟨h,fun i hi=>absurd hi (zap _),fun i hi=>absurd hi (zap _),fun i _ hi=>absurd hi (zap _),rfl⟩
theorem IW.start (h:RW H b n ps M){es:List (List D)}:IW (H++[.live 2 [[wI X,wI Y]],.live 1 [[wI X]],.live 1 es]) b n ps M H.length (H.length+1) X Y (H.length+2) []:=by
 obtain⟨h1,h2⟩:=h.lt
 exact⟨h.app _,zcW (t:=0) rfl rfl,zcW (t:=1) rfl rfl,⟨es,zcW (t:=2) rfl rfl,by simp,zj _⟩,by omega,by omega,by omega,fun i hi=>by have:=h2 i hi;omega⟩
theorem IW.push (h:IW H b n ps M dt pw X Y q row){v:Int}{t:Nat}(ht:T[t]? = some (.live 1 ((row++[v]).map eI))):IW (H.set q .dead++T) b n ps M dt pw X Y (H.length+t) (row++[v]):=by
 obtain⟨h1,h2⟩:=h.rw.lt
 have h3:=zc5 h.dot
 have h4:=zc5 h.pow
 exact⟨(h.rw.other h.qb h.qr _).app _,zcs _ (zdy h.dot h.qd),zcs _ (zdy h.pow h.qp),⟨_,zcW (by simp) ht,by rw[zg (by simp)],by simp⟩,by omega,by omega,by omega,fun i hi=>by have:=h2 i hi;omega⟩
theorem zee {α:Type}(l:List α)(x d:α)(i:Nat)(hi:i < l.length+1):(l++[x]).getD i d=if i < l.length then l.getD i d else x:=by
 simp only[zc]
 split
 ·rename_i h;rw[zk h]
 ·rename_i h;rw[show i=l.length by omega];simp
theorem IW.done (h:IW H b n ps M dt pw X Y q row){v:Int}{x y:Blk}:RW ((H.set q .dead).set b .dead++[x,.live 1 ((row++[v]).map eI),y,.live 1 ((ps++[H.length+1]).map fun p=>[.ms p 0 (n+1) (n+1)])]) (H.length+3) n (ps++[H.length+1]) (M++[row++[v]]):=by
 obtain⟨h1,h2⟩:=h.rw.lt
 have hl:((H.set q Blk.dead).set b Blk.dead).length=H.length:=by simp
 have hL:=h.rw.len
 have hp:(ps++[H.length+1]).length=ps.length+1:=by simp
 refine⟨zcW hl rfl,fun i hi=>?_,fun i hi=>?_,fun i j hi hj he=>?_,by simp[hL]⟩
 ·rw[hp] at hi
  rw[zee _ _ _ _ hi,zee _ _ _ _ (by omega),hL]
  split
  ·rename_i hlt
   exact zcs _ (zdy (zdy (h.rw.row i hlt) fun e=>h.qr i hlt e.symm) fun e=>h.rw.ne i hlt e.symm)
  ·exact zcW (t:=1) hl rfl
 ·rw[hp] at hi
  rw[zee _ _ _ _ hi]
  split
  ·rename_i hlt;have:=h2 i hlt;omega
  ·omega
 ·rw[hp] at hi hj
  rw[zee _ _ _ _ hi,zee _ _ _ _ hj] at he
  split at he<;>split at he
  ·rename_i a1 a2;exact h.rw.nd i j a1 a2 he
  ·rename_i a1 a2;have:=h2 i a1;omega
  ·rename_i a1 a2;have:=h2 j a2;omega
  ·omega
end
theorem snapP {lk:Nat→Option Blk}{p:Nat}{X:Int}{j:Nat}(h:lk p=some (.live 1 [[wI X]])):[wI j,D.mp p 0 0].map (snap lk 5)=[wI j,.rp [wI X]]:=by
 simp[snap,h]
theorem m_pw {X:Int}(hX:W X)(j:Nat)(hj:j≤4611686018427387904):Maps Tryz.prog 143 [wI j,.rp [wI X]] (wI (DM.pw X j)):=by
 have e:X=(X.toNat:Int):=by have:=hX.1;omega
 have h:=m_power1 X.toNat j (by have:=hX.1;have:=hX.2;omega) hj
 rw[←e] at h;exact h
end Go.DL
