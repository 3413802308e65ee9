/- Shelves: slices.Delete of leaves; Tear of the program. -/
import Derived.Test.YtmbbepdbjeciaaaGreatYw8
import Derived.Test.YtmbbepdbjeciaaaGreatYv5
import Derived.Test.YtmbbepdbjeciaaaGreatE6
set_option maxRecDepth 100000
set_option maxHeartbeats 16000000
namespace Go.DL
open Go.Proofs Go
theorem f_sl3B {P:Program}{H:List Blk}{s n:Nat}{al:AL}{x y z w:Operand}{tx te:TypeId}{a b m:Int}{bk len cap sz lo hi mx:Nat}{es:List (List D)}(hx:evA n al x=.ms bk 0 len cap)(hy:evA n al y=wI a)(hz:evA n al z=wI b)(hw:evA n al w=wI m)(ha:a=lo)(hb':b=hi)(hm:m=mx)(h1:lo≤hi)(h2:hi≤mx)(h3:mx≤cap)
  (he:zc3 P tx=some (te,sz)) (hb:H[bk]? = some (.live sz es)):Val P H s n al (.slice tx x (some y) (some z) (some w)) (.ms bk lo (hi-lo) (mx-lo)):=by
 subst ha;subst hb';subst hm
 refine⟨?_⟩
 simp only[zcp,zc7,sliceD,he,hx,unfl,zq,hy,hz,hw,bndD,intD,zby]
 simp[zcZ,hb,h1,h2,h3,zcQ]
theorem c_Delete {H:List Blk}{b k c i:Nat}{es:List (List D)}(hb:H[b]? = some (.live 2 es))(hk:k≤es.length)(hkc:k≤c)(hi:i < k)(hk1:k≤1000)(hf:∀e,e∈es→e.length=2∧e.all isCell=true):
  CallSp Tryz.prog 111 [.ms b 0 k c,wI i,wI ((i:Int)+1)] H fun d H'=>∃es' ,d=.ms H.length 0 (k-1) c∧H'=H.set b .dead++[.live 2 es']∧es'.take (k-1)=(es.take k).eraseIdx i∧k-1≤es'.length∧∀e,e∈es'→e.length=2∧e.all isCell=true:=by
 refine CallSp.vt pok Tryz.f111 (n:=33) (rs:=[.tmp 6]) rfl rfl rfl rfl rfl rfl rfl fun g=>?_
 have hbl:=zcR hb
 have hfd:∀l:List (List D),(∀e,e∈l→e∈es)→∀e,e∈l→e.length=2∧e.all isCell=true:=fun l hl e he=>hf e (hl e he)
 obtain⟨es1,hes1⟩:∃es1,es1=es.take i++(es.take (i+1+(k-(i+1)))).drop (i+1)++(es.take c).drop (k-1):=⟨_,rfl⟩
 have hkk:i+1+(k-(i+1))=k:=by omega
 have hl1:(es.take i++(es.take (i+1+(k-(i+1)))).drop (i+1)).length=k-1:=by
  rw[hkk,zw,zA,z6,zA];omega
 have hl:k≤es1.length:=by
  rw[hes1,zw,hl1,z6,zA];omega
 repeat (any_goals (first|(apply zcd;(first|refine zbW ?_|refine zb0 ?_|refine zbZ ?_|refine zb9 (ze7 rfl rfl (by omega)) ?_|refine zb8 ?_|(apply w_sl;(first|refine zb9 (f_sl3B (lo:=i) (hi:=i+1) (mx:=k) rfl rfl rfl rfl rfl rfl rfl (by omega) (by omega) hkc rfl hb) ?_|refine zb9 (f_slB (lo:=k-1) (hi:=k) rfl rfl rfl rfl rfl (by omega) hkc rfl (zdO (by simp) rfl)) ?_))|refine RT.clearS (z:=[wI 0,.nil]) (b:=H.length+0) (es:=es1) rfl rfl rfl rfl rfl (zdO (by simp) rfl) (by omega) (H':=H.set b .dead++[.live 2 (es1.take (k-1)++List.replicate (k-(k-1)) [wI 0,.nil]++es1.drop (k-1+(k-(k-1))))]) (zcV (by simp) rfl) ?_))|(apply zcg;(first|refine zbY rfl ?_|refine zbX rfl ?_|refine zcb rfl rfl ?_|refine zb5 rfl ?_|refine zb7 rfl ?_|refine zd9 [b] 1 [none,none,none,none,none,none,some 0,none] [(1,[1],none),(1,[1],none),(1,[1],none),(1,[1],none),(1,[1],none),(1,[1],none),(0,[1],some 0),(1,[],none)] 2 rfl (by first|(simp;done)|(simp;omega)) (by first|(simp;done)|(simp;omega)) zcr rfl (by decide +kernel) (by decide +kernel) (by decide +kernel) rfl (H1:=H++[.free,.free]) rfl ?_))|(apply s_any;(first|refine zeC (zdB (H.set b .dead) [_] .free) ?_|refine ST.mvA ?_|refine ST.asA ?_|(apply s_sl;(first|refine zdA (f_slHiO (hi:=i) rfl rfl rfl (by omega) rfl hgX) ?_|refine zdA (f_slLo0 (k:=i+1) rfl rfl rfl (by omega) hkc rfl hgX) ?_))|refine ST.apC (q:=0) (b:=b) rfl rfl (s':=H.length+0) rfl (f_apDel (m:=k-1) (by':=32) (es:=es) rfl rfl hgX (by omega) (by omega) (by omega) (by omega) (by omega) rfl (Nat.succ_pos 1) rfl rfl hf (by omega) (by omega)) (ze0 (T':=[.live 2 es1,.free]) hbl rfl (by rw[hes1];rfl)) ?_))|(with_reducible refine zce ?_;refine kEr rfl ?_)))
 have hz:k-(k-1)=1:=by omega
 refine⟨_,rfl,rfl,?_,?_,fun e he=>?_⟩
 ·rw[zT,List.take_append_of_le_length (by rw[zA];omega),List.take_take,Nat.min_self,hes1,List.take_append_of_le_length (by omega),zg (by omega),hkk,zaC,List.take_take,zbz (by omega)]
 ·simp only[zw,zA,z7,z6];omega
 ·have h1:∀e,e∈es1→e.length=2∧e.all isCell=true:=fun e he=>by
   rw[hes1] at he
   rcases zK.1 he with he|he
   ·rcases zK.1 he with he|he
    ·exact hf e (z9 he)
    ·exact hf e (z9 (zaO he))
   ·exact hf e (z9 (zaO he))
  rcases zK.1 he with he|he
  ·rcases zK.1 he with he|he
   ·exact h1 e (z9 he)
   ·rw[zaL he];exact⟨rfl,rfl⟩
  ·exact h1 e (zaO he)
def TearS (cs:List (List Leaf))(c n:Int):List (List Leaf) × Int:=
 if (zeX cs c n).2=0 then (cs.set c.toNat ((cs.getD c.toNat []).eraseIdx (zeX cs c n).1.toNat),0) else (cs,(zeX cs c n).2)
def StpQ (H:List Blk)(lab:Lab)(sd p cb:Nat)(s:Shape)(r:List (List Leaf) × Int)(d:D)(H':List Blk):Prop:=
 d=wI r.2∧∃lab' rows',ShAt H' lab' sd p cb s rows'∧FrL H H' lab lab' sd∧zcE rows'=r.1
theorem FindS_ok {cs:List (List Leaf)}{c n:Int}(h:(zeX cs c n).2=0):∃i k:Nat,∃hi:i < cs.length,c=i∧(zeX cs c n).1=k∧k < cs[i].length:=by
 unfold zeX at h ⊢
 by_cases hc:0≤c∧c≤(cs.length:Int)-1
 ·rw[if_pos hc] at h ⊢
  obtain⟨i,rfl⟩:∃i:Nat,c=i:=zF hc.1
  have hi:i < cs.length:=by omega
  have hgd:cs.getD (i:Int).toNat []=cs[i]:=by rw[zM];simp[List.getD,hi]
  rw[hgd] at h ⊢
  rcases fidx_rng (isN n) cs[i] with⟨e,_⟩|⟨q,hq,e,_⟩
  ·rw[e,if_pos (by decide)] at h;cases h
  ·rw[e,if_neg (by omega)] at h ⊢
   exact⟨i,q,hi,rfl,rfl,hq⟩
 ·rw[if_neg hc] at h;cases h
theorem sub_dead (H:List Blk)(b:Nat):Sub (H.set b .dead) H∧SubT (H.set b .dead) H:=by
 refine⟨fun k sz es hk=>?_,fun k c es hk=>?_⟩
 all_goals
  rw[zX] at hk
  split at hk
  ·split at hk<;>cases hk
  ·exact hk
theorem lvsOf_get {rows:List (D × List (Nat × Leaf))}{i:Nat}(hi:i < (zcE rows).length):∃r,rows[i]? = some r∧(zcE rows)[i]=r.2.map (·.2):=by
 have h:i < rows.length:=by simpa[zcE] using hi
 exact⟨rows[i],zb h,by simp[zcE]⟩
theorem ShAt.torn {H Hd T:List Blk}{lab:Lab}{sd p cb i nb cap:Nat}{s:Shape}{v:D}{ql ql':List (Nat × Leaf)}{es':List (List D)}{rows:List (D × List (Nat × Leaf))}(h:ShAt H lab sd p cb s rows)(hr:rows[i]? = some (v,ql))(hlen:Hd.length=H.length)
  (k1:∀b x,H[b]? = some x→((lab b).2.1≠i+1∨∃w,x=.live 1 w)→Hd[b]? = some x) (k2:∀b,(lab b).1≠sd→Hd[b]? = H[b]?) (hnb:H.length≤nb) (hb':(Hd++T)[nb]? = some (.live 2 es')) (hsub:ql'.Sublist ql) (ht:es'.take ql'.length=ql'.map eOL) (hle:ql'.length≤es'.length) (hcap:ql'.length≤cap)
  (hfe:∀e,e∈es'→e.length=2∧e.all isCell=true):
  ∃lab',ShAt ((Hd++T).set cb (.live 1 ((rows.map fun r=>[r.1]).set i [.ms nb 0 ql'.length cap]))) lab' sd p cb s (rows.set i (.ms nb 0 ql'.length cap,ql'))∧FrL H ((Hd++T).set cb (.live 1 ((rows.map fun r=>[r.1]).set i [.ms nb 0 ql'.length cap]))) lab lab' sd:=by
 have hcl:=zcR h.cs
 have hcl2:cb < (Hd++T).length:=by rw[zw];omega
 have hi:i < rows.length:=(za.1 hr).1
 have hrow:=h.row i _ hr
 have lnb:¬nb < H.length:=by omega
 refine⟨fun b=>if b < H.length then lab b else (sd,i+1,0),h.setRow hi (hg_self hcl2) (fun b x hb hne _ hl=>zdv (zcA T (k1 b x hb (.inl hl))) (Ne.symm hne)) (fun b hb=>if_pos hb) ⟨.inr ⟨nb,cap,es',rfl,zdv hb' (by omega),ht,hle,hcap,hfe,if_neg lnb⟩,fun q hq=>?_,hrow.nd.sublist hsub⟩,⟨by rw[zE,zw];omega,fun b hb=>if_pos hb,fun b hb hn=>?_⟩⟩
 ·obtain⟨w1,w2⟩:=hrow.ws q (hsub.subset hq)
  refine⟨zdv (zcA T (k1 q.1 _ w1 (.inr ⟨_,rfl⟩))) fun e=>?_,(if_pos (zcR w1)).trans w2⟩
  rw[←e,h.lc] at w2;simp at w2
 ·rw[zr (fun e=>hn (by rw[←e,h.lc])),zk (by omega)]
  exact k2 b hn
theorem erase_eOL (k:Nat):∀l:List (Nat × Leaf),(l.map eOL).eraseIdx k=(l.eraseIdx k).map eOL:=fun l=>by
 rw[zaC,zaC,zW,zbs,zbf]
theorem lvs_erase {rows:List (D × List (Nat × Leaf))}{i k:Nat}{v v':D}{ql:List (Nat × Leaf)}(hr:rows[i]? = some (v,ql)):zcE (rows.set i (v',ql.eraseIdx k))=(zcE rows).set i (((zcE rows).getD i []).eraseIdx k):=by
 have e:(zcE rows).getD i []=ql.map (·.2):=by
  rw[zcE,zc,zl,hr];rfl
 rw[e,zcE,zaB]
 congr 1
 show (ql.eraseIdx k).map (·.2)=_
 rw[zaC,zaC,zW,zbs,zbf]
theorem c_Tear {H:List Blk}{lab:Lab}{sd p cb:Nat}{s:Shape}{rows:List (D × List (Nat × Leaf))}(h:ShAt H lab sd p cb s rows)(hn:rows.length≤5)(hl:∀l,l∈zcE rows→l.length≤1000)(c n:Int):
  CallSp Tryz.prog 59 [.mp p 0 0,wI c,wI n] H (StpQ H lab sd p cb s (TearS (zcE rows) c n)):=by
 refine CallSp.vt pok Tryz.f59 (n:=39) (rs:=[.tmp 6]) rfl rfl rfl rfl rfl rfl rfl fun g=>?_
 have hf:=m_find s (zcE rows) (by rw[zcE,ze];exact hn) hl c n
 have hsn:([.mp p 0 0,wI c,wI n]:List D).map (snap (fun b=>H[b]?) 5)=[.rp (eSh s (zcE rows)),wI c,wI n]:=by
  rw[zy,h.snap];rfl
 unfold StpQ TearS
 have hfok:=FindS_ok (cs:=zcE rows) (c:=c) (n:=n)
 generalize zeX (zcE rows) c n=F at hf hfok ⊢
 obtain⟨F1,F2⟩:=F
 dsimp only at hf hfok ⊢
 by_cases h0:F2=0
 ·subst h0
  obtain⟨i,k,hi,rfl,rfl,hk⟩:=hfok rfl
  obtain⟨r,hr,hri⟩:=lvsOf_get hi
  have hrow:=h.row i r hr
  have hil:i < rows.length:=by simpa[zcE] using hi
  rw[hri,ze] at hk
  obtain⟨v,ql⟩:=r
  dsimp only at hrow hk hri
  have hk1:ql.length≤1000:=by
   have:=hl _ (zi hi)
   rwa [hri,ze] at this
  rcases hrow.hd with⟨_,e⟩|⟨b,cap,es,rfl,hb,het,hel,hec,hef,hlb⟩
  ·rw[e] at hk;exact absurd hk (zap k)
  have hbl:=zcR hb
  have hcl:=zcR h.cs
  have hpl:=zcR h.hd
  have hbc:b≠cb:=fun e=>by
   rw[e,h.lc] at hlb;simp at hlb
  have hbp:b≠p:=fun e=>by
   rw[e,h.lp] at hlb;simp at hlb
  have hqm:(rows.map fun r=>[r.1])[i]? = some [D.ms b 0 ql.length cap]:=by rw[zl,hr];rfl
  have dp:(H.set b .dead)[p]? = some (.live 4 [[wI s.Data,wI s.Checks,wI s.Width,.ms cb 0 rows.length rows.length]]):=zdv h.hd hbp
  have dc:(H.set b .dead)[cb]? = some (.live 1 (rows.map fun r=>[r.1])):=zdv h.cs hbc
  have hdl:=c_Delete hb hel hec hk hk1 hef
  repeat (any_goals (first|(apply zcd;(first|refine zbW ?_|refine zb0 ?_|refine zbZ ?_|refine zb2 ?_|(refine zcw ?_;refine zb4 rfl hf hsn rfl ?_)|refine zdF ?_|refine zdz ?_))|(apply zcg;(first|refine zbY rfl ?_|refine zbX rfl ?_|refine zcb rfl rfl ?_|refine zb5 rfl ?_|refine VT.drawX 15 (H.set b .dead) zcr rfl rfl (by decide +kernel) (sub_dead H b).1 (sub_dead H b).2 rfl ?_))|(apply zez;(first|refine zc2 ?_|(apply q_ld;(first|refine zdi (zcB rfl dp rfl rfl rfl) ?_|refine zdi (zcB rfl dc hqm rfl rfl) ?_))|refine zdU ?_|refine PT.bnA ?_|refine zdi (zct rfl rfl (by first|with_reducible exact castR _|rfl) dc rfl (by omega)) ?_|refine zdi (zeo (d:=.mp p 0 0) rfl rfl) ?_|refine PT.nil (XC.call rfl (hdl.mono ?_))))))
  rintro d4 H4 ⟨es',rfl,rfl,ht,hle,hfe⟩
  refine⟨fun b sz es hb=>zcA _ hb,fun b c es hb=>zcA _ hb,?_⟩
  have dc2:=zcA [Blk.live 2 es'] dc
  repeat (any_goals (first|(apply zcd;(first|refine zbW ?_|refine zbZ ?_|refine zb9 (zct rfl rfl (by first|with_reducible exact castR _|rfl) dc2 rfl (by omega)) ?_|refine zdo (f_stV (d:=.ms H.length 0 (ql.length-1) cap) rfl dc2 hqm rfl rfl rfl rfl) rfl ?_))|(apply zcg;(first|refine zbY rfl ?_|refine zbX rfl ?_|refine zb7 rfl ?_))|(with_reducible refine zce ?_;refine kEr rfl ?_)))
  have hql:(ql.eraseIdx k).length=ql.length-1:=by rw[List.length_eraseIdx_of_lt hk]
  obtain⟨lab',q1,q2⟩:=h.torn (Hd:=H.set b .dead) (T:=[.live 2 es']) (nb:=H.length) (cap:=cap) (es':=es') (ql':=ql.eraseIdx k) hr (by simp) (fun b' x hx hor=>zdv hx fun e=>by
   subst e
   rcases hor with h1|⟨w,rfl⟩
   ·rw[hlb] at h1;exact h1 rfl
   ·rw[hb] at hx;cases hx) (fun b' hb'=>zr fun e=>by subst e;rw[hlb] at hb';exact hb' rfl) (zf _) (zdO (t:=0) (by simp) rfl) (List.eraseIdx_sublist _ _) (by rw[hql,ht,het,erase_eOL]) (by omega) (by omega) hfe
  rw[hql] at q1 q2
  rw[if_pos rfl]
  refine⟨rfl,lab',_,q1,q2,?_⟩
  rw[lvs_erase hr];rfl
 ·rw[if_neg h0]
  repeat (any_goals (first|(apply zcd;(first|refine zbW ?_|refine zb0 ?_|refine zbZ ?_|refine zb2 ?_|(refine zcw ?_;refine zb4 rfl hf hsn rfl ?_)|refine zdF ?_|refine zdz ?_))|(apply zcg;(first|refine zbY rfl ?_|refine zbX rfl ?_|refine zb7 rfl ?_|refine zb6 rfl rfl (by first|assumption|omega) ?_))|with_reducible (refine kSr ?_)|(with_reducible refine zce ?_;refine kEr rfl ?_)))
  exact⟨rfl,lab,rows,h,FrL.refl _ _ _,rfl⟩
end Go.DL
/- Shelves: Tear of the reference. -/
namespace Go.DL
open Go.Proofs Go
theorem FindS_in {cs:List (List Leaf)}{i:Nat}(hi:i < cs.length)(n:Int):zeX cs i n=if fidx (isN n) cs[i] < 0 then (0,5) else (fidx (isN n) cs[i],0):=by
 have hgd:cs.getD (i:Int).toNat []=cs[i]:=by rw[zM];simp[List.getD,hi]
 rw[zeX,if_pos (by omega),hgd]
theorem elems_row {H:List Blk}{b k l cap:Nat}{es:List (List D)}{ql:List (Nat × Leaf)}(hb:H[b]? = some (.live 2 es))(ht:es.take ql.length=ql.map eOL)(hle:ql.length≤es.length)(hk:k+l≤ql.length):
  zcF H (.ms b k l cap)=some (((ql.take (k+l)).drop k).map eOL):=by
 simp only[zcF,hb]
 rw[if_pos (by omega)]
 have e:es.take (k+l)=(es.take ql.length).take (k+l):=by rw[List.take_take,zbz hk]
 rw[e,ht,←zbs,←zbf]
theorem c_RTear {H:List Blk}{lab:Lab}{sd p cb:Nat}{s:Shape}{rows:List (D × List (Nat × Leaf))}(h:ShAt H lab sd p cb s rows)(hn:rows.length≤5)(hl:∀l,l∈zcE rows→l.length≤1000)(c n:Int):
  CallSp Tryz.prog 60 [.mp p 0 0,wI c,wI n] H (StpQ H lab sd p cb s (TearS (zcE rows) c n)):=by
 refine CallSp.vt pok Tryz.f60 (n:=53) (rs:=[.tmp 6]) rfl rfl rfl rfl rfl rfl rfl fun g=>?_
 have hll:(zcE rows).length=rows.length:=by rw[zcE,ze]
 have hw:=m_in c 0 ((rows.length:Int)-1)
 unfold StpQ TearS
 by_cases hc:0≤c∧c≤(rows.length:Int)-1
 ·rw[decide_eq_true hc] at hw
  obtain⟨i,rfl⟩:∃i:Nat,c=i:=zF hc.1
  have hi:i < (zcE rows).length:=by omega
  have ha:=m_at s (zcE rows) (by omega) hl i hi n
  have hsn:([.mp p 0 0,wI i,wI n]:List D).map (snap (fun b=>H[b]?) 5)=[.rp (eSh s (zcE rows)),wI i,wI n]:=by
   rw[zy,h.snap];rfl
  rcases fidx_rng (isN n) (zcE rows)[i] with⟨e,_⟩|⟨k,hk,e,_⟩
  ·rw[e] at ha
   have e1:zeX (zcE rows) i n=(0,5):=by rw[FindS_in hi,e,if_pos (by decide)]
   rw[e1,if_neg (by decide)]
   repeat (any_goals (first|(apply zcd;(first|refine zbW ?_|refine zb0 ?_|refine zbZ ?_|refine zb9 (ze4 h rfl) ?_|refine zcm ?_|refine zb2 ?_|(apply zdc;(first|(refine zcw ?_;refine zb4 rfl ha hsn rfl ?_)|refine zb4 rfl (hw) rfl rfl ?_|refine zb8 ?_))|refine zcv ?_|refine zb9 (zeo (d:=.mp p 0 0) rfl rfl) ?_))|(apply zcg;(first|refine zbY rfl ?_|refine zbX rfl ?_|refine zch rfl rfl ?_|refine zcb rfl rfl ?_|refine zb5 rfl ?_|refine zb7 rfl ?_))|with_reducible (refine kSr ?_)|(with_reducible refine zce ?_;refine kEr rfl ?_)))
   exact⟨rfl,lab,rows,h,FrL.refl _ _ _,rfl⟩
  ·rw[e] at ha
   have e1:zeX (zcE rows) i n=((k:Int),0):=by rw[FindS_in hi,e,if_neg (by omega)]
   rw[e1,if_pos rfl]
   obtain⟨r,hr,hri⟩:=lvsOf_get hi
   have hrow:=h.row i r hr
   have hil:i < rows.length:=by omega
   rw[hri,ze] at hk
   obtain⟨v,ql⟩:=r
   dsimp only at hrow hk hri
   have hk1:ql.length≤1000:=by
    have:=hl _ (zi hi)
    rwa [hri,ze] at this
   rcases hrow.hd with⟨_,e⟩|⟨b,cap,es,rfl,hb,het,hel,hec,hef,hlb⟩
   ·rw[e] at hk;exact absurd hk (zap k)
   have hbl:=zcR hb
   have hcl:=zcR h.cs
   have hpl:=zcR h.hd
   have hbc:b≠cb:=fun e=>by
    rw[e,h.lc] at hlb;simp at hlb
   have hqm:(rows.map fun r=>[r.1])[i]? = some [D.ms b 0 ql.length cap]:=by rw[zl,hr];rfl
   have hpc:p≠cb:=fun e=>by
    have h1:=h.lp;have h2:=h.lc
    rw[e,h2] at h1;simp at h1
   have hhd:=h.hd
   have hcs:=h.cs
   obtain⟨lb,hlb0⟩:∃lb,lb=H.length+1:=⟨_,rfl⟩
   obtain⟨H2,hH2⟩:∃H2,H2=H++[Blk.dead,.live 2 ((ql.take k).map eOL)]:=⟨_,rfl⟩
   have hll2:H2.length=H.length+2:=by rw[hH2];simp
   have p2:H2[p]? = some (.live 4 [[wI s.Data,wI s.Checks,wI s.Width,.ms cb 0 rows.length rows.length]]):=by rw[hH2];exact zcA _ hhd
   have c2:H2[cb]? = some (.live 1 (rows.map fun r=>[r.1])):=by rw[hH2];exact zcA _ hcs
   have b2:H2[b]? = some (.live 2 es):=by rw[hH2];exact zcA _ hb
   have l2:H2[lb]? = some (.live 2 ((ql.take k).map eOL)):=by rw[hH2,hlb0];exact zdO (t:=1) rfl rfl
   have hlbl:lb < H2.length:=by omega
   have hcbl2:cb < H2.length:=by omega
   have hlc:lb≠cb:=by omega
   have hlbb:lb≠b:=by omega
   have hlp:lb≠p:=by omega
   have hv1:zcF (H++[.live 2 []]) (.ms b 0 k cap)=some ((ql.take k).map eOL):=by
    have:=elems_row (zcA [Blk.live 2 []] hb) het hel (k:=0) (l:=k) (cap:=cap) (by omega)
    simpa using this
   repeat (any_goals (first|(apply zcd;(first|refine zbW ?_|refine zb0 ?_|refine zbZ ?_|(apply zeS;(first|refine zb9 (ze4 h rfl) ?_|refine zb9 (zcB rfl (zcA _ hhd) rfl rfl rfl) ?_|refine zb9 (zcB rfl (zcA _ hcs) hqm rfl rfl) ?_))|refine zcm ?_|refine zb2 ?_|(apply zdc;(first|(refine zcw ?_;refine zb4 rfl ha hsn rfl ?_)|refine zeH (s:=lb) (by rw[hlb0];simp) (f_appL (f:=eOL) (o:=[]) (v:=ql.take k) (mm:=k) (by':=32) (es:=[]) rfl rfl hg_new rfl (zf _) hv1 rfl (by rw[zA];simp;omega) rfl (Nat.succ_pos 1) rfl rfl (fun _=>⟨rfl,rfl⟩) (by rw[zA];simp;omega) (by rw[zA];simp;omega)) (H':=H2) (by rw[hH2];simp[killO]) ?_|refine zb4 rfl (hw) rfl rfl ?_|refine zb8 ?_))|refine zb9 (zct rfl rfl (by first|with_reducible exact castR _|rfl) (zcA _ hcs) rfl (by omega)) ?_|refine zcv ?_|refine zcI rfl (f_bsl0 (z:=[wI 0,.nil]) (m:=2) rfl rfl rfl) (H':=H++[.live 2 []]) rfl ?_|refine zb9 (f_slHiO (hi:=k) rfl rfl rfl (by omega) rfl (zcA _ hb)) ?_|refine zb9 (zeo (d:=.mp p 0 0) rfl rfl) ?_))|(apply zcg;(first|refine zbY rfl ?_|refine zbX rfl ?_|refine zcb rfl rfl ?_|refine zb5 rfl ?_|refine zb7 rfl ?_|refine zd9 [lb,cb] 2 [none,none,none,none,none,none,none,none,none,none,none,none,none,none,none,none,some 0,none,some 1] [(2,[2,3,0],none),(2,[2,3,0],none),(2,[2,3,0],none),(2,[2,3,0],none),(2,[2,3,0],none),(2,[2,3],none),(2,[2,3],none),(2,[2,3],none),(2,[2,3],none),(2,[2,3],none),(2,[2,3],none),(2,[2,3],none),(2,[2,3],none),(2,[2,3],none),(2,[2,3],none),(2,[2,3],none),(0,[2,3],some 0),(2,[3],none),(1,[3],some 1)] 3 rfl (by first|(simp;done)|(simp;omega)) (by first|(simp;done)|(simp;omega)) zcr rfl (by decide +kernel) (by decide +kernel) (by decide +kernel) rfl (H1:=H2++[.free,.free,.free]) rfl ?_))|(apply s_any;(first|refine zeC (zdB ((H2.set lb .dead).set cb _) [_,_] .free) ?_|refine ST.mvA ?_|(apply s_ld;(first|refine zdA (zcB rfl hgX hqm rfl rfl) ?_|refine ST.ldH ?_))|refine ST.faA ?_|refine ST.bnA ?_|refine ST.ap (q:=0) (b:=lb) rfl rfl (s':=H2.length+0) rfl (f_appL (f:=eOL) (o:=ql.take k) (v:=(ql.take (k+1+(ql.length-(k+1)))).drop (k+1)) (mm:=ql.length-1) (by':=32) (es:=(ql.take k).map eOL) rfl rfl hgX (zg (by rw[ze,zA];omega)) (by rw[ze,zA];omega) (elems_row hgX het hel (by omega)) (by rw[zA];omega) (by rw[zA,z6,zA];omega) rfl (Nat.succ_pos 1) rfl rfl (fun _=>⟨rfl,rfl⟩) (by rw[zA,z6,zA];omega) (by rw[zA,z6,zA];omega)) (ze0 (T':=[.live 2 ((ql.take k++(ql.take (k+1+(ql.length-(k+1)))).drop (k+1)).map eOL),.free,.free]) hlbl rfl rfl) ?_|refine zdA (zct rfl rfl (by first|with_reducible exact castR _|rfl) hgX rfl (by omega)) ?_|refine ST.wr (q:=1) (b:=cb) rfl rfl (f_stV (d:=.ms (H2.length+0) 0 (ql.length-1) (ql.length-1)) rfl hgX hqm rfl rfl rfl rfl) (zD _ _ (by rw[zE];exact hcbl2)) ?_|refine zdA (f_slLo0 (k:=k+1) rfl rfl rfl (by omega) hec rfl hgX) ?_|refine zdA (zeo (d:=.mp p 0 0) rfl rfl) ?_))|(with_reducible refine zce ?_;refine kEr rfl ?_)))
   have hql:(ql.eraseIdx k).length=ql.length-1:=by rw[List.length_eraseIdx_of_lt hk]
   have hnew:ql.take k++(ql.take (k+1+(ql.length-(k+1)))).drop (k+1)=ql.eraseIdx k:=by
    rw[show k+1+(ql.length-(k+1))=ql.length by omega,z0,zaC]
   have hT:H2.set lb .dead++[Blk.live 2 ((ql.eraseIdx k).map eOL),.free]=H++[.dead,.dead,.live 2 ((ql.eraseIdx k).map eOL),.free]:=by
    rw[hH2,hlb0,zcV (T':=[.dead,.dead]) rfl rfl,zT];rfl
   obtain⟨lab',q1,q2⟩:=h.torn (Hd:=H) (T:=[.dead,.dead,.live 2 ((ql.eraseIdx k).map eOL),.free]) (nb:=H2.length+0) (cap:=ql.length-1) (es':=(ql.eraseIdx k).map eOL) (ql':=ql.eraseIdx k) hr rfl (fun _ _ hx _=>hx) (fun _ _=>rfl) (by omega) (by rw[hll2];exact zdO (t:=2) rfl rfl) (List.eraseIdx_sublist _ _) (zg (by simp)) (by simp) (by omega) (fun e he=>by
    obtain⟨q,_,rfl⟩:=zt.1 he
    exact⟨rfl,rfl⟩)
   rw[hql,←hT,zD _ _ (by rw[zE];exact hcbl2)] at q1 q2
   refine⟨rfl,lab',_,?_,?_,(lvs_erase (v':=.ms (H2.length+0) 0 (ql.length-1) (ql.length-1)) hr).trans rfl⟩
   ·rw[hnew];exact q1
   ·rw[hnew];exact q2
 ·rw[decide_eq_false hc] at hw
  have e:zeX (zcE rows) c n=(0,1):=by rw[zeX,if_neg (by omega)]
  rw[e,if_neg (by decide)]
  repeat (any_goals (first|(apply zcd;(first|refine zbW ?_|refine zb0 ?_|refine zbZ ?_|refine zb9 (ze4 h rfl) ?_|refine zcm ?_|refine zb2 ?_|(apply zdc;(first|refine zb4 rfl (hw) rfl rfl ?_|refine zb8 ?_))|refine zcv ?_|refine zb9 (zeo (d:=.mp p 0 0) rfl rfl) ?_))|(apply zcg;(first|refine zbY rfl ?_|refine zbX rfl ?_|refine zch rfl rfl ?_|refine zb7 rfl ?_))|with_reducible (refine kSr ?_)|(with_reducible refine zce ?_;refine kEr rfl ?_)))
  exact⟨rfl,lab,rows,h,FrL.refl _ _ _,rfl⟩
end Go.DL
/- Shelves: Blot of both. -/
namespace Go.DL
open Go.Proofs Go
theorem set_self {α:Type}{l:List α}{i:Nat}{x:α}(h:l[i]? = some x):l.set i x=l:=by
 refine zae fun j=>?_
 by_cases e:i=j
 ·subst e;rw[zp (za.1 h).1,h]
 ·rw[zr e]
theorem ShAt.blot {H:List Blk}{lab:Lab}{sd p cb i k:Nat}{s:Shape}{v:D}{ql:List (Nat × Leaf)}{q:Nat × Leaf}{rows:List (D × List (Nat × Leaf))}(h:ShAt H lab sd p cb s rows)(hr:rows[i]? = some (v,ql))(hq:ql[k]? = some q)(w:List Int)(hw:w.length=q.2.Words.length):
  ShAt (H.set q.1 (.live 1 (w.map eI))) lab sd p cb s (rows.set i (v,ql.set k (q.1,⟨q.2.Number,w⟩)))∧FrL H (H.set q.1 (.live 1 (w.map eI))) lab lab sd:=by
 have hi:i < rows.length:=(za.1 hr).1
 have hk:k < ql.length:=(za.1 hq).1
 have hrow:=h.row i _ hr
 dsimp only at hrow
 obtain⟨w1,w2⟩:=hrow.ws q (zm hq)
 have hql:=zcR w1
 have hqc:q.1≠cb:=fun e=>by
  rw[e,h.lc] at w2;simp at w2
 have hm:(rows.map fun r=>[r.1])[i]? = some [v]:=by rw[zl,hr];rfl
 have hset:(ql.set k (q.1,⟨q.2.Number,w⟩)).map eOL=ql.map eOL:=by
  rw[zaB]
  refine set_self ?_
  rw[zl,hq]
  show some [wI q.2.Number,D.ms q.1 0 _ _]=some [wI q.2.Number,D.ms q.1 0 w.length w.length]
  rw[hw]
 refine⟨h.setRow hi ?_ (fun b x hb hne _ hl=>zdv hb fun e=>hl (by rw[←e,w2])) (fun _ _=>rfl) ⟨?_,fun q2 hq2=>?_,?_⟩,⟨by simp,fun _ _=>rfl,fun b hb hn=>zr fun e=>hn (by rw[←e,w2])⟩⟩
 ·rw[set_self hm]
  exact zdv h.cs hqc
 ·rcases hrow.hd with⟨_,e⟩|⟨b,cap,es,e,hb,het,hel,hec,hef,hlb⟩
  ·rw[e] at hk;exact absurd hk (zap k)
  ·refine .inr ⟨b,cap,es,by rw[zE];exact e,zdv hb fun e=>?_,by rw[zE,hset];exact het,by rw[zE];exact hel,by rw[zE];exact hec,hef,hlb⟩
   rw[e,hb] at w1;cases w1
 ·obtain⟨j,hj⟩:=List.getElem?_of_mem hq2
  by_cases e:k=j
  ·subst e
   rw[zp hk] at hj
   cases hj
   exact⟨hg_self hql,w2⟩
  ·rw[zr e] at hj
   obtain⟨u1,u2⟩:=hrow.ws q2 (zm hj)
   refine⟨zdv u1 fun e2=>?_,u2⟩
   rw[←e2,w2] at u2
   simp only[zz,true_and] at u2
   have hnd:=zaZ.1 hrow.nd
   have hj2:=(za.1 hj)
   have hq3:=(za.1 hq)
   obtain⟨j1,j2⟩:=hj2
   obtain⟨k1,k2⟩:=hq3
   rcases zZ k j with hlt|hge
   ·have:=hnd k j k1 j1 hlt
    rw[j2,k2] at this;exact this u2
   ·have:=hnd j k j1 k1 (by omega)
    rw[j2,k2] at this;exact this u2.symm
 ·have e:(ql.set k (q.1,(⟨q.2.Number,w⟩:Leaf))).map (fun q=>q.2.Number)=ql.map (fun q=>q.2.Number):=by
   rw[zaB]
   refine set_self ?_
   rw[zl,hq];rfl
  have h1:(ql.map (fun q=>q.2.Number)).Pairwise (·≠·):=zaJ.2 hrow.nd
  rw[←e] at h1
  exact zaJ.1 h1
def blotL (l:List Leaf)(k a:Nat)(w:Int):List Leaf:=l.set k ⟨(l.getD k ⟨0,[]⟩).Number,(l.getD k ⟨0,[]⟩).Words.set a w⟩
def BlotS (s:Shape)(cs:List (List Leaf))(c n a w:Int):List (List Leaf) × Int:=
 if (0≤c∧c≤(cs.length:Int)-1)∧(0≤a∧a≤s.Width-1)∧W w then
  (if (zeX cs c n).2=0 then (cs.set c.toNat (blotL (cs.getD c.toNat []) (zeX cs c n).1.toNat a.toNat w),0) else (cs,(zeX cs c n).2))
 else (cs,1)
theorem lvs_blot {rows:List (D × List (Nat × Leaf))}{i k a:Nat}{w:Int}{v:D}{ql:List (Nat × Leaf)}{q:Nat × Leaf}(hr:rows[i]? = some (v,ql))(hq:ql[k]? = some q):zcE (rows.set i (v,ql.set k (q.1,⟨q.2.Number,q.2.Words.set a w⟩)))=(zcE rows).set i (blotL ((zcE rows).getD i []) k a w):=by
 have e:(zcE rows).getD i []=ql.map (·.2):=by
  rw[zcE,zc,zl,hr];rfl
 have e2:(ql.map (·.2)).getD k ⟨0,[]⟩=q.2:=by rw[zc,zl,hq];rfl
 rw[e,blotL,e2,zcE,zaB]
 congr 1
 show (ql.set k _).map (·.2)=_
 rw[zaB]
theorem c_Blot {H:List Blk}{lab:Lab}{sd p cb:Nat}{s:Shape}{rows:List (D × List (Nat × Leaf))}(h:ShAt H lab sd p cb s rows)(hn:rows.length≤5)(hl:∀l,l∈zcE rows→l.length≤1000)(hwd:0≤s.Width∧s.Width≤1000)(hwl:∀l,l∈zcE rows→∀x,x∈l→(x.Words.length:Int)=s.Width)(c n a w:Int):
  CallSp Tryz.prog 61 [.mp p 0 0,wI c,wI n,wI a,wI w] H (StpQ H lab sd p cb s (BlotS s (zcE rows) c n a w)):=by
 refine CallSp.vt pok Tryz.f61 (n:=62) (rs:=[.tmp 10]) rfl rfl rfl rfl rfl rfl rfl fun g=>?_
 have hll:(zcE rows).length=rows.length:=by rw[zcE,ze]
 have hw1:=zdK c 0 ((rows.length:Int)-1)
 have hw2:=zdK a 0 (s.Width-1)
 have hw3:=m_word w
 have hhd:=h.hd
 unfold StpQ BlotS
 rw[hll]
 by_cases hc:0≤c∧c≤(rows.length:Int)-1
 rotate_left
 ·rw[decide_eq_false hc] at hw1
  rw[if_neg (fun hh=>hc hh.1)]
  repeat (any_goals (first|(apply zcd;(first|refine zbW ?_|refine zdI rfl rfl ?_|refine zb0 ?_|refine zbZ ?_|refine zb9 (ze4 h rfl) ?_|refine zcm ?_|refine zb2 ?_|(apply zdc;(first|refine zb4 rfl (hw1) rfl rfl ?_|refine zb8 ?_))|refine zcx ?_|refine zcv ?_|refine zb9 (zeo (d:=.mp p 0 0) rfl rfl) ?_))|(apply zcg;(first|refine zbY rfl ?_|refine zbX rfl ?_|refine zch rfl rfl ?_|refine zb7 rfl ?_))|with_reducible (refine kSr ?_)|(with_reducible refine zce ?_;refine kEr rfl ?_)))
  exact⟨rfl,lab,rows,h,FrL.refl _ _ _,rfl⟩
 rw[decide_eq_true hc] at hw1
 by_cases ha:0≤a∧a≤s.Width-1
 rotate_left
 ·rw[decide_eq_false ha] at hw2
  rw[if_neg (fun hh=>ha hh.2.1)]
  repeat (any_goals (first|(apply zcd;(first|refine zbW ?_|(apply w_g;(first|refine zcS rfl ?_|refine zdI rfl rfl ?_))|refine zb0 ?_|refine zbZ ?_|(apply zeS;(first|refine zb9 (ze4 h rfl) ?_|refine zc1 ?_))|refine zcm ?_|refine zb2 ?_|(apply zdc;(first|refine zb4 rfl (hw1) rfl rfl ?_|refine zb4 rfl (hw2) rfl rfl ?_|refine zb8 ?_))|refine zcx ?_|refine zcv ?_|refine zb9 (zeo (d:=.mp p 0 0) rfl rfl) ?_))|(apply zcg;(first|refine zbY rfl ?_|refine zbX rfl ?_|refine zch rfl rfl ?_|refine zb7 rfl ?_))|with_reducible (refine kSr ?_)|(with_reducible refine zce ?_;refine kEr rfl ?_)))
  exact⟨rfl,lab,rows,h,FrL.refl _ _ _,rfl⟩
 rw[decide_eq_true ha] at hw2
 by_cases hW:W w
 rotate_left
 ·rw[decide_eq_false hW] at hw3
  rw[if_neg (fun hh=>hW hh.2.2)]
  repeat (any_goals (first|(apply zcd;(first|refine zbW ?_|refine zcS rfl ?_|refine zb0 ?_|refine zbZ ?_|(apply zeS;(first|refine zb9 (ze4 h rfl) ?_|refine zc1 ?_))|refine zcm ?_|refine zb2 ?_|(apply zdc;(first|refine zb4 rfl (hw1) rfl rfl ?_|refine zb4 rfl (hw2) rfl rfl ?_|refine zb4 rfl (hw3) rfl rfl ?_|refine zb8 ?_))|refine zcx ?_|refine zcv ?_|refine zb9 (zeo (d:=.mp p 0 0) rfl rfl) ?_))|(apply zcg;(first|refine zbY rfl ?_|refine zbX rfl ?_|refine zch rfl rfl ?_|refine zb7 rfl ?_))|with_reducible (refine kSr ?_)|(with_reducible refine zce ?_;refine kEr rfl ?_)))
  exact⟨rfl,lab,rows,h,FrL.refl _ _ _,rfl⟩
 rw[decide_eq_true hW] at hw3
 rw[if_pos ⟨hc,ha,hW⟩]
 have hf:=m_find s (zcE rows) (by omega) hl c n
 have hsn:([.mp p 0 0,wI c,wI n]:List D).map (snap (fun b=>H[b]?) 5)=[.rp (eSh s (zcE rows)),wI c,wI n]:=by
  rw[zy,h.snap];rfl
 have hfok:=FindS_ok (cs:=zcE rows) (c:=c) (n:=n)
 generalize zeX (zcE rows) c n=F at hf hfok ⊢
 obtain⟨F1,F2⟩:=F
 dsimp only at hf hfok ⊢
 by_cases h0:F2=0
 ·subst h0
  obtain⟨i,k,hi,rfl,rfl,hk⟩:=hfok rfl
  obtain⟨r,hr,hri⟩:=lvsOf_get hi
  have hrow:=h.row i r hr
  have hil:i < rows.length:=by omega
  have hwi:=hwl _ (zi hi)
  rw[hri] at hwi
  rw[hri,ze] at hk
  obtain⟨v,ql⟩:=r
  dsimp only at hrow hk hri hwi
  have hk1:ql.length≤1000:=by
   have:=hl _ (zi hi)
   rwa [hri,ze] at this
  obtain⟨q,hq⟩:∃q,ql[k]? = some q:=⟨_,zb hk⟩
  have hqw:=hwi q.2 (zt.2 ⟨q,zm hq,rfl⟩)
  obtain⟨qw1,qw2⟩:=hrow.ws q (zm hq)
  obtain⟨A,rfl⟩:∃A:Nat,a=A:=zF ha.1
  have hA:A < q.2.Words.length:=by omega
  have hbl:=h.blot hr hq (q.2.Words.set A w) (by simp)
  have hfin:=lvs_blot (a:=A) (w:=w) hr hq
  rcases hrow.hd with⟨_,e⟩|⟨b,cap,es,rfl,hb,het,hel,hec,hef,hlb⟩
  ·rw[e] at hk;exact absurd hk (zap k)
  have hqm:(rows.map fun r=>[r.1])[i]? = some [D.ms b 0 ql.length cap]:=by rw[zl,hr];rfl
  have hek:es[k]? = some (eOL q):=by
   have h1:(es.take ql.length)[k]? = es[k]? := by rw[z5,if_pos hk]
   rw[←h1,het,zl,hq];rfl
  have hcs:=h.cs
  repeat (any_goals (first|(apply zcd;(first|refine zbW ?_|refine zcS rfl ?_|refine zb0 ?_|refine zbZ ?_|(apply zeS;(first|refine zb9 (zcB rfl hcs hqm rfl rfl) ?_|refine zb9 (zcB rfl hb hek rfl rfl) ?_|refine zc1 ?_))|refine zcm ?_|refine zb2 ?_|(apply zdc;(first|(refine zcw ?_;refine zb4 rfl hf hsn rfl ?_)|refine zb4 rfl (hw1) rfl rfl ?_|refine zb4 rfl (hw2) rfl rfl ?_|refine zb4 rfl (hw3) rfl rfl ?_|refine zb8 ?_))|refine zcx ?_|refine zdF ?_|(apply w_ix;(first|refine zb9 (zct rfl rfl (by first|with_reducible exact castR _|rfl) hcs rfl (by omega)) ?_|refine zb9 (zct rfl rfl (by first|with_reducible exact castR _|rfl) hb rfl (by omega)) ?_|refine zb9 (zct rfl rfl (by first|with_reducible exact castR _|rfl) qw1 rfl (by omega)) ?_))|refine zcv ?_|refine zdo (zeB rfl qw1 hA rfl rfl) rfl ?_|refine zb9 (zeo (d:=.mp p 0 0) rfl rfl) ?_))|(apply zcg;(first|refine zbY rfl ?_|refine zbX rfl ?_|refine zcb rfl rfl ?_|refine zb5 rfl ?_|refine zb7 rfl ?_))|(with_reducible refine zce ?_;refine kEr rfl ?_)))
  rw[if_pos rfl]
  exact⟨rfl,lab,_,hbl.1,hbl.2,hfin⟩
 ·rw[if_neg h0]
  repeat (any_goals (first|(apply zcd;(first|refine zbW ?_|refine zcS rfl ?_|refine zb0 ?_|refine zbZ ?_|(apply zeS;(first|refine zb9 (ze4 h rfl) ?_|refine zc1 ?_))|refine zcm ?_|refine zb2 ?_|(apply zdc;(first|(refine zcw ?_;refine zb4 rfl hf hsn rfl ?_)|refine zb4 rfl (hw1) rfl rfl ?_|refine zb4 rfl (hw2) rfl rfl ?_|refine zb4 rfl (hw3) rfl rfl ?_|refine zb8 ?_))|refine zcx ?_|refine zdF ?_|refine zcv ?_|refine zb9 (zeo (d:=.mp p 0 0) rfl rfl) ?_))|(apply zcg;(first|refine zbY rfl ?_|refine zbX rfl ?_|refine zcb rfl rfl ?_|refine zb5 rfl ?_|refine zb7 rfl ?_|refine zb6 rfl rfl (by first|assumption|omega) ?_))|with_reducible (refine kSr ?_)|(with_reducible refine zce ?_;refine kEr rfl ?_)))
  exact⟨rfl,lab,rows,h,FrL.refl _ _ _,rfl⟩
theorem c_RBlot {H:List Blk}{lab:Lab}{sd p cb:Nat}{s:Shape}{rows:List (D × List (Nat × Leaf))}(h:ShAt H lab sd p cb s rows)(hn:rows.length≤5)(hl:∀l,l∈zcE rows→l.length≤1000)(hwd:0≤s.Width∧s.Width≤1000)(hwl:∀l,l∈zcE rows→∀x,x∈l→(x.Words.length:Int)=s.Width)(c n a w:Int):
  CallSp Tryz.prog 62 [.mp p 0 0,wI c,wI n,wI a,wI w] H (StpQ H lab sd p cb s (BlotS s (zcE rows) c n a w)):=by
 refine CallSp.vt pok Tryz.f62 (n:=57) (rs:=[.tmp 10]) rfl rfl rfl rfl rfl rfl rfl fun g=>?_
 have hll:(zcE rows).length=rows.length:=by rw[zcE,ze]
 have hw1:=m_in c 0 ((rows.length:Int)-1)
 have hw2:=m_in a 0 (s.Width-1)
 have hw3:=m_rword w
 have hhd:=h.hd
 unfold StpQ BlotS
 rw[hll]
 by_cases hc:0≤c∧c≤(rows.length:Int)-1
 rotate_left
 ·rw[decide_eq_false hc] at hw1
  rw[if_neg (fun hh=>hc hh.1)]
  repeat (any_goals (first|(apply zcd;(first|refine zbW ?_|refine zdI rfl rfl ?_|refine zb0 ?_|refine zbZ ?_|refine zb9 (ze4 h rfl) ?_|refine zcm ?_|refine zb2 ?_|(apply zdc;(first|refine zb4 rfl (hw1) rfl rfl ?_|refine zb8 ?_))|refine zcx ?_|refine zcv ?_|refine zb9 (zeo (d:=.mp p 0 0) rfl rfl) ?_))|(apply zcg;(first|refine zbY rfl ?_|refine zbX rfl ?_|refine zch rfl rfl ?_|refine zb7 rfl ?_))|with_reducible (refine kSr ?_)|(with_reducible refine zce ?_;refine kEr rfl ?_)))
  exact⟨rfl,lab,rows,h,FrL.refl _ _ _,rfl⟩
 rw[decide_eq_true hc] at hw1
 by_cases ha:0≤a∧a≤s.Width-1
 rotate_left
 ·rw[decide_eq_false ha] at hw2
  rw[if_neg (fun hh=>ha hh.2.1)]
  repeat (any_goals (first|(apply zcd;(first|refine zbW ?_|(apply w_g;(first|refine zcS rfl ?_|refine zdI rfl rfl ?_))|refine zb0 ?_|refine zbZ ?_|(apply zeS;(first|refine zb9 (ze4 h rfl) ?_|refine zc1 ?_))|refine zcm ?_|refine zb2 ?_|(apply zdc;(first|refine zb4 rfl (hw1) rfl rfl ?_|refine zb4 rfl (hw2) rfl rfl ?_|refine zb8 ?_))|refine zcx ?_|refine zcv ?_|refine zb9 (zeo (d:=.mp p 0 0) rfl rfl) ?_))|(apply zcg;(first|refine zbY rfl ?_|refine zbX rfl ?_|refine zch rfl rfl ?_|refine zb7 rfl ?_))|with_reducible (refine kSr ?_)|(with_reducible refine zce ?_;refine kEr rfl ?_)))
  exact⟨rfl,lab,rows,h,FrL.refl _ _ _,rfl⟩
 rw[decide_eq_true ha] at hw2
 by_cases hW:W w
 rotate_left
 ·rw[decide_eq_false hW] at hw3
  rw[if_neg (fun hh=>hW hh.2.2)]
  repeat (any_goals (first|(apply zcd;(first|refine zbW ?_|refine zcS rfl ?_|refine zb0 ?_|refine zbZ ?_|(apply zeS;(first|refine zb9 (ze4 h rfl) ?_|refine zc1 ?_))|refine zcm ?_|refine zb2 ?_|(apply zdc;(first|refine zb4 rfl (hw1) rfl rfl ?_|refine zb4 rfl (hw2) rfl rfl ?_|refine zb4 rfl (hw3) rfl rfl ?_|refine zb8 ?_))|refine zcx ?_|refine zcv ?_|refine zb9 (zeo (d:=.mp p 0 0) rfl rfl) ?_))|(apply zcg;(first|refine zbY rfl ?_|refine zbX rfl ?_|refine zch rfl rfl ?_|refine zb7 rfl ?_))|with_reducible (refine kSr ?_)|(with_reducible refine zce ?_;refine kEr rfl ?_)))
  exact⟨rfl,lab,rows,h,FrL.refl _ _ _,rfl⟩
 rw[decide_eq_true hW] at hw3
 rw[if_pos ⟨hc,ha,hW⟩]
 obtain⟨i,rfl⟩:∃i:Nat,c=i:=zF hc.1
 have hi:i < (zcE rows).length:=by omega
 have ha2:=m_at s (zcE rows) (by omega) hl i hi n
 have hsn:([.mp p 0 0,wI i,wI n]:List D).map (snap (fun b=>H[b]?) 5)=[.rp (eSh s (zcE rows)),wI i,wI n]:=by
  rw[zy,h.snap];rfl
 rcases fidx_rng (isN n) (zcE rows)[i] with⟨e,_⟩|⟨k,hk,e,_⟩
 ·rw[e] at ha2
  have e1:zeX (zcE rows) i n=(0,5):=by rw[FindS_in hi,e,if_pos (by decide)]
  rw[e1,if_neg (by decide)]
  repeat (any_goals (first|(apply zcd;(first|refine zbW ?_|refine zcS rfl ?_|refine zb0 ?_|refine zbZ ?_|(apply zeS;(first|refine zb9 (ze4 h rfl) ?_|refine zc1 ?_))|refine zcm ?_|refine zb2 ?_|(apply zdc;(first|(refine zcw ?_;refine zb4 rfl ha2 hsn rfl ?_)|refine zb4 rfl (hw1) rfl rfl ?_|refine zb4 rfl (hw2) rfl rfl ?_|refine zb4 rfl (hw3) rfl rfl ?_|refine zb8 ?_))|refine zcx ?_|refine zcv ?_|refine zb9 (zeo (d:=.mp p 0 0) rfl rfl) ?_))|(apply zcg;(first|refine zbY rfl ?_|refine zbX rfl ?_|refine zch rfl rfl ?_|refine zcb rfl rfl ?_|refine zb5 rfl ?_|refine zb7 rfl ?_))|with_reducible (refine kSr ?_)|(with_reducible refine zce ?_;refine kEr rfl ?_)))
  exact⟨rfl,lab,rows,h,FrL.refl _ _ _,rfl⟩
 ·rw[e] at ha2
  have e1:zeX (zcE rows) i n=((k:Int),0):=by rw[FindS_in hi,e,if_neg (by omega)]
  rw[e1,if_pos rfl]
  obtain⟨r,hr,hri⟩:=lvsOf_get hi
  have hrow:=h.row i r hr
  have hil:i < rows.length:=by omega
  have hwi:=hwl _ (zi hi)
  rw[hri] at hwi
  rw[hri,ze] at hk
  obtain⟨v,ql⟩:=r
  dsimp only at hrow hk hri hwi
  have hk1:ql.length≤1000:=by
   have:=hl _ (zi hi)
   rwa [hri,ze] at this
  obtain⟨q,hq⟩:∃q,ql[k]? = some q:=⟨_,zb hk⟩
  have hqw:=hwi q.2 (zt.2 ⟨q,zm hq,rfl⟩)
  obtain⟨qw1,qw2⟩:=hrow.ws q (zm hq)
  obtain⟨A,rfl⟩:∃A:Nat,a=A:=zF ha.1
  have hA:A < q.2.Words.length:=by omega
  have hbl:=h.blot hr hq (q.2.Words.set A w) (by simp)
  have hfin:=lvs_blot (a:=A) (w:=w) hr hq
  rcases hrow.hd with⟨_,e3⟩|⟨b,cap,es,rfl,hb,het,hel,hec,hef,hlb⟩
  ·rw[e3] at hk;exact absurd hk (zap k)
  have hqm:(rows.map fun r=>[r.1])[i]? = some [D.ms b 0 ql.length cap]:=by rw[zl,hr];rfl
  have hek:es[k]? = some (eOL q):=by
   have h1:(es.take ql.length)[k]? = es[k]? := by rw[z5,if_pos hk]
   rw[←h1,het,zl,hq];rfl
  have hcs:=h.cs
  repeat (any_goals (first|(apply zcd;(first|refine zbW ?_|refine zcS rfl ?_|refine zb0 ?_|refine zbZ ?_|(apply zeS;(first|refine zb9 (zcB rfl hcs hqm rfl rfl) ?_|refine zb9 (zcB rfl hb hek rfl rfl) ?_|refine zc1 ?_))|refine zcm ?_|refine zb2 ?_|(apply zdc;(first|(refine zcw ?_;refine zb4 rfl ha2 hsn rfl ?_)|refine zb4 rfl (hw1) rfl rfl ?_|refine zb4 rfl (hw2) rfl rfl ?_|refine zb4 rfl (hw3) rfl rfl ?_|refine zb8 ?_))|refine zcx ?_|(apply w_ix;(first|refine zb9 (zct rfl rfl (by first|with_reducible exact castR _|rfl) hcs rfl (by omega)) ?_|refine zb9 (zct rfl rfl (by first|with_reducible exact castR _|rfl) hb rfl (by omega)) ?_|refine zb9 (zct rfl rfl (by first|with_reducible exact castR _|rfl) qw1 rfl (by omega)) ?_))|refine zcv ?_|refine zdo (zeB rfl qw1 hA rfl rfl) rfl ?_|refine zb9 (zeo (d:=.mp p 0 0) rfl rfl) ?_))|(apply zcg;(first|refine zbY rfl ?_|refine zbX rfl ?_|refine zcb rfl rfl ?_|refine zb5 rfl ?_|refine zb7 rfl ?_))|(with_reducible refine zce ?_;refine kEr rfl ?_)))
  exact⟨rfl,lab,_,hbl.1,hbl.2,hfin⟩
end Go.DL
/- The law: Join agrees with the reference. -/
namespace Go.DL
open Go.Proofs Go
deriving instance DecidableEq for Leaf
theorem m_SameLeaves (a b:List Leaf)(hl:a.length≤1000000)(hl':b.length≤1000000)(hw:∀x,x∈a→x.Words.length≤1000000)(hw':∀x,x∈b→x.Words.length≤1000000):Maps Tryz.prog 20 [.sl (a.map zcn),.sl (b.map zcn)] (wB (decide (a=b))):=by
 refine Maps.vt pok Tryz.f20 (n:=42) (rs:=[.tmp 4]) rfl rfl rfl rfl rfl rfl fun g=>?_
 by_cases he:a.length=b.length
 ·repeat (any_goals (first|(apply zcd;(first|refine zbW ?_|refine zb0 ?_|refine zbZ ?_|refine zb2 ?_|refine zb8 ?_))|(apply zcg;(first|refine zbY rfl ?_|refine zbX rfl ?_|refine zb3 rfl ?_|refine zb5 rfl ?_|refine zca rfl rfl (by first|assumption|omega) ?_))))
  refine zcl (fun j al H g'=>∃k:Nat,j=a.length-k∧k≤a.length∧a.take k=b.take k∧al=[(0,.sl (a.map zcn)),(1,.sl (b.map zcn)),(5,wI k)]∧H=[]∧g'=g) rfl
   ⟨_,_,_,⟨0,rfl,zj _,rfl,rfl,rfl,rfl⟩,fgA⟩ ?_
  rintro j al H g' ⟨k,rfl,hk,hn,rfl,rfl,rfl⟩
  by_cases hlt:k < a.length
  ·have hltb:k < b.length:=by omega
   have hs:=m_same a[k].Words b[k].Words (by have:=hw _ (zi hlt);omega) (by have:=hw' _ (zi hltb);omega)
   by_cases hnum:a[k].Number=b[k].Number
   ·by_cases hws:a[k].Words=b[k].Words
    ·rw[decide_eq_true hws] at hs
     have hab:a[k]=b[k]:=by
      generalize a[k]=u at hnum hws
      generalize b[k]=v at hnum hws
      obtain⟨un,uw⟩:=u
      obtain⟨vn,vw⟩:=v
      simp only at hnum hws
      rw[hnum,hws]
     repeat (any_goals (first|(apply zcd;(first|refine zbW ?_|refine zb0 ?_|refine zbZ ?_|refine zb2 ?_|refine zb8 ?_))|(apply zcg;(first|refine zbY rfl ?_|refine zbX rfl ?_|refine zcb rfl rfl ?_|refine zb3 rfl ?_|refine zb5 rfl ?_|refine zcu [(0,[]),(0,[]),(0,[]),(0,[]),(0,[]),(0,[]),(0,[]),(0,[]),(0,[]),(0,[]),(0,[]),(0,[]),(0,[]),(0,[]),(0,[]),(0,[]),(0,[]),(0,[]),(0,[]),(0,[]),(0,[]),(0,[]),(0,[]),(0,[]),(0,[])] 1 zcr rfl (by decide +kernel) (by decide +kernel) (by decide +kernel) nrX nrX ?_|refine zb6 rfl rfl (by first|assumption|omega) ?_))|(apply zez;(first|refine zcy nrX ?_|refine PT.gy rfl ?_|refine zc2 ?_|refine zda ?_|refine zdU ?_|refine zdi (zeQ rfl rfl hnum) ?_|refine zcT rfl (hs) rfl rfl ?_|refine PT.pkA ?_|(apply q_ix;(first|refine zdi (zeq (l:=a) (f:=zcn) (k:=k) rfl rfl rfl hlt rfl rfl) ?_|refine zdi (zeq (l:=b) (f:=zcn) (k:=k) rfl rfl rfl hltb rfl rfl) ?_))|refine PT.unA ?_))|with_reducible (refine kLn ?_)))
     exact⟨a.length-(k+1),by omega,_,_,⟨k+1,rfl,hlt,by rw[zo hlt,zo hltb,hn,hab],rfl,rfl,rfl⟩,fgA⟩
    ·rw[decide_eq_false hws] at hs
     have hne:a≠b:=fun h=>hws (by subst h;rfl)
     rw[decide_eq_false hne]
     repeat (any_goals (first|(apply zcd;(first|refine zbW ?_|refine zb0 ?_|refine zbZ ?_|refine zb2 ?_|refine zb8 ?_))|(apply zcg;(first|refine zbY rfl ?_|refine zbX rfl ?_|refine zch rfl rfl ?_|refine zb3 rfl ?_|refine zb5 rfl ?_|refine zb7 rfl ?_|refine zcu [(0,[]),(0,[]),(0,[]),(0,[]),(0,[]),(0,[]),(0,[]),(0,[]),(0,[]),(0,[]),(0,[]),(0,[]),(0,[]),(0,[]),(0,[]),(0,[]),(0,[]),(0,[]),(0,[]),(0,[]),(0,[]),(0,[]),(0,[]),(0,[]),(0,[])] 1 zcr rfl (by decide +kernel) (by decide +kernel) (by decide +kernel) nrX nrX ?_|refine zb6 rfl rfl (by first|assumption|omega) ?_))|(apply zez;(first|refine zcy nrX ?_|refine PT.gy rfl ?_|refine zc2 ?_|refine zda ?_|refine zdU ?_|refine zdi (zeQ rfl rfl hnum) ?_|refine zcT rfl (hs) rfl rfl ?_|refine PT.pkA ?_|(apply q_ix;(first|refine zdi (zeq (l:=a) (f:=zcn) (k:=k) rfl rfl rfl hlt rfl rfl) ?_|refine zdi (zeq (l:=b) (f:=zcn) (k:=k) rfl rfl rfl hltb rfl rfl) ?_))|refine PT.unA ?_))|(with_reducible first|refine kSr ?_|refine kBr ?_|refine kLr ?_)|(with_reducible refine zce ?_;refine kEr rfl ?_)))
     rfl
   ·have hne:a≠b:=fun h=>hnum (by subst h;rfl)
    rw[decide_eq_false hne]
    repeat (any_goals (first|(apply zcd;(first|refine zbW ?_|refine zb0 ?_|refine zbZ ?_|refine zb2 ?_|refine zb8 ?_))|(apply zcg;(first|refine zbY rfl ?_|refine zbX rfl ?_|refine zch rfl rfl ?_|refine zb3 rfl ?_|refine zb5 rfl ?_|refine zb7 rfl ?_|refine zcu [(0,[]),(0,[]),(0,[]),(0,[]),(0,[]),(0,[]),(0,[]),(0,[]),(0,[]),(0,[]),(0,[]),(0,[]),(0,[]),(0,[]),(0,[]),(0,[]),(0,[]),(0,[]),(0,[]),(0,[]),(0,[]),(0,[]),(0,[]),(0,[]),(0,[])] 1 zcr rfl (by decide +kernel) (by decide +kernel) (by decide +kernel) nrX nrX ?_|refine zb6 rfl rfl (by first|assumption|omega) ?_))|(apply zez;(first|refine zcy nrX ?_|refine PT.gn rfl rfl ?_|refine zc2 ?_|refine zda ?_|refine zdU ?_|refine zdi (f_neqT rfl rfl hnum) ?_|refine PT.pkA ?_|(apply q_ix;(first|refine zdi (zeq (l:=a) (f:=zcn) (k:=k) rfl rfl rfl hlt rfl rfl) ?_|refine zdi (zeq (l:=b) (f:=zcn) (k:=k) rfl rfl rfl hltb rfl rfl) ?_))))|(with_reducible first|refine kSr ?_|refine kBr ?_|refine kLr ?_)|(with_reducible refine zce ?_;refine kEr rfl ?_)))
    rfl
  ·repeat (any_goals (first|(apply zcd;(first|refine zbW ?_|refine zb0 ?_|refine zbZ ?_|refine zb2 ?_|refine zb8 ?_))|(apply zcg;(first|refine zbY rfl ?_|refine zbX rfl ?_|refine zci rfl ?_|refine zb7 rfl ?_|refine zca rfl rfl (by first|assumption|omega) ?_))|(with_reducible refine zce ?_;refine kEr rfl ?_)))
   rw[zg (by omega),zg (by omega)] at hn
   rw[decide_eq_true hn];rfl
 ·repeat (any_goals (first|(apply zcd;(first|refine zbW ?_|refine zb0 ?_|refine zbZ ?_|refine zb2 ?_|refine zb8 ?_))|(apply zcg;(first|refine zbY rfl ?_|refine zbX rfl ?_|refine zb7 rfl ?_|refine zb6 rfl rfl (by first|assumption|omega) ?_))|with_reducible (refine kSr ?_)|(with_reducible refine zce ?_;refine kEr rfl ?_)))
  have:a≠b:=fun h=>he (by rw[h])
  rw[decide_eq_false this];rfl
end Go.DL
/- The law: lines. -/
namespace Go.DL
open Go.Proofs Go
theorem ReadS_small (s:Shape)(d:List (List Int)):(ReadS s d).1.length≤1000:=by
 unfold ReadS
 split
 ·split
  ·split
   ·decide
   ·rename_i h
    split
    ·show (zdE _ _).length≤1000
     rw[linesOf_len];omega
    ·decide
  ·decide
 ·decide
end Go.DL
