/- Read of the program. -/
import Derived.Test.YtmbbepdbjeciaaaGreatYw4
import Derived.Test.YtmbbepdbjeciaaaGreatYv5
import Derived.Test.YtmbbepdbjeciaaaGreatYw2
import Derived.Test.YtmbbepdbjeciaaaGreatZx
set_option maxRecDepth 100000
set_option maxHeartbeats 16000000
namespace Go.DL
open Go.Proofs Go
theorem m_Read (s:Shape)(d:List (List Int))(hl:d.length≤4611686018427387904)(hd:∀x,x∈d→x.length≤4611686018427387904):Maps Tryz.prog 36 [dSh s,.sl (d.map zcU)] (.tup [.fl ((ReadS s d).1.map zcC),wI (ReadS s d).2]):=by
 refine Maps.vt pok Tryz.f36 (n:=71) (rs:=[.tmp 4,.tmp 5]) rfl rfl rfl rfl rfl rfl fun g=>?_
 have hk:=m_Check s
 have ha:=m_dataOf s d hl hd
 unfold ReadS
 rcases zcX s with⟨e,h⟩|⟨e,h⟩
 ·rw[e] at hk ⊢
  rw[if_pos rfl]
  cases qd:DataS s d with
  |true=>
   rw[qd] at ha
   rw[if_pos rfl]
   have hdw:=dataW_of h qd
   have hdl:(d.length:Int)=s.Data:=by
    unfold DataS at qd
    rw[zJ,decide_eq_true_eq] at qd
    exact qd.1
   have hD1:1≤d.length:=by have:=h.1.1;omega
   obtain⟨W,hW⟩:∃W:Nat,s.Width.toNat=W:=⟨_,rfl⟩
   rw[hW] at hdw
   have hW1:1≤W:=by have:=h.2.2.1;omega
   have hW2:W≤32:=by have:=h.2.2.2;omega
   have hlen:d.flatten.length=d.length*W:=by
    rw[List.length_flatten,show d.map List.length=List.replicate d.length W from by
     refine List.eq_replicate_iff.2 ⟨by simp,fun x hx=>?_⟩
     obtain⟨r,hr,rfl⟩:=zt.1 hx
     exact (hdw.2 r hr).1]
    simp
   have hkw:d.length*W≤640:=zaK hdw.1 hW2
   have hk1:1≤d.length*W:=zaK hD1 hW1
   have hcc:=c_concat (H:=[.live 3 [zcq s]]) d W hdw.1 (fun r hr=>(hdw.2 r hr).1) hD1 hW1 hW2
   have hwW:∀j,0≤d.flatten.getD j 0∧d.flatten.getD j 0≤65520:=fun j=>by
    rw[zc]
    cases hj:d.flatten[j]? with
    |none=>exact⟨Int.le_refl _,by decide⟩
    |some x=>
     obtain⟨r,hr,hx⟩:=zaP.1 (zm hj)
     exact (hdw.2 r hr).2 x hx
   generalize hw:d.flatten=w at hcc hlen hwW ⊢
   obtain⟨n,hn⟩:∃n:Nat,w.getD 0 0=n:=zF (hwW 0).1
   rw[hn,zM]
   have hn2:=(hwW 0).2
   rw[hn] at hn2
   have hw0:w[0]? = some (n:Int):=by
    rw[zb (by omega)]
    rw[←hn,zc,zb (by omega)];rfl
   by_cases h60:60 < (n:Int)
   ·rw[if_pos (.inl h60)]
    repeat (any_goals (first|(apply zcd;(first|refine zbW ?_|refine zdI rfl rfl ?_|refine zb0 ?_|refine zbZ ?_|(apply zeS;(first|refine zb9 (zc9 rfl rfl rfl hw0) ?_|refine zcf ?_))|(apply zea;(first|refine zb9 (ze5 rfl rfl (by omega)) ?_|refine zb2 ?_))|(apply zdc;(first|(refine zcw ?_;refine zdZ rfl hcc rfl (d2:=.ms 2 0 w.length w.length) rfl (H2:=[.live 3 [zcq s],.dead,.live 1 (w.map eI)]) rfl ?_)|refine zb4 rfl (hk) rfl rfl ?_|refine zb4 rfl (ha) rfl rfl ?_))|refine zcx ?_|refine zb9 (zct (k:=0) rfl rfl rfl rfl rfl (by omega)) ?_|refine zcv ?_|refine zco ?_))|(apply zcg;(first|refine zbY rfl ?_|refine zbX rfl ?_|refine zch rfl rfl ?_|refine zcb rfl rfl ?_|refine zb5 rfl ?_|refine zb7 rfl ?_))|with_reducible (refine kSr ?_)|(with_reducible refine zce ?_;refine kEr rfl ?_)))
    rfl
   ·by_cases hbig:(w.length:Int) < 1+7*(n:Int)
    ·rw[if_pos (.inr hbig)]
     repeat (any_goals (first|(apply zcd;(first|refine zbW ?_|refine zcS rfl ?_|refine zb0 ?_|refine zbZ ?_|(apply zeS;(first|refine zb9 (zc9 rfl rfl rfl hw0) ?_|refine zcf ?_))|(apply zea;(first|refine zb9 (ze6 rfl rfl (by omega)) ?_|refine zb9 (ze5 rfl rfl (by omega)) ?_|refine zb2 ?_))|(apply zdc;(first|(refine zcw ?_;refine zdZ rfl hcc rfl (d2:=.ms 2 0 w.length w.length) rfl (H2:=[.live 3 [zcq s],.dead,.live 1 (w.map eI)]) rfl ?_)|refine zb4 rfl (hk) rfl rfl ?_|refine zb4 rfl (ha) rfl rfl ?_|refine zb8 ?_))|refine zcx ?_|refine zb9 (zct (k:=0) rfl rfl rfl rfl rfl (by omega)) ?_|refine zcv ?_|refine zco ?_))|(apply zcg;(first|refine zbY rfl ?_|refine zbX rfl ?_|refine zch rfl rfl ?_|refine zcb rfl rfl ?_|refine zb5 rfl ?_|refine zb7 rfl ?_))|with_reducible (refine kSr ?_)|(with_reducible refine zce ?_;refine kEr rfl ?_)))
     rfl
    ·rw[if_neg (by omega)]
     repeat (any_goals (first|(apply zcd;(first|refine zbW ?_|refine zcS rfl ?_|refine zb0 ?_|refine zbZ ?_|(apply zeS;(first|refine zb9 (zc9 rfl rfl rfl hw0) ?_|refine zcf ?_))|(apply zea;(first|refine zb9 (ze6 rfl rfl (by omega)) ?_|refine zb2 ?_))|(apply zdc;(first|(refine zcw ?_;refine zdZ rfl hcc rfl (d2:=.ms 2 0 w.length w.length) rfl (H2:=[.live 3 [zcq s],.dead,.live 1 (w.map eI)]) rfl ?_)|(refine zcw ?_;refine zdZ rfl (c_chunk (H:=[.live 3 [zcq s],.dead,.live 1 (w.map eI),.live 1 [[.nil]]]) (b:=2) (k:=1) (n:=1+7*n-1) (c:=w.length-1)) rfl rfl rfl ?_)|refine zb4 rfl (hk) rfl rfl ?_|refine zb4 rfl (ha) rfl rfl ?_|refine zb8 ?_))|refine zcx ?_|refine zb9 (zct (k:=0) rfl rfl rfl rfl rfl (by omega)) ?_|refine zcv ?_|refine zco ?_|refine zb9 (f_slB (lo:=1) (hi:=1+7*n) rfl rfl rfl rfl (by omega) (by omega) (by omega) rfl rfl) ?_))|(apply zcg;(first|refine zbY rfl ?_|refine zbX rfl ?_|refine zcb rfl rfl ?_|refine zb3 rfl ?_|refine zb5 rfl ?_))))
     obtain⟨w',hw'⟩:∃w',w'=(w.take (1+7*n)).drop 1:=⟨_,rfl⟩
     have hwl:w'.length=7*n:=by rw[hw',z6,zA];omega
     have hck:∀i,i < n→(w'.take (i*7+7)).drop (i*7)=[w.getD (1+i*7+0) 0,w.getD (1+i*7+1) 0,w.getD (1+i*7+2) 0,w.getD (1+i*7+3) 0,w.getD (1+i*7+4) 0,w.getD (1+i*7+5) 0,w.getD (1+i*7+6) 0]:=fun i hi=>by
      have hg:∀j,j < 7→((w'.take (i*7+7)).drop (i*7))[j]? = some (w.getD (1+i*7+j) 0):=fun j hj=>by
       rw[zV,z5,if_pos (by omega),hw',zV,z5,if_pos (by omega),show 1+(i*7+j)=1+i*7+j by omega,zc,zb (by omega)];rfl
      have hl7:((w'.take (i*7+7)).drop (i*7)).length=7:=by rw[z6,zA,hwl];omega
      generalize (w'.take (i*7+7)).drop (i*7)=c at hg hl7
      match c,hl7 with
      |[x0,x1,x2,x3,x4,x5,x6],_=>
       have g0:=hg 0 (by decide);have g1:=hg 1 (by decide);have g2:=hg 2 (by decide);have g3:=hg 3 (by decide);have g4:=hg 4 (by decide);have g5:=hg 5 (by decide);have g6:=hg 6 (by decide)
       simp only[zaQ,zbv,zn] at g0 g1 g2 g3 g4 g5 g6
       rw[g0,g1,g2,g3,g4,g5,g6]
     refine VT.range (cseq w' n) [2,4,5] (fun i H=>H[0]? = some (.live 3 [zcq s])∧∃c,H[3]? = some (.live 1 [[c]])∧((i=0∧c=.nil)∨(0 < i∧∃q,c=.ms q 0 i i∧4≤q∧H[q]? = some (.live 4 ((zdE w i).map zcC))))) rfl rfl rfl rfl rfl ?_ (i_chunk w' n hwl (by omega)) ?_ ?_ ?_ ?_
     ·have hb:sel [2,4,5] ([Blk.live 3 [zcq s],.dead,.live 1 (w.map eI),.live 1 [[.nil]]]++[.live 1 [[.ms 2 1 (1+7*n-1) (w.length-1)]],.live 1 [[wI 7]]]) 2=some (.live 1 (w.map eI)):=rfl
      have hms:snap (sel [2,4,5] ([Blk.live 3 [zcq s],.dead,.live 1 (w.map eI),.live 1 [[.nil]]]++[.live 1 [[.ms 2 1 (1+7*n-1) (w.length-1)]],.live 1 [[wI 7]]])) 4 (.ms 2 1 (1+7*n-1) (w.length-1))=.sl (w'.map eI):=by
       simp only[snap,hb]
       rw[if_pos (by rw[ze];omega),show 1+(1+7*n-1)=1+7*n by omega,←zbs,←zbf,←hw',eI_map _ _ fun x=>rfl]
      exact congrArg (fun x=>[D.rp [x],D.rp [wI 7]]) hms
     ·intro i args hg
      have hi:i < n:=by rw[←cseq_len w' n];exact (za.1 hg).1
      rw[cseq_get w' hi] at hg;cases hg;exact⟨rfl,rfl⟩
     ·exact⟨rfl,.nil,rfl,.inl ⟨rfl,rfl⟩⟩
     ·intro i args H hg hJ
      have hi:i < n:=by rw[←cseq_len w' n];exact (za.1 hg).1
      rw[cseq_get w' hi,hck i hi] at hg;cases hg
      obtain⟨hb0,c,hb3,hc⟩:=hJ
      have hH3:=zcR hb3
      have b0:=hwW (1+i*7+0)
      have b1:=hwW (1+i*7+1)
      have b2:=hwW (1+i*7+2)
      have b5:=hwW (1+i*7+5)
      have b6:=hwW (1+i*7+6)
      have hlo:=m_lineOf (w.getD (1+i*7+0) 0) (w.getD (1+i*7+1) 0) (w.getD (1+i*7+2) 0) (w.getD (1+i*7+3) 0) (w.getD (1+i*7+4) 0) (w.getD (1+i*7+5) 0) (w.getD (1+i*7+6) 0) b0 b1 b2 b5 b6
      have hx:=lineOf_dt w (1+i*7)
      have hx2:lineOfS [w.getD (1+i*7+0) 0,w.getD (1+i*7+1) 0,w.getD (1+i*7+2) 0,w.getD (1+i*7+3) 0,w.getD (1+i*7+4) 0,w.getD (1+i*7+5) 0,w.getD (1+i*7+6) 0]=lineOfS ((w.drop (1+i*7)).take 7):=hx.symm
      rw[hx2] at hlo
      have hls:=linesOf_succ w i
      generalize lineOfS ((w.drop (1+i*7)).take 7)=x at hlo hls
      repeat (any_goals (first|(apply zcd;(first|refine zbW ?_|refine zbZ ?_))|refine zbX rfl ?_))
      refine⟨rfl,?_⟩
      rcases hc with⟨rfl,rfl⟩|⟨hi0,q,rfl,hq4,hq⟩
      ·repeat (any_goals (first|(apply zcg;(first|refine zb3 rfl ?_|refine zd9 [3] 1 [none,none,none,none,none,none,none,some 0] [(4,[1,2,3,4],none),(4,[1,2,3,4],none),(4,[1,2,3,4],none),(4,[1,2,3,4],none),(0,[1,2,3,4],none),(1,[2,3,4],none),(2,[3,4],none),(3,[4],some 0)] 5 rfl (by first|(simp;done)|(simp;omega)) (by first|(simp;done)|(simp;omega)) zcr rfl (by decide +kernel) (by decide +kernel) (by decide +kernel) rfl (H1:=H++[.free,.free,.free,.free,.free]) rfl ?_))|(apply s_any;(first|refine zeC (zdB (H.set 3 _) [_,_,_,_] .free) ?_|refine ST.mvA ?_|(apply s_ld;(first|refine zdA (zcB rfl hgX rfl rfl rfl) ?_|refine zdA (f_ldA rfl rfl rfl rfl rfl) ?_))|(apply s_cl;(first|refine ST.callM (d:=.agg (zcC x)) rfl hlo rfl rfl ?_|refine ST.apN rfl rfl (s':=H.length+2) (k:=.live 4 ([x].map zcC)) (m:=1) (H':=H++[.free,.live 4 [zcC x],.live 4 ([x].map zcC),.free,.free]) (by exact f_appT0 (f:=zcC) (v:=[x]) (mm:=1) (by':=32) rfl rfl hgX rfl rfl rfl (by decide) rfl rfl (fun _=>⟨rfl,rfl⟩) (by simp) (by simp)) (by exact zcV (i:=2) (T':=[.free,.live 4 [zcC x],.live 4 ([x].map zcC),.free,.free]) rfl rfl) ?_))|refine ST.wr (q:=0) (b:=3) rfl rfl (f_stV (d:=.ms (H.length+2) 0 1 1) rfl hgX rfl rfl rfl rfl rfl) (zD _ _ hH3) ?_|refine ST.new rfl (s':=H.length+1) rfl (f_bslA1 rfl rfl rfl rfl rfl rfl) (zcV (i:=1) (T':=[.free,.live 4 [zcC x],.free,.free,.free]) rfl rfl) ?_|refine zdA (f_arrP (l:=[w.getD (1+0*7+0) 0,w.getD (1+0*7+1) 0,w.getD (1+0*7+2) 0,w.getD (1+0*7+3) 0,w.getD (1+0*7+4) 0,w.getD (1+0*7+5) 0,w.getD (1+0*7+6) 0]) rfl rfl (by decide) (zf 7)) ?_))|with_reducible (refine kBn ?_)))
       exact⟨zcA _ (zdv hb0 (by decide)),_,zcA _ (hg_self hH3),.inr ⟨Nat.succ_pos _,H.length+2,rfl,by omega,by rw[hls];exact zdO (t:=2) (by simp) rfl⟩⟩
      ·have hql:=zcR hq
       have hll:=linesOf_len w i
       repeat (any_goals (first|(apply zcg;(first|refine zb3 rfl ?_|refine zd9 [q,3] 2 [none,none,none,none,none,none,some 0,some 1] [(4,[2,3,4,5],none),(4,[2,3,4,5],none),(4,[2,3,4,5],none),(4,[2,3,4,5],none),(0,[2,3,4,5],none),(1,[3,4,5],none),(2,[4,5],some 0),(3,[5],some 1)] 5 rfl (by first|(simp;done)|(simp;omega)) (by first|(simp;done)|(simp;omega)) zcr rfl (by decide +kernel) (by decide +kernel) (by decide +kernel) rfl (H1:=H++[.free,.free,.free,.free,.free]) rfl ?_))|(apply s_any;(first|refine zeC (zdB ((H.set q .dead).set 3 _) [_,_,_,_] .free) ?_|refine ST.mvA ?_|(apply s_ld;(first|refine zdA (zcB rfl hgX rfl rfl rfl) ?_|refine zdA (f_ldA rfl rfl rfl rfl rfl) ?_))|(apply s_cl;(first|refine ST.callM (d:=.agg (zcC x)) rfl hlo rfl rfl ?_|refine ST.ap (q:=0) (b:=q) rfl rfl (s':=H.length+2) rfl (k:=.live 4 ((zdE w i++[x]).map zcC)) (m:=i+1) (H':=H.set q .dead++[.free,.live 4 [zcC x],.live 4 ((zdE w i++[x]).map zcC),.free,.free]) (by exact zd1 (f:=zcC) (o:=zdE w i) (v:=[x]) (mm:=i+1) (by':=32) rfl rfl hgX (zg (by rw[ze];omega)) (by rw[ze];omega) hgX (by omega) rfl (by simp[hll]) rfl (by decide) rfl rfl (fun _=>⟨rfl,rfl⟩) (by simp;omega) (by simp;omega)) (by exact ze0 (T':=[.free,.live 4 [zcC x],.live 4 ((zdE w i++[x]).map zcC),.free,.free]) hql rfl rfl) ?_))|refine ST.wr (q:=1) (b:=3) rfl rfl (f_stV (d:=.ms (H.length+2) 0 (i+1) (i+1)) rfl hgX rfl rfl rfl rfl rfl) (zD _ _ (by rw[zE];exact hH3)) ?_|refine ST.new rfl (s':=H.length+1) rfl (f_bslA1 rfl rfl rfl rfl rfl rfl) (zcV (i:=1) (T':=[.free,.live 4 [zcC x],.free,.free,.free]) rfl rfl) ?_|refine zdA (f_arrP (l:=[w.getD (1+i*7+0) 0,w.getD (1+i*7+1) 0,w.getD (1+i*7+2) 0,w.getD (1+i*7+3) 0,w.getD (1+i*7+4) 0,w.getD (1+i*7+5) 0,w.getD (1+i*7+6) 0]) rfl rfl (by decide) (zf 7)) ?_))|with_reducible (refine kBn ?_)))
       exact⟨zcA _ (zdv (zdv hb0 (by omega)) (by decide)),_,zcA _ (hg_self (by rw[zE];exact hH3)),.inr ⟨Nat.succ_pos _,H.length+2,rfl,by omega,by rw[hls];exact zdO (t:=2) (by simp) rfl⟩⟩
     ·intro H hJ
      rw[cseq_len] at hJ
      obtain⟨hb0,c,hb3,hc⟩:=hJ
      have hll:=linesOf_len w n
      have hcS:snap (fun b=>H[b]?) 5 c=.sl ((zdE w n).map zcC):=by
       rcases hc with⟨rfl,rfl⟩|⟨_,q,rfl,_,hq⟩
       ·rfl
       ·exact snapLn (k:=4) hq hll.symm
      have hcR:snapR (fun b=>H[b]?) 4 c=.fl ((zdE w n).map zcC):=by
       rcases hc with⟨rfl,rfl⟩|⟨_,q,rfl,_,hq⟩
       ·rfl
       ·exact snapRLn (k:=3) hq hll.symm
      generalize zdE w n=L at hcS hcR hll ⊢
      have hcl:=m_CheckLines L (by omega)
      have hsn1:([c]:List D).map (snap (fun b=>H[b]?) 5)=[.sl (L.map zcC)]:=congrArg (fun x=>[x]) hcS
      have hsn2:([.agg (zcq s),c]:List D).map (snap (fun b=>H[b]?) 5)=[dSh s,.sl (L.map zcC)]:=congrArg (fun x=>[dSh s,x]) hcS
      have hsz:=WriteS_small s L
      unfold zd4 at hsz ⊢
      rw[if_pos e] at hsz
      rw[if_pos e]
      by_cases hz:zdS L=0
      ·rw[hz] at hcl
       rw[if_pos hz]
       have hok:=(checkLines_iff L).1 hz
       have hwr:=m_write s h L hok.1 hok.ok
       cases hws:writeS s L with
       |none=>
        rw[hws] at hwr
        change Maps _ _ _ (D.tup [.fl [],wB false]) at hwr
        rw[if_neg (fun h=>by cases h)]
        repeat (any_goals (first|(apply zcd;(first|refine zbW ?_|refine zdI rfl rfl ?_|refine zb0 ?_|refine zbZ ?_|(apply zeS;(first|refine zb9 (zcB rfl hb3 rfl rfl rfl) ?_|refine zb9 (zev rfl hb0 rfl rfl rfl rfl) ?_))|refine zb2 ?_|(apply zdc;(first|(refine zcw ?_;refine zb4 rfl hcl hsn1 rfl ?_)|(refine zcw ?_;refine zb4 rfl hwr hsn2 rfl ?_)))|refine zcx ?_|refine zdF ?_|refine zcv ?_))|(apply zcg;(first|refine zbY rfl ?_|refine zbX rfl ?_|refine zch rfl rfl ?_|refine zcb rfl rfl ?_|refine zb5 rfl ?_|refine zb7 rfl ?_))|with_reducible (refine kSr ?_)|(with_reducible refine zce ?_;refine kEr rfl ?_)))
        rfl
       |some r=>
        rw[hws] at hwr
        change Maps _ _ _ (D.tup [.fl (r.map zcU),wB true]) at hwr
        rw[if_pos hz,hws] at hsz
        obtain⟨hz1,hz2⟩:=hsz
        dsimp only at hz1 hz2
        have hsd:=m_sameData r d (by omega) hl (fun x hx=>by have:=hz2 x hx;omega) hd
        by_cases hrd:r=d
        ·rw[decide_eq_true hrd] at hsd
         rw[if_pos (by rw[hrd])]
         repeat (any_goals (first|(apply zcd;(first|refine zbW ?_|refine zcS rfl ?_|refine zb0 ?_|(apply w_as;(first|refine zb9 (f_as (d:=c) rfl) ?_|refine zbZ ?_))|(apply zeS;(first|refine zb9 (zcB rfl hb3 rfl rfl rfl) ?_|refine zb9 (zev rfl hb0 rfl rfl rfl rfl) ?_))|refine zb2 ?_|(apply zdc;(first|(refine zcw ?_;refine zb4 rfl hcl hsn1 rfl ?_)|(refine zcw ?_;refine zb4 rfl hwr hsn2 rfl ?_)|refine zb4 rfl (hsd) rfl rfl ?_))|refine zcx ?_|refine zdF ?_|refine zcv ?_))|(apply zcg;(first|refine zbY rfl ?_|refine zbX rfl ?_|refine zcb rfl rfl ?_|refine zb5 rfl ?_|refine zb7 rfl ?_))|(with_reducible refine zce ?_;refine kEr rfl ?_)))
         exact congrArg (fun x=>D.tup [x,wI 0]) hcR
        ·rw[decide_eq_false hrd] at hsd
         rw[if_neg (fun h=>hrd (congrArg Prod.fst h))]
         repeat (any_goals (first|(apply zcd;(first|refine zbW ?_|refine zcS rfl ?_|refine zb0 ?_|refine zbZ ?_|(apply zeS;(first|refine zb9 (zcB rfl hb3 rfl rfl rfl) ?_|refine zb9 (zev rfl hb0 rfl rfl rfl rfl) ?_))|refine zb2 ?_|(apply zdc;(first|(refine zcw ?_;refine zb4 rfl hcl hsn1 rfl ?_)|(refine zcw ?_;refine zb4 rfl hwr hsn2 rfl ?_)|refine zb4 rfl (hsd) rfl rfl ?_))|refine zcx ?_|refine zdF ?_|refine zcv ?_))|(apply zcg;(first|refine zbY rfl ?_|refine zbX rfl ?_|refine zch rfl rfl ?_|refine zcb rfl rfl ?_|refine zb5 rfl ?_|refine zb7 rfl ?_))|with_reducible (refine kSr ?_)|(with_reducible refine zce ?_;refine kEr rfl ?_)))
         rfl
      ·rw[if_neg hz,if_neg (fun h=>hz (congrArg Prod.snd h))]
       repeat (any_goals (first|(apply zcd;(first|refine zbW ?_|refine zbZ ?_|refine zb9 (zcB rfl hb3 rfl rfl rfl) ?_|refine zb2 ?_|(refine zcw ?_;refine zb4 rfl hcl hsn1 rfl ?_)))|(apply zcg;(first|refine zbY rfl ?_|refine zbX rfl ?_|refine zb7 rfl ?_|refine zb6 rfl rfl (by first|assumption|omega) ?_))|with_reducible (refine kSr ?_)|(with_reducible refine zce ?_;refine kEr rfl ?_)))
       rfl
  |false=>
   rw[qd] at ha
   rw[if_neg (by simp)]
   repeat (any_goals (first|(apply zcd;(first|refine zbW ?_|refine zb0 ?_|refine zbZ ?_|refine zcf ?_|refine zb2 ?_|(apply zdc;(first|refine zb4 rfl (hk) rfl rfl ?_|refine zb4 rfl (ha) rfl rfl ?_))|refine zcv ?_|refine zco ?_))|(apply zcg;(first|refine zbY rfl ?_|refine zbX rfl ?_|refine zch rfl rfl ?_|refine zcb rfl rfl ?_|refine zb5 rfl ?_|refine zb7 rfl ?_))|with_reducible (refine kSr ?_)|(with_reducible refine zce ?_;refine kEr rfl ?_)))
   rfl
 ·rw[e] at hk ⊢
  rw[if_neg (by decide)]
  repeat (any_goals (first|(apply zcd;(first|refine zbW ?_|refine zb0 ?_|refine zbZ ?_|refine zcf ?_|refine zb2 ?_|refine zb4 rfl (hk) rfl rfl ?_|refine zco ?_))|(apply zcg;(first|refine zbY rfl ?_|refine zbX rfl ?_|refine zch rfl rfl ?_|refine zb7 rfl ?_))|with_reducible (refine kSr ?_)|(with_reducible refine zce ?_;refine kEr rfl ?_)))
  rfl
end Go.DL
/- LeavesBooks, plain: Read of Write; Known on a later day; Merge in either order, and once more. -/
set_option maxHeartbeats 4000000
namespace Go.DL
open Go.Proofs Go
theorem pad_mem {n:Nat}{w:List Int}(h:∀x,x∈w→W x):∀x,x∈padS n w→W x:=by
 intro x hx
 rcases zK.1 hx with hx|hx
 ·exact h x hx
 ·rw[zaL hx];exact⟨by decide,by decide⟩
theorem NoFk.sub {a b:List Line}(h:NoFk a)(hs:∀x,x∈b→x∈a):NoFk b:=fun x hx y hy=>h x (hs x hx) y (hs y hy)
end Go.DL
/- Shelves: Store of both. -/
namespace Go.DL
open Go.Proofs Go
section
variable {H H' H2:List Blk}{lab lab' lab2:Lab}{sd c p cb i:Nat}{v:D}{l:List (Nat × Leaf)}{s:Shape}{rows:List (D × List (Nat × Leaf))}
theorem ShAt.setRow (h:ShAt H lab sd p cb s rows)(hi:i < rows.length)(hcs:H'[cb]? = some (.live 1 ((rows.map fun r=>[r.1]).set i [v])))(hk:∀b x,H[b]? = some x→b≠cb→(lab b).1=sd→(lab b).2.1≠i+1→H'[b]? = some x)
  (hl:∀b,b < H.length→lab' b=lab b) (hrow:RowAt H' lab' sd i v l):ShAt H' lab' sd p cb s (rows.set i (v,l)):=by
 have hpl:=zcR h.hd
 have hcl:=zcR h.cs
 have hpc:p≠cb:=fun e=>by
  have h1:=h.lp;have h2:=h.lc
  rw[e,h2] at h1;simp at h1
 refine⟨?_,?_,(hl p hpl).trans h.lp,(hl cb hcl).trans h.lc,fun k r hr=>?_⟩
 ·rw[zE]
  exact hk p _ h.hd hpc (by rw[h.lp]) (by rw[h.lp];simp)
 ·rw[hcs,zaB]
 ·by_cases e:i=k
  ·subst e
   rw[zp hi] at hr
   cases hr;exact hrow
  ·rw[zr e] at hr
   refine (h.row k r hr).keep fun b x hb h1 h2=>⟨hk b x hb (fun e2=>?_) h1 (by omega),hl b (zcR hb)⟩
   rw[e2,h.lc] at h2;simp at h2
theorem FrL.trans (h:FrL H H' lab lab' sd)(k:FrL H' H2 lab' lab2 sd):FrL H H2 lab lab2 sd:=
 ⟨zR h.len k.len,fun b hb=>(k.lb b (zaf hb h.len)).trans (h.lb b hb),fun b hb hn=>(k.same b (zaf hb h.len) (by rw[h.lb b hb];exact hn)).trans (h.same b hb hn)⟩
end
section
variable {H:List Blk}{lab:Lab}{sd p cb s' n c:Nat}{al:AL}{x:Operand}{s:Shape}{rows:List (D × List (Nat × Leaf))}
theorem f_ldSh (h:ShAt H lab sd p cb s rows)(hx:evA n al x=.mp p 0 0):Val Tryz.prog H s' n al (.load 23 x) (dSh s):=f_ldOA (m:=3) hx h.hd rfl rfl rfl (zbx 3)
theorem ze4 (h:ShAt H lab sd p cb s rows)(hx:evA n al x=.mp p 0 3):Val Tryz.prog H s' n al (.load 74 x) (.ms cb 0 rows.length rows.length):=zcB hx h.hd rfl rfl rfl
end
theorem WriteS_dataW {s:Shape}{l:List Line}(h:(zd4 s l).2=0):zeJ s∧dataW s.Width.toNat (zd4 s l).1:=by
 unfold zd4 at h ⊢
 rcases zcX s with⟨e,hk⟩|⟨e,hk⟩
 ·rw[if_pos e] at h ⊢
  by_cases h2:zdS l=0
  ·rw[if_pos h2] at h ⊢
   have hok:=(checkLines_iff l).1 h2
   refine⟨hk,?_⟩
   unfold writeS at h ⊢
   by_cases hf:(zdM l).length≤s.Data.toNat*s.Width.toNat
   ·rw[if_pos hf]
    obtain⟨⟨h1,h3⟩,_,h4,h5⟩:=hk
    refine⟨by simp[rowsOf];omega,fun r hr=>?_⟩
    obtain⟨k,hk,rfl⟩:=zt.1 hr
    rw[zP] at hk
    exact⟨row_len (padS_len hf) hk,fun x hx=>pad_mem (words_W hok) x (z9 (zaO hx))⟩
   ·rw[if_neg hf] at h;cases h
  ·rw[if_neg h2] at h;exact absurd h h2
 ·rw[if_neg (by omega)] at h;cases h
theorem row_new {H H':List Blk}{lab:Lab}{sd i r o N w:Nat}{d:List (List Int)}(hro:r < o)(hr:H'[H.length+r]? = some (.live 2 ((wlQ (H.length+o) N w d).map eOL)))(hws:∀q,q∈wlQ (H.length+o) N w d→H'[q.1]? = some (.live 1 (q.2.Words.map eI))):
  RowAt H' (fun b=>if b < H.length then lab b else if b < H.length+o then (sd,i+1,0) else (sd,i+1,((b-(H.length+o):Nat):Int)+1)) sd i (.ms (H.length+r) 0 N N) (wlQ (H.length+o) N w d):=by
 refine⟨.inr ⟨H.length+r,N,_,by rw[wlQ_len],hr,?_,by simp,by rw[wlQ_len];exact zf _,fun e he=>?_,?_⟩,fun q hq=>⟨hws q hq,?_⟩,?_⟩
 ·rw[zg (by simp)]
 ·obtain⟨q,_,rfl⟩:=zt.1 he
  exact⟨rfl,rfl⟩
 ·simp only[show ¬H.length+r < H.length by omega,show H.length+r < H.length+o by omega,if_false,if_true]
 ·obtain⟨k,hk,rfl⟩:=wlQ_words hq
  simp only[show ¬H.length+o+k < H.length by omega,show ¬H.length+o+k < H.length+o by omega,if_false]
  rw[show H.length+o+k-(H.length+o)=k by omega]
 ·rw[wlQ,zaJ]
  exact List.Pairwise.imp (fun {a b} h=>by simp only;omega) zbe
theorem ShAt.stored {H T:List Blk}{lab:Lab}{sd p cb i r o N w:Nat}{s:Shape}{d:List (List Int)}{rows:List (D × List (Nat × Leaf))}(h:ShAt H lab sd p cb s rows)(hi:i < rows.length)(hro:r < o)(hr:(H++T)[H.length+r]? = some (.live 2 ((wlQ (H.length+o) N w d).map eOL)))(hws:∀q,q∈wlQ (H.length+o) N w d→(H++T)[q.1]? = some (.live 1 (q.2.Words.map eI))):
  ∃lab',ShAt ((H++T).set cb (.live 1 ((rows.map fun r=>[r.1]).set i [.ms (H.length+r) 0 N N]))) lab' sd p cb s (rows.set i (.ms (H.length+r) 0 N N,wlQ (H.length+o) N w d))∧FrL H ((H++T).set cb (.live 1 ((rows.map fun r=>[r.1]).set i [.ms (H.length+r) 0 N N]))) lab lab' sd:=by
 have hcl:=zcR h.cs
 have hcl2:cb < (H++T).length:=by rw[zw];omega
 refine⟨fun b=>if b < H.length then lab b else if b < H.length+o then (sd,i+1,0) else (sd,i+1,((b-(H.length+o):Nat):Int)+1),h.setRow hi (hg_self hcl2) (fun b x hb hne _ _=>zdv (zcA T hb) (Ne.symm hne)) (fun b hb=>if_pos hb) (row_new hro (zdv hr (by omega)) fun q hq=>?_),⟨by simp,fun b hb=>if_pos hb,fun b hb hn=>?_⟩⟩
 ·obtain⟨k,hk,hq2⟩:=wlQ_words hq
  have:q.1=H.length+o+k:=by rw[hq2]
  exact zdv (hws q hq) (by omega)
 ·rw[zr (fun e=>hn (by rw[←e,h.lc])),zk hb]
def StoQ (H:List Blk)(lab:Lab)(sd p cb:Nat)(s:Shape)(rows:List (D × List (Nat × Leaf)))(l:List Line)(d:D)(H':List Blk):Prop:=
 d=wI (zd4 s l).2∧∃lab' rows',ShAt H' lab' sd p cb s rows'∧FrL H H' lab lab' sd∧
  zcE rows'=if (zd4 s l).2=0 then List.replicate rows.length (zdp (s.Data+s.Checks).toNat s.Width.toNat (zd4 s l).1) else zcE rows
theorem c_Store {H:List Blk}{lab:Lab}{sd p cb:Nat}{s:Shape}{rows:List (D × List (Nat × Leaf))}(h:ShAt H lab sd p cb s rows)(hn:rows.length≤5)(l:List Line)(hl:l.length≤4611686018427387904):
  CallSp Tryz.prog 57 [.mp p 0 0,.sl (l.map zcC)] H (StoQ H lab sd p cb s rows l):=by
 refine CallSp.vt pok Tryz.f57 (n:=41) (rs:=[.tmp 4]) rfl rfl rfl rfl rfl rfl rfl fun g=>?_
 have hw:=m_Write s l hl
 have hhd:=h.hd
 have hWd:=fun e=>WriteS_dataW (s:=s) (l:=l) e
 unfold StoQ
 generalize zd4 s l=R at hw hWd ⊢
 obtain⟨r,e⟩:=R
 dsimp only at hw hWd ⊢
 by_cases he:e=0
 ·subst he
  obtain⟨hck,hdw⟩:=hWd rfl
  repeat (any_goals (first|(apply zcd;(first|refine zbW ?_|refine zb0 ?_|refine zbZ ?_|(apply zeS;(first|refine zb9 (f_ldSh h rfl) ?_|refine zb9 (ze4 h rfl) ?_))|refine zcm ?_|refine zb2 ?_|(apply zdc;(first|refine zb4 rfl (hw) rfl rfl ?_|refine zb8 ?_))|refine zdF ?_|refine zb9 (zeo (d:=.mp p 0 0) rfl rfl) ?_))|(apply zcg;(first|refine zbY rfl ?_|refine zbX rfl ?_|refine zcb rfl rfl ?_|refine zb3 rfl ?_|refine zb5 rfl ?_))))
  obtain⟨n0,hn0⟩:∃n0,n0=rows.length:=⟨_,rfl⟩
  rw[←hn0]
  refine zcl (fun j a H2 g'=>∃(i:Nat) (lab2:Lab) (rows2:List (D × List (Nat × Leaf))),j=n0-i∧i≤n0∧rows2.length=n0∧ShAt H2 lab2 sd p cb s rows2∧FrL H H2 lab lab2 sd∧(∀k,k < i→(zcE rows2)[k]? = some (zdp (s.Data+s.Checks).toNat s.Width.toNat r))∧a=[(0,.mp p 0 0),(5,.fl (r.map zcU)),(24,wI n0),(25,wI i)]∧g'=g) rfl
   ⟨_,_,H,⟨0,lab,rows,rfl,zj _,hn0.symm,h,FrL.refl _ _ _,fun k hk=>absurd hk (zap k),rfl,rfl⟩,Wk.keep kpX⟩ ?_
  rintro j a H2 g' ⟨i,lab2,rows2,rfl,hi,hr2,h2,hf2,hdone,rfl,rfl⟩
  have hl2:(zcE rows2).length=n0:=by rw[zcE,ze];exact hr2
  by_cases hlt:i < n0
  ·repeat (any_goals (first|(apply zcd;(first|refine zbW ?_|refine zb0 ?_|refine zbZ ?_|refine zb2 ?_))|(apply zcg;(first|refine zbY rfl ?_|refine zbX rfl ?_|refine zb3 rfl ?_|refine zb5 rfl ?_|refine VT.drawX 10 H2 zcr rfl rfl (by decide +kernel) (fun _ _ _ h=>h) (fun _ _ _ h=>h) rfl ?_|refine zb6 rfl rfl (by first|assumption|omega) ?_))|(apply zez;(first|refine zc2 ?_|(apply q_ld;(first|refine zdi (ze4 h2 rfl) ?_|refine zdi (f_ldSh h2 rfl) ?_))|refine zdU ?_|refine zdi (zeo (d:=.mp p 0 0) rfl rfl) ?_|refine PT.nil (XC.call rfl ((c_whole hck hdw (x:=.fl (r.map zcU)) rfl).mono ?_))))))
   rintro d4 H4 ⟨T,r0,o0,rfl,rfl,hrow,hro,hws⟩
   refine⟨fun b sz es hb=>zcA T hb,fun b c es hb=>zcA T hb,?_⟩
   have hcb:=zcA T h2.cs
   have hcbl:=zcR h2.cs
   obtain⟨q,hq⟩:∃q,rows2[i]? = some q:=⟨_,zb (by omega)⟩
   have hqm:(rows2.map fun r=>[r.1])[i]? = some [q.1]:=by rw[zl,hq];rfl
   repeat (any_goals (first|(apply zcd;(first|refine zbW ?_|refine zb0 ?_|refine zb2 ?_|refine RT.ixH ?_|refine zdo (f_stV (d:=.ms (H2.length+r0) 0 (s.Data+s.Checks).toNat (s.Data+s.Checks).toNat) rfl hcb hqm rfl rfl rfl rfl) rfl ?_))|refine zbX rfl ?_|with_reducible (refine kLn ?_)))
   obtain⟨lab3,q1,q2⟩:=h2.stored (i:=i) (by omega) hro hrow hws
   refine⟨n0-(i+1),by omega,_,_,⟨i+1,lab3,_,rfl,hlt,by rw[zE];exact hr2,q1,hf2.trans q2,fun k hk=>?_,rfl,rfl⟩,Wk.keep kpX⟩
   rw[zcE,zaB,wlQ_snd]
   by_cases e:i=k
   ·subst e;rw[zp (by have:=hl2;rw[zcE] at this;omega)]
   ·rw[zr e];exact hdone k (by omega)
  ·obtain rfl:i=n0:=by omega
   repeat (any_goals (first|(apply zcd;(first|refine zbW ?_|refine zbZ ?_|refine zb2 ?_))|(apply zcg;(first|refine zbY rfl ?_|refine zbX rfl ?_|refine zci rfl ?_|refine zb7 rfl ?_|refine zca rfl rfl (by first|assumption|omega) ?_))|(with_reducible refine zce ?_;refine kEr rfl ?_)))
   refine⟨rfl,lab2,rows2,h2,hf2,?_⟩
   rw[if_pos rfl]
   refine zae fun k=>?_
   by_cases hk:k < i
   ·rw[hdone k hk,zY,if_pos hk]
   ·rw[zs (by omega),zs (by simp;omega)]
 ·repeat (any_goals (first|(apply zcd;(first|refine zbW ?_|refine zb0 ?_|refine zbZ ?_|refine zb9 (f_ldSh h rfl) ?_|refine zcm ?_|refine zb2 ?_|refine zb4 rfl (hw) rfl rfl ?_|refine zdF ?_|refine zb9 (zeo (d:=.mp p 0 0) rfl rfl) ?_))|(apply zcg;(first|refine zbY rfl ?_|refine zbX rfl ?_|refine zb7 rfl ?_|refine zb6 rfl rfl (by first|assumption|omega) ?_))|with_reducible (refine kSr ?_)|(with_reducible refine zce ?_;refine kEr rfl ?_)))
  exact⟨rfl,lab,rows,h,FrL.refl _ _ _,(if_neg he).symm⟩
theorem FrL.app (H T:List Blk)(lab:Lab)(sd:Nat):FrL H (H++T) lab lab sd:=⟨by simp,fun _ _=>rfl,fun b hb _=>zk hb⟩
theorem c_RStore {H:List Blk}{lab:Lab}{sd p cb:Nat}{s:Shape}{rows:List (D × List (Nat × Leaf))}(h:ShAt H lab sd p cb s rows)(hn:rows.length≤5)(l:List Line)(hl:l.length≤4611686018427387904):
  CallSp Tryz.prog 58 [.mp p 0 0,.sl (l.map zcC)] H (StoQ H lab sd p cb s rows l):=by
 refine CallSp.vt pok Tryz.f58 (n:=40) (rs:=[.tmp 4]) rfl rfl rfl rfl rfl rfl rfl fun g=>?_
 have hw:=m_RWrite s l hl
 have hhd:=h.hd
 have hpl:=zcR h.hd
 have hcl:=zcR h.cs
 have hWd:=fun e=>WriteS_dataW (s:=s) (l:=l) e
 unfold StoQ
 generalize zd4 s l=R at hw hWd ⊢
 obtain⟨r,e⟩:=R
 dsimp only at hw hWd ⊢
 have hH:∀x y,(H++[x]).set H.length y=H++[y]:=fun x y=>zcV (i:=0) rfl rfl
 by_cases he:e=0
 ·subst he
  obtain⟨hck,hdw⟩:=hWd rfl
  repeat (any_goals (first|(apply zcd;(first|refine zbW ?_|refine zb0 ?_|refine zbZ ?_|(apply zeS;(first|refine zb9 (f_ldSh h rfl) ?_|refine zc1 ?_))|refine zcm ?_|refine zb2 ?_|refine zb4 rfl (hw) rfl rfl ?_|refine RT.stH ?_|refine zco ?_|refine zb9 (zeo (d:=.mp p 0 0) rfl rfl) ?_))|(apply zcg;(first|refine zbY rfl ?_|refine zbX rfl ?_|refine zcb rfl rfl ?_|refine zb3 rfl ?_|refine zb5 rfl ?_))))
  rw[hH]
  obtain⟨H1,hH1⟩:∃H1,H1=H++[Blk.live 2 [[.fl (r.map zcU),wI 0]]]:=⟨_,rfl⟩
  change VT _ _ _ _ (H++[Blk.live 2 [[.fl (r.map zcU),wI 0]]]) _ _
  rw[←hH1]
  have g1:H1[H.length]? = some (.live 2 [[.fl (r.map zcU),wI 0]]):=by rw[hH1];exact zdO (t:=0) rfl rfl
  have h1:ShAt H1 lab sd p cb s rows:=by rw[hH1];exact h.app _
  have hf1:FrL H H1 lab lab sd:=by rw[hH1];exact FrL.app _ _ _ _
  clear hH1
  obtain⟨n0,hn0⟩:∃n0,n0=rows.length:=⟨_,rfl⟩
  rw[←hn0]
  refine zcl (fun j a H2 g'=>∃(i:Nat) (lab2:Lab) (rows2:List (D × List (Nat × Leaf))),j=n0-i∧i≤n0∧rows2.length=n0∧ShAt H2 lab2 sd p cb s rows2∧FrL H H2 lab lab2 sd∧(∀k,k < i→(zcE rows2)[k]? = some (zdp (s.Data+s.Checks).toNat s.Width.toNat r))∧H2[H.length]? = some (.live 2 [[.fl (r.map zcU),wI 0]])∧a=[(0,.mp p 0 0),(5,.mp H.length 0 0),(6,wI i)]∧g'=g) rfl
   ⟨_,_,H1,⟨0,lab,rows,rfl,zj _,hn0.symm,h1,hf1,fun k hk=>absurd hk (zap k),g1,rfl,rfl⟩,Wk.keep kpX⟩ ?_
  clear g1 h1 hf1
  rintro j a H2 g' ⟨i,lab2,rows2,rfl,hi,hr2,h2,hf2,hdone,g2,rfl,rfl⟩
  have hl2:(zcE rows2).length=n0:=by rw[zcE,ze];exact hr2
  by_cases hlt:i < n0
  ·repeat (any_goals (first|(apply zcd;(first|refine zbW ?_|refine zb0 ?_|refine zb9 (ze4 h2 rfl) ?_|refine zcm ?_|refine zb9 (f_lssT rfl rfl (by omega)) ?_|refine zb8 ?_|refine zb9 (zeo (d:=.mp p 0 0) rfl rfl) ?_))|(apply zcg;(first|refine zbY rfl ?_|refine zbX rfl ?_|refine zch rfl rfl ?_|refine zb3 rfl ?_|refine zb5 rfl ?_|refine VT.drawX 11 H2 zcr rfl rfl (by decide +kernel) (fun _ _ _ h=>h) (fun _ _ _ h=>h) rfl ?_))|(apply zez;(first|refine zc2 ?_|(apply q_ld;(first|refine zdi (ze4 h2 rfl) ?_|refine zdi (f_ldSh h2 rfl) ?_|refine zdi (zcB rfl g2 rfl rfl rfl) ?_))|refine zdU ?_|refine zdi (zeo (d:=.mp p 0 0) rfl rfl) ?_|refine PT.nil (XC.call rfl ((c_Rwhole hck hdw (x:=.fl (r.map zcU)) rfl).mono ?_))))))
   rintro d4 H4 ⟨T,r0,o0,rfl,rfl,hrow,hro,hws⟩
   refine⟨fun b sz es hb=>zcA T hb,fun b c es hb=>zcA T hb,?_⟩
   have hcb:=zcA T h2.cs
   have hcbl:=zcR h2.cs
   obtain⟨q,hq⟩:∃q,rows2[i]? = some q:=⟨_,zb (by omega)⟩
   have hqm:(rows2.map fun r=>[r.1])[i]? = some [q.1]:=by rw[zl,hq];rfl
   repeat (any_goals (first|(apply zcd;(first|refine zbW ?_|refine zb0 ?_|refine zbZ ?_|refine zb2 ?_|refine RT.ixH ?_|refine zdo (f_stV (d:=.ms (H2.length+r0) 0 (s.Data+s.Checks).toNat (s.Data+s.Checks).toNat) rfl hcb hqm rfl rfl rfl rfl) rfl ?_))|refine zbX rfl ?_|with_reducible (refine kLn ?_)))
   obtain⟨lab3,q1,q2⟩:=h2.stored (i:=i) (by omega) hro hrow hws
   refine⟨n0-(i+1),by omega,_,_,⟨i+1,lab3,_,rfl,hlt,by rw[zE];exact hr2,q1,hf2.trans q2,fun k hk=>?_,zdv (zcA T g2) (by omega),rfl,rfl⟩,Wk.keep kpX⟩
   rw[zcE,zaB,wlQ_snd]
   by_cases e:i=k
   ·subst e;rw[zp (by have:=hl2;rw[zcE] at this;omega)]
   ·rw[zr e];exact hdone k (by omega)
  ·obtain rfl:i=n0:=by omega
   repeat (any_goals (first|(apply zcd;(first|refine zbW ?_|refine zb0 ?_|refine zbZ ?_|refine zb9 (ze4 h2 rfl) ?_|refine zcm ?_|refine zb9 (f_lssF rfl rfl (by omega)) ?_|refine zb8 ?_|refine zb9 (zeo (d:=.mp p 0 0) rfl rfl) ?_))|(apply zcg;(first|refine zbY rfl ?_|refine zbX rfl ?_|refine zcb rfl rfl ?_|refine zci rfl ?_|refine zb7 rfl ?_))|(with_reducible refine zce ?_;refine kEr rfl ?_)))
   refine⟨rfl,lab2,rows2,h2,hf2,?_⟩
   rw[if_pos rfl]
   refine zae fun k=>?_
   by_cases hk:k < i
   ·rw[hdone k hk,zY,if_pos hk]
   ·rw[zs (by omega),zs (by simp;omega)]
 ·repeat (any_goals (first|(apply zcd;(first|refine zbW ?_|refine zb0 ?_|refine zbZ ?_|(apply zeS;(first|refine zb9 (f_ldSh h rfl) ?_|refine zc1 ?_))|refine zcm ?_|refine zb2 ?_|refine zb4 rfl (hw) rfl rfl ?_|refine RT.stH ?_|refine zco ?_|refine zb9 (zeo (d:=.mp p 0 0) rfl rfl) ?_))|(apply zcg;(first|refine zbY rfl ?_|refine zbX rfl ?_|refine zb7 rfl ?_|refine zb6 rfl rfl (by first|assumption|omega) ?_))|with_reducible (refine kSr ?_)|(with_reducible refine zce ?_;refine kEr rfl ?_)))
  rw[hH]
  exact⟨rfl,lab,rows,h.app _,FrL.app _ _ _ _,(if_neg he).symm⟩
end Go.DL
/- Shelves: where a leaf stands in a copy, by both. -/
namespace Go.DL
open Go.Proofs Go
def isN (n:Int)(x:Leaf):Bool:=decide (x.Number=n)
theorem m_find1 (n:Int)(x:Leaf):Maps Tryz.prog 154 ([.agg (zcn x)]++[.rp [wI n]]) (wB (isN n x)):=by
 refine Maps.vt pok Tryz.f154 (n:=8) (rs:=[.tmp 3]) rfl rfl rfl rfl rfl rfl fun g=>?_
 repeat (any_goals (first|(apply zcd;(first|refine zbW ?_|refine zbZ ?_|refine zcf ?_|refine zcm ?_|refine zb2 ?_|refine zco ?_))|(apply zcg;(first|refine zbY rfl ?_|refine zbX rfl ?_|refine zb7 rfl ?_))|(with_reducible refine zce ?_;refine kEr rfl ?_)))
 rfl
def zeX (cs:List (List Leaf))(c n:Int):Int × Int:=
 if 0≤c∧c≤(cs.length:Int)-1 then (if fidx (isN n) (cs.getD c.toNat []) < 0 then (0,5) else (fidx (isN n) (cs.getD c.toNat []),0)) else (0,1)
theorem fidx_rng {α:Type}(p:α→Bool)(l:List α):(fidx p l=-1∧l.any p=false)∨∃k,∃hk:k < l.length,fidx p l=k∧(l.take k).any p=false∧p l[k]=true:=by
 unfold fidx
 cases h:l.any p with
 |false=>exact .inl ⟨rfl,rfl⟩
 |true=>
  rw[zbw] at h
  have hlt:l.findIdx p < l.length:=List.findIdx_lt_length.2 h
  refine .inr ⟨_,hlt,rfl,?_,List.findIdx_getElem (w:=hlt)⟩
  rw[List.any_eq_false]
  intro x hx
  obtain⟨i,hi,rfl⟩:=zaH hx
  rw[zA] at hi
  rw[List.getElem_take]
  simpa using List.not_of_lt_findIdx (p:=p) (xs:=l) (i:=i) (by omega)
theorem m_find (s:Shape)(cs:List (List Leaf))(hcs:cs.length≤5)(hl:∀l,l∈cs→l.length≤1000)(c n:Int):Maps Tryz.prog 110 [.rp (eSh s cs),wI c,wI n] (.tup [wI (zeX cs c n).1,wI (zeX cs c n).2]):=by
 refine Maps.vt pok Tryz.f110 (n:=30) (rs:=[.tmp 6,.tmp 7]) rfl rfl rfl rfl rfl rfl fun g=>?_
 have hw:=zdK c 0 ((cs.length:Int)-1)
 unfold zeX
 by_cases hc:0≤c∧c≤(cs.length:Int)-1
 ·rw[if_pos hc]
  rw[decide_eq_true hc] at hw
  obtain⟨k,rfl⟩:∃k:Nat,c=k:=zF hc.1
  have hk:k < cs.length:=by omega
  have hkl:=hl _ (zi hk)
  have hgd:cs.getD (k:Int).toNat []=cs[k]:=by rw[zM];simp[List.getD,hk]
  rw[hgd]
  have hf:=m_idx_Leaf (p:=isN n) (F:=154) (cs:=[.rp [wI n]]) (l:=cs[k]) (by omega) rfl fun x _=>m_find1 n x
  rcases fidx_rng (isN n) cs[k] with⟨e,_⟩|⟨q,hq,e,_⟩
  ·rw[e] at hf ⊢
   rw[if_pos (by decide)]
   repeat (any_goals (first|(apply zcd;(first|refine zbW ?_|refine zb0 ?_|refine zbZ ?_|refine zcf ?_|refine zcm ?_|refine zb2 ?_|(apply zdc;(first|refine zb4 rfl (hw) rfl rfl ?_|refine zb4 rfl (hf) rfl rfl ?_|refine zb8 ?_))|refine zcO ?_|refine zcv ?_|refine zco ?_|refine zdz ?_|refine zb9 (zeo (d:=.rp (eSh s cs)) rfl rfl) ?_))|(apply zcg;(first|refine zbY rfl ?_|refine zbX rfl ?_|refine zch rfl rfl ?_|refine zcb rfl rfl ?_|refine zb5 rfl ?_|refine zb7 rfl ?_))|with_reducible (refine kSr ?_)|(with_reducible refine zce ?_;refine kEr rfl ?_)))
   rfl
  ·rw[e] at hf ⊢
   rw[if_neg (by omega)]
   repeat (any_goals (first|(apply zcd;(first|refine zbW ?_|refine zb0 ?_|refine zbZ ?_|refine zcf ?_|refine zcm ?_|refine zb2 ?_|(apply zdc;(first|refine zb4 rfl (hw) rfl rfl ?_|refine zb4 rfl (hf) rfl rfl ?_|refine zb8 ?_))|refine zcO ?_|refine zcv ?_|refine zco ?_|refine zdz ?_|refine zb9 (zeo (d:=.rp (eSh s cs)) rfl rfl) ?_))|(apply zcg;(first|refine zbY rfl ?_|refine zbX rfl ?_|refine zcb rfl rfl ?_|refine zb5 rfl ?_|refine zb7 rfl ?_))|(with_reducible refine zce ?_;refine kEr rfl ?_)))
   rfl
 ·rw[if_neg hc]
  rw[decide_eq_false hc] at hw
  repeat (any_goals (first|(apply zcd;(first|refine zbW ?_|refine zb0 ?_|refine zbZ ?_|refine zcf ?_|refine zcm ?_|refine zb2 ?_|(apply zdc;(first|refine zb4 rfl (hw) rfl rfl ?_|refine zb8 ?_))|refine zcv ?_|refine zco ?_|refine zb9 (zeo (d:=.rp (eSh s cs)) rfl rfl) ?_))|(apply zcg;(first|refine zbY rfl ?_|refine zbX rfl ?_|refine zch rfl rfl ?_|refine zb7 rfl ?_))|with_reducible (refine kSr ?_)|(with_reducible refine zce ?_;refine kEr rfl ?_)))
  rfl
theorem m_at (s:Shape)(cs:List (List Leaf))(hcs:cs.length≤5)(hl:∀l,l∈cs→l.length≤1000)(k:Nat)(hk:k < cs.length)(n:Int):Maps Tryz.prog 112 [.rp (eSh s cs),wI k,wI n] (wI (fidx (isN n) cs[k])):=by
 refine Maps.vt pok Tryz.f112 (n:=34) (rs:=[.tmp 6]) rfl rfl rfl rfl rfl rfl fun g=>?_
 obtain⟨l,hlk⟩:∃l,cs[k]=l:=⟨_,rfl⟩
 have hll:l.length≤1000:=by rw[←hlk];exact hl _ (zi hk)
 have hg:cs[k]? = some l:=by rw[zb hk,hlk]
 rw[hlk]
 repeat (any_goals (first|(apply zcd;(first|refine zbW ?_|refine zbZ ?_))|(apply zcg;(first|refine zbY rfl ?_|refine zbX rfl ?_|refine zb3 rfl ?_))))
 refine zcl (fun j a H g'=>∃(i:Nat),j=l.length-i∧i≤l.length∧(l.take i).any (isN n)=false∧a=[(0,.rp (eSh s cs)),(1,wI k),(2,wI n),(7,wI i)]∧H=[]∧g'=g) rfl
  ⟨_,_,_,⟨0,rfl,zj _,rfl,rfl,rfl,rfl⟩,Wk.keep kpX⟩ ?_
 rintro j a H g' ⟨i,rfl,hi,hn,rfl,rfl,rfl⟩
 by_cases hlt:i < l.length
 ·by_cases hx:l[i].Number=n
  ·have e:fidx (isN n) l=i:=fidx_hit hlt hn (by simpa[isN] using hx)
   rw[e]
   repeat (any_goals (first|(apply zcd;(first|refine zbW ?_|refine zb0 ?_|refine zbZ ?_|refine zcf ?_|refine zcm ?_|(apply zea;(first|refine zb9 (f_lssT rfl rfl (by omega)) ?_|refine zb9 (zeG rfl rfl hx) ?_))|refine zb8 ?_|(apply w_ix;(first|refine zb9 (f_ixQ rfl rfl rfl hg rfl rfl) ?_|refine zcO ?_))|refine zb9 (zeo (d:=.rp (eSh s cs)) rfl rfl) ?_))|(apply zcg;(first|refine zbY rfl ?_|refine zbX rfl ?_|refine zch rfl rfl ?_|refine zb3 rfl ?_|refine zb5 rfl ?_|refine zb7 rfl ?_))|(with_reducible first|refine kSr ?_|refine kBr ?_|refine kLr ?_)|(with_reducible refine zce ?_;refine kEr rfl ?_)))
   rfl
  ·repeat (any_goals (first|(apply zcd;(first|refine zbW ?_|refine zb0 ?_|refine zbZ ?_|refine zcf ?_|refine zcm ?_|(apply zea;(first|refine zb9 (f_lssT rfl rfl (by omega)) ?_|refine zb9 (ze7 rfl rfl hx) ?_|refine zb2 ?_))|refine zb8 ?_|(apply w_ix;(first|refine zb9 (f_ixQ rfl rfl rfl hg rfl rfl) ?_|refine zcO ?_))|refine zb9 (zeo (d:=.rp (eSh s cs)) rfl rfl) ?_))|(apply zcg;(first|refine zbY rfl ?_|refine zbX rfl ?_|refine zch rfl rfl ?_|refine zcb rfl rfl ?_|refine zb3 rfl ?_|refine zb5 rfl ?_))|with_reducible (refine kLn ?_)))
   refine⟨l.length-(i+1),by omega,_,_,⟨i+1,rfl,hlt,?_,rfl,rfl,rfl⟩,Wk.keep kpX⟩
   rw[zo hlt,List.any_append,hn]
   simp[isN,hx]
 ·obtain rfl:i=l.length:=by omega
  rw[fidx_none hlt hn]
  repeat (any_goals (first|(apply zcd;(first|refine zbW ?_|refine zb0 ?_|refine zbZ ?_|refine zcf ?_|refine zcm ?_|refine zb9 (f_lssF rfl rfl (by omega)) ?_|refine zb8 ?_|refine zb9 (f_ixQ rfl rfl rfl hg rfl rfl) ?_|refine zb9 (zeo (d:=.rp (eSh s cs)) rfl rfl) ?_))|(apply zcg;(first|refine zbY rfl ?_|refine zbX rfl ?_|refine zcb rfl rfl ?_|refine zci rfl ?_|refine zb7 rfl ?_))|(with_reducible refine zce ?_;refine kEr rfl ?_)))
  rfl
end Go.DL
