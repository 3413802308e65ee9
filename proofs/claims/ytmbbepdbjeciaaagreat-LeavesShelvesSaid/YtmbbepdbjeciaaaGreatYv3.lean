/- Join of the reference. -/
import Derived.Test.YtmbbepdbjeciaaaGreatYu1
import Derived.Test.YtmbbepdbjeciaaaGreatP1
import Derived.Test.YtmbbepdbjeciaaaGreatYw2
import Derived.Test.YtmbbepdbjeciaaaGreatE5
import Derived.Test.YtmbbepdbjeciaaaGreatZs
import Derived.Test.YtmbbepdbjeciaaaGreatZx
import Derived.Test.YtmbbepdbjeciaaaGreatE6
set_option maxRecDepth 100000
set_option maxHeartbeats 16000000
namespace Go.DL
open Go.Proofs Go
theorem ckl_ok2 {s:Shape}:∀{l seen:List Leaf},cklS s seen l=0→(∀x,x∈l→zeF s x=true∧numIn seen x.Number=false)∧l.Pairwise (fun x y=>x.Number≠y.Number)
 |[],_,_=>⟨fun x h=>(by cases h),zbb⟩
 |x::r,seen,h=>by
  rw[cklS] at h
  split at h
  ·rename_i h1
   split at h
   ·cases h
   ·rename_i h2
    obtain⟨i1,i2⟩:=ckl_ok2 h
    have h3:∀y,y∈r→numIn seen y.Number=false∧x.Number≠y.Number:=fun y hy=>by
     have:=(i1 y hy).2
     simp only[numIn,List.any_append,zbG,List.any_cons,List.any_nil,decide_eq_false_iff_not,and_true] at this
     exact⟨this.1,this.2⟩
    refine⟨fun y hy=>?_,zam.2 ⟨fun y hy=>(h3 y hy).2,i2⟩⟩
    rcases zH.1 hy with rfl|hy
    ·exact⟨h1,by simpa using h2⟩
    ·exact⟨(i1 y hy).1,(h3 y hy).1⟩
  ·cases h
structure LvsOk (s:Shape)(l:List Leaf):Prop where
 len:l.length≤40
 num:∀x,x∈l→1≤x.Number∧x.Number≤s.Data+s.Checks
 wl:∀x,x∈l→(x.Words.length:Int)=s.Width∧allW x.Words
 nd:l.Pairwise (fun x y=>x.Number≠y.Number)
theorem lvs_of {s:Shape}{l:List Leaf}(h:zcP s l=0):zeJ s∧LvsOk s l:=by
 unfold zcP at h
 rcases zcX s with⟨e,hk⟩|⟨e,hk⟩
 ·rw[if_pos e] at h
  split at h
  ·cases h
  ·rename_i hle
   obtain⟨h1,h2⟩:=ckl_ok2 h
   have key:∀x,x∈l→(1≤x.Number∧x.Number≤s.Data+s.Checks)∧(x.Words.length:Int)=s.Width∧allW x.Words:=fun x hx=>by
    have:=(h1 x hx).1
    simp only[zeF,zJ,decide_eq_true_eq] at this
    exact⟨this.1,this.2.1,allW_of this.2.2⟩
   exact⟨hk,by omega,fun x hx=>(key x hx).1,fun x hx=>(key x hx).2,h2⟩
 ·rw[if_neg (by omega),e] at h;cases h
def ckAll (s:Shape):List (List Leaf)→Int
 |[]=>0
 |l::r=>if zcP s l=0 then ckAll s r else zcP s l
theorem ckAll_ok {s:Shape}:∀{cs:List (List Leaf)},ckAll s cs=0→∀l,l∈cs→zcP s l=0
 |[],_,l,h=>(by cases h)
 |c::r,h0,l,h=>by
  rw[ckAll] at h0
  split at h0
  ·rename_i e
   rcases zH.1 h with rfl|h
   ·exact e
   ·exact ckAll_ok h0 l h
  ·contradiction
def zet (cs:List (List Leaf))(n:Int):List Leaf:=cs.flatten.filter fun y=>decide (y.Number=n)
def rF (cs:List (List Leaf))(n:Int)(l:List Leaf):DM.RSt Leaf:=(l.filter fun y=>decide (y.Number=n)).foldl (DM.rStep Leaf.Words (DM.cnt Leaf.Words (zet cs n))) ⟨⟨0,[]⟩,0,false⟩
theorem rF_snoc (cs:List (List Leaf))(n:Int)(l:List Leaf)(x:Leaf):rF cs n (l++[x])=if x.Number=n then DM.rStep Leaf.Words (DM.cnt Leaf.Words (zet cs n)) (rF cs n l) x else rF cs n l:=by
 unfold rF
 rw[za4,List.foldl_append]
 by_cases h:x.Number=n
 ·rw[if_pos h,zbK,if_pos (by simpa using h)];rfl
 ·rw[if_neg h,zbK,if_neg (by simpa using h)];rfl
theorem hasL_cnt {cs:List (List Leaf)}{n:Int}{x:Leaf}(hx:x.Number=n):hasL x cs.flatten=DM.cnt Leaf.Words (zet cs n) x.Words:=by
 unfold hasL DM.cnt zet
 rw[List.countP_filter]
 refine congrArg (fun p=>List.countP p cs.flatten) (funext fun y=>?_)
 subst hx
 by_cases h1:y.Number=x.Number<;>by_cases h2:y.Words=x.Words<;>simp[h1,h2]
theorem rF_att {cs:List (List Leaf)}{n:Int}:∀(l:List Leaf),(rF cs n l).most≤cs.flatten.length∧(0 < (rF cs n l).most→(rF cs n l).best∈l∧(rF cs n l).best.Number=n):=by
 refine DM.snocInd ⟨zj _,fun h=>absurd h (zbr 0)⟩ fun l x ih=>?_
 ·rw[rF_snoc]
  split
  ·rename_i hx
   unfold DM.rStep
   have hc:DM.cnt Leaf.Words (zet cs n) x.Words≤cs.flatten.length:=by
    exact zR zbC (za2 _ _)
   split
   ·exact⟨hc,fun _=>⟨zbi _ (zC.2 rfl),hx⟩⟩
   ·split
    ·exact⟨ih.1,fun h=>⟨zaj _ (ih.2 h).1,(ih.2 h).2⟩⟩
    ·exact⟨ih.1,fun h=>⟨zaj _ (ih.2 h).1,(ih.2 h).2⟩⟩
  ·exact⟨ih.1,fun h=>⟨zaj _ (ih.2 h).1,(ih.2 h).2⟩⟩
def jPick (cs:List (List Leaf))(n:Int):List Leaf:=if 0 < (rF cs n cs.flatten).most∧(rF cs n cs.flatten).equal=false then [(rF cs n cs.flatten).best] else []
def zep (cs:List (List Leaf))(N:Nat):List Leaf:=(List.range N).flatMap fun (i:Nat)=>jPick cs ((i:Int)+1)
theorem joinL_succ (cs:List (List Leaf))(N:Nat):zep cs (N+1)=zep cs N++jPick cs ((N:Int)+1):=by
 simp[zep,zat]
theorem jPick_len (cs:List (List Leaf))(n:Int):(jPick cs n).length≤1:=by
 unfold jPick;split<;>simp
theorem joinL_len (cs:List (List Leaf)):∀N,(zep cs N).length≤N
 |0=>zf _
 |N+1=>by
  rw[joinL_succ,zw]
  have:=joinL_len cs N
  have:=jPick_len cs ((N:Int)+1)
  omega
def dSF (l:List Leaf):D:=if l=[] then .fl [] else .sl (l.map zcn)
theorem snapR_dSF {lk:Nat→Option Blk}{b m cap k:Nat}{o:List Leaf}(h:lk b=some (.live 2 (o.map zcn)))(hm:m=o.length):snapR lk (k+2) (.ms b 0 m cap)=dSF o:=by
 subst hm
 unfold dSF
 simp only[snapR,h,zQ,ze,zf,if_true,zS]
 rw[zg (by simp)]
 cases o with
 |nil=>rfl
 |cons x r=>
  rw[if_neg (by simp[frK]),if_neg (by simp),zaa]
  exact congrArg D.sl (zI fun x _=>rfl)
def JoinS (s:Shape)(cs:List (List Leaf)):List Leaf × Int:=
 if ze9 s=0 then (if 5 < cs.length then ([],2) else if ckAll s cs=0 then (zep cs (s.Data+s.Checks).toNat,0) else ([],ckAll s cs)) else ([],1)
def eBest (st:DM.RSt Leaf):List D:=if st.most=0 then [wI 0,.nil] else zcn st.best
theorem m_RJoin (s:Shape)(cs:List (List Leaf))(hc:cs.length≤4611686018427387904)(hl:∀l,l∈cs→l.length≤4611686018427387904)(hw:∀l,l∈cs→∀x,x∈l→x.Words.length≤4611686018427387904):
  Maps Tryz.prog 43 [dSh s,.sl (cs.map eLvs)] (.agg [dSF (JoinS s cs).1,wI (JoinS s cs).2]):=by
 refine Maps.vt pok Tryz.f43 (n:=108) (rs:=[.cell 4 34]) rfl rfl rfl rfl rfl rfl fun g=>?_
 have hk:=m_RCheck s
 unfold JoinS
 rcases zcX s with⟨e,h⟩|⟨e,h⟩
 ·rw[e] at hk ⊢
  rw[if_pos rfl]
  by_cases h5:5 < cs.length
  ·rw[if_pos h5]
   repeat (any_goals (first|(apply zcd;(first|refine zbW ?_|refine zb0 ?_|refine zbZ ?_|refine zcf ?_|refine zb2 ?_|(apply zdc;(first|refine zb4 rfl (hk) rfl rfl ?_|refine zb8 ?_))|refine zc0 ?_|refine zco ?_|refine zdz ?_))|(apply zcg;(first|refine zbY rfl ?_|refine zbX rfl ?_|refine zcb rfl rfl ?_|refine zb5 rfl ?_|refine zb7 rfl ?_|refine zb6 rfl rfl (by first|assumption|omega) ?_))|with_reducible (refine kSr ?_)|(with_reducible refine zce ?_;refine kEr rfl ?_)))
   rfl
  ·rw[if_neg h5]
   repeat (any_goals (first|(apply zcd;(first|refine zbW ?_|refine zb0 ?_|refine zbZ ?_|refine zcf ?_|refine zb2 ?_|(apply zdc;(first|refine zb4 rfl (hk) rfl rfl ?_|refine zb8 ?_))|refine zco ?_))|(apply zcg;(first|refine zbY rfl ?_|refine zbX rfl ?_|refine zcb rfl rfl ?_|refine zb3 rfl ?_|refine zb5 rfl ?_|refine zca rfl rfl (by first|assumption|omega) ?_))))
   refine zcl (fun j a H g'=>∃(i:Nat) (e0:Int),j=cs.length-i∧i≤cs.length∧ckAll s cs=ckAll s (cs.drop i)∧a=[(1,.sl (cs.map eLvs)),(2,.mp 0 0 0),(4,.mp 1 0 0),(6,wI i)]∧H=[.live 3 [zcq s],.live 2 [[.nil,wI 0]]]∧g'=g) rfl
    ⟨_,_,_,⟨0,0,rfl,zj _,rfl,rfl,rfl,rfl⟩,fgA⟩ ?_
   rintro j a H g' ⟨i,_,rfl,hi,hck,rfl,rfl,rfl⟩
   by_cases hlt:i < cs.length
   ·have hcl:=m_RCheckLeaves s cs[i] (hl _ (zi hlt)) (hw _ (zi hlt))
    rw[zO hlt,ckAll] at hck
    by_cases hz:zcP s cs[i]=0
    ·rw[if_pos hz] at hck
     rw[hz] at hcl
     repeat (any_goals (first|(apply zcd;(first|refine zbW ?_|refine zb0 ?_|refine zbZ ?_|refine zb2 ?_|refine zb8 ?_))|(apply zcg;(first|refine zbY rfl ?_|refine zbX rfl ?_|refine zcb rfl rfl ?_|refine zb3 rfl ?_|refine zb5 rfl ?_|refine zcu [(0,[]),(0,[]),(0,[]),(0,[]),(0,[]),(0,[]),(0,[])] 1 zcr rfl (by decide +kernel) (by decide +kernel) (by decide +kernel) nrX nrX ?_|refine zb6 rfl rfl (by first|assumption|omega) ?_))|(apply zez;(first|refine zcy nrX ?_|refine zc2 ?_|refine PT.asA ?_|refine zda ?_|refine zcT rfl (hcl) rfl rfl ?_|refine zem ?_))|with_reducible (refine kLn ?_)))
     exact⟨cs.length-(i+1),by omega,_,_,⟨i+1,0,rfl,hlt,hck,rfl,rfl,rfl⟩,fgA⟩
    ·rw[if_neg hz] at hck
     rw[hck,if_neg hz]
     repeat (any_goals (first|(apply zcd;(first|refine zbW ?_|refine zb0 ?_|refine zb2 ?_|refine zb8 ?_|refine zc0 ?_|refine zdz ?_))|(apply zcg;(first|refine zbY rfl ?_|refine zbX rfl ?_|refine zb3 rfl ?_|refine zb5 rfl ?_|refine zb7 rfl ?_|refine zcu [(0,[]),(0,[]),(0,[]),(0,[]),(0,[]),(0,[]),(0,[])] 1 zcr rfl (by decide +kernel) (by decide +kernel) (by decide +kernel) nrX nrX ?_|refine zb6 rfl rfl (by first|assumption|omega) ?_))|(apply zez;(first|refine zcy nrX ?_|refine zc2 ?_|refine PT.asA ?_|refine zda ?_|refine zcT rfl (hcl) rfl rfl ?_|refine zem ?_))|(with_reducible first|refine kSr ?_|refine kBr ?_|refine kLr ?_)|(with_reducible refine zce ?_;refine kEr rfl ?_)))
     rfl
   ·obtain rfl:i=cs.length:=by omega
    rw[List.drop_length,ckAll] at hck
    rw[if_pos hck]
    have hok:=fun l hl=>(lvs_of (ckAll_ok hck l hl)).2
    have hflen:cs.flatten.length≤200:=zR (flat_le (m:=40) fun l hl=>(hok l hl).len) (by omega)
    obtain⟨⟨d1,d2⟩,⟨c1,c2⟩,w1,w2⟩:=h
    obtain⟨N,hN⟩:∃N:Nat,s.Data+s.Checks=N:=zF (by omega)
    rw[hN,zM]
    repeat (any_goals (first|(apply zcd;(first|refine zbW ?_|refine zb0 ?_|refine zbZ ?_|refine zb2 ?_|refine zb8 ?_))|(apply zcg;(first|refine zbY rfl ?_|refine zbX rfl ?_|refine zb3 rfl ?_|refine zci rfl ?_|refine zca rfl rfl (by first|assumption|omega) ?_))))
    refine zdh (i:=7) (s:=2) 2 rfl rfl rfl ?_
    refine zcl (fun j a H g2=>∃(n b m:Nat),j=N-n∧n≤N∧H[0]? = some (.live 3 [zcq s])∧H[1]? = some (.live 2 [[.nil,wI 0]])∧H[b]? = some (.live 2 ((zep cs n).map zcn))∧2≤b∧m=(zep cs n).length∧a=[(1,.sl (cs.map eLvs)),(2,.mp 0 0 0),(4,.mp 1 0 0),(7,.ms b 0 m m),(8,wI ((n:Int)+1))]∧g2=g') rfl
     ⟨_,_,[.live 3 [zcq s],.live 2 [[.nil,wI 0]],.live 2 []],⟨0,2,0,rfl,zj _,rfl,rfl,rfl,zf _,rfl,rfl,rfl⟩,Wk.keep kpX⟩ ?_
    rintro j a H g2 ⟨n,b,m,rfl,hn,hb0,hb1,hb,hb2,hm,rfl,rfl⟩
    have hbl:=zcR hb
    have hjl:=joinL_len cs n
    by_cases hlt:n < N
    ·repeat (any_goals (first|(apply zcd;(first|refine zbW ?_|refine zb0 ?_|refine zbZ ?_|refine zc1 ?_|refine zcm ?_|(apply zea;(first|refine zb9 (f_leqT rfl rfl (by omega)) ?_|refine zb2 ?_))|refine zcI (s:=H.length) rfl (zcL (z:=[wI 0,.nil]) (m:=2) rfl rfl) rfl ?_))|(apply zcg;(first|refine zbY rfl ?_|refine zbX rfl ?_|refine zch rfl rfl ?_|refine zb3 rfl ?_|refine zb5 rfl ?_))))
     refine zcl (fun j a H2 g3=>∃(i nb:Nat),j=cs.length-i∧i≤cs.length∧H2[0]? = some (.live 3 [zcq s])∧H2[1]? = some (.live 2 [[.nil,wI 0]])∧H2[b]? = some (.live 2 ((zep cs n).map zcn))∧H2[nb]? = some (.live 2 [eBest (rF cs ((n:Int)+1) (cs.take i).flatten)])∧2≤nb∧nb≠b∧a=[(1,.sl (cs.map eLvs)),(2,.mp 0 0 0),(4,.mp 1 0 0),(7,.ms b 0 m m),(8,wI ((n:Int)+1)),(9,.mp nb 0 0),(10,wI ((rF cs ((n:Int)+1) (cs.take i).flatten).most:Nat)),(11,wB (rF cs ((n:Int)+1) (cs.take i).flatten).equal),(12,wI i)]∧g3=g2) rfl
      ⟨_,_,H++[.live 2 [[wI 0,.nil]]],⟨0,H.length,rfl,zj _,zcA _ hb0,zcA _ hb1,zcA _ hb,zdO (t:=0) rfl rfl,by omega,by omega,rfl,rfl⟩,Wk.keep kpX⟩ ?_
     clear hb0 hb1 hb hbl
     rintro j a H g3 ⟨i,nb,rfl,hi,hb0,hb1,hb,hnb,hnb2,hnbb,rfl,rfl⟩
     have hbl:=zcR hb
     have hnl:=zcR hnb
     by_cases hlt2:i < cs.length
     ·have hok1:=hok cs[i] (zi hlt2)
      have hlen:=hok1.len
      have hfl:(cs.take (i+1)).flatten=(cs.take i).flatten++cs[i]:=by
       rw[zo hlt2,zbO];simp
      repeat (any_goals (first|(apply zcd;(first|refine zbW ?_|refine zb0 ?_|refine zbZ ?_|refine zb2 ?_|refine zb8 ?_))|(apply zcg;(first|refine zbY rfl ?_|refine zbX rfl ?_|refine zb3 rfl ?_|refine zb5 rfl ?_|refine zb6 rfl rfl (by first|assumption|omega) ?_))))
      refine zcl (fun j a H2 g4=>∃(k:Nat),j=cs[i].length-k∧k≤cs[i].length∧H2[0]? = some (.live 3 [zcq s])∧H2[1]? = some (.live 2 [[.nil,wI 0]])∧H2[b]? = some (.live 2 ((zep cs n).map zcn))∧H2[nb]? = some (.live 2 [eBest (rF cs ((n:Int)+1) ((cs.take i).flatten++cs[i].take k))])∧a=[(1,.sl (cs.map eLvs)),(2,.mp 0 0 0),(4,.mp 1 0 0),(7,.ms b 0 m m),(8,wI ((n:Int)+1)),(9,.mp nb 0 0),(10,wI ((rF cs ((n:Int)+1) ((cs.take i).flatten++cs[i].take k)).most:Nat)),(11,wB (rF cs ((n:Int)+1) ((cs.take i).flatten++cs[i].take k)).equal),(12,wI i),(13,wI k)]∧g4=g3) rfl
       ⟨_,_,H,⟨0,rfl,zj _,hb0,hb1,hb,by rw[List.take_zero,zN];exact hnb,by rw[List.take_zero,zN],rfl⟩,Wk.keep kpX⟩ ?_
      clear hb0 hb1 hb hnb hbl hnl
      rintro j a H g4 ⟨k,rfl,hk,hb0,hb1,hb,hnb,rfl,rfl⟩
      have hbl:=zcR hb
      have hnl:=zcR hnb
      by_cases hlk:k < cs[i].length
      ·have hfs:(cs.take i).flatten++cs[i].take (k+1)=((cs.take i).flatten++cs[i].take k)++[cs[i][k]]:=by
        rw[zo hlk,zT]
       have hsn:=rF_snoc cs ((n:Int)+1) ((cs.take i).flatten++cs[i].take k) cs[i][k]
       have hat:=rF_att (cs:=cs) (n:=(n:Int)+1) ((cs.take i).flatten++cs[i].take k)
       have hxm:cs[i][k]∈cs.flatten:=zaP.2 ⟨_,zi hlt2,zi hlk⟩
       have hxw:=(hok1.wl _ (zi hlk)).1
       have e:rF cs ((n:Int)+1) ((cs.take i).flatten++cs[i].take (k+1))=_:=(congrArg (rF cs ((n:Int)+1)) hfs).trans hsn
       clear hsn hfs
       have hbw:0 < (rF cs ((n:Int)+1) ((cs.take i).flatten++cs[i].take k)).most→(rF cs ((n:Int)+1) ((cs.take i).flatten++cs[i].take k)).best.Words.length≤4611686018427387904:=fun hp=>by
        obtain⟨l,hl1,hl2⟩:=zaP.1 (show (rF cs ((n:Int)+1) ((cs.take i).flatten++cs[i].take k)).best∈cs.flatten from by
         rcases zK.1 (hat.2 hp).1 with hm1|hm1
         ·obtain⟨l,hl1,hl2⟩:=zaP.1 hm1
          exact zaP.2 ⟨l,z9 hl1,hl2⟩
         ·exact zaP.2 ⟨_,zi hlt2,z9 hm1⟩)
        exact hw l hl1 _ hl2
       have hmost:=hat.1
       clear hat
       generalize rF cs ((n:Int)+1) ((cs.take i).flatten++cs[i].take k)=st at e hbw hmost hnb ⊢
       by_cases hx:cs[i][k].Number=(n:Int)+1
       ·have hhas:=m_has cs cs[i][k] (by omega) (fun l hl=>by have:=(hok l hl).len;omega) hw (by omega)
        have hpos:=DM.cnt_pos Leaf.Words (l:=zet cs ((n:Int)+1)) (x:=cs[i][k]) (zar.2 ⟨hxm,decide_eq_true hx⟩)
        have hq1:hasL cs[i][k] cs.flatten≤200:=zR zbC hflen
        rw[if_pos hx] at e
        unfold DM.rStep at e
        rw[←hasL_cnt hx] at e hpos
        generalize hasL cs[i][k] cs.flatten=q at e hpos hhas hq1
        by_cases hlq:st.most < q
        ·rw[if_pos hlq] at e
         obtain⟨c0,c1,hce⟩:∃c0 c1,eBest st=[c0,c1]:=by
          unfold eBest;split<;>exact⟨_,_,rfl⟩
         rw[hce] at hnb
         repeat (any_goals (first|(apply zcd;(first|refine zbW ?_|refine zb0 ?_|refine zbZ ?_|(apply zeS;(first|refine zcf ?_|refine zc1 ?_))|refine zcm ?_|(apply zea;(first|refine zb9 (zeQ rfl rfl hx) ?_|refine zb9 (ze5 rfl rfl (by omega)) ?_|refine zb2 ?_))|(apply zdc;(first|refine zb4 rfl (hhas) rfl rfl ?_|refine zb8 ?_))|refine zcO ?_|refine zdo (zdR rfl hgX rfl rfl rfl rfl rfl (zf _) rfl) rfl ?_|refine zcI (s:=H.length) rfl (zcL (z:=[wI 0,.nil]) (m:=2) rfl rfl) rfl ?_))|(apply zcg;(first|refine zbY rfl ?_|refine zbX rfl ?_|refine zch rfl rfl ?_|refine zcb rfl rfl ?_|refine zb3 rfl ?_|refine zb5 rfl ?_|refine zb6 rfl rfl (by first|assumption|omega) ?_))|with_reducible (refine kLn ?_)))
         exact⟨cs[i].length-(k+1),by omega,_,_,⟨k+1,rfl,hlk,hgX,hgX,hgX,by rw[e];unfold eBest;rw[if_neg (by show ¬q=0;omega)];exact hgX,by rw[e],rfl⟩,Wk.keep kpX⟩
        ·rw[if_neg hlq] at e
         by_cases hqe:q=st.most
         ·have heb:eBest st=zcn st.best:=if_neg (by omega)
          rw[heb] at hnb
          have hs:=m_same cs[i][k].Words st.best.Words (by omega) (hbw (by omega))
          by_cases hws:cs[i][k].Words=st.best.Words
          ·rw[if_neg (fun h=>h.2 hws)] at e
           rw[decide_eq_true hws] at hs
           repeat (any_goals (first|(apply zcd;(first|refine zbW ?_|refine zcS rfl ?_|refine zb0 ?_|refine zbZ ?_|(apply zeS;(first|refine zcf ?_|refine zc1 ?_))|refine zcm ?_|(apply zea;(first|refine zb9 (zeQ rfl rfl hx) ?_|refine zb9 (ze6 rfl rfl (by omega)) ?_|refine zb9 (zeG rfl rfl (by omega)) ?_|refine zb2 ?_))|(apply zdc;(first|refine zb4 rfl (hhas) rfl rfl ?_|refine zb4 rfl (hs) rfl rfl ?_|refine zb8 ?_))|refine zcx ?_|refine zcO ?_|refine zcv ?_|refine RT.stH ?_|refine zcI (s:=H.length) rfl (zcL (z:=[wI 0,.nil]) (m:=2) rfl rfl) rfl ?_))|(apply zcg;(first|refine zbY rfl ?_|refine zbX rfl ?_|refine zcb rfl rfl ?_|refine zb3 rfl ?_|refine zb5 rfl ?_|refine zb6 rfl rfl (by first|assumption|omega) ?_))|with_reducible (refine kLn ?_)))
           exact⟨cs[i].length-(k+1),by omega,_,_,⟨k+1,rfl,hlk,hgX,hgX,hgX,by rw[e,heb];exact hgX,by rw[e],rfl⟩,Wk.keep kpX⟩
          ·rw[if_pos ⟨hqe,hws⟩] at e
           rw[decide_eq_false hws] at hs
           repeat (any_goals (first|(apply zcd;(first|refine zbW ?_|refine zcS rfl ?_|refine zb0 ?_|refine zbZ ?_|(apply zeS;(first|refine zcf ?_|refine zc1 ?_))|refine zcm ?_|(apply zea;(first|refine zb9 (zeQ rfl rfl hx) ?_|refine zb9 (ze6 rfl rfl (by omega)) ?_|refine zb9 (zeG rfl rfl (by omega)) ?_|refine zb2 ?_))|(apply zdc;(first|refine zb4 rfl (hhas) rfl rfl ?_|refine zb4 rfl (hs) rfl rfl ?_|refine zb8 ?_))|refine zcx ?_|refine zcO ?_|refine zcv ?_|refine RT.stH ?_|refine zcI (s:=H.length) rfl (zcL (z:=[wI 0,.nil]) (m:=2) rfl rfl) rfl ?_))|(apply zcg;(first|refine zbY rfl ?_|refine zbX rfl ?_|refine zch rfl rfl ?_|refine zcb rfl rfl ?_|refine zb3 rfl ?_|refine zb5 rfl ?_|refine zb6 rfl rfl (by first|assumption|omega) ?_))|with_reducible (refine kLn ?_)))
           exact⟨cs[i].length-(k+1),by omega,_,_,⟨k+1,rfl,hlk,hgX,hgX,hgX,by rw[e];unfold eBest;rw[if_neg (by show ¬st.most=0;omega)];exact hgX,by rw[e],rfl⟩,Wk.keep kpX⟩
         ·rw[if_neg (fun h=>hqe h.1)] at e
          repeat (any_goals (first|(apply zcd;(first|refine zbW ?_|refine zdI rfl rfl ?_|refine zb0 ?_|refine zbZ ?_|(apply zeS;(first|refine zcf ?_|refine zc1 ?_))|refine zcm ?_|(apply zea;(first|refine zb9 (zeQ rfl rfl hx) ?_|refine zb9 (ze6 rfl rfl (by omega)) ?_|refine zb9 (ze7 rfl rfl (by omega)) ?_|refine zb2 ?_))|(apply zdc;(first|refine zb4 rfl (hhas) rfl rfl ?_|refine zb8 ?_))|refine zcx ?_|refine zcO ?_|refine RT.stH ?_|refine zcI (s:=H.length) rfl (zcL (z:=[wI 0,.nil]) (m:=2) rfl rfl) rfl ?_))|(apply zcg;(first|refine zbY rfl ?_|refine zbX rfl ?_|refine zcb rfl rfl ?_|refine zb3 rfl ?_|refine zb5 rfl ?_|refine zb6 rfl rfl (by first|assumption|omega) ?_))|with_reducible (refine kLn ?_)))
          exact⟨cs[i].length-(k+1),by omega,_,_,⟨k+1,rfl,hlk,hgX,hgX,hgX,by rw[e];exact hgX,by rw[e],rfl⟩,Wk.keep kpX⟩
       ·rw[if_neg hx] at e
        repeat (any_goals (first|(apply zcd;(first|refine zbW ?_|refine zb0 ?_|refine zbZ ?_|(apply zeS;(first|refine zcf ?_|refine zc1 ?_))|refine zcm ?_|(apply zea;(first|refine zb9 (f_neqT rfl rfl hx) ?_|refine zb2 ?_))|refine zb8 ?_|refine zcO ?_|refine RT.stH ?_|refine zcI (s:=H.length) rfl (zcL (z:=[wI 0,.nil]) (m:=2) rfl rfl) rfl ?_))|(apply zcg;(first|refine zbY rfl ?_|refine zbX rfl ?_|refine zch rfl rfl ?_|refine zb3 rfl ?_|refine zb5 rfl ?_|refine zci rfl ?_|refine zb6 rfl rfl (by first|assumption|omega) ?_))|with_reducible (refine kLn ?_)))
        exact⟨cs[i].length-(k+1),by omega,_,_,⟨k+1,rfl,hlk,hgX,hgX,hgX,by rw[e];exact hgX,by rw[e],rfl⟩,Wk.keep kpX⟩
      ·obtain rfl:k=cs[i].length:=by omega
       rw[z0,←hfl]
       rw[z0,←hfl] at hnb
       repeat (any_goals (first|(apply zcd;(first|refine zbW ?_|refine zb0 ?_|refine zbZ ?_|refine zcf ?_|refine zb2 ?_|refine zb8 ?_|refine zcO ?_))|(apply zcg;(first|refine zbY rfl ?_|refine zbX rfl ?_|refine zci rfl ?_|refine zca rfl rfl (by first|assumption|omega) ?_))|with_reducible (refine kLn ?_)))
       exact⟨cs.length-(i+1),by omega,_,_,⟨i+1,nb,rfl,hlt2,hb0,hb1,hb,hnb,hnb2,hnbb,rfl,rfl⟩,Wk.keep kpX⟩
     ·obtain rfl:i=cs.length:=by omega
      rw[z0] at hnb ⊢
      have hat:=rF_att (cs:=cs) (n:=(n:Int)+1) cs.flatten
      have hjs:=joinL_succ cs n
      unfold jPick at hjs
      generalize rF cs ((n:Int)+1) cs.flatten=st at hnb hat hjs ⊢
      by_cases hp:0 < st.most
      ·have heb:eBest st=zcn st.best:=if_neg (by omega)
       rw[heb] at hnb
       cases he:st.equal with
       |false=>
        rw[if_pos ⟨hp,he⟩] at hjs
        repeat (any_goals (first|(apply zcd;(first|refine zbW ?_|refine zcS rfl ?_|refine zb0 ?_|refine zbZ ?_|refine zc1 ?_|(apply zea;(first|refine zb9 (ze5 rfl rfl (by omega)) ?_|refine zb2 ?_))|(apply zdc;(first|refine zeH (s:=H.length+1) (by simp) (zd1 (f:=zcn) (o:=zep cs n) (v:=[st.best]) (mm:=m+1) (by':=32) rfl rfl hgX (zg (by rw[ze];omega)) (by rw[ze];omega) hgX hm rfl (by rw[hm];rfl) rfl (by decide) rfl rfl (fun _=>⟨rfl,rfl⟩) (by simp;omega) (by simp;omega)) (ap2 hbl _ _) ?_|refine zb8 ?_))|refine zcx ?_|refine zcv ?_|refine zcI (s:=H.length) rfl (f_bslA1 rfl rfl rfl rfl rfl rfl) rfl ?_))|(apply zcg;(first|refine zbY rfl ?_|refine zbX rfl ?_|refine zch rfl rfl ?_|refine zci rfl ?_|refine zca rfl rfl (by first|assumption|omega) ?_))|with_reducible (refine kLn ?_)))
        exact⟨N-(n+1),by omega,_,_,⟨n+1,H.length+1,m+1,rfl,hlt,hgX,hgX,by rw[hjs];exact zdO (t:=1) (by simp) rfl,by omega,by rw[hjs,zw,hm];rfl,rfl,rfl⟩,Wk.keep kpX⟩
       |true=>
        rw[if_neg (fun h=>by rw[he] at h;exact zbh h.2.symm),zN] at hjs
        repeat (any_goals (first|(apply zcd;(first|refine zbW ?_|refine zcS rfl ?_|refine zb0 ?_|refine zbZ ?_|(apply zea;(first|refine zb9 (ze5 rfl rfl (by omega)) ?_|refine zb2 ?_))|refine zb8 ?_|refine zcx ?_|refine zcv ?_))|(apply zcg;(first|refine zbY rfl ?_|refine zbX rfl ?_|refine zcb rfl rfl ?_|refine zb5 rfl ?_|refine zci rfl ?_|refine zca rfl rfl (by first|assumption|omega) ?_))|with_reducible (refine kLn ?_)))
        exact⟨N-(n+1),by omega,_,_,⟨n+1,b,m,rfl,hlt,hb0,hb1,by rw[hjs];exact hb,hb2,by rw[hjs];exact hm,rfl,rfl⟩,Wk.keep kpX⟩
      ·rw[if_neg (fun h=>hp h.1),zN] at hjs
       repeat (any_goals (first|(apply zcd;(first|refine zbW ?_|refine zdI rfl rfl ?_|refine zb0 ?_|refine zbZ ?_|(apply zea;(first|refine zb9 (ze6 rfl rfl (by omega)) ?_|refine zb2 ?_))|refine zb8 ?_|refine zcx ?_))|(apply zcg;(first|refine zbY rfl ?_|refine zbX rfl ?_|refine zcb rfl rfl ?_|refine zb5 rfl ?_|refine zci rfl ?_|refine zca rfl rfl (by first|assumption|omega) ?_))|with_reducible (refine kLn ?_)))
       exact⟨N-(n+1),by omega,_,_,⟨n+1,b,m,rfl,hlt,hb0,hb1,by rw[hjs];exact hb,hb2,by rw[hjs];exact hm,rfl,rfl⟩,Wk.keep kpX⟩
    ·obtain rfl:n=N:=by omega
     repeat (any_goals (first|(apply zcd;(first|refine zbW ?_|refine zb0 ?_|refine zc1 ?_|refine zcm ?_|(apply zea;(first|refine zb9 (f_leqF rfl rfl (by omega)) ?_|refine zb2 ?_))|refine zdo (zdR rfl hb1 rfl rfl rfl rfl rfl (by decide) rfl) rfl ?_|refine zb9 (zdm (d:=.agg [.ms b 0 m m,wI 0]) rfl) ?_))|(apply zcg;(first|refine zbY rfl ?_|refine zbX rfl ?_|refine zcb rfl rfl ?_|refine zci rfl ?_|refine zb7 rfl ?_))))
     refine kEr (resA_cell1 (sz:=2) (e:=[.ms b 0 m m,wI 0]) rfl (zp (zcR hb1)) rfl rfl rfl) ?_
     exact congrArg (fun x=>D.agg [x,wI 0]) (snapR_dSF (k:=2) (zdv hb (by omega)) hm)
 ·rw[e] at hk ⊢
  rw[if_neg (by decide)]
  repeat (any_goals (first|(apply zcd;(first|refine zbW ?_|refine zb0 ?_|refine zbZ ?_|refine zcf ?_|refine zb2 ?_|refine zb4 rfl (hk) rfl rfl ?_|refine zc0 ?_|refine zco ?_|refine zdz ?_))|(apply zcg;(first|refine zbY rfl ?_|refine zbX rfl ?_|refine zch rfl rfl ?_|refine zb7 rfl ?_))|with_reducible (refine kSr ?_)|(with_reducible refine zce ?_;refine kEr rfl ?_)))
  rfl
end Go.DL
/- Data compared. -/
namespace Go.DL
open Go.Proofs Go
theorem m_same1 (a b:List Int)(hl:a.length≤4611686018427387904)(hl':b.length≤4611686018427387904):Maps Tryz.prog 138 [.sl (a.map eI),.sl (b.map eI)] (wB (decide (a=b))):=by
 refine Maps.vt pok Tryz.f138 (n:=8) (rs:=[.tmp 4]) rfl rfl rfl rfl rfl rfl fun g=>?_
 repeat (any_goals (first|(apply zcd;(first|refine zbW ?_|refine zb0 ?_|refine zbZ ?_|refine zb4 rfl (m_equal a b hl hl') rfl rfl ?_))|(apply zcg;(first|refine zbY rfl ?_|refine zbX rfl ?_|refine zb7 rfl ?_))|(with_reducible refine zce ?_;refine kEr rfl ?_)))
 rfl
theorem m_eqf (a b:List (List Int))(hl:a.length≤4611686018427387904)(hl':b.length≤4611686018427387904)(ha:∀x,x∈a→x.length≤4611686018427387904)(hb:∀x,x∈b→x.length≤4611686018427387904):Maps Tryz.prog 137 [.sl (a.map zcU),.sl (b.map zcU),.fn (.func 138) [] []] (wB (decide (a=b))):=by
 refine Maps.vt pok Tryz.f137 (n:=32) (rs:=[.tmp 6]) rfl rfl rfl rfl rfl rfl fun g=>?_
 by_cases he:a.length=b.length
 ·repeat (any_goals (first|(apply zcd;(first|refine zbW ?_|refine zb0 ?_|refine zbZ ?_|refine zb2 ?_|refine zb8 ?_))|(apply zcg;(first|refine zbY rfl ?_|refine zbX rfl ?_|refine zb3 rfl ?_|refine zb5 rfl ?_|refine zca rfl rfl (by first|assumption|omega) ?_))))
  refine zcl (fun j al H g'=>∃k:Nat,j=a.length-k∧k≤a.length∧a.take k=b.take k∧al=[(1,.sl (b.map zcU)),(2,.fn (.func 138) [] []),(15,.sl (a.map zcU)),(16,wI a.length),(17,wI k)]∧H=[]∧g'=g) rfl
   ⟨_,_,_,⟨0,rfl,zj _,rfl,rfl,rfl,rfl⟩,fgA⟩ ?_
  rintro j al H g' ⟨k,rfl,hk,hn,rfl,rfl,rfl⟩
  by_cases hlt:k < a.length
  ·have hlt2:k < b.length:=by omega
   have hs:=m_same1 a[k] b[k] (ha _ (zi hlt)) (hb _ (zi hlt2))
   by_cases hc:a[k]=b[k]
   ·rw[decide_eq_true hc] at hs
    repeat (any_goals (first|(apply zcd;(first|refine zbW ?_|refine zb0 ?_|refine zbZ ?_|refine zcf ?_|refine zb2 ?_|refine zb4 rfl (hs) rfl rfl ?_|refine zcO ?_|refine zcv ?_))|(apply zcg;(first|refine zbY rfl ?_|refine zbX rfl ?_|refine zcb rfl rfl ?_|refine zb3 rfl ?_|refine zb5 rfl ?_|refine zb6 rfl rfl (by first|assumption|omega) ?_))|with_reducible (refine kLn ?_)))
    exact⟨a.length-(k+1),by omega,_,_,⟨k+1,rfl,hlt,by rw[zo hlt,zo hlt2,hn,hc],rfl,rfl,rfl⟩,fgA⟩
   ·rw[decide_eq_false hc] at hs
    repeat (any_goals (first|(apply zcd;(first|refine zbW ?_|refine zb0 ?_|refine zbZ ?_|refine zcf ?_|refine zb2 ?_|refine zb4 rfl (hs) rfl rfl ?_|refine zcO ?_|refine zcv ?_))|(apply zcg;(first|refine zbY rfl ?_|refine zbX rfl ?_|refine zch rfl rfl ?_|refine zb3 rfl ?_|refine zb5 rfl ?_|refine zb7 rfl ?_|refine zb6 rfl rfl (by first|assumption|omega) ?_))|(with_reducible first|refine kSr ?_|refine kBr ?_|refine kLr ?_)|(with_reducible refine zce ?_;refine kEr rfl ?_)))
    have:a≠b:=fun h=>hc (by subst h;rfl)
    rw[decide_eq_false this];rfl
  ·repeat (any_goals (first|(apply zcd;(first|refine zbW ?_|refine zbZ ?_|refine zb2 ?_))|(apply zcg;(first|refine zbY rfl ?_|refine zbX rfl ?_|refine zci rfl ?_|refine zb7 rfl ?_|refine zca rfl rfl (by first|assumption|omega) ?_))|(with_reducible refine zce ?_;refine kEr rfl ?_)))
   rw[zg (by omega),zg (by omega)] at hn
   rw[decide_eq_true hn];rfl
 ·repeat (any_goals (first|(apply zcd;(first|refine zbW ?_|refine zb0 ?_|refine zbZ ?_|refine zb2 ?_|refine zb8 ?_))|(apply zcg;(first|refine zbY rfl ?_|refine zbX rfl ?_|refine zb7 rfl ?_|refine zb6 rfl rfl (by first|assumption|omega) ?_))|with_reducible (refine kSr ?_)|(with_reducible refine zce ?_;refine kEr rfl ?_)))
  have:a≠b:=fun h=>he (by rw[h])
  rw[decide_eq_false this];rfl
theorem m_sameData (a b:List (List Int))(hl:a.length≤4611686018427387904)(hl':b.length≤4611686018427387904)(ha:∀x,x∈a→x.length≤4611686018427387904)(hb:∀x,x∈b→x.length≤4611686018427387904):Maps Tryz.prog 85 [.sl (a.map zcU),.sl (b.map zcU)] (wB (decide (a=b))):=by
 refine Maps.vt pok Tryz.f85 (n:=8) (rs:=[.tmp 4]) rfl rfl rfl rfl rfl rfl fun g=>?_
 repeat (any_goals (first|(apply zcd;(first|refine zbW ?_|refine zb0 ?_|refine zbZ ?_|refine zb4 rfl (m_eqf a b hl hl' ha hb) rfl rfl ?_))|(apply zcg;(first|refine zbY rfl ?_|refine zbX rfl ?_|refine zb7 rfl ?_))|(with_reducible refine zce ?_;refine kEr rfl ?_)))
 rfl
theorem m_sameRowsG (a b:List (List Int))(hl:a.length≤4611686018427387904)(hl':b.length≤4611686018427387904)(ha:∀x,x∈a→x.length≤4611686018427387904)(hb:∀x,x∈b→x.length≤4611686018427387904):Maps Tryz.prog 29 [.sl (a.map zcU),.sl (b.map zcU)] (wB (decide (a=b))):=by
 refine Maps.vt pok Tryz.f29 (n:=27) (rs:=[.tmp 4]) rfl rfl rfl rfl rfl rfl fun g=>?_
 by_cases he:a.length=b.length
 ·repeat (any_goals (first|(apply zcd;(first|refine zbW ?_|refine zb0 ?_|refine zbZ ?_|refine zb9 (zeQ rfl rfl (by omega)) ?_|refine zb8 ?_))|(apply zcg;(first|refine zbY rfl ?_|refine zbX rfl ?_|refine zcb rfl rfl ?_|refine zb3 rfl ?_|refine zb5 rfl ?_))))
  refine zcl (fun j al H g'=>∃k:Nat,j=a.length-k∧k≤a.length∧a.take k=b.take k∧al=[(0,.sl (a.map zcU)),(1,.sl (b.map zcU)),(5,wI k)]∧H=[]∧g'=g) rfl
   ⟨_,_,_,⟨0,rfl,zj _,rfl,rfl,rfl,rfl⟩,fgA⟩ ?_
  rintro j al H g' ⟨k,rfl,hk,hn,rfl,rfl,rfl⟩
  by_cases hlt:k < a.length
  ·have hlt2:k < b.length:=by omega
   have hs:=m_same a[k] b[k] (ha _ (zi hlt)) (hb _ (zi hlt2))
   by_cases hc:a[k]=b[k]
   ·rw[decide_eq_true hc] at hs
    repeat (any_goals (first|(apply zcd;(first|refine zbW ?_|refine zb0 ?_|refine zbZ ?_|refine zb2 ?_|refine zb8 ?_))|(apply zcg;(first|refine zbY rfl ?_|refine zbX rfl ?_|refine zcb rfl rfl ?_|refine zb3 rfl ?_|refine zb5 rfl ?_|refine zcu [(0,[]),(0,[]),(0,[]),(0,[]),(0,[]),(0,[]),(0,[]),(0,[]),(0,[]),(0,[])] 1 zcr rfl (by decide +kernel) (by decide +kernel) (by decide +kernel) nrX nrX ?_|refine zb6 rfl rfl (by first|assumption|omega) ?_))|(apply zez;(first|refine zcy nrX ?_|refine zc2 ?_|refine zda ?_|refine zcT rfl (hs) rfl rfl ?_|refine zem ?_|refine PT.unA ?_))|with_reducible (refine kLn ?_)))
    exact⟨a.length-(k+1),by omega,_,_,⟨k+1,rfl,hlt,by rw[zo hlt,zo hlt2,hn,hc],rfl,rfl,rfl⟩,fgA⟩
   ·rw[decide_eq_false hc] at hs
    repeat (any_goals (first|(apply zcd;(first|refine zbW ?_|refine zb0 ?_|refine zbZ ?_|refine zb2 ?_|refine zb8 ?_))|(apply zcg;(first|refine zbY rfl ?_|refine zbX rfl ?_|refine zch rfl rfl ?_|refine zb3 rfl ?_|refine zb5 rfl ?_|refine zb7 rfl ?_|refine zcu [(0,[]),(0,[]),(0,[]),(0,[]),(0,[]),(0,[]),(0,[]),(0,[]),(0,[]),(0,[])] 1 zcr rfl (by decide +kernel) (by decide +kernel) (by decide +kernel) nrX nrX ?_|refine zb6 rfl rfl (by first|assumption|omega) ?_))|(apply zez;(first|refine zcy nrX ?_|refine zc2 ?_|refine zda ?_|refine zcT rfl (hs) rfl rfl ?_|refine zem ?_|refine PT.unA ?_))|(with_reducible first|refine kSr ?_|refine kBr ?_|refine kLr ?_)|(with_reducible refine zce ?_;refine kEr rfl ?_)))
    have:a≠b:=fun h=>hc (by subst h;rfl)
    rw[decide_eq_false this];rfl
  ·repeat (any_goals (first|(apply zcd;(first|refine zbW ?_|refine zb0 ?_|refine zbZ ?_|refine zb2 ?_|refine zb8 ?_))|(apply zcg;(first|refine zbY rfl ?_|refine zbX rfl ?_|refine zci rfl ?_|refine zb7 rfl ?_|refine zca rfl rfl (by first|assumption|omega) ?_))|(with_reducible refine zce ?_;refine kEr rfl ?_)))
   rw[zg (by omega),zg (by omega)] at hn
   rw[decide_eq_true hn];rfl
 ·repeat (any_goals (first|(apply zcd;(first|refine zbW ?_|refine zb0 ?_|refine zbZ ?_|refine zb9 (f_neqT rfl rfl (by omega)) ?_|refine zb8 ?_))|(apply zcg;(first|refine zbY rfl ?_|refine zbX rfl ?_|refine zch rfl rfl ?_|refine zb7 rfl ?_))|with_reducible (refine kSr ?_)|(with_reducible refine zce ?_;refine kEr rfl ?_)))
  have:a≠b:=fun h=>he (by rw[h])
  rw[decide_eq_false this];rfl
end Go.DL
/- The leaf of which there are most, in the program. -/
namespace Go.DL
open Go.Proofs Go
theorem m_most1 (x y:Leaf)(hx:x.Words.length≤4611686018427387904)(hy:y.Words.length≤4611686018427387904):Maps Tryz.prog 173 ([.agg (zcn y)]++[.rp (zcn x)]) (wB (decide (y.Words=x.Words))):=by
 refine Maps.vt pok Tryz.f173 (n:=9) (rs:=[.tmp 3]) rfl rfl rfl rfl rfl rfl fun g=>?_
 repeat (any_goals (first|(apply zcd;(first|refine zbW ?_|refine zbZ ?_|refine zcf ?_|refine zcm ?_|refine zb4 rfl (m_equal y.Words x.Words hy hx) rfl rfl ?_|refine zco ?_))|(apply zcg;(first|refine zbY rfl ?_|refine zbX rfl ?_|refine zb7 rfl ?_))|(with_reducible refine zce ?_;refine kEr rfl ?_)))
 rfl
def eOut (st:DM.MSt Leaf):List D:=if st.first=0 then [wI 0,.nil] else zcn st.out
abbrev mL (l:List Leaf)(k:Nat):DM.MSt Leaf:=DM.mS Leaf.Words ⟨0,[]⟩ l k
theorem m_most0:Maps Tryz.prog 151 [.sl []] (.tup [.agg [wI 0,.fl []],wB false]):=by
 refine Maps.vt pok Tryz.f151 (n:=52) (rs:=[.cell 2 80,.tmp 3]) rfl rfl rfl rfl rfl rfl fun g=>?_
 repeat (any_goals (first|(apply zcd;(first|refine zbW ?_|refine zb0 ?_|refine zbZ ?_|refine zb9 (f_lenM (f:=zcn) (l:=[]) rfl rfl) ?_|refine zco ?_))|(apply zcg;(first|refine zbY rfl ?_|refine zbX rfl ?_|refine zb3 rfl ?_))))
 refine zcl (fun j a H g'=>j=0∧a=[(2,.mp 0 0 0),(4,.mp 1 0 0),(5,wI 0),(6,wI 0),(14,wI 0),(15,wI 0)]∧H=[.live 2 [[wI 0,.nil]],.live 2 [[wI 0,.nil]]]∧g'=g) rfl ⟨_,_,_,⟨rfl,rfl,rfl,rfl⟩,Wk.keep kpX⟩ ?_
 rintro j a H g' ⟨rfl,rfl,rfl,rfl⟩
 repeat (any_goals (first|(apply zcd;(first|refine zbW ?_|refine zb0 ?_|refine zbZ ?_|refine zcf ?_|refine zb2 ?_|refine zc0 ?_))|(apply zcg;(first|refine zbY rfl ?_|refine zbX rfl ?_|refine zcb rfl rfl ?_|refine zci rfl ?_|refine zb7 rfl ?_))|(with_reducible refine zce ?_;refine kEr rfl ?_)))
 rfl
theorem cntL_succ {l:List Leaf}{w:List Int}{k:Nat}(h:k < l.length):(l.take (k+1)).countP (fun y=>decide (y.Words=w))=(l.take k).countP (fun y=>decide (y.Words=w))+if l[k].Words=w then 1 else 0:=by
 rw[zo h,List.countP_append,List.countP_singleton]
 simp
theorem tX17 {p:Prop}(h:p:=by repeat (first|assumption|exact Pre.refl _|refine Pre.app ?_ _|refine Pre.set ?_ (by first|assumption|omega) _)):p:=h
theorem c_most {H:List Blk}{b m:Nat}{l:List Leaf}(hb:H[b]? = some (.live 2 (l.map zcn)))(hm:m=l.length)(hl:l.length≤1000)(hw:∀x,x∈l→x.Words.length≤4611686018427387904):
  CallSp Tryz.prog 151 [.ms b 0 m m] H fun d H'=>d=.tup [.agg (eOut (mL l m)),wB (decide ((mL l m).second < (mL l m).first))]∧Pre H H':=by
 refine CallSp.vt pok Tryz.f151 (n:=52) (rs:=[.cell 2 80,.tmp 3]) rfl rfl rfl rfl rfl rfl rfl fun g=>?_
 have hbl:=zcR hb
 repeat (any_goals (first|(apply zcd;(first|refine zbW ?_|refine zb0 ?_|refine zbZ ?_|refine zb8 ?_|(apply w_al;(first|refine zcI (s:=H.length) rfl (zcL (z:=[wI 0,.nil]) (m:=2) rfl rfl) rfl ?_|refine zcI (s:=H.length+1) (by simp) (zcL (z:=[wI 0,.nil]) (m:=2) rfl rfl) rfl ?_))))|(apply zcg;(first|refine zbY rfl ?_|refine zbX rfl ?_|refine zb3 rfl ?_))))
 refine zcl (fun j a H2 g'=>∃(i:Nat),j=m-i∧i≤m∧Pre H H2∧H2[H.length]? = some (.live 2 [[wI 0,.nil]])∧H2[H.length+1]? = some (.live 2 [eOut (mL l i)])∧a=[(0,.ms b 0 m m),(2,.mp H.length 0 0),(4,.mp (H.length+1) 0 0),(5,wI ((mL l i).first:Nat)),(6,wI ((mL l i).second:Nat)),(13,.ms b 0 m m),(14,wI m),(15,wI i)]∧g'=g) rfl
  ⟨_,_,(H++[.live 2 [[wI 0,.nil]]])++[.live 2 [[wI 0,.nil]]],⟨0,rfl,zj _,tX17,hgX,zdO (t:=0) (by simp) rfl,rfl,rfl⟩,Wk.keep kpX⟩ ?_
 rintro j a H2 g' ⟨i,rfl,hi,hP,h2,h4,rfl,rfl⟩
 have hPl:=hP.len
 have hlt4:=zcR h4
 have hbb:=hP.get hb
 by_cases hlt:i < m
 ·obtain⟨x,hx⟩:∃x,l[i]? = some x:=⟨_,zb (by omega)⟩
  have hxg:l[i]=x:=(za.1 hx).2
  have hxw:=hw x (zm hx)
  have hs:mL l (i+1)=DM.mStep Leaf.Words (DM.cnt Leaf.Words l) (l.take i) (mL l i) l[i]:=DM.mS_succ Leaf.Words (z:=⟨0,[]⟩) (l:=l) (k:=i) (by omega)
  rw[hxg] at hs
  have hc:=m_has_Leaf (p:=fun y=>decide (y.Words=x.Words)) (F:=173) (cs:=[.rp (zcn x)]) (l:=l.take i) (by simp;omega) rfl fun y hy=>m_most1 x y hxw (hw y (z9 hy))
  have hsn:([.ms b 0 i m,.fn (.func 173) [] [.mp H2.length 0 0]]:List D).map (snap (fun b=>((H2++[Blk.live 2 [[wI 0,.nil]]]).set H2.length (Blk.live 2 [zcn x]))[b]?) 5)=[.sl ((l.take i).map zcn),.fn (.func 173) [] [.rp (zcn x)]]:=by
   have q1:((H2++[Blk.live 2 [[wI 0,.nil]]]).set H2.length (Blk.live 2 [zcn x]))[b]? = some (.live 2 (l.map zcn)):=hgX
   have q2:((H2++[Blk.live 2 [[wI 0,.nil]]]).set H2.length (Blk.live 2 [zcn x]))[H2.length]? = some (.live 2 [zcn x]):=hgX
   generalize (H2++[Blk.live 2 [[wI 0,.nil]]]).set H2.length (Blk.live 2 [zcn x])=H3 at q1 q2
   have e1:=snap_take (f:=zcn) (lk:=fun b=>H3[b]?) (i:=i) (cap:=m) (k:=4) q1 (by omega) fun x=>rfl
   have e2:=snap_mp (lk:=fun b=>H3[b]?) (i:=0) (f:=0) (k:=3) (e:=zcn x) (e':=zcn x) q2 rfl rfl
   rw[zy,e1,zy,z8]
   exact congrArg (fun q=>[D.sl ((l.take i).map zcn),D.fn (.func 173) [] [q]]) e2
  cases hany:(l.take i).any (fun y=>decide (y.Words=x.Words)) with
  |true=>
   rw[hany] at hc
   unfold DM.mStep at hs
   rw[if_pos hany] at hs
   repeat (any_goals (first|(apply zcd;(first|refine zbW ?_|refine zb0 ?_|refine zbZ ?_|refine zb9 (zev (e:=zcn x) rfl hgX (map_get hx) rfl rfl rfl) ?_|refine zb2 ?_|(refine zcw ?_;refine zb4 rfl hc hsn rfl ?_)|refine RT.ixH ?_|refine RT.stH ?_|refine zcI (s:=H2.length) rfl (zcL (z:=[wI 0,.nil]) (m:=2) rfl rfl) rfl ?_|refine zb9 (f_slHiO (hi:=i) rfl rfl rfl (by omega) rfl hgX) ?_|refine zb9 (f_mkf (ds:=[]) (es:=[.mp H2.length 0 0]) rfl rfl) ?_))|(apply zcg;(first|refine zbY rfl ?_|refine zbX rfl ?_|refine zch rfl rfl ?_|refine zb3 rfl ?_|refine zb5 rfl ?_|refine zci rfl ?_|refine zb6 rfl rfl (by first|assumption|omega) ?_))|with_reducible (refine kLn ?_)))
   exact⟨m-(i+1),by omega,_,_,⟨i+1,rfl,hlt,tX17,hgX,by rw[hs];exact hgX,by rw[hs],rfl⟩,Wk.keep kpX⟩
  |false=>
   rw[hany] at hc
   unfold DM.mStep at hs
   rw[if_neg (by rw[hany];exact zbh)] at hs
   repeat (any_goals (first|(apply zcd;(first|refine zbW ?_|refine zb0 ?_|refine zbZ ?_|refine zb9 (zev (e:=zcn x) rfl hgX (map_get hx) rfl rfl rfl) ?_|refine zb2 ?_|(apply zdc;(first|(refine zcw ?_;refine zb4 rfl hc hsn rfl ?_)|refine zb8 ?_))|refine RT.ixH ?_|refine RT.stH ?_|refine zcI (s:=H2.length) rfl (zcL (z:=[wI 0,.nil]) (m:=2) rfl rfl) rfl ?_|refine zb9 (f_slHiO (hi:=i) rfl rfl rfl (by omega) rfl hgX) ?_|refine zb9 (f_mkf (ds:=[]) (es:=[.mp H2.length 0 0]) rfl rfl) ?_))|(apply zcg;(first|refine zbY rfl ?_|refine zbX rfl ?_|refine zcb rfl rfl ?_|refine zb3 rfl ?_|refine zb5 rfl ?_|refine zb6 rfl rfl (by first|assumption|omega) ?_))))
   refine zcl (fun j a H3 g2=>∃(k:Nat),j=m-k∧k≤m∧Pre H H3∧H3[H.length]? = some (.live 2 [[wI 0,.nil]])∧H3[H.length+1]? = some (.live 2 [eOut (mL l i)])∧H3[H2.length]? = some (.live 2 [zcn x])∧a=[(0,.ms b 0 m m),(2,.mp H.length 0 0),(4,.mp (H.length+1) 0 0),(5,wI ((mL l i).first:Nat)),(6,wI ((mL l i).second:Nat)),(8,.mp H2.length 0 0),(9,.fn (.func 173) [] [.mp H2.length 0 0]),(10,wI ((l.take k).countP (fun y=>decide (y.Words=x.Words)):Nat)),(13,.ms b 0 m m),(14,wI m),(15,wI i),(26,.ms b 0 m m),(27,wI m),(28,wI k)]∧g2=g') rfl
    ⟨_,_,(H2++[Blk.live 2 [[wI 0,.nil]]]).set H2.length (Blk.live 2 [zcn x]),⟨0,rfl,zj _,tX17,hgX,hgX,hgX,rfl,rfl⟩,Wk.keep kpX⟩ ?_
   rintro j a H3 g2 ⟨k,rfl,hk,hP3,h2',h4',h8,rfl,rfl⟩
   have hP3l:=hP3.len
   have hlt4':=zcR h4'
   have hlt8:=zcR h8
   have hbb3:=hP3.get hb
   have hcb:(l.take k).countP (fun y=>decide (y.Words=x.Words))≤1000:=zR zbC (by rw[zA];omega)
   by_cases hlk:k < m
   ·obtain⟨y,hy⟩:∃y,l[k]? = some y:=⟨_,zb (by omega)⟩
    have hyg:l[k]=y:=(za.1 hy).2
    have hcs:=cntL_succ (l:=l) (w:=x.Words) (k:=k) (by omega)
    rw[hyg] at hcs
    have hm1:=m_most1 x y hxw (hw y (zm hy))
    have hsn2:([.agg (zcn y),.mp H2.length 0 0]:List D).map (snap (fun b=>((H3++[Blk.live 2 [[wI 0,.nil]]]).set H3.length (Blk.live 2 [zcn y]))[b]?) 5)=[.agg (zcn y),.rp (zcn x)]:=by
     have q2:((H3++[Blk.live 2 [[wI 0,.nil]]]).set H3.length (Blk.live 2 [zcn y]))[H2.length]? = some (.live 2 [zcn x]):=hgX
     generalize (H3++[Blk.live 2 [[wI 0,.nil]]]).set H3.length (Blk.live 2 [zcn y])=H4 at q2
     have e2:=snap_mp (lk:=fun b=>H4[b]?) (i:=0) (f:=0) (k:=4) (e:=zcn x) (e':=zcn x) q2 rfl rfl
     exact congrArg (fun q=>[D.agg (zcn y),q]) e2
    by_cases hyx:y.Words=x.Words
    ·rw[decide_eq_true hyx] at hm1
     rw[if_pos hyx] at hcs
     repeat (any_goals (first|(apply zcd;(first|refine zbW ?_|refine zb0 ?_|refine zbZ ?_|(apply zeS;(first|refine zb9 (zev (e:=zcn y) rfl hgX (map_get hy) rfl rfl rfl) ?_|refine zc1 ?_))|refine zb2 ?_|(refine zcw ?_;refine zb4 rfl hm1 hsn2 rfl ?_)|refine RT.ixH ?_|refine RT.stH ?_|refine zcI (s:=H3.length) rfl (zcL (z:=[wI 0,.nil]) (m:=2) rfl rfl) rfl ?_))|(apply zcg;(first|refine zbY rfl ?_|refine zbX rfl ?_|refine zch rfl rfl ?_|refine zb3 rfl ?_|refine zb5 rfl ?_|refine zb6 rfl rfl (by first|assumption|omega) ?_))|with_reducible (refine kLn ?_)))
     exact⟨m-(k+1),by omega,_,_,⟨k+1,rfl,hlk,tX17,hgX,hgX,hgX,by rw[hcs],rfl⟩,Wk.keep kpX⟩
    ·rw[decide_eq_false hyx] at hm1
     rw[if_neg hyx] at hcs
     repeat (any_goals (first|(apply zcd;(first|refine zbW ?_|refine zb0 ?_|(apply zeS;(first|refine zb9 (zev (e:=zcn y) rfl hgX (map_get hy) rfl rfl rfl) ?_|refine zc1 ?_))|refine zb2 ?_|(refine zcw ?_;refine zb4 rfl hm1 hsn2 rfl ?_)|refine RT.ixH ?_|refine RT.stH ?_|refine zcI (s:=H3.length) rfl (zcL (z:=[wI 0,.nil]) (m:=2) rfl rfl) rfl ?_))|(apply zcg;(first|refine zbY rfl ?_|refine zbX rfl ?_|refine zcb rfl rfl ?_|refine zb3 rfl ?_|refine zb5 rfl ?_|refine zb6 rfl rfl (by first|assumption|omega) ?_))|with_reducible (refine kLn ?_)))
     exact⟨m-(k+1),by omega,_,_,⟨k+1,rfl,hlk,tX17,hgX,hgX,hgX,by rw[hcs],rfl⟩,Wk.keep kpX⟩
   ·obtain rfl:k=l.length:=by omega
    rw[z0] at hcb ⊢
    have hcn:DM.cnt Leaf.Words l x.Words=l.countP (fun y=>decide (y.Words=x.Words)):=rfl
    try rw[hxg] at hs
    rw[hcn] at hs
    generalize l.countP (fun y=>decide (y.Words=x.Words))=q at hs hcb ⊢
    by_cases hq:(mL l i).first < q
    ·rw[if_pos hq] at hs
     generalize mL l i=st at hs h4' hq ⊢
     obtain⟨c0,c1,hce⟩:∃c0 c1,eOut st=[c0,c1]:=by
      unfold eOut;split<;>exact⟨_,_,rfl⟩
     rw[hce] at h4'
     repeat (any_goals (first|(apply zcd;(first|refine zbW ?_|refine zb0 ?_|refine zbZ ?_|refine zc1 ?_|(apply zea;(first|refine zb9 (ze5 rfl rfl (by omega)) ?_|refine zb2 ?_))|refine RT.stH ?_))|(apply zcg;(first|refine zbY rfl ?_|refine zbX rfl ?_|refine zch rfl rfl ?_|refine zci rfl ?_|refine zca rfl rfl (by first|assumption|omega) ?_))|with_reducible (refine kLn ?_)))
     exact⟨m-(i+1),by omega,_,_,⟨i+1,rfl,hlt,tX17,hgX,by rw[hs];unfold eOut;rw[if_neg (by show ¬q=0;omega)];exact hgX,by rw[hs],rfl⟩,Wk.keep kpX⟩
    ·rw[if_neg hq] at hs
     generalize mL l i=st at hs h4' hq ⊢
     repeat (any_goals (first|(apply zcd;(first|refine zbW ?_|refine zb0 ?_|refine zbZ ?_|(apply zea;(first|refine zb9 (ze6 rfl rfl (by omega)) ?_|refine zb2 ?_))|refine zb8 ?_))|(apply zcg;(first|refine zbY rfl ?_|refine zbX rfl ?_|refine zcb rfl rfl ?_|refine zci rfl ?_|refine zca rfl rfl (by first|assumption|omega) ?_))|with_reducible (refine kLn ?_)))
     rw[←castMax]
     exact⟨m-(i+1),by omega,_,_,⟨i+1,rfl,hlt,tX17,hgX,by rw[hs];exact h4',by rw[hs],rfl⟩,Wk.keep kpX⟩
 ·obtain rfl:i=m:=by omega
  generalize mL l i=st at h4 ⊢
  by_cases hz:st.first=0
  ·have hce:eOut st=[wI 0,.nil]:=if_pos hz
   rw[hce] at h4 ⊢
   repeat (any_goals (first|(apply zcd;(first|refine zbW ?_|refine zb0 ?_|refine zbZ ?_|refine zc1 ?_|refine zb2 ?_|refine RT.stH ?_))|(apply zcg;(first|refine zbY rfl ?_|refine zbX rfl ?_|refine zci rfl ?_|refine zb7 rfl ?_|refine zca rfl rfl (by first|assumption|omega) ?_))))
   refine kEr (resA_ct (e:=[wI 0,.nil]) rfl (hg_self (by omega)) rfl rfl rfl rfl) ⟨?_,tX17⟩
   exact congrArg (fun x=>D.tup [_,wB x]) (decide_eq_decide.2 (by omega))
  ·have hce:eOut st=zcn st.out:=if_neg hz
   rw[hce] at h4 ⊢
   repeat (any_goals (first|(apply zcd;(first|refine zbW ?_|refine zb0 ?_|refine zbZ ?_|refine zc1 ?_|refine zb2 ?_|refine RT.stH ?_))|(apply zcg;(first|refine zbY rfl ?_|refine zbX rfl ?_|refine zci rfl ?_|refine zb7 rfl ?_|refine zca rfl rfl (by first|assumption|omega) ?_))))
   refine kEr (resA_ct (e:=zcn st.out) rfl (hg_self (by omega)) rfl rfl rfl rfl) ⟨?_,tX17⟩
   exact congrArg (fun x=>D.tup [_,wB x]) (decide_eq_decide.2 (by omega))
end Go.DL
