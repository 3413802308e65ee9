/- Leaves copied, by number. -/
import Derived.Test.YtmbbepdbjeciaaaGreatYu1
import Derived.Test.YtmbbepdbjeciaaaGreatYv3
import Derived.Test.YtmbbepdbjeciaaaGreatP1
import Derived.Test.YtmbbepdbjeciaaaGreatZy
import Derived.Test.YtmbbepdbjeciaaaGreatYb
import Derived.Test.YtmbbepdbjeciaaaGreatZs
import Derived.Test.YtmbbepdbjeciaaaGreatE6
import Derived.Test.YtmbbepdbjeciaaaGreatE5
set_option maxRecDepth 100000
set_option maxHeartbeats 16000000
namespace Go.DL
open Go.Proofs Go
def sortLf (l:List Leaf):List Leaf:=l.mergeSort fun a b=>decide (a.Number≤b.Number)
theorem sortLf_perm (l:List Leaf):(sortLf l).Perm l:=List.mergeSort_perm _ _
theorem sortLf_srt (l:List Leaf):(sortLf l).Pairwise fun x y=>x.Number≤y.Number:=by
 have h:=List.pairwise_mergeSort (le:=fun a b:Leaf=>decide (a.Number≤b.Number)) (fun a b c h1 h2=>by
  simp only[decide_eq_true_eq] at *;omega) (fun a b=>by
  simp only[zbm,decide_eq_true_eq];omega) l
 exact h.imp fun h=>by simpa using h
theorem sortLf_id {l:List Leaf}(h:l.Pairwise fun x y=>x.Number < y.Number):sortLf l=l:=
 (DM.srt_one (key:=Leaf.Number) (h.imp fun h=>by omega) (sortLf_srt l) (sortLf_perm l).symm (h.imp fun h=>by omega)).symm
theorem m_copied (l:List Leaf)(hl:l.length≤1000)(hw:∀x,x∈l→x.Words.length≤1000)(hn:∀x,x∈l→0≤x.Number∧x.Number≤1000)(hd:l.Pairwise fun x y=>x.Number≠y.Number):
  Maps Tryz.prog 116 [.sl (l.map zcn)] (.fl ((sortLf l).map zcn)):=by
 refine Maps.vt pok Tryz.f116 (n:=25) (rs:=[.tmp 2]) rfl rfl rfl rfl rfl rfl fun g=>?_
 repeat (any_goals (first|(apply zcd;(first|refine zbW ?_|refine zb0 ?_|refine zbZ ?_|refine zb8 ?_))|(apply zcg;(first|refine zbY rfl ?_|refine zbX rfl ?_|refine zb3 rfl ?_))))
 refine zdh (i:=3) (s:=0) 2 rfl rfl rfl ?_
 refine zcl (fun j a H g'=>∃(i b:Nat) (ql:List (Nat × Leaf)),j=l.length-i∧i≤l.length∧OL 0 H b ql∧ql.map (·.2)=l.take i∧a=[(3,.ms b 0 i i),(6,.sl (l.map zcn)),(7,wI l.length),(8,wI i)]∧g'=g) rfl
  ⟨_,_,[.live 2 []],⟨0,0,[],rfl,zj _,⟨rfl,zf _,fun i q h=>by simp at h,fun i j q r h=>by simp at h⟩,rfl,rfl,rfl⟩,Wk.keep kpX⟩ ?_
 rintro j a H g' ⟨i,b,ql,rfl,hi,hO,hq,rfl,rfl⟩
 have hqi:ql.length=i:=by
  have:=congrArg List.length hq
  rw[ze,zA] at this;omega
 have hrows:=hO.rows
 have hbl:=hO.lt
 by_cases hlt:i < l.length
 ·have hwi:=hw l[i] (zi hlt)
  obtain⟨x,hx⟩:∃x,x=l[i]:=⟨_,rfl⟩
  obtain⟨H2,hH2⟩:∃H2,H2=(H++[Blk.live 2 [[wI 0,.nil]]]).set H.length (Blk.live 2 [zcn l[i]]):=⟨_,rfl⟩
  have hrows2:H2[b]? = some (.live 2 (ql.map eOL)):=by rw[hH2];exact hgX
  have hx2:H2[H.length]? = some (.live 2 [zcn l[i]]):=by rw[hH2];exact hgX
  have hO2:OL 0 H2 b ql:=by
   rw[hH2]
   exact (hO.app [Blk.live 2 [[wI 0,.nil]]]).other (by omega) (fun i q hq=>by have:=zcR (hO.row i q hq).1;omega) _
  have hbl2:=zcR hrows2
  have hx2l:=zcR hx2
  have hb0:=hO.kb
  repeat (any_goals (first|(apply zcd;(first|refine zbW ?_|refine zb0 ?_|refine zcf ?_|refine zb2 ?_|refine zcO ?_|refine zdo (zdR rfl hgX rfl rfl rfl rfl rfl (by first|decide|exact zf _) rfl) (Eq.trans rfl hH2.symm) ?_|refine zcI (s:=H.length) rfl (zcL (z:=[wI 0,.nil]) (m:=2) rfl rfl) rfl ?_))|(apply zcg;(first|refine zbY rfl ?_|refine zbX rfl ?_|refine zb3 rfl ?_|refine zb5 rfl ?_|refine zd9 [b] 1 [none,none,none,none,none,none,none,none,some 0,none] [(3,[1,2,3],none),(3,[1,2,3],none),(3,[1,2,3],none),(3,[1,2,3],none),(3,[1,2,3],none),(0,[1,2,3],none),(3,[2,3],none),(1,[2,3],none),(2,[3],some 0),(3,[],none)] 4 rfl (by first|(simp;done)|(simp;omega)) (by first|(simp;done)|(simp;omega)) zcr rfl (by decide +kernel) (by decide +kernel) (by decide +kernel) rfl (H1:=H2++[.free,.free,.free,.free]) rfl ?_|refine zb6 rfl rfl (by first|assumption|omega) ?_))|(apply s_any;(first|refine zeC (zdB (H2.set b .dead) [_,_,_] .free) ?_|refine ST.mvA ?_|refine ST.asA ?_|refine ST.ldH ?_|refine ST.faA ?_|(apply s_cl;(first|refine ST.callAt rfl (s':=H2.length+0) rfl (CallAt.of (off:=0) (len:=l[i].Words.length) (cap:=l[i].Words.length) (sz:=1) (es:=l[i].Words.map eI) (fun H hsub=>c_clone (o:=l[i].Words) (.inr (.inl ⟨_,rfl⟩)) (elems_sl _ _) (by omega)) (zd2 _ _)) (zcV (i:=0) (T':=[.live 1 (l[i].Words.map eI),.free,.free,.free]) rfl rfl) ?_|refine ST.ap (q:=0) (b:=b) rfl rfl (s':=H2.length+2) rfl (zd1 (f:=eOL) (o:=ql) (v:=[(H2.length+0,l[i])]) (mm:=i+1) (by':=32) rfl rfl hgX (zg (by rw[ze];omega)) (by rw[ze];omega) hgX hqi.symm rfl (by simp[hqi]) rfl (by decide) rfl rfl (fun _=>⟨rfl,rfl⟩) (by simp;omega) (by simp;omega)) (ze0 (T':=[.live 1 (l[i].Words.map eI),.live 2 [eOL (H2.length+0,l[i])],.live 2 ((ql++[(H2.length+0,l[i])]).map eOL),.free]) hbl2 rfl rfl) ?_))|refine ST.new rfl (s':=H2.length+1) rfl (f_bslA1 rfl rfl rfl rfl rfl rfl) (zcV (i:=1) (T':=[.live 1 (l[i].Words.map eI),.live 2 [eOL (H2.length+0,l[i])],.free,.free]) rfl rfl) ?_|refine zdA (zdm (d:=.agg [wI l[i].Number,.ms (H2.length+0) 0 l[i].Words.length l[i].Words.length]) rfl) ?_))|with_reducible (refine kLn ?_)))
  refine⟨l.length-(i+1),by omega,_,_,⟨i+1,H2.length+2,ql++[(H2.length+0,l[i])],rfl,hlt,hO2.push (t:=0) (t':=2) (by omega) (by decide) rfl rfl,?_,rfl,rfl⟩,Wk.keep kpX⟩
  rw[zW,hq,za9,zb hlt];rfl
 ·obtain rfl:i=l.length:=by omega
  rw[z0] at hq
  rw[←hqi]
  repeat (any_goals (first|(apply zcd;(first|refine zbW ?_|refine zb0 ?_|refine zb2 ?_|(refine zcw ?_;refine zdL rfl ((c_sortLf (cap:=ql.length) hrows (by omega) (fun q hq2=>hn q.2 (by rw[←hq];exact zt.2 ⟨q,hq2,rfl⟩))).mono ?_))))|(apply zcg;(first|refine zbY rfl ?_|refine zbX rfl ?_|refine zci rfl ?_|refine zca rfl rfl (by first|assumption|omega) ?_))))
  rintro d H4 ⟨rfl,y,hy,hp,rfl⟩
  change RT _ _ _ _ ((23,D.tup [])::_) _ _ _
  repeat (any_goals (first|(apply zcd;(first|refine zbW ?_|refine zb0 ?_|refine zbZ ?_))|(apply zcg;(first|refine zbY rfl ?_|refine zbX rfl ?_|refine zb7 rfl ?_))|(with_reducible refine zce ?_;refine kEr rfl ?_)))
  have hyr:∀q,q∈y→(H.set b (.live 2 (y.map eOL)))[q.1]? = some (.live 1 (q.2.Words.map eI)):=fun q hq2=>by
   obtain⟨k,hk,hkq⟩:=zaH (hp.subset hq2)
   obtain⟨r1,_,r3⟩:=hO.row k q (by rw[zb hk,hkq])
   exact zdv r1 (Ne.symm r3)
  have e1:=snapR_OL (lk:=fun k=>(H.set b (.live 2 (y.map eOL)))[k]?) (b:=b) (n:=ql.length) (hg_self hbl) hyr hp.length_eq.symm 2
  refine Eq.trans e1 (congrArg (fun x:List Leaf=>D.fl (x.map zcn)) ?_)
  have hpl:(y.map (·.2)).Perm l:=by have:=hp.map (fun q:Nat × Leaf=>q.2);rwa [hq] at this
  exact (DM.srt_one (key:=Leaf.Number) (sortLf_srt l) (zaJ.2 hy) ((sortLf_perm l).trans hpl.symm) (((sortLf_perm l).pairwise_iff (fun h=>Ne.symm h)).2 hd)).symm
end Go.DL
/- Join of the program: the leaves that copies have in common. -/
namespace Go.DL
open Go.Proofs Go
abbrev selP (p:List Leaf)(n:Int):List Leaf:=p.filter fun y=>decide (y.Number=n)
theorem selP_snoc (p:List Leaf)(x:Leaf)(n:Int):selP (p++[x]) n=if x.Number=n then selP p n++[x] else selP p n:=by
 unfold selP
 rw[za4]
 by_cases h:x.Number=n
 ·rw[if_pos h,zbK,if_pos (by simpa using h)];rfl
 ·rw[if_neg h,zbK,if_neg (by simpa using h)];simp
structure JM (K:Nat)(H:List Blk)(kv:KV)(f:Int→Nat)(p:List Leaf):Prop where
 get:∀n,aget kv n=if selP p n=[] then none else some (.ms (f n) 0 (selP p n).length (selP p n).length)
 row:∀n,selP p n≠[]→H[f n]? = some (.live 2 ((selP p n).map zcn))∧K≤f n
 inj:∀n m,selP p n≠[]→selP p m≠[]→f n=f m→n=m
section
variable {K:Nat}{H H2 T:List Blk}{kv:KV}{f:Int→Nat}{p:List Leaf}{b:Nat}{x:Blk}
theorem JM.nil (K:Nat)(H:List Blk)(f:Int→Nat):JM K H [] f []:=⟨fun n=>rfl,fun n h=>absurd rfl h,fun n m h=>absurd rfl h⟩
theorem JM.app (h:JM K H kv f p)(T:List Blk):JM K (H++T) kv f p:=⟨h.get,fun n hn=>⟨zcA T (h.row n hn).1,(h.row n hn).2⟩,h.inj⟩
theorem JM.low (h:JM K H kv f p)(hb:b < K)(x:Blk):JM K (H.set b x) kv f p:=⟨h.get,fun n hn=>⟨zdv (h.row n hn).1 (by have:=(h.row n hn).2;omega),(h.row n hn).2⟩,h.inj⟩
theorem JM.high (h:JM K H kv f p)(T:List Blk)(x:Blk):JM K ((H++T).set H.length x) kv f p:=⟨h.get,fun n hn=>⟨zdv (zcA T (h.row n hn).1) (by have:=zcR (h.row n hn).1;omega),(h.row n hn).2⟩,h.inj⟩
theorem JM.pre (h:JM K H kv f p)(hP:Pre H H2):JM K H2 kv f p:=⟨h.get,fun n hn=>⟨hP.get (h.row n hn).1,(h.row n hn).2⟩,h.inj⟩
theorem JM.push (h:JM K H kv f p){y:Leaf}{t:Nat}(hK:K≤H.length)(hT:T[t]? = some (.live 2 ((selP p y.Number++[y]).map zcn)))(hH2:H2.length=H.length)
  (hk:∀n,n≠y.Number→selP p n≠[]→H2[f n]? = H[f n]?):
  JM K (H2++T) (aset kv y.Number (.ms (H.length+t) 0 ((selP p y.Number).length+1) ((selP p y.Number).length+1))) (fun n=>if n=y.Number then H.length+t else f n) (p++[y]):=by
 refine⟨fun n=>?_,fun n hn=>?_,fun n m hn hm e=>?_⟩
 ·rw[aget_set,selP_snoc]
  by_cases e:n=y.Number
  ·subst e
   simp
  ·have e':¬y.Number=n:=fun h=>e h.symm
   simp only[if_neg e,if_neg e']
   exact h.get n
 ·rw[selP_snoc] at hn ⊢
  by_cases e:n=y.Number
  ·subst e
   simp only[if_true]
   exact⟨zdO hH2 hT,by omega⟩
  ·have e':¬y.Number=n:=fun h=>e h.symm
   rw[if_neg e'] at hn ⊢
   rw[if_neg e]
   obtain⟨h1,h2⟩:=h.row n hn
   exact⟨zcA _ ((hk n e hn).trans h1),h2⟩
 ·rw[selP_snoc] at hn hm
  have lt:∀k,k≠y.Number→(if y.Number=k then selP p k++[y] else selP p k)≠[]→f k < H.length:=fun k hk' hk2=>by
   rw[if_neg (fun h=>hk' h.symm)] at hk2
   exact zcR (h.row k hk2).1
  by_cases e1:n=y.Number<;>by_cases e2:m=y.Number
  ·rw[e1,e2]
  ·simp only[if_pos e1,if_neg e2] at e
   have:=lt m e2 hm
   omega
  ·simp only[if_neg e1,if_pos e2] at e
   have:=lt n e1 hn
   omega
  ·simp only[if_neg e1,if_neg e2] at e
   rw[if_neg (fun h=>e1 h.symm)] at hn
   rw[if_neg (fun h=>e2 h.symm)] at hm
   exact h.inj n m hn hm e
end
theorem mL_pick (cs:List (List Leaf))(n:Int):jPick cs n=if (mL (zet cs n) (zet cs n).length).second < (mL (zet cs n) (zet cs n).length).first then [(mL (zet cs n) (zet cs n).length).out] else []:=by
 have hb:=DM.both_ways Leaf.Words (z:=⟨0,[]⟩) (l:=zet cs n)
 have e1:rF cs n cs.flatten=DM.rS Leaf.Words ⟨0,[]⟩ (zet cs n):=rfl
 have hm:=DM.mS_end Leaf.Words (z:=⟨0,[]⟩) (l:=zet cs n)
 have hr:=DM.rS_end Leaf.Words (z:=⟨0,[]⟩) (l:=zet cs n)
 unfold jPick
 rw[e1]
 change _=if (DM.mS Leaf.Words ⟨0,[]⟩ (zet cs n) (zet cs n).length).second < (DM.mS Leaf.Words ⟨0,[]⟩ (zet cs n) (zet cs n).length).first then [(DM.mS Leaf.Words ⟨0,[]⟩ (zet cs n) (zet cs n).length).out] else []
 by_cases h:(DM.mS Leaf.Words ⟨0,[]⟩ (zet cs n) (zet cs n).length).second < (DM.mS Leaf.Words ⟨0,[]⟩ (zet cs n) (zet cs n).length).first
 ·rw[if_pos h,if_pos (hb.1.1 h)]
  have w1:=hm.1 h
  have w2:=hr.1 (hb.1.1 h)
  have hw:=hb.2 h
  have num:∀x,x∈zet cs n→x.Number=n:=fun x hx=>of_decide_eq_true (zar.1 hx).2
  have n1:=num _ w1.1
  have n2:=num _ w2.1
  generalize (DM.mS Leaf.Words ⟨0,[]⟩ (zet cs n) (zet cs n).length).out=u at hw n1
  generalize (DM.rS Leaf.Words ⟨0,[]⟩ (zet cs n)).best=v at hw n2
  obtain⟨un,uw⟩:=u
  obtain⟨vn,vw⟩:=v
  simp only at hw n1 n2
  rw[hw,n1,n2]
 ·rw[if_neg h,if_neg (fun k=>h (hb.1.2 k))]
theorem mL_first {l:List Leaf}(h:l≠[]):0 < (mL l l.length).first∧(mL l l.length).out∈l:=by
 have hi:=DM.MInv.all Leaf.Words (z:=⟨0,[]⟩) (l:=l) l.length (zf _)
 rw[z0] at hi
 obtain⟨h1,h2⟩:=hi.out h
 have:=DM.cnt_pos Leaf.Words h1
 exact⟨by show 0 < (DM.mS Leaf.Words ⟨0,[]⟩ l l.length).first;omega,h1⟩
theorem jPick_num {cs:List (List Leaf)}{n:Int}{x:Leaf}(h:x∈jPick cs n):x.Number=n∧x∈cs.flatten:=by
 have ha:=rF_att (cs:=cs) (n:=n) cs.flatten
 unfold jPick at h
 split at h
 ·rename_i hp
  rw[zC.1 h]
  exact⟨(ha.2 hp.1).2,(ha.2 hp.1).1⟩
 ·cases h
theorem joinL_srt (cs:List (List Leaf)):∀N,(zep cs N).Pairwise (fun x y=>x.Number < y.Number)∧∀x,x∈zep cs N→(1≤x.Number∧x.Number≤N)∧x∈cs.flatten
 |0=>⟨zbb,fun x h=>by cases h⟩
 |N+1=>by
  obtain⟨i1,i2⟩:=joinL_srt cs N
  rw[joinL_succ]
  refine⟨zau.2 ⟨i1,?_,fun x hx y hy=>?_⟩,fun x hx=>?_⟩
  ·have:=jPick_len cs ((N:Int)+1)
   match jPick cs ((N:Int)+1),this with
   |[],_=>exact zbb
   |[_],_=>exact List.pairwise_singleton _ _
  ·have:=(i2 x hx).1
   have:=(jPick_num hy).1
   omega
  ·rcases zK.1 hx with hx|hx
   ·have:=(i2 x hx)
    exact⟨by omega,this.2⟩
   ·have:=(jPick_num hx)
    exact⟨by omega,this.2⟩
end Go.DL
/- Join of the program, walked. -/
namespace Go.DL
open Go.Proofs Go
theorem m_join (s:Shape)(cs:List (List Leaf))(hck:zeJ s)(hc:cs.length≤5)(hok:∀l,l∈cs→LvsOk s l):
  Maps Tryz.prog 101 [dSh s,.sl (cs.map eLvs)] (.fl ((zep cs (s.Data+s.Checks).toNat).map zcn)):=by
 obtain⟨⟨d1,d2⟩,⟨c1,c2⟩,w1,w2⟩:=hck
 obtain⟨N,hN⟩:∃N:Nat,s.Data+s.Checks=N:=zF (by omega)
 rw[hN,zM]
 have hflen:cs.flatten.length≤200:=zR (flat_le (m:=40) fun l hl=>(hok l hl).len) (by omega)
 have hfw:∀x,x∈cs.flatten→x.Words.length≤32:=fun x hx=>by
  obtain⟨l,hl1,hl2⟩:=zaP.1 hx
  have:=((hok l hl1).wl x hl2).1
  omega
 refine Maps.vt pok Tryz.f101 (n:=62) (rs:=[.tmp 4]) rfl rfl rfl rfl rfl rfl fun g=>?_
 repeat (any_goals (first|(apply zcd;(first|refine zbW ?_|refine zb0 ?_|(apply w_as;(first|refine zbZ ?_|refine RT.asM ?_))|refine zb8 ?_|refine zco ?_|refine RT.mkH ?_))|(apply zcg;(first|refine zbY rfl ?_|refine zbX rfl ?_|refine zb3 rfl ?_))))
 refine zcl (fun j a H g'=>∃(i:Nat) (kv:KV) (f:Int→Nat),j=cs.length-i∧i≤cs.length∧H[0]? = some (.live 3 [zcq s])∧H[1]? = some (tabB kv)∧JM 2 H kv f (cs.take i).flatten∧2≤H.length∧a=[(2,.mp 0 0 0),(5,.mm 1),(15,.sl (cs.map eLvs)),(16,wI cs.length),(17,wI i)]∧g'=g) rfl
  ⟨_,_,[.live 3 [zcq s],tabB []],⟨0,[],fun _=>0,rfl,zj _,rfl,rfl,JM.nil _ _ _,zf _,rfl,rfl⟩,Wk.keep kpX⟩ ?_
 rintro j a H g' ⟨i,kv,f,rfl,hi,h0,h1,hJ,hH2l,rfl,rfl⟩
 by_cases hlt:i < cs.length
 ·have hok1:=hok cs[i] (zi hlt)
  have hlen:=hok1.len
  have hfl:(cs.take (i+1)).flatten=(cs.take i).flatten++cs[i]:=by
   rw[zo hlt,zbO];simp
  have hfl2:((cs.take i).flatten).length≤200:=zR (flat_le (m:=40) fun l hl=>(hok l (z9 hl)).len) (by rw[zA];omega)
  repeat (any_goals (first|(apply zcd;(first|refine zbW ?_|refine zb0 ?_|refine zbZ ?_|refine zcf ?_|refine zb2 ?_|refine zb8 ?_|refine zcO ?_))|(apply zcg;(first|refine zbY rfl ?_|refine zbX rfl ?_|refine zb3 rfl ?_|refine zb5 rfl ?_|refine zb6 rfl rfl (by first|assumption|omega) ?_))))
  refine zcl (fun j a H g2=>∃(k:Nat) (kv:KV) (f:Int→Nat),j=cs[i].length-k∧k≤cs[i].length∧H[0]? = some (.live 3 [zcq s])∧H[1]? = some (tabB kv)∧JM 2 H kv f ((cs.take i).flatten++cs[i].take k)∧2≤H.length∧a=[(2,.mp 0 0 0),(5,.mm 1),(15,.sl (cs.map eLvs)),(16,wI cs.length),(17,wI i),(21,.sl (cs[i].map zcn)),(22,wI cs[i].length),(23,wI k)]∧g2=g') rfl
   ⟨_,_,H,⟨0,kv,f,rfl,zj _,h0,h1,by rw[List.take_zero,zN];exact hJ,hH2l,rfl,rfl⟩,Wk.keep kpX⟩ ?_
  clear h0 h1 hJ hH2l
  rintro j a H g2 ⟨k,kv,f,rfl,hk,h0,h1,hJ,hHl,rfl,rfl⟩
  by_cases hlk:k < cs[i].length
  ·obtain⟨x,hx⟩:∃x,cs[i][k]? = some x:=⟨_,zb hlk⟩
   have hps:(cs.take i).flatten++cs[i].take (k+1)=((cs.take i).flatten++cs[i].take k)++[x]:=by
    rw[za9,hx,zT];rfl
   have hpl:((cs.take i).flatten++cs[i].take k).length≤240:=by
    rw[zw,zA];omega
   generalize hp:(cs.take i).flatten++cs[i].take k=p at hJ hps hpl
   obtain⟨H2,hH2⟩:∃H2,H2=(H++[Blk.live 2 [[wI 0,.nil]]]).set H.length (Blk.live 2 [zcn x]):=⟨_,rfl⟩
   have g0:H2[0]? = some (.live 3 [zcq s]):=by rw[hH2];exact hgX
   have g1:H2[1]? = some (tabB kv):=by rw[hH2];exact hgX
   have gx:H2[H.length]? = some (.live 2 [zcn x]):=by rw[hH2];exact hgX
   have gxl:=zcR gx
   have hJ2:JM 2 H2 kv f p:=by rw[hH2];exact hJ.high _ _
   obtain⟨m,hm⟩:∃m,m=(selP p x.Number).length:=⟨_,rfl⟩
   have hml:m≤240:=by rw[hm];exact zR (za2 _ _) hpl
   by_cases hs:selP p x.Number=[]
   ·have hlook:(aget kv x.Number).orElse (fun _=>zvD Tryz.prog 24)=some .nil:=by rw[hJ2.get,if_pos hs];rfl
    have hm0:m=0:=by rw[hm,hs];rfl
    repeat (any_goals (first|(apply zcd;(first|refine zbW ?_|refine zb0 ?_|refine zcf ?_|refine zb2 ?_|refine zb9 (f_ixQ rfl rfl rfl hx rfl rfl) ?_|refine zdo (zdR rfl hgX rfl rfl rfl rfl rfl (by first|decide|exact zf _) rfl) (Eq.trans rfl hH2.symm) ?_|refine zcI (s:=H.length) rfl (zcL (z:=[wI 0,.nil]) (m:=2) rfl rfl) rfl ?_))|(apply zcg;(first|refine zbY rfl ?_|refine zbX rfl ?_|refine zb3 rfl ?_|refine zb5 rfl ?_|refine zd9 [1] 1 [none,none,none,none,none,none,none,none,none,none,some 0] [(3,[1,2,3],none),(3,[1,2,3],none),(3,[1,2,3],none),(3,[1,2,3],none),(3,[1,2,3],none),(3,[1,2,3],none),(3,[1,2,3],none),(3,[1,2,3],none),(0,[1,2,3],none),(1,[2,3],none),(2,[3],some 0)] 4 rfl (by first|(simp;done)|(simp;omega)) (by first|(simp;done)|(simp;omega)) zcr rfl (by decide +kernel) (by decide +kernel) (by decide +kernel) rfl (H1:=H2++[.free,.free,.free,.free]) rfl ?_|refine zb6 rfl rfl (by first|assumption|omega) ?_))|(apply s_any;(first|refine zeC (zdB (H2.set 1 _) [_,_,_] .free) ?_|refine ST.mvM ?_|refine ST.ldH ?_|refine ST.faA ?_|refine ST.apN rfl rfl (s':=H2.length+1) (k:=.live 2 ([x].map zcn)) (m:=1) (H':=H2++[.live 2 [zcn x],.live 2 ([x].map zcn),.free,.free]) (by exact f_appT0 (f:=zcn) (v:=[x]) (mm:=1) (by':=32) rfl rfl hgX rfl rfl rfl (by decide) rfl rfl (fun _=>⟨rfl,rfl⟩) (by simp) (by simp)) (by exact zcV (i:=1) (T':=[.live 2 [zcn x],.live 2 ([x].map zcn),.free,.free]) rfl rfl) ?_|refine ST.new rfl (s':=H2.length+0) rfl (f_bslA1 rfl rfl rfl rfl rfl rfl) (zcV (i:=0) (T':=[.live 2 [zcn x],.free,.free,.free]) rfl rfl) ?_|refine zdA (f_look (d:=.nil) rfl rfl hgX rfl hlook) ?_|refine ST.wr (q:=0) (b:=1) rfl rfl (f_mupd (d:=.ms (H2.length+1) 0 1 1) rfl rfl rfl hgX rfl) (zD _ _ (by omega)) ?_))|with_reducible (refine kLn ?_)))
    refine⟨cs[i].length-(k+1),by omega,_,_,⟨k+1,_,fun n=>if n=x.Number then H2.length+1 else f n,rfl,hlk,hgX,hgX,?_,?_,rfl,rfl⟩,Wk.keep kpX⟩
    ·rw[hps]
     have:=hJ2.push (H2:=H2.set 1 (tabB (aset kv x.Number (.ms (H2.length+1) 0 1 1)))) (T:=[.live 2 [zcn x],.live 2 ([x].map zcn),.free]) (t:=1) (y:=x) (by omega) (by rw[hs];rfl) (by simp) (fun n hn hn2=>by rw[zr (by have:=(hJ2.row n hn2).2;omega)])
     rw[←hm,hm0] at this
     exact this
    ·simp
   ·have hlook:(aget kv x.Number).orElse (fun _=>zvD Tryz.prog 24)=some (.ms (f x.Number) 0 m m):=by rw[hJ2.get,if_neg hs,hm];rfl
    obtain⟨hrow,hrk⟩:=hJ2.row _ hs
    obtain⟨b,hb⟩:∃b,b=f x.Number:=⟨_,rfl⟩
    rw[←hb] at hrow hrk hlook
    have hbl:=zcR hrow
    have hbl':=zcR (hJ.row _ hs).1
    rw[←hb] at hbl'
    repeat (any_goals (first|(apply zcd;(first|refine zbW ?_|refine zb0 ?_|refine zcf ?_|refine zb2 ?_|refine zb9 (f_ixQ rfl rfl rfl hx rfl rfl) ?_|refine zdo (zdR rfl hgX rfl rfl rfl rfl rfl (by first|decide|exact zf _) rfl) (Eq.trans rfl hH2.symm) ?_|refine zcI (s:=H.length) rfl (zcL (z:=[wI 0,.nil]) (m:=2) rfl rfl) rfl ?_))|(apply zcg;(first|refine zbY rfl ?_|refine zbX rfl ?_|refine zb3 rfl ?_|refine zb5 rfl ?_|refine zd9 [b,1] 2 [none,none,none,none,none,none,none,none,none,some 0,some 1] [(3,[2,3,4,0],none),(3,[2,3,4,0],none),(3,[2,3,4,0],none),(3,[2,3,4],none),(3,[2,3,4],none),(3,[2,3,4],none),(3,[2,3,4],none),(3,[2,3,4],none),(0,[2,3,4],none),(1,[3,4],some 0),(2,[4],some 1)] 4 rfl (by first|(simp;done)|(simp;omega)) (by first|(simp;done)|(simp;omega)) zcr rfl (by decide +kernel) (by decide +kernel) (by decide +kernel) rfl (H1:=H2++[.free,.free,.free,.free]) rfl ?_|refine zb6 rfl rfl (by first|assumption|omega) ?_))|(apply s_any;(first|refine zeC (zdB ((H2.set b .dead).set 1 _) [_,_,_] .free) ?_|refine ST.mvM ?_|refine ST.ldH ?_|refine ST.faA ?_|refine ST.ap (q:=0) (b:=b) rfl rfl (s':=H2.length+1) rfl (zd1 (f:=zcn) (o:=selP p x.Number) (v:=[x]) (mm:=m+1) (by':=32) rfl rfl hgX (zg (by rw[ze];omega)) (by rw[ze];omega) hgX hm rfl (by rw[hm];rfl) rfl (by decide) rfl rfl (fun _=>⟨rfl,rfl⟩) (by rw[←hm];simp;omega) (by rw[←hm];simp;omega)) (ze0 (T':=[.live 2 [zcn x],.live 2 ((selP p x.Number++[x]).map zcn),.free,.free]) hbl rfl rfl) ?_|refine ST.new rfl (s':=H2.length+0) rfl (f_bslA1 rfl rfl rfl rfl rfl rfl) (zcV (i:=0) (T':=[.live 2 [zcn x],.free,.free,.free]) rfl rfl) ?_|refine zdA (f_look (d:=.ms b 0 m m) rfl rfl hgX rfl hlook) ?_|refine ST.wr (q:=1) (b:=1) rfl rfl (f_mupd (d:=.ms (H2.length+1) 0 (m+1) (m+1)) rfl rfl rfl hgX rfl) (zD _ _ (by rw[zE];omega)) ?_))|with_reducible (refine kLn ?_)))
    refine⟨cs[i].length-(k+1),by omega,_,_,⟨k+1,_,fun n=>if n=x.Number then H2.length+1 else f n,rfl,hlk,hgX,hgX,?_,?_,rfl,rfl⟩,Wk.keep kpX⟩
    ·rw[hps]
     have:=hJ2.push (H2:=(H2.set b .dead).set 1 (tabB (aset kv x.Number (.ms (H2.length+1) 0 (m+1) (m+1))))) (T:=[.live 2 [zcn x],.live 2 ((selP p x.Number++[x]).map zcn),.free]) (t:=1) (y:=x) (by omega) rfl (by simp) (fun n hn hn2=>by
      rw[zr (by have:=(hJ2.row n hn2).2;omega),zr (fun e=>hn (hJ2.inj n x.Number hn2 hs (by rw[←hb];exact e.symm)))])
     rw[←hm] at this
     exact this
    ·simp
  ·obtain rfl:k=cs[i].length:=by omega
   rw[z0,←hfl] at hJ
   repeat (any_goals (first|(apply zcd;(first|refine zbW ?_|refine zb0 ?_|refine zb2 ?_))|(apply zcg;(first|refine zbY rfl ?_|refine zbX rfl ?_|refine zci rfl ?_|refine zca rfl rfl (by first|assumption|omega) ?_))|with_reducible (refine kLn ?_)))
   exact⟨cs.length-(i+1),by omega,_,_,⟨i+1,kv,f,rfl,hlt,h0,h1,hJ,hHl,rfl,rfl⟩,Wk.keep kpX⟩
 ·obtain rfl:i=cs.length:=by omega
  rw[z0] at hJ
  repeat (any_goals (first|(apply zcd;(first|refine zbW ?_|refine zbZ ?_|refine zb2 ?_))|(apply zcg;(first|refine zbY rfl ?_|refine zbX rfl ?_|refine zb3 rfl ?_|refine zci rfl ?_|refine zca rfl rfl (by first|assumption|omega) ?_))))
  refine zdh (i:=10) (s:=H.length) 2 rfl rfl rfl ?_
  refine zcl (fun j a H2 g2=>∃(n b m:Nat),j=N-n∧n≤N∧H2[0]? = some (.live 3 [zcq s])∧H2[1]? = some (tabB kv)∧JM 2 H2 kv f cs.flatten∧H2[b]? = some (.live 2 ((zep cs n).map zcn))∧2≤b∧(∀k,selP cs.flatten k≠[]→b≠f k)∧m=(zep cs n).length∧a=[(2,.mp 0 0 0),(5,.mm 1),(10,.ms b 0 m m),(11,wI ((n:Int)+1))]∧g2=g') rfl
   ⟨_,_,H++[.live 2 []],⟨0,H.length,0,rfl,zj _,hgX,hgX,hJ.app _,hgX,hH2l,fun k hk=>by have:=zcR (hJ.row k hk).1;omega,rfl,rfl,rfl⟩,Wk.keep kpX⟩ ?_
  clear h0 h1 hJ hH2l
  rintro j a H g2 ⟨n,b,m,rfl,hn,h0,h1,hJ,hb,hb2,hbf,hm,rfl,rfl⟩
  have hbl:=zcR hb
  have hjl:=joinL_len cs n
  by_cases hlt:n < N
  ·have hjs:=joinL_succ cs n
   rw[mL_pick] at hjs
   have hget:aget kv ((n:Int)+1)=if zet cs ((n:Int)+1)=[] then none else some (.ms (f ((n:Int)+1)) 0 (zet cs ((n:Int)+1)).length (zet cs ((n:Int)+1)).length):=hJ.get _
   by_cases hs:zet cs ((n:Int)+1)=[]
   ·have hlook:(aget kv ((n:Int)+1)).orElse (fun _=>zvD Tryz.prog 24)=some .nil:=by rw[hget,if_pos hs];rfl
    rw[hs] at hjs
    have hjs2:zep cs (n+1)=zep cs n:=by rw[hjs];exact zN _
    repeat (any_goals (first|(apply zcd;(first|refine zbW ?_|(apply w_mv;(first|refine zb0 ?_|refine RT.mvM ?_))|refine zbZ ?_|refine zc1 ?_|refine zcm ?_|(apply zea;(first|refine zb9 (f_leqT rfl rfl (by omega)) ?_|refine zb2 ?_))|refine zb4 rfl (m_most0) rfl rfl ?_|refine zdF ?_|refine RT.stH ?_|refine zcI (s:=H.length) rfl (zcL (z:=[wI 0,.nil]) (m:=2) rfl rfl) rfl ?_|refine zb9 (f_look (d:=.nil) rfl rfl hgX rfl hlook) ?_))|(apply zcg;(first|refine zbY rfl ?_|refine zbX rfl ?_|refine zch rfl rfl ?_|refine zcb rfl rfl ?_|refine zb3 rfl ?_|refine zb5 rfl ?_))|with_reducible (refine kLn ?_)))
    exact⟨N-(n+1),by omega,_,_,⟨n+1,b,m,rfl,hlt,hgX,hgX,hJ.high _ _,by rw[hjs2];exact hgX,hb2,hbf,by rw[hjs2];exact hm,rfl,rfl⟩,Wk.keep kpX⟩
   ·obtain⟨q,hq⟩:∃q,q=(zet cs ((n:Int)+1)).length:=⟨_,rfl⟩
    have hql:q≤200:=by rw[hq];exact zR (za2 _ _) hflen
    have hlook:(aget kv ((n:Int)+1)).orElse (fun _=>zvD Tryz.prog 24)=some (.ms (f ((n:Int)+1)) 0 q q):=by rw[hget,if_neg hs,←hq];rfl
    obtain⟨hrow,hrk⟩:=hJ.row _ hs
    have hcm:=c_most (l:=zet cs ((n:Int)+1)) hrow hq (by omega) fun x hx=>by have:=hfw x (zar.1 hx).1;omega
    have hfst:=mL_first hs
    rw[←hq] at hjs hfst
    have hout:(mL (zet cs ((n:Int)+1)) q).out.Words.length≤32:=hfw _ (zar.1 hfst.2).1
    repeat (any_goals (first|(apply zcd;(first|refine zbW ?_|(apply w_mv;(first|refine zb0 ?_|refine RT.mvM ?_))|refine zc1 ?_|refine zcm ?_|(apply zea;(first|refine zb9 (f_leqT rfl rfl (by omega)) ?_|refine zb2 ?_))|(refine zcw ?_;refine zdL rfl (hcm.mono ?_))|refine zb9 (f_look (d:=.ms (f ((n:Int)+1)) 0 q q) rfl rfl hgX rfl hlook) ?_))|(apply zcg;(first|refine zbY rfl ?_|refine zbX rfl ?_|refine zch rfl rfl ?_|refine zb3 rfl ?_|refine zb5 rfl ?_))))
    rintro d H4 ⟨rfl,hP⟩
    have hpl:=hP.len
    have heo:eOut (mL (zet cs ((n:Int)+1)) q)=zcn (mL (zet cs ((n:Int)+1)) q).out:=if_neg (by omega)
    rw[heo]
    generalize mL (zet cs ((n:Int)+1)) q=st at hjs hfst hout ⊢
    have k0:=hP.get h0
    have k1:=hP.get h1
    have kb:=hP.get hb
    have kJ:=hJ.pre hP
    by_cases hsf:st.second < st.first
    ·rw[if_pos hsf] at hjs
     rw[decide_eq_true hsf]
     change RT _ _ _ _ ((52,D.tup [.agg (zcn st.out),wB true])::_) _ _ _
     obtain⟨H5,hH5⟩:∃H5,H5=(H4++[Blk.live 2 [[wI 0,.nil]]]).set H4.length (Blk.live 2 [zcn st.out]):=⟨_,rfl⟩
     have l0:H5[0]? = some (.live 3 [zcq s]):=by rw[hH5];exact hgX
     have l1:H5[1]? = some (tabB kv):=by rw[hH5];exact hgX
     have lb:H5[b]? = some (.live 2 ((zep cs n).map zcn)):=by rw[hH5];exact hgX
     have lx:H5[H4.length]? = some (.live 2 [zcn st.out]):=by rw[hH5];exact hgX
     have lJ:JM 2 H5 kv f cs.flatten:=by rw[hH5];exact kJ.high _ _
     have lbl:=zcR lb
     have lxl:=zcR lx
     repeat (any_goals (first|(apply zcd;(first|refine zbW ?_|refine zb0 ?_|refine zbZ ?_|refine zc1 ?_|refine zb2 ?_|refine zeH (s:=H5.length+1) (by simp) (zd1 (f:=zcn) (o:=zep cs n) (v:=[st.out]) (mm:=m+1) (by':=32) rfl rfl hgX (zg (by rw[ze];omega)) (by rw[ze];omega) hgX hm rfl (by rw[hm];rfl) rfl (by decide) rfl rfl (fun _=>⟨rfl,rfl⟩) (by simp;omega) (by simp;omega)) (ap2 lbl _ _) ?_|refine zdF ?_|refine zdo (zdR rfl hgX rfl rfl rfl rfl rfl (by first|decide|exact zf _) rfl) (Eq.trans rfl hH5.symm) ?_|refine zcI (s:=H5.length) rfl (f_bslA1 rfl rfl rfl rfl rfl rfl) rfl ?_|refine zcI (s:=H4.length) rfl (zcL (z:=[wI 0,.nil]) (m:=2) rfl rfl) rfl ?_))|(apply zcg;(first|refine zbY rfl ?_|refine zbX rfl ?_|refine zch rfl rfl ?_))|with_reducible (refine kLn ?_)))
     refine⟨N-(n+1),by omega,_,_,⟨n+1,H5.length+1,m+1,rfl,hlt,hgX,hgX,?_,by rw[hjs];exact zdO (t:=1) (by simp) rfl,by omega,fun k hk=>by have:=zcR (lJ.row k hk).1;omega,by rw[hjs,zw,hm];rfl,rfl,rfl⟩,Wk.keep kpX⟩
     exact (⟨lJ.get,fun k hk=>⟨zdv (lJ.row k hk).1 (hbf k hk),(lJ.row k hk).2⟩,lJ.inj⟩:JM 2 (H5.set b .dead) kv f cs.flatten).app _
    ·rw[if_neg hsf,zN] at hjs
     rw[decide_eq_false hsf]
     change RT _ _ _ _ ((52,D.tup [.agg (zcn st.out),wB false])::_) _ _ _
     repeat (any_goals (first|(apply zcd;(first|refine zbW ?_|refine zb0 ?_|refine zbZ ?_|refine zb2 ?_|refine zdF ?_|refine RT.stH ?_|refine zcI (s:=H4.length) rfl (zcL (z:=[wI 0,.nil]) (m:=2) rfl rfl) rfl ?_))|(apply zcg;(first|refine zbY rfl ?_|refine zbX rfl ?_|refine zcb rfl rfl ?_|refine zb5 rfl ?_))|with_reducible (refine kLn ?_)))
     exact⟨N-(n+1),by omega,_,_,⟨n+1,b,m,rfl,hlt,hgX,hgX,kJ.high _ _,by rw[hjs];exact hgX,hb2,hbf,by rw[hjs];exact hm,rfl,rfl⟩,Wk.keep kpX⟩
  ·obtain rfl:n=N:=by omega
   have hsr:=joinL_srt cs n
   have hcp:=m_copied (zep cs n) (by omega) (fun x hx=>by have:=hfw x (hsr.2 x hx).2;omega) (fun x hx=>by have:=(hsr.2 x hx).1;omega) (hsr.1.imp fun h=>by omega)
   rw[sortLf_id hsr.1] at hcp
   have hsn:([.ms b 0 m m]:List D).map (snap (fun b=>H[b]?) 5)=[.sl ((zep cs n).map zcn)]:=congrArg (fun x=>[x]) (snap_all (f:=zcn) (lk:=fun b=>H[b]?) (k:=4) hb hm fun x=>rfl)
   repeat (any_goals (first|(apply zcd;(first|refine zbW ?_|refine zb0 ?_|refine zbZ ?_|refine zc1 ?_|refine zcm ?_|(apply zea;(first|refine zb9 (f_leqF rfl rfl (by omega)) ?_|refine zb2 ?_))|(refine zcw ?_;refine zb4 rfl hcp hsn rfl ?_)))|(apply zcg;(first|refine zbY rfl ?_|refine zbX rfl ?_|refine zcb rfl rfl ?_|refine zci rfl ?_|refine zb7 rfl ?_))|(with_reducible refine zce ?_;refine kEr rfl ?_)))
   rfl
end Go.DL
/- Shelves: how they lie in memory; all leaves of data as own blocks behind others. -/
namespace Go.DL
open Go.Proofs Go
abbrev Lab:=Nat→Nat × Nat × Int
structure RowAt (H:List Blk)(lab:Lab)(sd c:Nat)(v:D)(l:List (Nat × Leaf)):Prop where
 hd:(v=.nil∧l=[])∨∃b cap es,v=.ms b 0 l.length cap∧H[b]? = some (.live 2 es)∧es.take l.length=l.map eOL∧l.length≤es.length∧l.length≤cap∧(∀e,e∈es→e.length=2∧e.all isCell=true)∧lab b=(sd,c+1,0)
 ws:∀q,q∈l→H[q.1]? = some (.live 1 (q.2.Words.map eI))∧lab q.1=(sd,c+1,q.2.Number)
 nd:l.Pairwise fun p q=>p.2.Number≠q.2.Number
structure ShAt (H:List Blk)(lab:Lab)(sd:Nat)(p cb:Nat)(s:Shape)(rows:List (D × List (Nat × Leaf))):Prop where
 hd:H[p]? = some (.live 4 [[wI s.Data,wI s.Checks,wI s.Width,.ms cb 0 rows.length rows.length]])
 cs:H[cb]? = some (.live 1 (rows.map fun r=>[r.1]))
 lp:lab p=(sd,0,0)
 lc:lab cb=(sd,0,1)
 row:∀(i:Nat) r,rows[i]? = some r→RowAt H lab sd i r.1 r.2
structure FrL (H H':List Blk)(lab lab':Lab)(sd:Nat):Prop where
 len:H.length≤H'.length
 lb:∀b,b < H.length→lab' b=lab b
 same:∀b,b < H.length→(lab b).1≠sd→H'[b]? = H[b]?
theorem FrL.refl (H:List Blk)(lab:Lab)(sd:Nat):FrL H H lab lab sd:=⟨zf _,fun _ _=>rfl,fun _ _ _=>rfl⟩
def zcE (rows:List (D × List (Nat × Leaf))):List (List Leaf):=rows.map fun r=>r.2.map (·.2)
section
variable {H H':List Blk}{lab lab':Lab}{sd sd' c p cb:Nat}{v:D}{l:List (Nat × Leaf)}{s:Shape}{rows:List (D × List (Nat × Leaf))}
theorem RowAt.keep (h:RowAt H lab sd c v l)(hk:∀b x,H[b]? = some x→(lab b).1=sd→(lab b).2.1=c+1→H'[b]? = some x∧lab' b=lab b):RowAt H' lab' sd c v l:=by
 refine⟨?_,fun q hq=>?_,h.nd⟩
 ·rcases h.hd with h1|⟨b,cap,es,h1,h2,h3,h4,h5,h6,h7⟩
  ·exact .inl h1
  ·obtain⟨k1,k2⟩:=hk b _ h2 (by rw[h7]) (by rw[h7])
   exact .inr ⟨b,cap,es,h1,k1,h3,h4,h5,h6,k2.trans h7⟩
 ·obtain⟨h1,h2⟩:=h.ws q hq
  obtain⟨k1,k2⟩:=hk q.1 _ h1 (by rw[h2]) (by rw[h2])
  exact⟨k1,k2.trans h2⟩
theorem ShAt.keep (h:ShAt H lab sd p cb s rows)(hk:∀b x,H[b]? = some x→(lab b).1=sd→H'[b]? = some x∧lab' b=lab b):ShAt H' lab' sd p cb s rows:=by
 obtain⟨a1,a2⟩:=hk p _ h.hd (by rw[h.lp])
 obtain⟨b1,b2⟩:=hk cb _ h.cs (by rw[h.lc])
 exact⟨a1,b1,a2.trans h.lp,b2.trans h.lc,fun i r hr=>(h.row i r hr).keep fun b x h1 h2 _=>hk b x h1 h2⟩
theorem ShAt.other (h:ShAt H lab sd p cb s rows)(hf:FrL H H' lab lab' sd')(hn:sd≠sd'):ShAt H' lab' sd p cb s rows:=
 h.keep fun b x hb hl=>⟨(hf.same b (zcR hb) (by rw[hl];exact hn)).trans hb,hf.lb b (zcR hb)⟩
theorem ShAt.app (h:ShAt H lab sd p cb s rows)(T:List Blk):ShAt (H++T) lab sd p cb s rows:=h.keep fun _ _ hb _=>⟨zcA T hb,rfl⟩
theorem RowAt.snap (h:RowAt H lab sd c v l)(k:Nat):DL.snap (fun b=>H[b]?) (k+3) v=.sl ((l.map (·.2)).map zcn):=by
 rcases h.hd with⟨rfl,rfl⟩|⟨b,cap,es,rfl,h2,h3,h4,_⟩
 ·rfl
 ·simp only[DL.snap,h2,zQ,h4,if_true,zS,h3,zaa]
  refine congrArg D.sl (zI fun q hq=>?_)
  have h5:=snapWt (k:=k+1) (m:=q.2.Words.length) (cap:=q.2.Words.length) (lk:=fun b=>H[b]?) (h.ws q hq).1 (zf _)
  rw[z0] at h5
  show [wI q.2.Number,DL.snap (fun b=>H[b]?) (k+2) (.ms q.1 0 q.2.Words.length q.2.Words.length)]=_
  rw[h5];rfl
theorem ShAt.snapC (h:ShAt H lab sd p cb s rows)(k:Nat)(n c:Nat)(hn:n=rows.length):DL.snap (fun b=>H[b]?) (k+4) (.ms cb 0 n c)=.sl ((zcE rows).map eLvs):=by
 subst hn
 simp only[DL.snap,h.cs,zQ,ze,zf,if_true,zS]
 rw[zg (by simp),zcE,zaa,zaa]
 refine congrArg D.sl (zI fun r hr=>?_)
 obtain⟨i,hi,rfl⟩:=zaH hr
 show [DL.snap (fun b=>H[b]?) (k+3) _]=[_]
 rw[(h.row i _ (zb hi)).snap k]
abbrev eSh (s:Shape)(cs:List (List Leaf)):List D:=[wI s.Data,wI s.Checks,wI s.Width,.sl (cs.map eLvs)]
theorem ShAt.snap (h:ShAt H lab sd p cb s rows):DL.snap (fun b=>H[b]?) 5 (.mp p 0 0)=.rp (eSh s (zcE rows)):=by
 have e:=h.snapC 0 rows.length rows.length rfl
 show (match (fun b=>H[b]?) p with
  |some (.live _ es)=>match es[0]? with
   |some e=>D.rp ((e.drop 0).map (DL.snap (fun b=>H[b]?) 4))
   |none=>.any
  |_=>.any)=_
 simp only[h.hd,zaQ,zS,zy,z8]
 rw[e];rfl
end
def wlQ (k N w:Nat)(d:List (List Int)):List (Nat × Leaf):=(List.range N).map fun i:Nat=>(k+i,⟨(i:Int)+1,(List.range w).map fun q:Nat=>zc8 (zeL d q) ((i:Int)+1)⟩)
theorem wlQ_snd (k N w:Nat)(d:List (List Int)):(wlQ k N w d).map (·.2)=zdp N w d:=by simp[wlQ,zdp]
theorem wlQ_len (k N w:Nat)(d:List (List Int)):(wlQ k N w d).length=N:=by simp[wlQ]
def WhQ (H:List Blk)(s:Shape)(d:List (List Int))(x:D)(H':List Blk):Prop:=
 ∃(T:List Blk) (r o:Nat),H'=H++T∧x=.ms (H.length+r) 0 (s.Data+s.Checks).toNat (s.Data+s.Checks).toNat∧H'[H.length+r]? = some (.live 2 ((wlQ (H.length+o) (s.Data+s.Checks).toNat s.Width.toNat d).map eOL))∧r < o∧
  ∀q,q∈wlQ (H.length+o) (s.Data+s.Checks).toNat s.Width.toNat d→H'[q.1]? = some (.live 1 (q.2.Words.map eI))
theorem eI_sh (K:Nat)(l:List Int):(l.map eI).map (List.map (shD K))=l.map eI:=by rw[zaa];exact zI fun _ _=>rfl
theorem wlQ_words {k N w:Nat}{d:List (List Int)}{q:Nat × Leaf}(hq:q∈wlQ k N w d):∃i,i < N∧q=(k+i,⟨(i:Int)+1,rowF d w i w 0⟩):=by
 obtain⟨i,hi,rfl⟩:=zt.1 hq
 rw[zP] at hi
 exact⟨i,hi,by rw[rowF_last]⟩
theorem okB_ws (d:List (List Int))(N w j r:Nat):∀x,x∈wsF d N w j r→okB x=true:=fun x hx=>by
 obtain⟨i,_,rfl⟩:=zt.1 hx
 simp only[okB,zh]
 intro e he
 obtain⟨a,_,rfl⟩:=zt.1 he
 intro d hd
 rw[zC.1 hd];rfl
theorem wsF_sh (K:Nat)(d:List (List Int))(N w j r:Nat):(wsF d N w j r).map (shB K)=wsF d N w j r:=by
 rw[wsF,zaa]
 refine zI fun i _=>?_
 show Blk.live 1 _=_
 rw[eI_sh]
theorem eOL_sh (K w N:Nat)(o:Nat)(d:List (List Int))(f:Nat→List D)(hf:∀i,f i=[wI ((i:Int)+1),.ms (i+o) 0 w w]):((List.range N).map f).map (List.map (shD K))=(wlQ (K+o) N w d).map eOL:=by
 rw[wlQ,zaa,zaa]
 refine zI fun i _=>?_
 show (f i).map (shD K)=_
 rw[hf]
 show [wI ((i:Int)+1),D.ms (i+o+K) 0 w w]=[wI ((i:Int)+1),D.ms (K+o+i) 0 _ _]
 rw[ze,zbp,show K+o+i=i+o+K by omega]
theorem c_whole {H:List Blk}{s:Shape}{d:List (List Int)}{x:D}(h:zeJ s)(hd:dataW s.Width.toNat d)(hx:snap (fun b=>H[b]?) 5 x=.sl (d.map zcU)):CallSp Tryz.prog 71 [dSh s,x] H (WhQ H s d):=by
 obtain⟨N,hN⟩:∃N,N=(s.Data+s.Checks).toNat:=⟨_,rfl⟩
 obtain⟨w,hw⟩:∃w,w=s.Width.toNat:=⟨_,rfl⟩
 have h0:=c_whole0 s d h hd
 rw[←hN,←hw] at h0
 have e:[dSh s,x].map (snap (fun b=>H[b]?) 5)=[dSh s,.sl (d.map zcU)]:=by
  rw[zy,zy,hx];rfl
 rw[←e] at h0
 refine (h0.frameN ?_).mono ?_
 ·rintro d' H' ⟨rfl,rfl⟩
  refine⟨rfl,fun x hx=>?_⟩
  simp only[zH,zK,zai,or_false] at hx
  rcases hx with rfl|rfl|rfl|hx|rfl|rfl
  ·rfl
  ·simp only[okB,zh]
   intro e he
   rw[zdQ,zaT,List.replicate_zero,zN] at he
   obtain⟨i,_,rfl⟩:=zt.1 he
   intro d hd
   simp only[zH,zai,or_false] at hd
   rcases hd with rfl|rfl<;>rfl
  ·rfl
  ·exact okB_ws _ _ _ _ _ x hx
  ·rfl
  ·rfl
 ·rintro d' H' ⟨d0,H0,⟨rfl,rfl⟩,rfl,rfl⟩
  unfold WhQ
  rw[←hN,←hw]
  refine⟨_,1,3,rfl,?_,?_,by decide,fun q hq=>?_⟩
  ·show D.ms (1+H.length) 0 N N=_
   rw[Nat.add_comm]
  ·refine zdO rfl ?_
   show some (Blk.live 2 _)=_
   rw[zdQ,zaT,List.replicate_zero,zN,eOL_sh H.length w N 3 d _ fun i=>rfl]
  ·obtain⟨i,hi,rfl⟩:=wlQ_words hq
   show (H++_)[H.length+3+i]? = _
   rw[zaD]
   refine zdO rfl ?_
   rw[show 3+i=i+3 by omega]
   show ((wsF d N w w 0++[Blk.dead,.dead]).map (shB H.length))[i]? = _
   rw[zW,wsF_sh,zk (by rw[zdX];exact hi)]
   exact wsF_get d hi
theorem c_Rwhole {H:List Blk}{s:Shape}{d:List (List Int)}{x:D}(h:zeJ s)(hd:dataW s.Width.toNat d)(hx:snap (fun b=>H[b]?) 5 x=.sl (d.map zcU)):CallSp Tryz.prog 73 [dSh s,x] H (WhQ H s d):=by
 obtain⟨N,hN⟩:∃N,N=(s.Data+s.Checks).toNat:=⟨_,rfl⟩
 obtain⟨w,hw⟩:∃w,w=s.Width.toNat:=⟨_,rfl⟩
 have h0:=c_Rwhole0 s d h hd
 rw[←hN,←hw] at h0
 have e:[dSh s,x].map (snap (fun b=>H[b]?) 5)=[dSh s,.sl (d.map zcU)]:=by
  rw[zy,zy,hx];rfl
 rw[←e] at h0
 refine (h0.frameN ?_).mono ?_
 ·rintro d' H' ⟨rfl,rfl⟩
  refine⟨rfl,fun x hx=>?_⟩
  simp only[zH] at hx
  rcases hx with rfl|rfl|hx
  ·rfl
  ·simp only[okB,zh]
   intro e he
   obtain⟨i,_,rfl⟩:=zt.1 he
   intro d hd
   simp only[fR,zH,zai,or_false] at hd
   rcases hd with rfl|rfl<;>rfl
  ·exact okB_ws _ _ _ _ _ x hx
 ·rintro d' H' ⟨d0,H0,⟨rfl,rfl⟩,rfl,rfl⟩
  unfold WhQ
  rw[←hN,←hw]
  refine⟨_,1,2,rfl,?_,?_,by decide,fun q hq=>?_⟩
  ·show D.ms (1+H.length) 0 N N=_
   rw[Nat.add_comm]
  ·refine zdO rfl ?_
   show some (Blk.live 2 _)=_
   rw[eOL_sh H.length w N 2 d (fR w) fun i=>rfl]
  ·obtain⟨i,hi,rfl⟩:=wlQ_words hq
   show (H++_)[H.length+2+i]? = _
   rw[zaD]
   refine zdO rfl ?_
   rw[show 2+i=i+2 by omega]
   show ((wsF d N w w 0).map (shB H.length))[i]? = _
   rw[wsF_sh]
   exact wsF_get d hi
end Go.DL
/- Shelves: New of both. -/
namespace Go.DL
open Go.Proofs Go
def NewS (s:Shape)(n:Int):Int:=if ze9 s=0 then (if 1≤n∧n≤5 then 0 else 1) else ze9 s
def NewQ (H:List Blk)(s:Shape)(n:Int)(d:D)(H':List Blk):Prop:=
 (NewS s n≠0∧d=.tup [.v (.pointer none),wI (NewS s n)]∧∃T,H'=H++T)∨
 (NewS s n=0∧∃p cb T,d=.tup [.mp p 0 0,wI 0]∧H'=H++T∧H.length≤p∧H.length≤cb∧p≠cb∧H'[p]? = some (.live 4 [[wI s.Data,wI s.Checks,wI s.Width,.ms cb 0 n.toNat n.toNat]])∧H'[cb]? = some (.live 1 (List.replicate n.toNat [.nil])))
theorem c_New {H:List Blk}(s:Shape)(n:Int):CallSp Tryz.prog 55 [dSh s,wI n] H (NewQ H s n):=by
 refine CallSp.vt pok Tryz.f55 (n:=20) (rs:=[.tmp 4,.tmp 5]) rfl rfl rfl rfl rfl rfl rfl fun g=>?_
 have hk:=m_Check s
 have hw:=zdK n 1 5
 rcases zcX s with⟨e,h⟩|⟨e,h⟩
 ·rw[e] at hk
  by_cases hn:1≤n∧n≤5
  ·rw[decide_eq_true hn] at hw
   obtain⟨N,hN⟩:∃N:Nat,n=N:=zF (by omega)
   have hnat:n.toNat=N:=by omega
   obtain⟨H2,hH2⟩:∃H2,H2=H++[Blk.live 3 [zcq s]]:=⟨_,rfl⟩
   have g0:H2[H.length]? = some (.live 3 [zcq s]):=by rw[hH2];exact hgX
   have hl2:H2.length=H.length+1:=by rw[hH2];simp
   repeat (any_goals (first|(apply zcd;(first|refine zbW ?_|refine zb0 ?_|refine zbZ ?_|refine zc1 ?_|refine zb2 ?_|(apply zdc;(first|refine zb4 rfl (hk) rfl rfl ?_|refine zb4 rfl (hw) rfl rfl ?_))|refine zcv ?_|(apply w_bx;refine zcI rfl (f_box (cs:=zcq s) (m:=3) rfl rfl rfl rfl) hH2.symm ?_)))|(apply zcg;(first|refine zbY rfl ?_|refine zbX rfl ?_|refine zcb rfl rfl ?_|refine zb5 rfl ?_|refine zb7 rfl ?_|refine zcu [(2,[0,1]),(2,[0,1]),(0,[0,1]),(2,[1]),(1,[1]),(2,[]),(2,[])] 3 zcr rfl (by decide +kernel) (by decide +kernel) (by decide +kernel) nrX nrX ?_))|(apply zez;(first|refine zcy (zdB H2 [_,_] .free) ?_|refine zdG (zb1 (H0:=H2) (T:=[_,_,_]) rfl) ?_|refine PT.asI (zb1 (H0:=H2) (T:=[_,_,_]) rfl) ?_|refine PT.ldHI (zb1 (H0:=H2) (T:=[_,_,_]) rfl) ?_|refine zeN (zb1 (H0:=H2) (T:=[_,_,_]) rfl) (s':=H2.length+0) rfl (ze3 (z:=[.nil]) (sz:=1) (m:=N) (by':=24) rfl rfl rfl rfl rfl (by decide) rfl hN (by omega) (by omega)) (H':=H2++[.live 1 (List.replicate N [.nil]),.free,.free]) (zcV (i:=0) rfl rfl) ?_|refine zeN (zb1 (H0:=H2) (T:=[_,_,_]) rfl) (s':=H2.length+1) rfl (f_box (cs:=[wI s.Data,wI s.Checks,wI s.Width,.ms (H2.length+0) 0 N N]) (m:=4) rfl rfl rfl rfl) (H':=H2++[.live 1 (List.replicate N [.nil]),.live 4 [[wI s.Data,wI s.Checks,wI s.Width,.ms (H2.length+0) 0 N N]],.free]) (zcV (i:=1) rfl rfl) ?_|refine zcD (zb1 (H0:=H2) (T:=[_,_,_]) rfl) (zdm (d:=.agg [wI s.Data,wI s.Checks,wI s.Width,.ms (H2.length+0) 0 N N]) rfl) ?_))|(with_reducible refine zce ?_;refine kEr rfl ?_)))
   refine .inr ⟨by rw[NewS,if_pos e,if_pos hn],H2.length+1,H2.length+0,_,rfl,(congrArg (·++_) hH2).trans (zT _ _ _),by omega,by omega,by omega,?_,?_⟩
   ·rw[hnat];exact zdO rfl rfl
   ·rw[hnat];exact zdO rfl rfl
  ·rw[decide_eq_false hn] at hw
   repeat (any_goals (first|(apply zcd;(first|refine zbW ?_|refine zb0 ?_|refine zbZ ?_|refine zc1 ?_|refine zb2 ?_|(apply zdc;(first|refine zb4 rfl (hk) rfl rfl ?_|refine zb4 rfl (hw) rfl rfl ?_))|refine zcv ?_|refine zco ?_))|(apply zcg;(first|refine zbY rfl ?_|refine zbX rfl ?_|refine zch rfl rfl ?_|refine zcb rfl rfl ?_|refine zb5 rfl ?_|refine zb7 rfl ?_))|with_reducible (refine kSr ?_)|(with_reducible refine zce ?_;refine kEr rfl ?_)))
   have e1:NewS s n=1:=by rw[NewS,if_pos e,if_neg hn]
   exact .inl ⟨by omega,by rw[e1];rfl,_,rfl⟩
 ·rw[e] at hk
  repeat (any_goals (first|(apply zcd;(first|refine zbW ?_|refine zb0 ?_|refine zbZ ?_|refine zc1 ?_|refine zb2 ?_|refine zb4 rfl (hk) rfl rfl ?_|refine zco ?_))|(apply zcg;(first|refine zbY rfl ?_|refine zbX rfl ?_|refine zch rfl rfl ?_|refine zb7 rfl ?_))|with_reducible (refine kSr ?_)|(with_reducible refine zce ?_;refine kEr rfl ?_)))
  have e1:NewS s n=1:=by rw[NewS,if_neg (by omega),e]
  exact .inl ⟨by omega,by rw[e1];rfl,_,rfl⟩
theorem c_RNew {H:List Blk}(s:Shape)(n:Int):CallSp Tryz.prog 56 [dSh s,wI n] H (NewQ H s n):=by
 refine CallSp.vt pok Tryz.f56 (n:=24) (rs:=[.tmp 4,.tmp 5]) rfl rfl rfl rfl rfl rfl rfl fun g=>?_
 have hk:=m_RCheck s
 have hw:=m_in n 1 5
 rcases zcX s with⟨e,h⟩|⟨e,h⟩
 ·rw[e] at hk
  by_cases hn:1≤n∧n≤5
  ·rw[decide_eq_true hn] at hw
   obtain⟨N,hN⟩:∃N:Nat,n=N:=zF (by omega)
   have hnat:n.toNat=N:=by omega
   obtain⟨H2,hH2⟩:∃H2,H2=H++[Blk.live 3 [zcq s]]:=⟨_,rfl⟩
   have g0:H2[H.length]? = some (.live 3 [zcq s]):=by rw[hH2];exact hgX
   have hl2:H2.length=H.length+1:=by rw[hH2];simp
   repeat (any_goals (first|(apply zcd;(first|refine zbW ?_|refine zcS rfl ?_|refine zb0 ?_|refine zbZ ?_|refine zc1 ?_|refine zb2 ?_|(apply zdc;(first|refine zb4 rfl (hk) rfl rfl ?_|refine zb4 rfl (hw) rfl rfl ?_))|refine zcx ?_|refine zcv ?_|(apply w_bx;refine zcI rfl (f_box (cs:=zcq s) (m:=3) rfl rfl rfl rfl) hH2.symm ?_)))|(apply zcg;(first|refine zbY rfl ?_|refine zbX rfl ?_|refine zcb rfl rfl ?_|refine zb5 rfl ?_|refine zb7 rfl ?_|refine zcu [(2,[0,1]),(2,[0,1]),(0,[0,1]),(2,[1]),(1,[1]),(2,[]),(2,[])] 3 zcr rfl (by decide +kernel) (by decide +kernel) (by decide +kernel) nrX nrX ?_))|(apply zez;(first|refine zcy (zdB H2 [_,_] .free) ?_|refine zdG (zb1 (H0:=H2) (T:=[_,_,_]) rfl) ?_|refine PT.asI (zb1 (H0:=H2) (T:=[_,_,_]) rfl) ?_|refine PT.ldHI (zb1 (H0:=H2) (T:=[_,_,_]) rfl) ?_|refine zeN (zb1 (H0:=H2) (T:=[_,_,_]) rfl) (s':=H2.length+0) rfl (ze3 (z:=[.nil]) (sz:=1) (m:=N) (by':=24) rfl rfl rfl rfl rfl (by decide) rfl hN (by omega) (by omega)) (H':=H2++[.live 1 (List.replicate N [.nil]),.free,.free]) (zcV (i:=0) rfl rfl) ?_|refine zeN (zb1 (H0:=H2) (T:=[_,_,_]) rfl) (s':=H2.length+1) rfl (f_box (cs:=[wI s.Data,wI s.Checks,wI s.Width,.ms (H2.length+0) 0 N N]) (m:=4) rfl rfl rfl rfl) (H':=H2++[.live 1 (List.replicate N [.nil]),.live 4 [[wI s.Data,wI s.Checks,wI s.Width,.ms (H2.length+0) 0 N N]],.free]) (zcV (i:=1) rfl rfl) ?_|refine zcD (zb1 (H0:=H2) (T:=[_,_,_]) rfl) (zdm (d:=.agg [wI s.Data,wI s.Checks,wI s.Width,.ms (H2.length+0) 0 N N]) rfl) ?_))|(with_reducible refine zce ?_;refine kEr rfl ?_)))
   refine .inr ⟨by rw[NewS,if_pos e,if_pos hn],H2.length+1,H2.length+0,_,rfl,(congrArg (·++_) hH2).trans (zT _ _ _),by omega,by omega,by omega,?_,?_⟩
   ·rw[hnat];exact zdO rfl rfl
   ·rw[hnat];exact zdO rfl rfl
  ·rw[decide_eq_false hn] at hw
   repeat (any_goals (first|(apply zcd;(first|refine zbW ?_|refine zcS rfl ?_|refine zb0 ?_|refine zbZ ?_|refine zc1 ?_|refine zb2 ?_|(apply zdc;(first|refine zb4 rfl (hk) rfl rfl ?_|refine zb4 rfl (hw) rfl rfl ?_))|refine zcx ?_|refine zcv ?_|refine zco ?_))|(apply zcg;(first|refine zbY rfl ?_|refine zbX rfl ?_|refine zch rfl rfl ?_|refine zb7 rfl ?_))|with_reducible (refine kSr ?_)|(with_reducible refine zce ?_;refine kEr rfl ?_)))
   have e1:NewS s n=1:=by rw[NewS,if_pos e,if_neg hn]
   exact .inl ⟨by omega,by rw[e1];rfl,_,rfl⟩
 ·rw[e] at hk
  repeat (any_goals (first|(apply zcd;(first|refine zbW ?_|refine zdI rfl rfl ?_|refine zb0 ?_|refine zbZ ?_|refine zc1 ?_|refine zb2 ?_|refine zb4 rfl (hk) rfl rfl ?_|refine zcx ?_|refine zco ?_))|(apply zcg;(first|refine zbY rfl ?_|refine zbX rfl ?_|refine zch rfl rfl ?_|refine zcb rfl rfl ?_|refine zb5 rfl ?_|refine zb7 rfl ?_))|with_reducible (refine kSr ?_)|(with_reducible refine zce ?_;refine kEr rfl ?_)))
  have e1:NewS s n=1:=by rw[NewS,if_neg (by omega),e]
  exact .inl ⟨by omega,by rw[e1];rfl,_,rfl⟩
end Go.DL
