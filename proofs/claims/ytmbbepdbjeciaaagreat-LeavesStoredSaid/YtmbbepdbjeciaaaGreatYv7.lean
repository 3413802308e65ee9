/- Join of the program, walked. -/
import Derived.Test.YtmbbepdbjeciaaaGreatYp1
import Derived.Test.YtmbbepdbjeciaaaGreatZy
import Derived.Test.YtmbbepdbjeciaaaGreatZs
import Derived.Test.YtmbbepdbjeciaaaGreatE6
import Derived.Test.YtmbbepdbjeciaaaGreatE5
import Derived.Test.YtmbbepdbjeciaaaGreatYu1
import Derived.Shelf.SortM.Plain
import Derived.Shelf.SortM.SortNone
import Derived.Ground.SlgmProg
set_option maxRecDepth 100000
set_option maxHeartbeats 16000000
namespace Go.DL
open Go.Proofs Go
theorem m_join (s:Shape)(cs:List (List Leaf))(hck:CkOk s)(hc:cs.length≤5)(hok:∀l,l∈cs→LvsOk s l):
  Maps Tryz.prog 101 [dSh s,.sl (cs.map eLvs)] (.fl ((joinL cs (s.Data+s.Checks).toNat).map eLeaf)):=by
 obtain⟨⟨d1,d2⟩,⟨c1,c2⟩,w1,w2⟩:=hck
 obtain⟨N,hN⟩:∃N:Nat,s.Data+s.Checks=N:=Int.eq_ofNat_of_zero_le (by omega)
 rw[hN,Int.toNat_natCast]
 have hflen:cs.flatten.length≤200:=Nat.le_trans (flat_le (m:=40) fun l hl=>(hok l hl).len) (by omega)
 have hfw:∀x,x∈cs.flatten→x.Words.length≤32:=fun x hx=>by
  obtain⟨l,hl1,hl2⟩:=List.mem_flatten.1 hx
  have:=((hok l hl1).wl x hl2).1
  omega
 refine Maps.vt pok Tryz.f101 (n:=62) (rs:=[.tmp 4]) rfl rfl rfl rfl rfl rfl fun g=>?_
 repeat (any_goals (first|(apply w_any;(first|refine RT.nil ?_|refine RT.mvA ?_|(apply w_as;(first|refine RT.asA ?_|refine RT.asM ?_))|refine RT.clA ?_|refine RT.nwA ?_|refine RT.mkH ?_))|(apply v_any;(first|refine VT.seq rfl ?_|refine VT.reg rfl ?_|refine VT.block rfl ?_))))
 refine VT.loop (fun j a H g'=>∃(i:Nat) (kv:KV) (f:Int→Nat),j=cs.length-i∧i≤cs.length∧H[0]? = some (.live 3 [eShape s])∧H[1]? = some (tabB kv)∧JM 2 H kv f (cs.take i).flatten∧2≤H.length∧a=[(2,.mp 0 0 0),(5,.mm 1),(15,.sl (cs.map eLvs)),(16,wI cs.length),(17,wI i)]∧g'=g) rfl
  ⟨_,_,[.live 3 [eShape s],tabB []],⟨0,[],fun _=>0,rfl,Nat.zero_le _,rfl,rfl,JM.nil _ _ _,Nat.le_refl _,rfl,rfl⟩,Wk.keep kpX⟩ ?_
 rintro j a H g' ⟨i,kv,f,rfl,hi,h0,h1,hJ,hH2l,rfl,rfl⟩
 by_cases hlt:i < cs.length
 ·have hok1:=hok cs[i] (List.getElem_mem hlt)
  have hlen:=hok1.len
  have hfl:(cs.take (i+1)).flatten=(cs.take i).flatten++cs[i]:=by
   rw[List.take_succ_eq_append_getElem hlt,List.flatten_append];simp
  have hfl2:((cs.take i).flatten).length≤200:=Nat.le_trans (flat_le (m:=40) fun l hl=>(hok l (List.mem_of_mem_take hl)).len) (by rw[List.length_take];omega)
  repeat (any_goals (first|(apply w_any;(first|refine RT.nil ?_|refine RT.mvA ?_|refine RT.asA ?_|refine RT.ldA ?_|refine RT.bnA ?_|refine RT.clA ?_|refine RT.ixA ?_))|(apply v_any;(first|refine VT.seq rfl ?_|refine VT.reg rfl ?_|refine VT.block rfl ?_|refine VT.skip rfl ?_|refine VT.condY rfl rfl (by first|assumption|omega) ?_))))
  refine VT.loop (fun j a H g2=>∃(k:Nat) (kv:KV) (f:Int→Nat),j=cs[i].length-k∧k≤cs[i].length∧H[0]? = some (.live 3 [eShape s])∧H[1]? = some (tabB kv)∧JM 2 H kv f ((cs.take i).flatten++cs[i].take k)∧2≤H.length∧a=[(2,.mp 0 0 0),(5,.mm 1),(15,.sl (cs.map eLvs)),(16,wI cs.length),(17,wI i),(21,.sl (cs[i].map eLeaf)),(22,wI cs[i].length),(23,wI k)]∧g2=g') rfl
   ⟨_,_,H,⟨0,kv,f,rfl,Nat.zero_le _,h0,h1,by rw[List.take_zero,List.append_nil];exact hJ,hH2l,rfl,rfl⟩,Wk.keep kpX⟩ ?_
  clear h0 h1 hJ hH2l
  rintro j a H g2 ⟨k,kv,f,rfl,hk,h0,h1,hJ,hHl,rfl,rfl⟩
  by_cases hlk:k < cs[i].length
  ·obtain⟨x,hx⟩:∃x,cs[i][k]? = some x:=⟨_,List.getElem?_eq_getElem hlk⟩
   have hps:(cs.take i).flatten++cs[i].take (k+1)=((cs.take i).flatten++cs[i].take k)++[x]:=by
    rw[List.take_add_one,hx,List.append_assoc];rfl
   have hpl:((cs.take i).flatten++cs[i].take k).length≤240:=by
    rw[List.length_append,List.length_take];omega
   generalize hp:(cs.take i).flatten++cs[i].take k=p at hJ hps hpl
   obtain⟨H2,hH2⟩:∃H2,H2=(H++[Blk.live 2 [[wI 0,.nil]]]).set H.length (Blk.live 2 [eLeaf x]):=⟨_,rfl⟩
   have g0:H2[0]? = some (.live 3 [eShape s]):=by rw[hH2];exact hgX
   have g1:H2[1]? = some (tabB kv):=by rw[hH2];exact hgX
   have gx:H2[H.length]? = some (.live 2 [eLeaf x]):=by rw[hH2];exact hgX
   have gxl:=hg_lt gx
   have hJ2:JM 2 H2 kv f p:=by rw[hH2];exact hJ.high _ _
   obtain⟨m,hm⟩:∃m,m=(selP p x.Number).length:=⟨_,rfl⟩
   have hml:m≤240:=by rw[hm];exact Nat.le_trans (List.length_filter_le _ _) hpl
   by_cases hs:selP p x.Number=[]
   ·have hlook:(aget kv x.Number).orElse (fun _=>zvD Tryz.prog 24)=some .nil:=by rw[hJ2.get,if_pos hs];rfl
    have hm0:m=0:=by rw[hm,hs];rfl
    repeat (any_goals (first|(apply w_any;(first|refine RT.nil ?_|refine RT.mvA ?_|refine RT.ldA ?_|refine RT.bnA ?_|refine RT.v (f_ixQ rfl rfl rfl hx rfl rfl) ?_|refine RT.wr (f_stA rfl hgX rfl rfl rfl rfl rfl (by first|decide|exact Nat.le_refl _) rfl) (Eq.trans rfl hH2.symm) ?_|refine RT.new (s:=H.length) rfl (f_allocL (z:=[wI 0,.nil]) (m:=2) rfl rfl) rfl ?_))|(apply v_any;(first|refine VT.seq rfl ?_|refine VT.reg rfl ?_|refine VT.block rfl ?_|refine VT.skip rfl ?_|refine VT.drawS [1] 1 [none,none,none,none,none,none,none,none,none,none,some 0] [(3,[1,2,3],none),(3,[1,2,3],none),(3,[1,2,3],none),(3,[1,2,3],none),(3,[1,2,3],none),(3,[1,2,3],none),(3,[1,2,3],none),(3,[1,2,3],none),(0,[1,2,3],none),(1,[2,3],none),(2,[3],some 0)] 4 rfl (by first|(simp;done)|(simp;omega)) (by first|(simp;done)|(simp;omega)) mixedOk rfl (by decide +kernel) (by decide +kernel) (by decide +kernel) rfl (H1:=H2++[.free,.free,.free,.free]) rfl ?_|refine VT.condY rfl rfl (by first|assumption|omega) ?_))|(apply s_any;(first|refine ST.done (dropLn (H2.set 1 _) [_,_,_] .free) ?_|refine ST.mvM ?_|refine ST.ldH ?_|refine ST.faA ?_|refine ST.apN rfl rfl (s':=H2.length+1) (k:=.live 2 ([x].map eLeaf)) (m:=1) (H':=H2++[.live 2 [eLeaf x],.live 2 ([x].map eLeaf),.free,.free]) (by exact f_appT0 (f:=eLeaf) (v:=[x]) (mm:=1) (by':=32) rfl rfl hgX rfl rfl rfl (by decide) rfl rfl (fun _=>⟨rfl,rfl⟩) (by simp) (by simp)) (by exact setLen (i:=1) (T':=[.live 2 [eLeaf x],.live 2 ([x].map eLeaf),.free,.free]) rfl rfl) ?_|refine ST.new rfl (s':=H2.length+0) rfl (f_bslA1 rfl rfl rfl rfl rfl rfl) (setLen (i:=0) (T':=[.live 2 [eLeaf x],.free,.free,.free]) rfl rfl) ?_|refine ST.v (f_look (d:=.nil) rfl rfl hgX rfl hlook) ?_|refine ST.wr (q:=0) (b:=1) rfl rfl (f_mupd (d:=.ms (H2.length+1) 0 1 1) rfl rfl rfl hgX rfl) (List.set_append_left _ _ (by omega)) ?_))|with_reducible (refine kLn ?_)))
    refine⟨cs[i].length-(k+1),by omega,_,_,⟨k+1,_,fun n=>if n=x.Number then H2.length+1 else f n,rfl,hlk,hgX,hgX,?_,?_,rfl,rfl⟩,Wk.keep kpX⟩
    ·rw[hps]
     have:=hJ2.push (H2:=H2.set 1 (tabB (aset kv x.Number (.ms (H2.length+1) 0 1 1)))) (T:=[.live 2 [eLeaf x],.live 2 ([x].map eLeaf),.free]) (t:=1) (y:=x) (by omega) (by rw[hs];rfl) (by simp) (fun n hn hn2=>by rw[List.getElem?_set_ne (by have:=(hJ2.row n hn2).2;omega)])
     rw[←hm,hm0] at this
     exact this
    ·simp
   ·have hlook:(aget kv x.Number).orElse (fun _=>zvD Tryz.prog 24)=some (.ms (f x.Number) 0 m m):=by rw[hJ2.get,if_neg hs,hm];rfl
    obtain⟨hrow,hrk⟩:=hJ2.row _ hs
    obtain⟨b,hb⟩:∃b,b=f x.Number:=⟨_,rfl⟩
    rw[←hb] at hrow hrk hlook
    have hbl:=hg_lt hrow
    have hbl':=hg_lt (hJ.row _ hs).1
    rw[←hb] at hbl'
    repeat (any_goals (first|(apply w_any;(first|refine RT.nil ?_|refine RT.mvA ?_|refine RT.ldA ?_|refine RT.bnA ?_|refine RT.v (f_ixQ rfl rfl rfl hx rfl rfl) ?_|refine RT.wr (f_stA rfl hgX rfl rfl rfl rfl rfl (by first|decide|exact Nat.le_refl _) rfl) (Eq.trans rfl hH2.symm) ?_|refine RT.new (s:=H.length) rfl (f_allocL (z:=[wI 0,.nil]) (m:=2) rfl rfl) rfl ?_))|(apply v_any;(first|refine VT.seq rfl ?_|refine VT.reg rfl ?_|refine VT.block rfl ?_|refine VT.skip rfl ?_|refine VT.drawS [b,1] 2 [none,none,none,none,none,none,none,none,none,some 0,some 1] [(3,[2,3,4,0],none),(3,[2,3,4,0],none),(3,[2,3,4,0],none),(3,[2,3,4],none),(3,[2,3,4],none),(3,[2,3,4],none),(3,[2,3,4],none),(3,[2,3,4],none),(0,[2,3,4],none),(1,[3,4],some 0),(2,[4],some 1)] 4 rfl (by first|(simp;done)|(simp;omega)) (by first|(simp;done)|(simp;omega)) mixedOk rfl (by decide +kernel) (by decide +kernel) (by decide +kernel) rfl (H1:=H2++[.free,.free,.free,.free]) rfl ?_|refine VT.condY rfl rfl (by first|assumption|omega) ?_))|(apply s_any;(first|refine ST.done (dropLn ((H2.set b .dead).set 1 _) [_,_,_] .free) ?_|refine ST.mvM ?_|refine ST.ldH ?_|refine ST.faA ?_|refine ST.ap (q:=0) (b:=b) rfl rfl (s':=H2.length+1) rfl (f_appT (f:=eLeaf) (o:=selP p x.Number) (v:=[x]) (mm:=m+1) (by':=32) rfl rfl hgX (List.take_of_length_le (by rw[List.length_map];omega)) (by rw[List.length_map];omega) hgX hm rfl (by rw[hm];rfl) rfl (by decide) rfl rfl (fun _=>⟨rfl,rfl⟩) (by rw[←hm];simp;omega) (by rw[←hm];simp;omega)) (killLen (T':=[.live 2 [eLeaf x],.live 2 ((selP p x.Number++[x]).map eLeaf),.free,.free]) hbl rfl rfl) ?_|refine ST.new rfl (s':=H2.length+0) rfl (f_bslA1 rfl rfl rfl rfl rfl rfl) (setLen (i:=0) (T':=[.live 2 [eLeaf x],.free,.free,.free]) rfl rfl) ?_|refine ST.v (f_look (d:=.ms b 0 m m) rfl rfl hgX rfl hlook) ?_|refine ST.wr (q:=1) (b:=1) rfl rfl (f_mupd (d:=.ms (H2.length+1) 0 (m+1) (m+1)) rfl rfl rfl hgX rfl) (List.set_append_left _ _ (by rw[List.length_set];omega)) ?_))|with_reducible (refine kLn ?_)))
    refine⟨cs[i].length-(k+1),by omega,_,_,⟨k+1,_,fun n=>if n=x.Number then H2.length+1 else f n,rfl,hlk,hgX,hgX,?_,?_,rfl,rfl⟩,Wk.keep kpX⟩
    ·rw[hps]
     have:=hJ2.push (H2:=(H2.set b .dead).set 1 (tabB (aset kv x.Number (.ms (H2.length+1) 0 (m+1) (m+1))))) (T:=[.live 2 [eLeaf x],.live 2 ((selP p x.Number++[x]).map eLeaf),.free]) (t:=1) (y:=x) (by omega) rfl (by simp) (fun n hn hn2=>by
      rw[List.getElem?_set_ne (by have:=(hJ2.row n hn2).2;omega),List.getElem?_set_ne (fun e=>hn (hJ2.inj n x.Number hn2 hs (by rw[←hb];exact e.symm)))])
     rw[←hm] at this
     exact this
    ·simp
  ·obtain rfl:k=cs[i].length:=by omega
   rw[List.take_length,←hfl] at hJ
   repeat (any_goals (first|(apply w_any;(first|refine RT.nil ?_|refine RT.mvA ?_|refine RT.bnA ?_))|(apply v_any;(first|refine VT.seq rfl ?_|refine VT.reg rfl ?_|refine VT.exit rfl ?_|refine VT.condN rfl rfl (by first|assumption|omega) ?_))|with_reducible (refine kLn ?_)))
   exact⟨cs.length-(i+1),by omega,_,_,⟨i+1,kv,f,rfl,hlt,h0,h1,hJ,hHl,rfl,rfl⟩,Wk.keep kpX⟩
 ·obtain rfl:i=cs.length:=by omega
  rw[List.take_length] at hJ
  repeat (any_goals (first|(apply w_any;(first|refine RT.nil ?_|refine RT.asA ?_|refine RT.bnA ?_))|(apply v_any;(first|refine VT.seq rfl ?_|refine VT.reg rfl ?_|refine VT.block rfl ?_|refine VT.exit rfl ?_|refine VT.condN rfl rfl (by first|assumption|omega) ?_))))
  refine VT.phantom (i:=10) (s:=H.length) 2 rfl rfl rfl ?_
  refine VT.loop (fun j a H2 g2=>∃(n b m:Nat),j=N-n∧n≤N∧H2[0]? = some (.live 3 [eShape s])∧H2[1]? = some (tabB kv)∧JM 2 H2 kv f cs.flatten∧H2[b]? = some (.live 2 ((joinL cs n).map eLeaf))∧2≤b∧(∀k,selP cs.flatten k≠[]→b≠f k)∧m=(joinL cs n).length∧a=[(2,.mp 0 0 0),(5,.mm 1),(10,.ms b 0 m m),(11,wI ((n:Int)+1))]∧g2=g') rfl
   ⟨_,_,H++[.live 2 []],⟨0,H.length,0,rfl,Nat.zero_le _,hgX,hgX,hJ.app _,hgX,hH2l,fun k hk=>by have:=hg_lt (hJ.row k hk).1;omega,rfl,rfl,rfl⟩,Wk.keep kpX⟩ ?_
  clear h0 h1 hJ hH2l
  rintro j a H g2 ⟨n,b,m,rfl,hn,h0,h1,hJ,hb,hb2,hbf,hm,rfl,rfl⟩
  have hbl:=hg_lt hb
  have hjl:=joinL_len cs n
  by_cases hlt:n < N
  ·have hjs:=joinL_succ cs n
   rw[mL_pick] at hjs
   have hget:aget kv ((n:Int)+1)=if selL cs ((n:Int)+1)=[] then none else some (.ms (f ((n:Int)+1)) 0 (selL cs ((n:Int)+1)).length (selL cs ((n:Int)+1)).length):=hJ.get _
   by_cases hs:selL cs ((n:Int)+1)=[]
   ·have hlook:(aget kv ((n:Int)+1)).orElse (fun _=>zvD Tryz.prog 24)=some .nil:=by rw[hget,if_pos hs];rfl
    rw[hs] at hjs
    have hjs2:joinL cs (n+1)=joinL cs n:=by rw[hjs];exact List.append_nil _
    repeat (any_goals (first|(apply w_any;(first|refine RT.nil ?_|(apply w_mv;(first|refine RT.mvA ?_|refine RT.mvM ?_))|refine RT.asA ?_|refine RT.ldH ?_|refine RT.faA ?_|(apply w_bn;(first|refine RT.v (f_leqT rfl rfl (by omega)) ?_|refine RT.bnA ?_))|refine RT.callM rfl (m_most0) rfl rfl ?_|refine RT.exA ?_|refine RT.stH ?_|refine RT.new (s:=H.length) rfl (f_allocL (z:=[wI 0,.nil]) (m:=2) rfl rfl) rfl ?_|refine RT.v (f_look (d:=.nil) rfl rfl hgX rfl hlook) ?_))|(apply v_any;(first|refine VT.seq rfl ?_|refine VT.reg rfl ?_|refine VT.condT rfl rfl ?_|refine VT.condF rfl rfl ?_|refine VT.block rfl ?_|refine VT.skip rfl ?_))|with_reducible (refine kLn ?_)))
    exact⟨N-(n+1),by omega,_,_,⟨n+1,b,m,rfl,hlt,hgX,hgX,hJ.high _ _,by rw[hjs2];exact hgX,hb2,hbf,by rw[hjs2];exact hm,rfl,rfl⟩,Wk.keep kpX⟩
   ·obtain⟨q,hq⟩:∃q,q=(selL cs ((n:Int)+1)).length:=⟨_,rfl⟩
    have hql:q≤200:=by rw[hq];exact Nat.le_trans (List.length_filter_le _ _) hflen
    have hlook:(aget kv ((n:Int)+1)).orElse (fun _=>zvD Tryz.prog 24)=some (.ms (f ((n:Int)+1)) 0 q q):=by rw[hget,if_neg hs,←hq];rfl
    obtain⟨hrow,hrk⟩:=hJ.row _ hs
    have hcm:=c_most (l:=selL cs ((n:Int)+1)) hrow hq (by omega) fun x hx=>by have:=hfw x (List.mem_filter.1 hx).1;omega
    have hfst:=mL_first hs
    rw[←hq] at hjs hfst
    have hout:(mL (selL cs ((n:Int)+1)) q).out.Words.length≤32:=hfw _ (List.mem_filter.1 hfst.2).1
    repeat (any_goals (first|(apply w_any;(first|refine RT.nil ?_|(apply w_mv;(first|refine RT.mvA ?_|refine RT.mvM ?_))|refine RT.ldH ?_|refine RT.faA ?_|(apply w_bn;(first|refine RT.v (f_leqT rfl rfl (by omega)) ?_|refine RT.bnA ?_))|(refine d_call ?_;refine RT.callG rfl (hcm.mono ?_))|refine RT.v (f_look (d:=.ms (f ((n:Int)+1)) 0 q q) rfl rfl hgX rfl hlook) ?_))|(apply v_any;(first|refine VT.seq rfl ?_|refine VT.reg rfl ?_|refine VT.condT rfl rfl ?_|refine VT.block rfl ?_|refine VT.skip rfl ?_))))
    rintro d H4 ⟨rfl,hP⟩
    have hpl:=hP.len
    have heo:eOut (mL (selL cs ((n:Int)+1)) q)=eLeaf (mL (selL cs ((n:Int)+1)) q).out:=if_neg (by omega)
    rw[heo]
    generalize mL (selL cs ((n:Int)+1)) q=st at hjs hfst hout ⊢
    have k0:=hP.get h0
    have k1:=hP.get h1
    have kb:=hP.get hb
    have kJ:=hJ.pre hP
    by_cases hsf:st.second < st.first
    ·rw[if_pos hsf] at hjs
     rw[decide_eq_true hsf]
     change RT _ _ _ _ ((52,D.tup [.agg (eLeaf st.out),wB true])::_) _ _ _
     obtain⟨H5,hH5⟩:∃H5,H5=(H4++[Blk.live 2 [[wI 0,.nil]]]).set H4.length (Blk.live 2 [eLeaf st.out]):=⟨_,rfl⟩
     have l0:H5[0]? = some (.live 3 [eShape s]):=by rw[hH5];exact hgX
     have l1:H5[1]? = some (tabB kv):=by rw[hH5];exact hgX
     have lb:H5[b]? = some (.live 2 ((joinL cs n).map eLeaf)):=by rw[hH5];exact hgX
     have lx:H5[H4.length]? = some (.live 2 [eLeaf st.out]):=by rw[hH5];exact hgX
     have lJ:JM 2 H5 kv f cs.flatten:=by rw[hH5];exact kJ.high _ _
     have lbl:=hg_lt lb
     have lxl:=hg_lt lx
     repeat (any_goals (first|(apply w_any;(first|refine RT.nil ?_|refine RT.mvA ?_|refine RT.asA ?_|refine RT.ldH ?_|refine RT.bnA ?_|refine RT.ap (s:=H5.length+1) (by simp) (f_appT (f:=eLeaf) (o:=joinL cs n) (v:=[st.out]) (mm:=m+1) (by':=32) rfl rfl hgX (List.take_of_length_le (by rw[List.length_map];omega)) (by rw[List.length_map];omega) hgX hm rfl (by rw[hm];rfl) rfl (by decide) rfl rfl (fun _=>⟨rfl,rfl⟩) (by simp;omega) (by simp;omega)) (ap2 lbl _ _) ?_|refine RT.exA ?_|refine RT.wr (f_stA rfl hgX rfl rfl rfl rfl rfl (by first|decide|exact Nat.le_refl _) rfl) (Eq.trans rfl hH5.symm) ?_|refine RT.new (s:=H5.length) rfl (f_bslA1 rfl rfl rfl rfl rfl rfl) rfl ?_|refine RT.new (s:=H4.length) rfl (f_allocL (z:=[wI 0,.nil]) (m:=2) rfl rfl) rfl ?_))|(apply v_any;(first|refine VT.seq rfl ?_|refine VT.reg rfl ?_|refine VT.condT rfl rfl ?_))|with_reducible (refine kLn ?_)))
     refine⟨N-(n+1),by omega,_,_,⟨n+1,H5.length+1,m+1,rfl,hlt,hgX,hgX,?_,by rw[hjs];exact hg_at (t:=1) (by simp) rfl,by omega,fun k hk=>by have:=hg_lt (lJ.row k hk).1;omega,by rw[hjs,List.length_append,hm];rfl,rfl,rfl⟩,Wk.keep kpX⟩
     exact (⟨lJ.get,fun k hk=>⟨hg_ne (lJ.row k hk).1 (hbf k hk),(lJ.row k hk).2⟩,lJ.inj⟩:JM 2 (H5.set b .dead) kv f cs.flatten).app _
    ·rw[if_neg hsf,List.append_nil] at hjs
     rw[decide_eq_false hsf]
     change RT _ _ _ _ ((52,D.tup [.agg (eLeaf st.out),wB false])::_) _ _ _
     repeat (any_goals (first|(apply w_any;(first|refine RT.nil ?_|refine RT.mvA ?_|refine RT.asA ?_|refine RT.bnA ?_|refine RT.exA ?_|refine RT.stH ?_|refine RT.new (s:=H4.length) rfl (f_allocL (z:=[wI 0,.nil]) (m:=2) rfl rfl) rfl ?_))|(apply v_any;(first|refine VT.seq rfl ?_|refine VT.reg rfl ?_|refine VT.condF rfl rfl ?_|refine VT.skip rfl ?_))|with_reducible (refine kLn ?_)))
     exact⟨N-(n+1),by omega,_,_,⟨n+1,b,m,rfl,hlt,hgX,hgX,kJ.high _ _,by rw[hjs];exact hgX,hb2,hbf,by rw[hjs];exact hm,rfl,rfl⟩,Wk.keep kpX⟩
  ·obtain rfl:n=N:=by omega
   have hsr:=joinL_srt cs n
   have hcp:=m_copied (joinL cs n) (by omega) (fun x hx=>by have:=hfw x (hsr.2 x hx).2;omega) (fun x hx=>by have:=(hsr.2 x hx).1;omega) (hsr.1.imp fun h=>by omega)
   rw[sortLf_id hsr.1] at hcp
   have hsn:([.ms b 0 m m]:List D).map (snap (fun b=>H[b]?) 5)=[.sl ((joinL cs n).map eLeaf)]:=congrArg (fun x=>[x]) (snap_all (f:=eLeaf) (lk:=fun b=>H[b]?) (k:=4) hb hm fun x=>rfl)
   repeat (any_goals (first|(apply w_any;(first|refine RT.nil ?_|refine RT.mvA ?_|refine RT.asA ?_|refine RT.ldH ?_|refine RT.faA ?_|(apply w_bn;(first|refine RT.v (f_leqF rfl rfl (by omega)) ?_|refine RT.bnA ?_))|(refine d_call ?_;refine RT.callM rfl hcp hsn rfl ?_)))|(apply v_any;(first|refine VT.seq rfl ?_|refine VT.reg rfl ?_|refine VT.condF rfl rfl ?_|refine VT.exit rfl ?_|refine VT.ret rfl ?_))|(with_reducible refine d_kEr ?_;refine kEr rfl ?_)))
   rfl
end Go.DL

/- Shelves: how they lie in memory; all leaves of data as own blocks behind others. -/
set_option maxRecDepth 100000
set_option maxHeartbeats 16000000
namespace Go.DL
open Go.Proofs Go
abbrev Lab:=Nat→Nat × Nat × Int
structure RowAt (H:List Blk)(lab:Lab)(sd c:Nat)(v:D)(l:List (Nat × Leaf)):Prop where
 hd:(v=.nil∧l=[])∨∃b cap es,v=.ms b 0 l.length cap∧H[b]? = some (.live 2 es)∧es.take l.length=l.map eOL∧l.length≤es.length∧l.length≤cap∧(∀e,e∈es→e.length=2∧e.all isCell=true)∧lab b=(sd,c+1,0)
 ws:∀q,q∈l→H[q.1]? = some (.live 1 (q.2.Words.map eI))∧lab q.1=(sd,c+1,q.2.Number)
 nd:l.Pairwise fun p q=>p.2.Number≠q.2.Number
structure ShAt (H:List Blk)(lab:Lab)(sd:Nat)(p cb:Nat)(s:Shape)(rows:List (D × List (Nat × Leaf))):Prop where
 hd:H[p]? = some (.live 4 [[wI s.Data,wI s.Checks,wI s.Width,.ms cb 0 rows.length rows.length]])
 cs:H[cb]? = some (.live 1 (rows.map fun r=>[r.1]))
 lp:lab p=(sd,0,0)
 lc:lab cb=(sd,0,1)
 row:∀(i:Nat) r,rows[i]? = some r→RowAt H lab sd i r.1 r.2
structure FrL (H H':List Blk)(lab lab':Lab)(sd:Nat):Prop where
 len:H.length≤H'.length
 lb:∀b,b < H.length→lab' b=lab b
 same:∀b,b < H.length→(lab b).1≠sd→H'[b]? = H[b]?
theorem FrL.refl (H:List Blk)(lab:Lab)(sd:Nat):FrL H H lab lab sd:=⟨Nat.le_refl _,fun _ _=>rfl,fun _ _ _=>rfl⟩
def lvsOf (rows:List (D × List (Nat × Leaf))):List (List Leaf):=rows.map fun r=>r.2.map (·.2)
section
variable {H H':List Blk}{lab lab':Lab}{sd sd' c p cb:Nat}{v:D}{l:List (Nat × Leaf)}{s:Shape}{rows:List (D × List (Nat × Leaf))}
theorem RowAt.keep (h:RowAt H lab sd c v l)(hk:∀b x,H[b]? = some x→(lab b).1=sd→(lab b).2.1=c+1→H'[b]? = some x∧lab' b=lab b):RowAt H' lab' sd c v l:=by
 refine⟨?_,fun q hq=>?_,h.nd⟩
 ·rcases h.hd with h1|⟨b,cap,es,h1,h2,h3,h4,h5,h6,h7⟩
  ·exact .inl h1
  ·obtain⟨k1,k2⟩:=hk b _ h2 (by rw[h7]) (by rw[h7])
   exact .inr ⟨b,cap,es,h1,k1,h3,h4,h5,h6,k2.trans h7⟩
 ·obtain⟨h1,h2⟩:=h.ws q hq
  obtain⟨k1,k2⟩:=hk q.1 _ h1 (by rw[h2]) (by rw[h2])
  exact⟨k1,k2.trans h2⟩
theorem ShAt.keep (h:ShAt H lab sd p cb s rows)(hk:∀b x,H[b]? = some x→(lab b).1=sd→H'[b]? = some x∧lab' b=lab b):ShAt H' lab' sd p cb s rows:=by
 obtain⟨a1,a2⟩:=hk p _ h.hd (by rw[h.lp])
 obtain⟨b1,b2⟩:=hk cb _ h.cs (by rw[h.lc])
 exact⟨a1,b1,a2.trans h.lp,b2.trans h.lc,fun i r hr=>(h.row i r hr).keep fun b x h1 h2 _=>hk b x h1 h2⟩
theorem ShAt.other (h:ShAt H lab sd p cb s rows)(hf:FrL H H' lab lab' sd')(hn:sd≠sd'):ShAt H' lab' sd p cb s rows:=
 h.keep fun b x hb hl=>⟨(hf.same b (hg_lt hb) (by rw[hl];exact hn)).trans hb,hf.lb b (hg_lt hb)⟩
theorem ShAt.app (h:ShAt H lab sd p cb s rows)(T:List Blk):ShAt (H++T) lab sd p cb s rows:=h.keep fun _ _ hb _=>⟨hg_app T hb,rfl⟩
theorem RowAt.snap (h:RowAt H lab sd c v l)(k:Nat):DL.snap (fun b=>H[b]?) (k+3) v=.sl ((l.map (·.2)).map eLeaf):=by
 rcases h.hd with⟨rfl,rfl⟩|⟨b,cap,es,rfl,h2,h3,h4,_⟩
 ·rfl
 ·simp only[DL.snap,h2,Nat.zero_add,h4,if_true,List.drop_zero,h3,List.map_map]
  refine congrArg D.sl (List.map_congr_left fun q hq=>?_)
  have h5:=snapWt (k:=k+1) (m:=q.2.Words.length) (cap:=q.2.Words.length) (lk:=fun b=>H[b]?) (h.ws q hq).1 (Nat.le_refl _)
  rw[List.take_length] at h5
  show [wI q.2.Number,DL.snap (fun b=>H[b]?) (k+2) (.ms q.1 0 q.2.Words.length q.2.Words.length)]=_
  rw[h5];rfl
theorem ShAt.snapC (h:ShAt H lab sd p cb s rows)(k:Nat)(n c:Nat)(hn:n=rows.length):DL.snap (fun b=>H[b]?) (k+4) (.ms cb 0 n c)=.sl ((lvsOf rows).map eLvs):=by
 subst hn
 simp only[DL.snap,h.cs,Nat.zero_add,List.length_map,Nat.le_refl,if_true,List.drop_zero]
 rw[List.take_of_length_le (by simp),lvsOf,List.map_map,List.map_map]
 refine congrArg D.sl (List.map_congr_left fun r hr=>?_)
 obtain⟨i,hi,rfl⟩:=List.getElem_of_mem hr
 show [DL.snap (fun b=>H[b]?) (k+3) _]=[_]
 rw[(h.row i _ (List.getElem?_eq_getElem hi)).snap k]
abbrev eSh (s:Shape)(cs:List (List Leaf)):List D:=[wI s.Data,wI s.Checks,wI s.Width,.sl (cs.map eLvs)]
theorem ShAt.snap (h:ShAt H lab sd p cb s rows):DL.snap (fun b=>H[b]?) 5 (.mp p 0 0)=.rp (eSh s (lvsOf rows)):=by
 have e:=h.snapC 0 rows.length rows.length rfl
 show (match (fun b=>H[b]?) p with
  |some (.live _ es)=>match es[0]? with
   |some e=>D.rp ((e.drop 0).map (DL.snap (fun b=>H[b]?) 4))
   |none=>.any
  |_=>.any)=_
 simp only[h.hd,List.getElem?_cons_zero,List.drop_zero,List.map_cons,List.map_nil]
 rw[e];rfl
end
def wlQ (k N w:Nat)(d:List (List Int)):List (Nat × Leaf):=(List.range N).map fun i:Nat=>(k+i,⟨(i:Int)+1,(List.range w).map fun q:Nat=>horner (colS d q) ((i:Int)+1)⟩)
theorem wlQ_snd (k N w:Nat)(d:List (List Int)):(wlQ k N w d).map (·.2)=wholeL N w d:=by simp[wlQ,wholeL]
theorem wlQ_len (k N w:Nat)(d:List (List Int)):(wlQ k N w d).length=N:=by simp[wlQ]
def WhQ (H:List Blk)(s:Shape)(d:List (List Int))(x:D)(H':List Blk):Prop:=
 ∃(T:List Blk) (r o:Nat),H'=H++T∧x=.ms (H.length+r) 0 (s.Data+s.Checks).toNat (s.Data+s.Checks).toNat∧H'[H.length+r]? = some (.live 2 ((wlQ (H.length+o) (s.Data+s.Checks).toNat s.Width.toNat d).map eOL))∧r < o∧
  ∀q,q∈wlQ (H.length+o) (s.Data+s.Checks).toNat s.Width.toNat d→H'[q.1]? = some (.live 1 (q.2.Words.map eI))
theorem eI_sh (K:Nat)(l:List Int):(l.map eI).map (List.map (shD K))=l.map eI:=by rw[List.map_map];exact List.map_congr_left fun _ _=>rfl
theorem wlQ_words {k N w:Nat}{d:List (List Int)}{q:Nat × Leaf}(hq:q∈wlQ k N w d):∃i,i < N∧q=(k+i,⟨(i:Int)+1,rowF d w i w 0⟩):=by
 obtain⟨i,hi,rfl⟩:=List.mem_map.1 hq
 rw[List.mem_range] at hi
 exact⟨i,hi,by rw[rowF_last]⟩
theorem okB_ws (d:List (List Int))(N w j r:Nat):∀x,x∈wsF d N w j r→okB x=true:=fun x hx=>by
 obtain⟨i,_,rfl⟩:=List.mem_map.1 hx
 simp only[okB,List.all_eq_true]
 intro e he
 obtain⟨a,_,rfl⟩:=List.mem_map.1 he
 intro d hd
 rw[List.mem_singleton.1 hd];rfl
theorem wsF_sh (K:Nat)(d:List (List Int))(N w j r:Nat):(wsF d N w j r).map (shB K)=wsF d N w j r:=by
 rw[wsF,List.map_map]
 refine List.map_congr_left fun i _=>?_
 show Blk.live 1 _=_
 rw[eI_sh]
theorem eOL_sh (K w N:Nat)(o:Nat)(d:List (List Int))(f:Nat→List D)(hf:∀i,f i=[wI ((i:Int)+1),.ms (i+o) 0 w w]):((List.range N).map f).map (List.map (shD K))=(wlQ (K+o) N w d).map eOL:=by
 rw[wlQ,List.map_map,List.map_map]
 refine List.map_congr_left fun i _=>?_
 show (f i).map (shD K)=_
 rw[hf]
 show [wI ((i:Int)+1),D.ms (i+o+K) 0 w w]=[wI ((i:Int)+1),D.ms (K+o+i) 0 _ _]
 rw[List.length_map,List.length_range,show K+o+i=i+o+K by omega]
theorem c_whole {H:List Blk}{s:Shape}{d:List (List Int)}{x:D}(h:CkOk s)(hd:dataW s.Width.toNat d)(hx:snap (fun b=>H[b]?) 5 x=.sl (d.map eRow)):CallSp Tryz.prog 71 [dSh s,x] H (WhQ H s d):=by
 obtain⟨N,hN⟩:∃N,N=(s.Data+s.Checks).toNat:=⟨_,rfl⟩
 obtain⟨w,hw⟩:∃w,w=s.Width.toNat:=⟨_,rfl⟩
 have h0:=c_whole0 s d h hd
 rw[←hN,←hw] at h0
 have e:[dSh s,x].map (snap (fun b=>H[b]?) 5)=[dSh s,.sl (d.map eRow)]:=by
  rw[List.map_cons,List.map_cons,hx];rfl
 rw[←e] at h0
 refine (h0.frameN ?_).mono ?_
 ·rintro d' H' ⟨rfl,rfl⟩
  refine⟨rfl,fun x hx=>?_⟩
  simp only[List.mem_cons,List.mem_append,List.not_mem_nil,or_false] at hx
  rcases hx with rfl|rfl|rfl|hx|rfl|rfl
  ·rfl
  ·simp only[okB,List.all_eq_true]
   intro e he
   rw[outW,Nat.sub_self,List.replicate_zero,List.append_nil] at he
   obtain⟨i,_,rfl⟩:=List.mem_map.1 he
   intro d hd
   simp only[List.mem_cons,List.not_mem_nil,or_false] at hd
   rcases hd with rfl|rfl<;>rfl
  ·rfl
  ·exact okB_ws _ _ _ _ _ x hx
  ·rfl
  ·rfl
 ·rintro d' H' ⟨d0,H0,⟨rfl,rfl⟩,rfl,rfl⟩
  unfold WhQ
  rw[←hN,←hw]
  refine⟨_,1,3,rfl,?_,?_,by decide,fun q hq=>?_⟩
  ·show D.ms (1+H.length) 0 N N=_
   rw[Nat.add_comm]
  ·refine hg_at rfl ?_
   show some (Blk.live 2 _)=_
   rw[outW,Nat.sub_self,List.replicate_zero,List.append_nil,eOL_sh H.length w N 3 d _ fun i=>rfl]
  ·obtain⟨i,hi,rfl⟩:=wlQ_words hq
   show (H++_)[H.length+3+i]? = _
   rw[Nat.add_assoc]
   refine hg_at rfl ?_
   rw[show 3+i=i+3 by omega]
   show ((wsF d N w w 0++[Blk.dead,.dead]).map (shB H.length))[i]? = _
   rw[List.map_append,wsF_sh,List.getElem?_append_left (by rw[wsF_len];exact hi)]
   exact wsF_get d hi
end Go.DL

/- Shelves: New of both. -/
set_option maxRecDepth 100000
set_option maxHeartbeats 16000000
namespace Go.DL
open Go.Proofs Go
def NewS (s:Shape)(n:Int):Int:=if CheckS s=0 then (if 1≤n∧n≤5 then 0 else 1) else CheckS s
def NewQ (H:List Blk)(s:Shape)(n:Int)(d:D)(H':List Blk):Prop:=
 (NewS s n≠0∧d=.tup [.v (.pointer none),wI (NewS s n)]∧∃T,H'=H++T)∨
 (NewS s n=0∧∃p cb T,d=.tup [.mp p 0 0,wI 0]∧H'=H++T∧H.length≤p∧H.length≤cb∧p≠cb∧H'[p]? = some (.live 4 [[wI s.Data,wI s.Checks,wI s.Width,.ms cb 0 n.toNat n.toNat]])∧H'[cb]? = some (.live 1 (List.replicate n.toNat [.nil])))
theorem c_New {H:List Blk}(s:Shape)(n:Int):CallSp Tryz.prog 55 [dSh s,wI n] H (NewQ H s n):=by
 refine CallSp.vt pok Tryz.f55 (n:=20) (rs:=[.tmp 4,.tmp 5]) rfl rfl rfl rfl rfl rfl rfl fun g=>?_
 have hk:=m_Check s
 have hw:=m_within n 1 5
 rcases CheckS_cases s with⟨e,h⟩|⟨e,h⟩
 ·rw[e] at hk
  by_cases hn:1≤n∧n≤5
  ·rw[decide_eq_true hn] at hw
   obtain⟨N,hN⟩:∃N:Nat,n=N:=Int.eq_ofNat_of_zero_le (by omega)
   have hnat:n.toNat=N:=by omega
   obtain⟨H2,hH2⟩:∃H2,H2=H++[Blk.live 3 [eShape s]]:=⟨_,rfl⟩
   have g0:H2[H.length]? = some (.live 3 [eShape s]):=by rw[hH2];exact hgX
   have hl2:H2.length=H.length+1:=by rw[hH2];simp
   repeat (any_goals (first|(apply w_any;(first|refine RT.nil ?_|refine RT.mvA ?_|refine RT.asA ?_|refine RT.ldH ?_|refine RT.bnA ?_|(apply w_cl;(first|refine RT.callM rfl (hk) rfl rfl ?_|refine RT.callM rfl (hw) rfl rfl ?_))|refine RT.unA ?_|(apply w_bx;refine RT.new rfl (f_box (cs:=eShape s) (m:=3) rfl rfl rfl rfl) hH2.symm ?_)))|(apply v_any;(first|refine VT.seq rfl ?_|refine VT.reg rfl ?_|refine VT.condF rfl rfl ?_|refine VT.skip rfl ?_|refine VT.ret rfl ?_|refine VT.draw [(2,[0,1]),(2,[0,1]),(0,[0,1]),(2,[1]),(1,[1]),(2,[]),(2,[])] 3 mixedOk rfl (by decide +kernel) (by decide +kernel) (by decide +kernel) nrX nrX ?_))|(apply q_any;(first|refine PT.done (dropLn H2 [_,_] .free) ?_|refine PT.mvI (mask_app (H0:=H2) (T:=[_,_,_]) rfl) ?_|refine PT.asI (mask_app (H0:=H2) (T:=[_,_,_]) rfl) ?_|refine PT.ldHI (mask_app (H0:=H2) (T:=[_,_,_]) rfl) ?_|refine PT.newI (mask_app (H0:=H2) (T:=[_,_,_]) rfl) (s':=H2.length+0) rfl (f_make (z:=[.nil]) (sz:=1) (m:=N) (by':=24) rfl rfl rfl rfl rfl (by decide) rfl hN (by omega) (by omega)) (H':=H2++[.live 1 (List.replicate N [.nil]),.free,.free]) (setLen (i:=0) rfl rfl) ?_|refine PT.newI (mask_app (H0:=H2) (T:=[_,_,_]) rfl) (s':=H2.length+1) rfl (f_box (cs:=[wI s.Data,wI s.Checks,wI s.Width,.ms (H2.length+0) 0 N N]) (m:=4) rfl rfl rfl rfl) (H':=H2++[.live 1 (List.replicate N [.nil]),.live 4 [[wI s.Data,wI s.Checks,wI s.Width,.ms (H2.length+0) 0 N N]],.free]) (setLen (i:=1) rfl rfl) ?_|refine PT.vI (mask_app (H0:=H2) (T:=[_,_,_]) rfl) (f_build (d:=.agg [wI s.Data,wI s.Checks,wI s.Width,.ms (H2.length+0) 0 N N]) rfl) ?_))|(with_reducible refine d_kEr ?_;refine kEr rfl ?_)))
   refine .inr ⟨by rw[NewS,if_pos e,if_pos hn],H2.length+1,H2.length+0,_,rfl,(congrArg (·++_) hH2).trans (List.append_assoc _ _ _),by omega,by omega,by omega,?_,?_⟩
   ·rw[hnat];exact hg_at rfl rfl
   ·rw[hnat];exact hg_at rfl rfl
  ·rw[decide_eq_false hn] at hw
   repeat (any_goals (first|(apply w_any;(first|refine RT.nil ?_|refine RT.mvA ?_|refine RT.asA ?_|refine RT.ldH ?_|refine RT.bnA ?_|(apply w_cl;(first|refine RT.callM rfl (hk) rfl rfl ?_|refine RT.callM rfl (hw) rfl rfl ?_))|refine RT.unA ?_|refine RT.nwA ?_))|(apply v_any;(first|refine VT.seq rfl ?_|refine VT.reg rfl ?_|refine VT.condT rfl rfl ?_|refine VT.condF rfl rfl ?_|refine VT.skip rfl ?_|refine VT.ret rfl ?_))|with_reducible (refine kSr ?_)|(with_reducible refine d_kEr ?_;refine kEr rfl ?_)))
   have e1:NewS s n=1:=by rw[NewS,if_pos e,if_neg hn]
   exact .inl ⟨by omega,by rw[e1];rfl,_,rfl⟩
 ·rw[e] at hk
  repeat (any_goals (first|(apply w_any;(first|refine RT.nil ?_|refine RT.mvA ?_|refine RT.asA ?_|refine RT.ldH ?_|refine RT.bnA ?_|refine RT.callM rfl (hk) rfl rfl ?_|refine RT.nwA ?_))|(apply v_any;(first|refine VT.seq rfl ?_|refine VT.reg rfl ?_|refine VT.condT rfl rfl ?_|refine VT.ret rfl ?_))|with_reducible (refine kSr ?_)|(with_reducible refine d_kEr ?_;refine kEr rfl ?_)))
  have e1:NewS s n=1:=by rw[NewS,if_neg (by omega),e]
  exact .inl ⟨by omega,by rw[e1];rfl,_,rfl⟩
end Go.DL

/- Lines compared; a line of words; slices put together. -/
set_option maxRecDepth 100000
set_option maxHeartbeats 16000000
namespace Go.DL
open Go.Proofs Go
deriving instance DecidableEq for Line
section
variable {P:Program}{H:List Blk}{s n:Nat}{al:AL}{tx:TypeId}{x y:Operand}{a:Int}
theorem f_ixArr {bk j len k:Nat}{e:TypeId}(hx:evA n al x=.mp bk j 0)(hy:evA n al y=wI a)(hn:a=k)(hu:P.underlying tx=some (.array len e))(hs:tsz P e=some 1)(hk:k < len):Val P H s n al (.indexAddr tx x y) (.mp bk j k):=by
 subst hn
 refine⟨?_⟩
 simp only[stepD,ev_T,hx,hy,indexAddrD,unfl,intD,hu,hs]
 rw[if_pos (by omega)]
 simp[keepD]
end
theorem st72:Tryz.prog.stoodInHeld 72=false:=by kernel_rfl
theorem gt72:Tryz.prog.eqGuardType Tryz.prog.depth 72=false:=by kernel_rfl
theorem agg_line (x y:Line):aggEqD Tryz.prog 72 (eLine x) (eLine y)=some (decide (x=y)):=by
 have e:aggEqD Tryz.prog 72 (eLine x) (eLine y)=if Tryz.prog.stoodInHeld 72=false∧Tryz.prog.eqGuardType Tryz.prog.depth 72=false then some (x.ID==y.ID&&(x.Day==y.Day&&(x.What==y.What&&(x.Worth==y.Worth&&true)))) else none:=rfl
 rw[e,if_pos ⟨st72,gt72⟩]
 refine congrArg some ?_
 rw[Bool.eq_iff_iff]
 obtain⟨a,b,c,d⟩:=x
 obtain⟨a',b',c',d'⟩:=y
 simp
theorem m_SameLines (a b:List Line)(hl:a.length≤4611686018427387904)(hl':b.length≤4611686018427387904):Maps Tryz.prog 38 [.sl (a.map eLine),.sl (b.map eLine)] (wB (decide (a=b))):=by
 refine Maps.vt pok Tryz.f38 (n:=26) (rs:=[.tmp 4]) rfl rfl rfl rfl rfl rfl fun g=>?_
 by_cases he:a.length=b.length
 ·repeat (any_goals (first|(apply w_any;(first|refine RT.nil ?_|refine RT.mvA ?_|refine RT.asA ?_|refine RT.bnA ?_|refine RT.clA ?_))|(apply v_any;(first|refine VT.seq rfl ?_|refine VT.reg rfl ?_|refine VT.block rfl ?_|refine VT.skip rfl ?_|refine VT.condN rfl rfl (by first|assumption|omega) ?_))))
  refine VT.loop (fun j al H g'=>∃k:Nat,j=a.length-k∧k≤a.length∧a.take k=b.take k∧al=[(0,.sl (a.map eLine)),(1,.sl (b.map eLine)),(5,wI k)]∧H=[]∧g'=g) rfl
   ⟨_,_,_,⟨0,rfl,Nat.zero_le _,rfl,rfl,rfl,rfl⟩,fgA⟩ ?_
  rintro j al H g' ⟨k,rfl,hk,hn,rfl,rfl,rfl⟩
  by_cases hlt:k < a.length
  ·by_cases hab:a[k]=b[k]'(by omega)
   ·have hag:=agg_line a[k] (b[k]'(by omega))
    rw[decide_eq_true hab] at hag
    repeat (any_goals (first|(apply w_any;(first|refine RT.nil ?_|refine RT.mvA ?_|refine RT.asA ?_|refine RT.bnA ?_|refine RT.clA ?_))|(apply v_any;(first|refine VT.seq rfl ?_|refine VT.reg rfl ?_|refine VT.condF rfl rfl ?_|refine VT.block rfl ?_|refine VT.skip rfl ?_|refine VT.draw [(0,[]),(0,[]),(0,[]),(0,[]),(0,[]),(0,[]),(0,[]),(0,[]),(0,[])] 1 mixedOk rfl (by decide +kernel) (by decide +kernel) (by decide +kernel) nrX nrX ?_|refine VT.condY rfl rfl (by first|assumption|omega) ?_))|(apply q_any;(first|refine PT.done nrX ?_|refine PT.mvA ?_|refine PT.ldA ?_|(apply q_ix;(first|refine PT.v (f_ixL (l:=a) (f:=eLine) (k:=k) rfl rfl rfl hlt rfl rfl) ?_|refine PT.v (f_ixL (l:=b) (f:=eLine) (k:=k) rfl rfl rfl (by omega) rfl rfl) ?_))|refine PT.v (f_neqAgg rfl rfl hag) ?_))|with_reducible (refine kLn ?_)))
    exact⟨a.length-(k+1),by omega,_,_,⟨k+1,rfl,hlt,by rw[List.take_succ_eq_append_getElem hlt,List.take_succ_eq_append_getElem (show k < b.length by omega),hn,hab],rfl,rfl,rfl⟩,fgA⟩
   ·have hag:=agg_line a[k] (b[k]'(by omega))
    rw[decide_eq_false hab] at hag
    have hne:a≠b:=fun h=>hab (by subst h;rfl)
    rw[decide_eq_false hne]
    repeat (any_goals (first|(apply w_any;(first|refine RT.nil ?_|refine RT.mvA ?_|refine RT.asA ?_|refine RT.bnA ?_|refine RT.clA ?_))|(apply v_any;(first|refine VT.seq rfl ?_|refine VT.reg rfl ?_|refine VT.condT rfl rfl ?_|refine VT.block rfl ?_|refine VT.skip rfl ?_|refine VT.ret rfl ?_|refine VT.draw [(0,[]),(0,[]),(0,[]),(0,[]),(0,[]),(0,[]),(0,[]),(0,[]),(0,[])] 1 mixedOk rfl (by decide +kernel) (by decide +kernel) (by decide +kernel) nrX nrX ?_|refine VT.condY rfl rfl (by first|assumption|omega) ?_))|(apply q_any;(first|refine PT.done nrX ?_|refine PT.mvA ?_|refine PT.ldA ?_|(apply q_ix;(first|refine PT.v (f_ixL (l:=a) (f:=eLine) (k:=k) rfl rfl rfl hlt rfl rfl) ?_|refine PT.v (f_ixL (l:=b) (f:=eLine) (k:=k) rfl rfl rfl (by omega) rfl rfl) ?_))|refine PT.v (f_neqAgg rfl rfl hag) ?_))|(with_reducible first|refine kSr ?_|refine kBr ?_|refine kLr ?_)|(with_reducible refine d_kEr ?_;refine kEr rfl ?_)))
    rfl
  ·repeat (any_goals (first|(apply w_any;(first|refine RT.nil ?_|refine RT.mvA ?_|refine RT.asA ?_|refine RT.bnA ?_|refine RT.clA ?_))|(apply v_any;(first|refine VT.seq rfl ?_|refine VT.reg rfl ?_|refine VT.exit rfl ?_|refine VT.ret rfl ?_|refine VT.condN rfl rfl (by first|assumption|omega) ?_))|(with_reducible refine d_kEr ?_;refine kEr rfl ?_)))
   rw[List.take_of_length_le (by omega),List.take_of_length_le (by omega)] at hn
   rw[decide_eq_true hn];rfl
 ·repeat (any_goals (first|(apply w_any;(first|refine RT.nil ?_|refine RT.mvA ?_|refine RT.asA ?_|refine RT.bnA ?_|refine RT.clA ?_))|(apply v_any;(first|refine VT.seq rfl ?_|refine VT.reg rfl ?_|refine VT.ret rfl ?_|refine VT.condY rfl rfl (by first|assumption|omega) ?_))|with_reducible (refine kSr ?_)|(with_reducible refine d_kEr ?_;refine kEr rfl ?_)))
  have:a≠b:=fun h=>he (by rw[h])
  rw[decide_eq_false this];rfl
def lineOfS (w:List Int):Line:=⟨(w.getD 0 0*65521+w.getD 1 0)*65521+w.getD 2 0,w.getD 3 0,w.getD 4 0,w.getD 5 0*65521+w.getD 6 0⟩
theorem m_lineOf (a0 a1 a2 a3 a4 a5 a6:Int)(h0:W a0)(h1:W a1)(h2:W a2)(h5:W a5)(h6:W a6):Maps Tryz.prog 91 [.agg [wI a0,wI a1,wI a2,wI a3,wI a4,wI a5,wI a6]] (.agg (eLine (lineOfS [a0,a1,a2,a3,a4,a5,a6]))):=by
 refine Maps.vt pok Tryz.f91 (n:=24) (rs:=[.cell 2 72]) rfl rfl rfl rfl rfl rfl fun g=>?_
 obtain⟨h01,h02⟩:=h0
 obtain⟨h11,h12⟩:=h1
 obtain⟨h21,h22⟩:=h2
 obtain⟨h51,h52⟩:=h5
 obtain⟨h61,h62⟩:=h6
 repeat (any_goals (first|(apply w_any;(first|refine RT.nil ?_|refine RT.ldA ?_|refine RT.bnA ?_|(apply w_ix;(first|refine RT.v (f_ixArr (k:=0) rfl rfl rfl rfl rfl (by decide)) ?_|refine RT.v (f_ixArr (k:=1) rfl rfl rfl rfl rfl (by decide)) ?_|refine RT.v (f_ixArr (k:=2) rfl rfl rfl rfl rfl (by decide)) ?_|refine RT.v (f_ixArr (k:=3) rfl rfl rfl rfl rfl (by decide)) ?_|refine RT.v (f_ixArr (k:=4) rfl rfl rfl rfl rfl (by decide)) ?_|refine RT.v (f_ixArr (k:=5) rfl rfl rfl rfl rfl (by decide)) ?_|refine RT.v (f_ixArr (k:=6) rfl rfl rfl rfl rfl (by decide)) ?_))|refine RT.stA ?_|refine RT.nwA ?_|refine RT.v (f_build (d:=.agg (eLine (lineOfS [a0,a1,a2,a3,a4,a5,a6]))) rfl) ?_))|(apply v_any;(first|refine VT.seq rfl ?_|refine VT.reg rfl ?_|refine VT.ret rfl ?_))|(with_reducible refine d_kEr ?_;refine kEr rfl ?_)))
 rfl
end Go.DL

/- Sorted and Known of both programs. -/
set_option maxRecDepth 100000
set_option maxHeartbeats 16000000
namespace Go.DL
open Go.Proofs Go
instance:DecidableRel LLe:=fun x y=>by unfold LLe;infer_instance
def NoFk (l:List Line):Prop:=∀x,x∈l→∀y,y∈l→x.ID=y.ID→x=y
end Go.DL

/- slices.Compact and slices.Concat of lines. -/
set_option maxRecDepth 100000
set_option maxHeartbeats 16000000
namespace Go.DL
open Go.Proofs Go
def dd:List Line→List Line
 |[]=>[]
 |[x]=>[x]
 |x::y::r=>if x=y then dd (y::r) else x::dd (y::r)
end Go.DL

/- slices.Concat and slices.Chunk. -/
set_option maxRecDepth 100000
set_option maxHeartbeats 16000000
namespace Go.DL
open Go.Proofs Go
theorem c_grow {H:List Blk}{k:Nat}(h1:1≤k)(hk:k≤1000000):CallSp Tryz.prog 140 [.nil,wI k] H fun d H'=>d=.ms H.length 0 0 k∧H'=H++[.live 1 ((List.replicate k (0:Int)).map eI)]:=by
 refine CallSp.vt pok Tryz.f140 (n:=27) (rs:=[.tmp 4]) rfl rfl rfl rfl rfl rfl rfl fun g=>?_
 have hb:(H++[.live 1 ((List.replicate k (0:Int)).map eI)])[H.length]? = some (.live 1 ((List.replicate k (0:Int)).map eI)):=hg_at (t:=0) rfl rfl
 repeat (any_goals (first|(apply w_any;(first|refine RT.nil ?_|refine RT.mvA ?_|refine RT.asA ?_|refine RT.bnA ?_|(apply w_cl;(first|(refine d_call ?_;refine RT.capN rfl rfl ?_)|refine RT.ap (s:=H.length) rfl (f_appZ0 (k:=k) rfl rfl rfl rfl rfl rfl (by omega)) rfl ?_|refine RT.clA ?_))|(apply w_sl;(first|refine RT.v (f_slNil0 rfl rfl rfl) ?_|refine RT.v (f_slHiO (hi:=0) rfl rfl rfl (by omega) rfl hb) ?_))))|(apply v_any;(first|refine VT.seq rfl ?_|refine VT.reg rfl ?_|refine VT.condF rfl rfl ?_|refine VT.skip rfl ?_|refine VT.ret rfl ?_|refine VT.condY rfl rfl (by first|assumption|omega) ?_))|(with_reducible refine d_kEr ?_;refine kEr rfl ?_)))
 exact⟨rfl,rfl⟩
theorem c_concat0 (d:List (List Int))(w:Nat)(hd:d.length≤20)(hw:∀r,r∈d→r.length=w)(h1:1≤d.length)(hw1:1≤w)(hw2:w≤32):CallSp Tryz.prog 89 [.sl (d.map eRow)] [] fun x H=>x=.ms d.length 0 d.flatten.length d.flatten.length∧H[d.length]? = some (.live 1 (d.flatten.map eI)):=by
 refine CallSp.vt pok Tryz.f89 (n:=36) (rs:=[.tmp 2]) rfl rfl rfl rfl rfl rfl rfl fun g=>?_
 repeat (any_goals (first|(apply w_any;(first|refine RT.nil ?_|refine RT.mvA ?_|refine RT.asA ?_|refine RT.clA ?_))|(apply v_any;(first|refine VT.seq rfl ?_|refine VT.reg rfl ?_|refine VT.block rfl ?_))))
 refine VT.loop (fun j a H g'=>∃k:Nat,j=d.length-k∧k≤d.length∧a=[(0,.sl (d.map eRow)),(3,wI (k*w:Nat)),(9,.sl (d.map eRow)),(10,wI d.length),(11,wI k)]∧H=[]∧g'=g) rfl
  ⟨_,_,_,⟨0,rfl,Nat.zero_le _,by rw[Nat.zero_mul],rfl,rfl⟩,fgA⟩ ?_
 rintro j a H g' ⟨k,rfl,hk,rfl,rfl,rfl⟩
 have hkw:k*w≤640:=Nat.mul_le_mul (show k≤20 by omega) hw2
 by_cases hlt:k < d.length
 ·have hr:=hw d[k] (List.getElem_mem hlt)
  have e:(k+1)*w=k*w+d[k].length:=by rw[Nat.succ_mul,hr]
  repeat (any_goals (first|(apply w_any;(first|refine RT.nil ?_|refine RT.mvA ?_|refine RT.asA ?_|refine RT.ldA ?_|refine RT.bnA ?_|refine RT.clA ?_|refine RT.ixA ?_))|(apply v_any;(first|refine VT.seq rfl ?_|refine VT.reg rfl ?_|refine VT.condF rfl rfl ?_|refine VT.block rfl ?_|refine VT.skip rfl ?_|refine VT.condY rfl rfl (by first|assumption|omega) ?_))|with_reducible (refine kLn ?_)))
  exact⟨d.length-(k+1),by omega,_,_,⟨k+1,rfl,hlt,rfl,rfl,rfl⟩,fgA⟩
 ·obtain rfl:k=d.length:=by omega
  have hk1:1≤d.length*w:=Nat.mul_le_mul h1 hw1
  repeat (any_goals (first|(apply w_any;(first|refine RT.nil ?_|refine RT.mvA ?_|refine RT.asA ?_|refine RT.bnA ?_|(apply w_cl;(first|(refine d_call ?_;refine RT.callS rfl (c_grow (H:=[]) hk1 (by omega)) rfl (d2:=.ms 0 0 0 (d.length*w)) rfl (H2:=[.live 1 ((List.replicate (d.length*w) (0:Int)).map eI)]) rfl ?_)|refine RT.clA ?_))))|(apply v_any;(first|refine VT.seq rfl ?_|refine VT.reg rfl ?_|refine VT.block rfl ?_|refine VT.exit rfl ?_|refine VT.condN rfl rfl (by first|assumption|omega) ?_))))
  have hfl:∀k,k≤d.length→((d.take k).flatten).length=k*w:=fun k hk=>by
   rw[List.length_flatten,show (d.take k).map List.length=List.replicate k w from by
    refine List.eq_replicate_iff.2 ⟨by simp;omega,fun x hx=>?_⟩
    obtain⟨r,hr,rfl⟩:=List.mem_map.1 hx
    exact hw r (List.mem_of_mem_take hr)]
   simp
  refine VT.loop (fun j a H g2=>∃(k b m c:Nat) (es:List (List D)),j=d.length-k∧k≤d.length∧H[b]? = some (.live 1 es)∧es.take m=((d.take k).flatten).map eI∧m≤es.length∧m=((d.take k).flatten).length∧(b=k∧H.length=k+1)∧(0 < k→es=((d.take k).flatten).map eI∧c=m)∧a=[(6,.ms b 0 m c),(25,.sl (d.map eRow)),(26,wI d.length),(27,wI k)]∧g2=g') rfl
   ⟨_,_,_,⟨0,0,0,d.length*w,_,rfl,Nat.zero_le _,rfl,rfl,Nat.zero_le _,rfl,⟨rfl,rfl⟩,fun h=>absurd h (Nat.lt_irrefl 0),rfl,rfl⟩,Wk.keep kpX⟩ ?_
  rintro j a H g2 ⟨k,b,m,c,es,rfl,hk,hb,hes,hle,hm,hc,he,rfl,rfl⟩
  have hlen:=hfl k hk
  have hkw:k*w≤640:=Nat.mul_le_mul (show k≤20 by omega) hw2
  by_cases hlt:k < d.length
  ·have hr:=hw d[k] (List.getElem_mem hlt)
   have hf2:(d.take (k+1)).flatten=(d.take k).flatten++d[k]:=by rw[List.take_succ_eq_append_getElem hlt,List.flatten_append,List.flatten_cons,List.flatten_nil,List.append_nil]
   repeat (any_goals (first|(apply w_any;(first|refine RT.nil ?_|refine RT.mvA ?_|refine RT.asA ?_|refine RT.ldA ?_|refine RT.bnA ?_|refine RT.ap (s:=H.length) rfl (f_appL (f:=eI) (o:=(d.take k).flatten) (v:=d[k]) (mm:=((d.take k).flatten++d[k]).length) (by':=8) rfl rfl hb hes hle (elems_sl _ _) hm (by simp) rfl (by decide) rfl rfl (fun _=>⟨rfl,rfl⟩) (by omega) (by omega)) rfl ?_|refine RT.ixA ?_))|(apply v_any;(first|refine VT.seq rfl ?_|refine VT.reg rfl ?_|refine VT.block rfl ?_|refine VT.skip rfl ?_|refine VT.condY rfl rfl (by first|assumption|omega) ?_))|with_reducible (refine kLn ?_)))
   exact⟨d.length-(k+1),by omega,_,_,⟨k+1,H.length,((d.take k).flatten++d[k]).length,((d.take k).flatten++d[k]).length,_,rfl,hlt,(by
    show (H.set b .dead++_)[H.length]? = _
    exact hg_at (t:=0) (by simp) rfl),by rw[List.take_of_length_le (by rw[List.length_map];exact Nat.le_refl _),hf2],by rw[List.length_map];exact Nat.le_refl _,by rw[hf2],⟨hc.2,by show (H.set b .dead++_).length=_;rw[List.length_append,List.length_set,hc.2];rfl⟩,fun _=>⟨by rw[hf2],rfl⟩,rfl,rfl⟩,Wk.keep kpX⟩
  ·obtain rfl:k=d.length:=by omega
   repeat (any_goals (first|(apply w_any;(first|refine RT.nil ?_|refine RT.mvA ?_|refine RT.asA ?_|refine RT.bnA ?_))|(apply v_any;(first|refine VT.seq rfl ?_|refine VT.reg rfl ?_|refine VT.exit rfl ?_|refine VT.ret rfl ?_|refine VT.condN rfl rfl (by first|assumption|omega) ?_))|(with_reducible refine d_kEr ?_;refine kEr rfl ?_)))
   obtain⟨he,hcm⟩:=he (by omega)
   rw[List.take_length] at he hm
   rw[he,hc.1] at hb
   rw[hcm,hm,hc.1]
   exact⟨rfl,hb⟩
theorem c_concat {H:List Blk}(d:List (List Int))(w:Nat)(hd:d.length≤20)(hw:∀r,r∈d→r.length=w)(h1:1≤d.length)(hw1:1≤w)(hw2:w≤32):
  CallSp Tryz.prog 89 [.sl (d.map eRow)] H fun x H'=>x=.ms (H.length+1) 0 d.flatten.length d.flatten.length∧H'=H++[.dead,.live 1 (d.flatten.map eI)]:=
 CallSp.frame (k:=d.length) (by rw[List.map_cons,List.map_nil];exact c_concat0 d w hd hw h1 hw1 hw2) fun e he d hd=>by
  obtain⟨z,_,rfl⟩:=List.mem_map.1 he
  obtain rfl:d=wI z:=by simpa[eI] using hd
  rfl
end Go.DL
