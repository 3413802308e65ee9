/- Shelves: where a leaf stands in a copy, by both. -/
import Derived.Test.YtmbbepdbjeciaaaGreatYw6
import Derived.Test.YtmbbepdbjeciaaaGreatZx
import Derived.Test.YtmbbepdbjeciaaaGreatYv7
import Derived.Test.YtmbbepdbjeciaaaGreatE6
import Derived.Test.YtmbbepdbjeciaaaGreatZe
import Derived.Test.YtmbbepdbjeciaaaGreatZo
import Derived.Test.YtmbbepdbjeciaaaGreatZp
set_option maxRecDepth 100000
set_option maxHeartbeats 16000000
namespace Go.DL
open Go.Proofs Go
def isN (n:Int)(x:Leaf):Bool:=decide (x.Number=n)
theorem m_find1 (n:Int)(x:Leaf):Maps Tryz.prog 154 ([.agg (eLeaf x)]++[.rp [wI n]]) (wB (isN n x)):=by
 refine Maps.vt pok Tryz.f154 (n:=8) (rs:=[.tmp 3]) rfl rfl rfl rfl rfl rfl fun g=>?_
 repeat (any_goals (first|(apply w_any;(first|refine RT.nil ?_|refine RT.asA ?_|refine RT.ldA ?_|refine RT.faA ?_|refine RT.bnA ?_|refine RT.nwA ?_))|(apply v_any;(first|refine VT.seq rfl ?_|refine VT.reg rfl ?_|refine VT.ret rfl ?_))|(with_reducible refine d_kEr ?_;refine kEr rfl ?_)))
 rfl
def FindS (cs:List (List Leaf))(c n:Int):Int × Int:=
 if 0≤c∧c≤(cs.length:Int)-1 then (if fidx (isN n) (cs.getD c.toNat []) < 0 then (0,5) else (fidx (isN n) (cs.getD c.toNat []),0)) else (0,1)
theorem fidx_rng {α:Type}(p:α→Bool)(l:List α):(fidx p l=-1∧l.any p=false)∨∃k,∃hk:k < l.length,fidx p l=k∧(l.take k).any p=false∧p l[k]=true:=by
 unfold fidx
 cases h:l.any p with
 |false=>exact .inl ⟨rfl,rfl⟩
 |true=>
  rw[List.any_eq_true] at h
  have hlt:l.findIdx p < l.length:=List.findIdx_lt_length.2 h
  refine .inr ⟨_,hlt,rfl,?_,List.findIdx_getElem (w:=hlt)⟩
  rw[List.any_eq_false]
  intro x hx
  obtain⟨i,hi,rfl⟩:=List.getElem_of_mem hx
  rw[List.length_take] at hi
  rw[List.getElem_take]
  simpa using List.not_of_lt_findIdx (p:=p) (xs:=l) (i:=i) (by omega)
theorem m_find (s:Shape)(cs:List (List Leaf))(hcs:cs.length≤5)(hl:∀l,l∈cs→l.length≤1000)(c n:Int):Maps Tryz.prog 110 [.rp (eSh s cs),wI c,wI n] (.tup [wI (FindS cs c n).1,wI (FindS cs c n).2]):=by
 refine Maps.vt pok Tryz.f110 (n:=30) (rs:=[.tmp 6,.tmp 7]) rfl rfl rfl rfl rfl rfl fun g=>?_
 have hw:=m_within c 0 ((cs.length:Int)-1)
 unfold FindS
 by_cases hc:0≤c∧c≤(cs.length:Int)-1
 ·rw[if_pos hc]
  rw[decide_eq_true hc] at hw
  obtain⟨k,rfl⟩:∃k:Nat,c=k:=Int.eq_ofNat_of_zero_le hc.1
  have hk:k < cs.length:=by omega
  have hkl:=hl _ (List.getElem_mem hk)
  have hgd:cs.getD (k:Int).toNat []=cs[k]:=by rw[Int.toNat_natCast];simp[List.getD,hk]
  rw[hgd]
  have hf:=m_idx_Leaf (p:=isN n) (F:=154) (cs:=[.rp [wI n]]) (l:=cs[k]) (by omega) rfl fun x _=>m_find1 n x
  rcases fidx_rng (isN n) cs[k] with⟨e,_⟩|⟨q,hq,e,_⟩
  ·rw[e] at hf ⊢
   rw[if_pos (by decide)]
   repeat (any_goals (first|(apply w_any;(first|refine RT.nil ?_|refine RT.mvA ?_|refine RT.asA ?_|refine RT.ldA ?_|refine RT.faA ?_|refine RT.bnA ?_|(apply w_cl;(first|refine RT.callM rfl (hw) rfl rfl ?_|refine RT.callM rfl (hf) rfl rfl ?_|refine RT.clA ?_))|refine RT.ixA ?_|refine RT.unA ?_|refine RT.nwA ?_|refine RT.msA ?_|refine RT.v (f_nc (d:=.rp (eSh s cs)) rfl rfl) ?_))|(apply v_any;(first|refine VT.seq rfl ?_|refine VT.reg rfl ?_|refine VT.condT rfl rfl ?_|refine VT.condF rfl rfl ?_|refine VT.skip rfl ?_|refine VT.ret rfl ?_))|with_reducible (refine kSr ?_)|(with_reducible refine d_kEr ?_;refine kEr rfl ?_)))
   rfl
  ·rw[e] at hf ⊢
   rw[if_neg (by omega)]
   repeat (any_goals (first|(apply w_any;(first|refine RT.nil ?_|refine RT.mvA ?_|refine RT.asA ?_|refine RT.ldA ?_|refine RT.faA ?_|refine RT.bnA ?_|(apply w_cl;(first|refine RT.callM rfl (hw) rfl rfl ?_|refine RT.callM rfl (hf) rfl rfl ?_|refine RT.clA ?_))|refine RT.ixA ?_|refine RT.unA ?_|refine RT.nwA ?_|refine RT.msA ?_|refine RT.v (f_nc (d:=.rp (eSh s cs)) rfl rfl) ?_))|(apply v_any;(first|refine VT.seq rfl ?_|refine VT.reg rfl ?_|refine VT.condF rfl rfl ?_|refine VT.skip rfl ?_|refine VT.ret rfl ?_))|(with_reducible refine d_kEr ?_;refine kEr rfl ?_)))
   rfl
 ·rw[if_neg hc]
  rw[decide_eq_false hc] at hw
  repeat (any_goals (first|(apply w_any;(first|refine RT.nil ?_|refine RT.mvA ?_|refine RT.asA ?_|refine RT.ldA ?_|refine RT.faA ?_|refine RT.bnA ?_|(apply w_cl;(first|refine RT.callM rfl (hw) rfl rfl ?_|refine RT.clA ?_))|refine RT.unA ?_|refine RT.nwA ?_|refine RT.v (f_nc (d:=.rp (eSh s cs)) rfl rfl) ?_))|(apply v_any;(first|refine VT.seq rfl ?_|refine VT.reg rfl ?_|refine VT.condT rfl rfl ?_|refine VT.ret rfl ?_))|with_reducible (refine kSr ?_)|(with_reducible refine d_kEr ?_;refine kEr rfl ?_)))
  rfl
end Go.DL

/- Shelves: slices.Delete of leaves; Tear of the program. -/
set_option maxRecDepth 100000
set_option maxHeartbeats 16000000
namespace Go.DL
open Go.Proofs Go
theorem f_sl3B {P:Program}{H:List Blk}{s n:Nat}{al:AL}{x y z w:Operand}{tx te:TypeId}{a b m:Int}{bk len cap sz lo hi mx:Nat}{es:List (List D)}(hx:evA n al x=.ms bk 0 len cap)(hy:evA n al y=wI a)(hz:evA n al z=wI b)(hw:evA n al w=wI m)(ha:a=lo)(hb':b=hi)(hm:m=mx)(h1:lo≤hi)(h2:hi≤mx)(h3:mx≤cap)
  (he:elemT P tx=some (te,sz)) (hb:H[bk]? = some (.live sz es)):Val P H s n al (.slice tx x (some y) (some z) (some w)) (.ms bk lo (hi-lo) (mx-lo)):=by
 subst ha;subst hb';subst hm
 refine⟨?_⟩
 simp only[stepD,ev_T,sliceD,he,hx,unfl,Option.map_some,hy,hz,hw,bndD,intD,Option.isSome_some]
 simp[Blk.hasSz,hb,h1,h2,h3,keepD]
theorem c_Delete {H:List Blk}{b k c i:Nat}{es:List (List D)}(hb:H[b]? = some (.live 2 es))(hk:k≤es.length)(hkc:k≤c)(hi:i < k)(hk1:k≤1000)(hf:∀e,e∈es→e.length=2∧e.all isCell=true):
  CallSp Tryz.prog 111 [.ms b 0 k c,wI i,wI ((i:Int)+1)] H fun d H'=>∃es' ,d=.ms H.length 0 (k-1) c∧H'=H.set b .dead++[.live 2 es']∧es'.take (k-1)=(es.take k).eraseIdx i∧k-1≤es'.length∧∀e,e∈es'→e.length=2∧e.all isCell=true:=by
 refine CallSp.vt pok Tryz.f111 (n:=33) (rs:=[.tmp 6]) rfl rfl rfl rfl rfl rfl rfl fun g=>?_
 have hbl:=hg_lt hb
 have hfd:∀l:List (List D),(∀e,e∈l→e∈es)→∀e,e∈l→e.length=2∧e.all isCell=true:=fun l hl e he=>hf e (hl e he)
 obtain⟨es1,hes1⟩:∃es1,es1=es.take i++(es.take (i+1+(k-(i+1)))).drop (i+1)++(es.take c).drop (k-1):=⟨_,rfl⟩
 have hkk:i+1+(k-(i+1))=k:=by omega
 have hl1:(es.take i++(es.take (i+1+(k-(i+1)))).drop (i+1)).length=k-1:=by
  rw[hkk,List.length_append,List.length_take,List.length_drop,List.length_take];omega
 have hl:k≤es1.length:=by
  rw[hes1,List.length_append,hl1,List.length_drop,List.length_take];omega
 repeat (any_goals (first|(apply w_any;(first|refine RT.nil ?_|refine RT.mvA ?_|refine RT.asA ?_|refine RT.v (f_eqlF rfl rfl (by omega)) ?_|refine RT.clA ?_|(apply w_sl;(first|refine RT.v (f_sl3B (lo:=i) (hi:=i+1) (mx:=k) rfl rfl rfl rfl rfl rfl rfl (by omega) (by omega) hkc rfl hb) ?_|refine RT.v (f_slB (lo:=k-1) (hi:=k) rfl rfl rfl rfl rfl (by omega) hkc rfl (hg_at (by simp) rfl)) ?_))|refine RT.clearS (z:=[wI 0,.nil]) (b:=H.length+0) (es:=es1) rfl rfl rfl rfl rfl (hg_at (by simp) rfl) (by omega) (H':=H.set b .dead++[.live 2 (es1.take (k-1)++List.replicate (k-(k-1)) [wI 0,.nil]++es1.drop (k-1+(k-(k-1))))]) (setLen (by simp) rfl) ?_))|(apply v_any;(first|refine VT.seq rfl ?_|refine VT.reg rfl ?_|refine VT.condF rfl rfl ?_|refine VT.skip rfl ?_|refine VT.ret rfl ?_|refine VT.drawS [b] 1 [none,none,none,none,none,none,some 0,none] [(1,[1],none),(1,[1],none),(1,[1],none),(1,[1],none),(1,[1],none),(1,[1],none),(0,[1],some 0),(1,[],none)] 2 rfl (by first|(simp;done)|(simp;omega)) (by first|(simp;done)|(simp;omega)) mixedOk rfl (by decide +kernel) (by decide +kernel) (by decide +kernel) rfl (H1:=H++[.free,.free]) rfl ?_))|(apply s_any;(first|refine ST.done (dropLn (H.set b .dead) [_] .free) ?_|refine ST.mvA ?_|refine ST.asA ?_|(apply s_sl;(first|refine ST.v (f_slHiO (hi:=i) rfl rfl rfl (by omega) rfl hgX) ?_|refine ST.v (f_slLo0 (k:=i+1) rfl rfl rfl (by omega) hkc rfl hgX) ?_))|refine ST.apC (q:=0) (b:=b) rfl rfl (s':=H.length+0) rfl (f_apDel (m:=k-1) (by':=32) (es:=es) rfl rfl hgX (by omega) (by omega) (by omega) (by omega) (by omega) rfl (Nat.succ_pos 1) rfl rfl hf (by omega) (by omega)) (killLen (T':=[.live 2 es1,.free]) hbl rfl (by rw[hes1];rfl)) ?_))|(with_reducible refine d_kEr ?_;refine kEr rfl ?_)))
 have hz:k-(k-1)=1:=by omega
 refine⟨_,rfl,rfl,?_,?_,fun e he=>?_⟩
 ·rw[List.append_assoc,List.take_append_of_le_length (by rw[List.length_take];omega),List.take_take,Nat.min_self,hes1,List.take_append_of_le_length (by omega),List.take_of_length_le (by omega),hkk,List.eraseIdx_eq_take_drop_succ,List.take_take,Nat.min_eq_left (by omega)]
 ·simp only[List.length_append,List.length_take,List.length_replicate,List.length_drop];omega
 ·have h1:∀e,e∈es1→e.length=2∧e.all isCell=true:=fun e he=>by
   rw[hes1] at he
   rcases List.mem_append.1 he with he|he
   ·rcases List.mem_append.1 he with he|he
    ·exact hf e (List.mem_of_mem_take he)
    ·exact hf e (List.mem_of_mem_take (List.mem_of_mem_drop he))
   ·exact hf e (List.mem_of_mem_take (List.mem_of_mem_drop he))
  rcases List.mem_append.1 he with he|he
  ·rcases List.mem_append.1 he with he|he
   ·exact h1 e (List.mem_of_mem_take he)
   ·rw[List.eq_of_mem_replicate he];exact⟨rfl,rfl⟩
  ·exact h1 e (List.mem_of_mem_drop he)
def TearS (cs:List (List Leaf))(c n:Int):List (List Leaf) × Int:=
 if (FindS cs c n).2=0 then (cs.set c.toNat ((cs.getD c.toNat []).eraseIdx (FindS cs c n).1.toNat),0) else (cs,(FindS cs c n).2)
def StpQ (H:List Blk)(lab:Lab)(sd p cb:Nat)(s:Shape)(r:List (List Leaf) × Int)(d:D)(H':List Blk):Prop:=
 d=wI r.2∧∃lab' rows',ShAt H' lab' sd p cb s rows'∧FrL H H' lab lab' sd∧lvsOf rows'=r.1
theorem FindS_ok {cs:List (List Leaf)}{c n:Int}(h:(FindS cs c n).2=0):∃i k:Nat,∃hi:i < cs.length,c=i∧(FindS cs c n).1=k∧k < cs[i].length:=by
 unfold FindS at h ⊢
 by_cases hc:0≤c∧c≤(cs.length:Int)-1
 ·rw[if_pos hc] at h ⊢
  obtain⟨i,rfl⟩:∃i:Nat,c=i:=Int.eq_ofNat_of_zero_le hc.1
  have hi:i < cs.length:=by omega
  have hgd:cs.getD (i:Int).toNat []=cs[i]:=by rw[Int.toNat_natCast];simp[List.getD,hi]
  rw[hgd] at h ⊢
  rcases fidx_rng (isN n) cs[i] with⟨e,_⟩|⟨q,hq,e,_⟩
  ·rw[e,if_pos (by decide)] at h;cases h
  ·rw[e,if_neg (by omega)] at h ⊢
   exact⟨i,q,hi,rfl,rfl,hq⟩
 ·rw[if_neg hc] at h;cases h
theorem sub_dead (H:List Blk)(b:Nat):Sub (H.set b .dead) H∧SubT (H.set b .dead) H:=by
 refine⟨fun k sz es hk=>?_,fun k c es hk=>?_⟩
 all_goals
  rw[List.getElem?_set] at hk
  split at hk
  ·split at hk<;>cases hk
  ·exact hk
theorem lvsOf_get {rows:List (D × List (Nat × Leaf))}{i:Nat}(hi:i < (lvsOf rows).length):∃r,rows[i]? = some r∧(lvsOf rows)[i]=r.2.map (·.2):=by
 have h:i < rows.length:=by simpa[lvsOf] using hi
 exact⟨rows[i],List.getElem?_eq_getElem h,by simp[lvsOf]⟩
theorem ShAt.torn {H Hd T:List Blk}{lab:Lab}{sd p cb i nb cap:Nat}{s:Shape}{v:D}{ql ql':List (Nat × Leaf)}{es':List (List D)}{rows:List (D × List (Nat × Leaf))}(h:ShAt H lab sd p cb s rows)(hr:rows[i]? = some (v,ql))(hlen:Hd.length=H.length)
  (k1:∀b x,H[b]? = some x→((lab b).2.1≠i+1∨∃w,x=.live 1 w)→Hd[b]? = some x) (k2:∀b,(lab b).1≠sd→Hd[b]? = H[b]?) (hnb:H.length≤nb) (hb':(Hd++T)[nb]? = some (.live 2 es')) (hsub:ql'.Sublist ql) (ht:es'.take ql'.length=ql'.map eOL) (hle:ql'.length≤es'.length) (hcap:ql'.length≤cap)
  (hfe:∀e,e∈es'→e.length=2∧e.all isCell=true):
  ∃lab',ShAt ((Hd++T).set cb (.live 1 ((rows.map fun r=>[r.1]).set i [.ms nb 0 ql'.length cap]))) lab' sd p cb s (rows.set i (.ms nb 0 ql'.length cap,ql'))∧FrL H ((Hd++T).set cb (.live 1 ((rows.map fun r=>[r.1]).set i [.ms nb 0 ql'.length cap]))) lab lab' sd:=by
 have hcl:=hg_lt h.cs
 have hcl2:cb < (Hd++T).length:=by rw[List.length_append];omega
 have hi:i < rows.length:=(List.getElem?_eq_some_iff.1 hr).1
 have hrow:=h.row i _ hr
 have lnb:¬nb < H.length:=by omega
 refine⟨fun b=>if b < H.length then lab b else (sd,i+1,0),h.setRow hi (hg_self hcl2) (fun b x hb hne _ hl=>hg_ne (hg_app T (k1 b x hb (.inl hl))) (Ne.symm hne)) (fun b hb=>if_pos hb) ⟨.inr ⟨nb,cap,es',rfl,hg_ne hb' (by omega),ht,hle,hcap,hfe,if_neg lnb⟩,fun q hq=>?_,hrow.nd.sublist hsub⟩,⟨by rw[List.length_set,List.length_append];omega,fun b hb=>if_pos hb,fun b hb hn=>?_⟩⟩
 ·obtain⟨w1,w2⟩:=hrow.ws q (hsub.subset hq)
  refine⟨hg_ne (hg_app T (k1 q.1 _ w1 (.inr ⟨_,rfl⟩))) fun e=>?_,(if_pos (hg_lt w1)).trans w2⟩
  rw[←e,h.lc] at w2;simp at w2
 ·rw[List.getElem?_set_ne (fun e=>hn (by rw[←e,h.lc])),List.getElem?_append_left (by omega)]
  exact k2 b hn
theorem erase_eOL (k:Nat):∀l:List (Nat × Leaf),(l.map eOL).eraseIdx k=(l.eraseIdx k).map eOL:=fun l=>by
 rw[List.eraseIdx_eq_take_drop_succ,List.eraseIdx_eq_take_drop_succ,List.map_append,List.map_take,List.map_drop]
theorem lvs_erase {rows:List (D × List (Nat × Leaf))}{i k:Nat}{v v':D}{ql:List (Nat × Leaf)}(hr:rows[i]? = some (v,ql)):lvsOf (rows.set i (v',ql.eraseIdx k))=(lvsOf rows).set i (((lvsOf rows).getD i []).eraseIdx k):=by
 have e:(lvsOf rows).getD i []=ql.map (·.2):=by
  rw[lvsOf,List.getD_eq_getElem?_getD,List.getElem?_map,hr];rfl
 rw[e,lvsOf,List.map_set]
 congr 1
 show (ql.eraseIdx k).map (·.2)=_
 rw[List.eraseIdx_eq_take_drop_succ,List.eraseIdx_eq_take_drop_succ,List.map_append,List.map_take,List.map_drop]
theorem c_Tear {H:List Blk}{lab:Lab}{sd p cb:Nat}{s:Shape}{rows:List (D × List (Nat × Leaf))}(h:ShAt H lab sd p cb s rows)(hn:rows.length≤5)(hl:∀l,l∈lvsOf rows→l.length≤1000)(c n:Int):
  CallSp Tryz.prog 59 [.mp p 0 0,wI c,wI n] H (StpQ H lab sd p cb s (TearS (lvsOf rows) c n)):=by
 refine CallSp.vt pok Tryz.f59 (n:=39) (rs:=[.tmp 6]) rfl rfl rfl rfl rfl rfl rfl fun g=>?_
 have hf:=m_find s (lvsOf rows) (by rw[lvsOf,List.length_map];exact hn) hl c n
 have hsn:([.mp p 0 0,wI c,wI n]:List D).map (snap (fun b=>H[b]?) 5)=[.rp (eSh s (lvsOf rows)),wI c,wI n]:=by
  rw[List.map_cons,h.snap];rfl
 unfold StpQ TearS
 have hfok:=FindS_ok (cs:=lvsOf rows) (c:=c) (n:=n)
 generalize FindS (lvsOf rows) c n=F at hf hfok ⊢
 obtain⟨F1,F2⟩:=F
 dsimp only at hf hfok ⊢
 by_cases h0:F2=0
 ·subst h0
  obtain⟨i,k,hi,rfl,rfl,hk⟩:=hfok rfl
  obtain⟨r,hr,hri⟩:=lvsOf_get hi
  have hrow:=h.row i r hr
  have hil:i < rows.length:=by simpa[lvsOf] using hi
  rw[hri,List.length_map] at hk
  obtain⟨v,ql⟩:=r
  dsimp only at hrow hk hri
  have hk1:ql.length≤1000:=by
   have:=hl _ (List.getElem_mem hi)
   rwa [hri,List.length_map] at this
  rcases hrow.hd with⟨_,e⟩|⟨b,cap,es,rfl,hb,het,hel,hec,hef,hlb⟩
  ·rw[e] at hk;exact absurd hk (Nat.not_lt_zero k)
  have hbl:=hg_lt hb
  have hcl:=hg_lt h.cs
  have hpl:=hg_lt h.hd
  have hbc:b≠cb:=fun e=>by
   rw[e,h.lc] at hlb;simp at hlb
  have hbp:b≠p:=fun e=>by
   rw[e,h.lp] at hlb;simp at hlb
  have hqm:(rows.map fun r=>[r.1])[i]? = some [D.ms b 0 ql.length cap]:=by rw[List.getElem?_map,hr];rfl
  have dp:(H.set b .dead)[p]? = some (.live 4 [[wI s.Data,wI s.Checks,wI s.Width,.ms cb 0 rows.length rows.length]]):=hg_ne h.hd hbp
  have dc:(H.set b .dead)[cb]? = some (.live 1 (rows.map fun r=>[r.1])):=hg_ne h.cs hbc
  have hdl:=c_Delete hb hel hec hk hk1 hef
  repeat (any_goals (first|(apply w_any;(first|refine RT.nil ?_|refine RT.mvA ?_|refine RT.asA ?_|refine RT.bnA ?_|(refine d_call ?_;refine RT.callM rfl hf hsn rfl ?_)|refine RT.exA ?_|refine RT.msA ?_))|(apply v_any;(first|refine VT.seq rfl ?_|refine VT.reg rfl ?_|refine VT.condF rfl rfl ?_|refine VT.skip rfl ?_|refine VT.drawX 15 (H.set b .dead) mixedOk rfl rfl (by decide +kernel) (sub_dead H b).1 (sub_dead H b).2 rfl ?_))|(apply q_any;(first|refine PT.mvA ?_|(apply q_ld;(first|refine PT.v (f_ldO rfl dp rfl rfl rfl) ?_|refine PT.v (f_ldO rfl dc hqm rfl rfl) ?_))|refine PT.faA ?_|refine PT.bnA ?_|refine PT.v (f_ixO0 rfl rfl (by first|with_reducible exact castR _|rfl) dc rfl (by omega)) ?_|refine PT.v (f_nc (d:=.mp p 0 0) rfl rfl) ?_|refine PT.nil (XC.call rfl (hdl.mono ?_))))))
  rintro d4 H4 ⟨es',rfl,rfl,ht,hle,hfe⟩
  refine⟨fun b sz es hb=>hg_app _ hb,fun b c es hb=>hg_app _ hb,?_⟩
  have dc2:=hg_app [Blk.live 2 es'] dc
  repeat (any_goals (first|(apply w_any;(first|refine RT.nil ?_|refine RT.asA ?_|refine RT.v (f_ixO0 rfl rfl (by first|with_reducible exact castR _|rfl) dc2 rfl (by omega)) ?_|refine RT.wr (f_stV (d:=.ms H.length 0 (ql.length-1) cap) rfl dc2 hqm rfl rfl rfl rfl) rfl ?_))|(apply v_any;(first|refine VT.seq rfl ?_|refine VT.reg rfl ?_|refine VT.ret rfl ?_))|(with_reducible refine d_kEr ?_;refine kEr rfl ?_)))
  have hql:(ql.eraseIdx k).length=ql.length-1:=by rw[List.length_eraseIdx_of_lt hk]
  obtain⟨lab',q1,q2⟩:=h.torn (Hd:=H.set b .dead) (T:=[.live 2 es']) (nb:=H.length) (cap:=cap) (es':=es') (ql':=ql.eraseIdx k) hr (by simp) (fun b' x hx hor=>hg_ne hx fun e=>by
   subst e
   rcases hor with h1|⟨w,rfl⟩
   ·rw[hlb] at h1;exact h1 rfl
   ·rw[hb] at hx;cases hx) (fun b' hb'=>List.getElem?_set_ne fun e=>by subst e;rw[hlb] at hb';exact hb' rfl) (Nat.le_refl _) (hg_at (t:=0) (by simp) rfl) (List.eraseIdx_sublist _ _) (by rw[hql,ht,het,erase_eOL]) (by omega) (by omega) hfe
  rw[hql] at q1 q2
  rw[if_pos rfl]
  refine⟨rfl,lab',_,q1,q2,?_⟩
  rw[lvs_erase hr];rfl
 ·rw[if_neg h0]
  repeat (any_goals (first|(apply w_any;(first|refine RT.nil ?_|refine RT.mvA ?_|refine RT.asA ?_|refine RT.bnA ?_|(refine d_call ?_;refine RT.callM rfl hf hsn rfl ?_)|refine RT.exA ?_|refine RT.msA ?_))|(apply v_any;(first|refine VT.seq rfl ?_|refine VT.reg rfl ?_|refine VT.ret rfl ?_|refine VT.condY rfl rfl (by first|assumption|omega) ?_))|with_reducible (refine kSr ?_)|(with_reducible refine d_kEr ?_;refine kEr rfl ?_)))
  exact⟨rfl,lab,rows,h,FrL.refl _ _ _,rfl⟩
end Go.DL

/- Shelves: Blot of both. -/
set_option maxRecDepth 100000
set_option maxHeartbeats 16000000
namespace Go.DL
open Go.Proofs Go
theorem set_self {α:Type}{l:List α}{i:Nat}{x:α}(h:l[i]? = some x):l.set i x=l:=by
 refine List.ext_getElem? fun j=>?_
 by_cases e:i=j
 ·subst e;rw[List.getElem?_set_self (List.getElem?_eq_some_iff.1 h).1,h]
 ·rw[List.getElem?_set_ne e]
theorem ShAt.blot {H:List Blk}{lab:Lab}{sd p cb i k:Nat}{s:Shape}{v:D}{ql:List (Nat × Leaf)}{q:Nat × Leaf}{rows:List (D × List (Nat × Leaf))}(h:ShAt H lab sd p cb s rows)(hr:rows[i]? = some (v,ql))(hq:ql[k]? = some q)(w:List Int)(hw:w.length=q.2.Words.length):
  ShAt (H.set q.1 (.live 1 (w.map eI))) lab sd p cb s (rows.set i (v,ql.set k (q.1,⟨q.2.Number,w⟩)))∧FrL H (H.set q.1 (.live 1 (w.map eI))) lab lab sd:=by
 have hi:i < rows.length:=(List.getElem?_eq_some_iff.1 hr).1
 have hk:k < ql.length:=(List.getElem?_eq_some_iff.1 hq).1
 have hrow:=h.row i _ hr
 dsimp only at hrow
 obtain⟨w1,w2⟩:=hrow.ws q (List.mem_of_getElem? hq)
 have hql:=hg_lt w1
 have hqc:q.1≠cb:=fun e=>by
  rw[e,h.lc] at w2;simp at w2
 have hm:(rows.map fun r=>[r.1])[i]? = some [v]:=by rw[List.getElem?_map,hr];rfl
 have hset:(ql.set k (q.1,⟨q.2.Number,w⟩)).map eOL=ql.map eOL:=by
  rw[List.map_set]
  refine set_self ?_
  rw[List.getElem?_map,hq]
  show some [wI q.2.Number,D.ms q.1 0 _ _]=some [wI q.2.Number,D.ms q.1 0 w.length w.length]
  rw[hw]
 refine⟨h.setRow hi ?_ (fun b x hb hne _ hl=>hg_ne hb fun e=>hl (by rw[←e,w2])) (fun _ _=>rfl) ⟨?_,fun q2 hq2=>?_,?_⟩,⟨by simp,fun _ _=>rfl,fun b hb hn=>List.getElem?_set_ne fun e=>hn (by rw[←e,w2])⟩⟩
 ·rw[set_self hm]
  exact hg_ne h.cs hqc
 ·rcases hrow.hd with⟨_,e⟩|⟨b,cap,es,e,hb,het,hel,hec,hef,hlb⟩
  ·rw[e] at hk;exact absurd hk (Nat.not_lt_zero k)
  ·refine .inr ⟨b,cap,es,by rw[List.length_set];exact e,hg_ne hb fun e=>?_,by rw[List.length_set,hset];exact het,by rw[List.length_set];exact hel,by rw[List.length_set];exact hec,hef,hlb⟩
   rw[e,hb] at w1;cases w1
 ·obtain⟨j,hj⟩:=List.getElem?_of_mem hq2
  by_cases e:k=j
  ·subst e
   rw[List.getElem?_set_self hk] at hj
   cases hj
   exact⟨hg_self hql,w2⟩
  ·rw[List.getElem?_set_ne e] at hj
   obtain⟨u1,u2⟩:=hrow.ws q2 (List.mem_of_getElem? hj)
   refine⟨hg_ne u1 fun e2=>?_,u2⟩
   rw[←e2,w2] at u2
   simp only[Prod.mk.injEq,true_and] at u2
   have hnd:=List.pairwise_iff_getElem.1 hrow.nd
   have hj2:=(List.getElem?_eq_some_iff.1 hj)
   have hq3:=(List.getElem?_eq_some_iff.1 hq)
   obtain⟨j1,j2⟩:=hj2
   obtain⟨k1,k2⟩:=hq3
   rcases Nat.lt_or_ge k j with hlt|hge
   ·have:=hnd k j k1 j1 hlt
    rw[j2,k2] at this;exact this u2
   ·have:=hnd j k j1 k1 (by omega)
    rw[j2,k2] at this;exact this u2.symm
 ·have e:(ql.set k (q.1,(⟨q.2.Number,w⟩:Leaf))).map (fun q=>q.2.Number)=ql.map (fun q=>q.2.Number):=by
   rw[List.map_set]
   refine set_self ?_
   rw[List.getElem?_map,hq];rfl
  have h1:(ql.map (fun q=>q.2.Number)).Pairwise (·≠·):=List.pairwise_map.2 hrow.nd
  rw[←e] at h1
  exact List.pairwise_map.1 h1
def blotL (l:List Leaf)(k a:Nat)(w:Int):List Leaf:=l.set k ⟨(l.getD k ⟨0,[]⟩).Number,(l.getD k ⟨0,[]⟩).Words.set a w⟩
def BlotS (s:Shape)(cs:List (List Leaf))(c n a w:Int):List (List Leaf) × Int:=
 if (0≤c∧c≤(cs.length:Int)-1)∧(0≤a∧a≤s.Width-1)∧W w then
  (if (FindS cs c n).2=0 then (cs.set c.toNat (blotL (cs.getD c.toNat []) (FindS cs c n).1.toNat a.toNat w),0) else (cs,(FindS cs c n).2))
 else (cs,1)
theorem lvs_blot {rows:List (D × List (Nat × Leaf))}{i k a:Nat}{w:Int}{v:D}{ql:List (Nat × Leaf)}{q:Nat × Leaf}(hr:rows[i]? = some (v,ql))(hq:ql[k]? = some q):lvsOf (rows.set i (v,ql.set k (q.1,⟨q.2.Number,q.2.Words.set a w⟩)))=(lvsOf rows).set i (blotL ((lvsOf rows).getD i []) k a w):=by
 have e:(lvsOf rows).getD i []=ql.map (·.2):=by
  rw[lvsOf,List.getD_eq_getElem?_getD,List.getElem?_map,hr];rfl
 have e2:(ql.map (·.2)).getD k ⟨0,[]⟩=q.2:=by rw[List.getD_eq_getElem?_getD,List.getElem?_map,hq];rfl
 rw[e,blotL,e2,lvsOf,List.map_set]
 congr 1
 show (ql.set k _).map (·.2)=_
 rw[List.map_set]
theorem c_Blot {H:List Blk}{lab:Lab}{sd p cb:Nat}{s:Shape}{rows:List (D × List (Nat × Leaf))}(h:ShAt H lab sd p cb s rows)(hn:rows.length≤5)(hl:∀l,l∈lvsOf rows→l.length≤1000)(hwd:0≤s.Width∧s.Width≤1000)(hwl:∀l,l∈lvsOf rows→∀x,x∈l→(x.Words.length:Int)=s.Width)(c n a w:Int):
  CallSp Tryz.prog 61 [.mp p 0 0,wI c,wI n,wI a,wI w] H (StpQ H lab sd p cb s (BlotS s (lvsOf rows) c n a w)):=by
 refine CallSp.vt pok Tryz.f61 (n:=62) (rs:=[.tmp 10]) rfl rfl rfl rfl rfl rfl rfl fun g=>?_
 have hll:(lvsOf rows).length=rows.length:=by rw[lvsOf,List.length_map]
 have hw1:=m_within c 0 ((rows.length:Int)-1)
 have hw2:=m_within a 0 (s.Width-1)
 have hw3:=m_word w
 have hhd:=h.hd
 unfold StpQ BlotS
 rw[hll]
 by_cases hc:0≤c∧c≤(rows.length:Int)-1
 rotate_left
 ·rw[decide_eq_false hc] at hw1
  rw[if_neg (fun hh=>hc hh.1)]
  repeat (any_goals (first|(apply w_any;(first|refine RT.nil ?_|refine RT.gn rfl rfl ?_|refine RT.mvA ?_|refine RT.asA ?_|refine RT.v (f_ldCs h rfl) ?_|refine RT.faA ?_|refine RT.bnA ?_|(apply w_cl;(first|refine RT.callM rfl (hw1) rfl rfl ?_|refine RT.clA ?_))|refine RT.pkA ?_|refine RT.unA ?_|refine RT.v (f_nc (d:=.mp p 0 0) rfl rfl) ?_))|(apply v_any;(first|refine VT.seq rfl ?_|refine VT.reg rfl ?_|refine VT.condT rfl rfl ?_|refine VT.ret rfl ?_))|with_reducible (refine kSr ?_)|(with_reducible refine d_kEr ?_;refine kEr rfl ?_)))
  exact⟨rfl,lab,rows,h,FrL.refl _ _ _,rfl⟩
 rw[decide_eq_true hc] at hw1
 by_cases ha:0≤a∧a≤s.Width-1
 rotate_left
 ·rw[decide_eq_false ha] at hw2
  rw[if_neg (fun hh=>ha hh.2.1)]
  repeat (any_goals (first|(apply w_any;(first|refine RT.nil ?_|(apply w_g;(first|refine RT.gy rfl ?_|refine RT.gn rfl rfl ?_))|refine RT.mvA ?_|refine RT.asA ?_|(apply w_ld;(first|refine RT.v (f_ldCs h rfl) ?_|refine RT.ldH ?_))|refine RT.faA ?_|refine RT.bnA ?_|(apply w_cl;(first|refine RT.callM rfl (hw1) rfl rfl ?_|refine RT.callM rfl (hw2) rfl rfl ?_|refine RT.clA ?_))|refine RT.pkA ?_|refine RT.unA ?_|refine RT.v (f_nc (d:=.mp p 0 0) rfl rfl) ?_))|(apply v_any;(first|refine VT.seq rfl ?_|refine VT.reg rfl ?_|refine VT.condT rfl rfl ?_|refine VT.ret rfl ?_))|with_reducible (refine kSr ?_)|(with_reducible refine d_kEr ?_;refine kEr rfl ?_)))
  exact⟨rfl,lab,rows,h,FrL.refl _ _ _,rfl⟩
 rw[decide_eq_true ha] at hw2
 by_cases hW:W w
 rotate_left
 ·rw[decide_eq_false hW] at hw3
  rw[if_neg (fun hh=>hW hh.2.2)]
  repeat (any_goals (first|(apply w_any;(first|refine RT.nil ?_|refine RT.gy rfl ?_|refine RT.mvA ?_|refine RT.asA ?_|(apply w_ld;(first|refine RT.v (f_ldCs h rfl) ?_|refine RT.ldH ?_))|refine RT.faA ?_|refine RT.bnA ?_|(apply w_cl;(first|refine RT.callM rfl (hw1) rfl rfl ?_|refine RT.callM rfl (hw2) rfl rfl ?_|refine RT.callM rfl (hw3) rfl rfl ?_|refine RT.clA ?_))|refine RT.pkA ?_|refine RT.unA ?_|refine RT.v (f_nc (d:=.mp p 0 0) rfl rfl) ?_))|(apply v_any;(first|refine VT.seq rfl ?_|refine VT.reg rfl ?_|refine VT.condT rfl rfl ?_|refine VT.ret rfl ?_))|with_reducible (refine kSr ?_)|(with_reducible refine d_kEr ?_;refine kEr rfl ?_)))
  exact⟨rfl,lab,rows,h,FrL.refl _ _ _,rfl⟩
 rw[decide_eq_true hW] at hw3
 rw[if_pos ⟨hc,ha,hW⟩]
 have hf:=m_find s (lvsOf rows) (by omega) hl c n
 have hsn:([.mp p 0 0,wI c,wI n]:List D).map (snap (fun b=>H[b]?) 5)=[.rp (eSh s (lvsOf rows)),wI c,wI n]:=by
  rw[List.map_cons,h.snap];rfl
 have hfok:=FindS_ok (cs:=lvsOf rows) (c:=c) (n:=n)
 generalize FindS (lvsOf rows) c n=F at hf hfok ⊢
 obtain⟨F1,F2⟩:=F
 dsimp only at hf hfok ⊢
 by_cases h0:F2=0
 ·subst h0
  obtain⟨i,k,hi,rfl,rfl,hk⟩:=hfok rfl
  obtain⟨r,hr,hri⟩:=lvsOf_get hi
  have hrow:=h.row i r hr
  have hil:i < rows.length:=by omega
  have hwi:=hwl _ (List.getElem_mem hi)
  rw[hri] at hwi
  rw[hri,List.length_map] at hk
  obtain⟨v,ql⟩:=r
  dsimp only at hrow hk hri hwi
  have hk1:ql.length≤1000:=by
   have:=hl _ (List.getElem_mem hi)
   rwa [hri,List.length_map] at this
  obtain⟨q,hq⟩:∃q,ql[k]? = some q:=⟨_,List.getElem?_eq_getElem hk⟩
  have hqw:=hwi q.2 (List.mem_map.2 ⟨q,List.mem_of_getElem? hq,rfl⟩)
  obtain⟨qw1,qw2⟩:=hrow.ws q (List.mem_of_getElem? hq)
  obtain⟨A,rfl⟩:∃A:Nat,a=A:=Int.eq_ofNat_of_zero_le ha.1
  have hA:A < q.2.Words.length:=by omega
  have hbl:=h.blot hr hq (q.2.Words.set A w) (by simp)
  have hfin:=lvs_blot (a:=A) (w:=w) hr hq
  rcases hrow.hd with⟨_,e⟩|⟨b,cap,es,rfl,hb,het,hel,hec,hef,hlb⟩
  ·rw[e] at hk;exact absurd hk (Nat.not_lt_zero k)
  have hqm:(rows.map fun r=>[r.1])[i]? = some [D.ms b 0 ql.length cap]:=by rw[List.getElem?_map,hr];rfl
  have hek:es[k]? = some (eOL q):=by
   have h1:(es.take ql.length)[k]? = es[k]? := by rw[List.getElem?_take,if_pos hk]
   rw[←h1,het,List.getElem?_map,hq];rfl
  have hcs:=h.cs
  repeat (any_goals (first|(apply w_any;(first|refine RT.nil ?_|refine RT.gy rfl ?_|refine RT.mvA ?_|refine RT.asA ?_|(apply w_ld;(first|refine RT.v (f_ldO rfl hcs hqm rfl rfl) ?_|refine RT.v (f_ldO rfl hb hek rfl rfl) ?_|refine RT.ldH ?_))|refine RT.faA ?_|refine RT.bnA ?_|(apply w_cl;(first|(refine d_call ?_;refine RT.callM rfl hf hsn rfl ?_)|refine RT.callM rfl (hw1) rfl rfl ?_|refine RT.callM rfl (hw2) rfl rfl ?_|refine RT.callM rfl (hw3) rfl rfl ?_|refine RT.clA ?_))|refine RT.pkA ?_|refine RT.exA ?_|(apply w_ix;(first|refine RT.v (f_ixO0 rfl rfl (by first|with_reducible exact castR _|rfl) hcs rfl (by omega)) ?_|refine RT.v (f_ixO0 rfl rfl (by first|with_reducible exact castR _|rfl) hb rfl (by omega)) ?_|refine RT.v (f_ixO0 rfl rfl (by first|with_reducible exact castR _|rfl) qw1 rfl (by omega)) ?_))|refine RT.unA ?_|refine RT.wr (f_stW rfl qw1 hA rfl rfl) rfl ?_|refine RT.v (f_nc (d:=.mp p 0 0) rfl rfl) ?_))|(apply v_any;(first|refine VT.seq rfl ?_|refine VT.reg rfl ?_|refine VT.condF rfl rfl ?_|refine VT.skip rfl ?_|refine VT.ret rfl ?_))|(with_reducible refine d_kEr ?_;refine kEr rfl ?_)))
  rw[if_pos rfl]
  exact⟨rfl,lab,_,hbl.1,hbl.2,hfin⟩
 ·rw[if_neg h0]
  repeat (any_goals (first|(apply w_any;(first|refine RT.nil ?_|refine RT.gy rfl ?_|refine RT.mvA ?_|refine RT.asA ?_|(apply w_ld;(first|refine RT.v (f_ldCs h rfl) ?_|refine RT.ldH ?_))|refine RT.faA ?_|refine RT.bnA ?_|(apply w_cl;(first|(refine d_call ?_;refine RT.callM rfl hf hsn rfl ?_)|refine RT.callM rfl (hw1) rfl rfl ?_|refine RT.callM rfl (hw2) rfl rfl ?_|refine RT.callM rfl (hw3) rfl rfl ?_|refine RT.clA ?_))|refine RT.pkA ?_|refine RT.exA ?_|refine RT.unA ?_|refine RT.v (f_nc (d:=.mp p 0 0) rfl rfl) ?_))|(apply v_any;(first|refine VT.seq rfl ?_|refine VT.reg rfl ?_|refine VT.condF rfl rfl ?_|refine VT.skip rfl ?_|refine VT.ret rfl ?_|refine VT.condY rfl rfl (by first|assumption|omega) ?_))|with_reducible (refine kSr ?_)|(with_reducible refine d_kEr ?_;refine kEr rfl ?_)))
  exact⟨rfl,lab,rows,h,FrL.refl _ _ _,rfl⟩
end Go.DL

/- The law: Join agrees with the reference. -/
set_option maxRecDepth 100000
set_option maxHeartbeats 16000000
namespace Go.DL
open Go.Proofs Go
deriving instance DecidableEq for Leaf
theorem m_Join (s:Shape)(cs:List (List Leaf))(hc:cs.length≤4611686018427387904)(hl:∀l,l∈cs→l.length≤4611686018427387904)(hw:∀l,l∈cs→∀x,x∈l→x.Words.length≤4611686018427387904):
  Maps Tryz.prog 42 [dSh s,.sl (cs.map eLvs)] (.tup [.fl ((JoinS s cs).1.map eLeaf),wI (JoinS s cs).2]):=by
 refine Maps.vt pok Tryz.f42 (n:=34) (rs:=[.tmp 4,.tmp 5]) rfl rfl rfl rfl rfl rfl fun g=>?_
 have hk:=m_Check s
 unfold JoinS
 rcases CheckS_cases s with⟨e,h⟩|⟨e,h⟩
 ·rw[e] at hk ⊢
  rw[if_pos rfl]
  by_cases h5:5 < cs.length
  ·rw[if_pos h5]
   repeat (any_goals (first|(apply w_any;(first|refine RT.nil ?_|refine RT.mvA ?_|refine RT.asA ?_|refine RT.ldA ?_|refine RT.bnA ?_|(apply w_cl;(first|refine RT.callM rfl (hk) rfl rfl ?_|refine RT.clA ?_))|refine RT.nwA ?_))|(apply v_any;(first|refine VT.seq rfl ?_|refine VT.reg rfl ?_|refine VT.condF rfl rfl ?_|refine VT.skip rfl ?_|refine VT.ret rfl ?_|refine VT.condY rfl rfl (by first|assumption|omega) ?_))|with_reducible (refine kSr ?_)|(with_reducible refine d_kEr ?_;refine kEr rfl ?_)))
   rfl
  ·rw[if_neg h5]
   repeat (any_goals (first|(apply w_any;(first|refine RT.nil ?_|refine RT.mvA ?_|refine RT.asA ?_|refine RT.ldA ?_|refine RT.bnA ?_|(apply w_cl;(first|refine RT.callM rfl (hk) rfl rfl ?_|refine RT.clA ?_))|refine RT.nwA ?_))|(apply v_any;(first|refine VT.seq rfl ?_|refine VT.reg rfl ?_|refine VT.condF rfl rfl ?_|refine VT.block rfl ?_|refine VT.skip rfl ?_|refine VT.condN rfl rfl (by first|assumption|omega) ?_))))
   refine VT.loop (fun j a H g'=>∃(i:Nat),j=cs.length-i∧i≤cs.length∧ckAll s cs=ckAll s (cs.drop i)∧a=[(1,.sl (cs.map eLvs)),(2,.mp 0 0 0),(18,.sl (cs.map eLvs)),(19,wI cs.length),(20,wI i)]∧H=[.live 3 [eShape s]]∧g'=g) rfl
    ⟨_,_,_,⟨0,rfl,Nat.zero_le _,rfl,rfl,rfl,rfl⟩,fgA⟩ ?_
   rintro j a H g' ⟨i,rfl,hi,hck,rfl,rfl,rfl⟩
   by_cases hlt:i < cs.length
   ·have hcl:=m_CheckLeaves s cs[i] (hl _ (List.getElem_mem hlt)) (hw _ (List.getElem_mem hlt))
    rw[List.drop_eq_getElem_cons hlt,ckAll] at hck
    by_cases hz:CheckLeavesS s cs[i]=0
    ·rw[if_pos hz] at hck
     rw[hz] at hcl
     repeat (any_goals (first|(apply w_any;(first|refine RT.nil ?_|refine RT.mvA ?_|refine RT.asA ?_|refine RT.ldA ?_|refine RT.bnA ?_|refine RT.callM rfl (hcl) rfl rfl ?_|refine RT.ixA ?_))|(apply v_any;(first|refine VT.seq rfl ?_|refine VT.reg rfl ?_|refine VT.condF rfl rfl ?_|refine VT.block rfl ?_|refine VT.skip rfl ?_|refine VT.condY rfl rfl (by first|assumption|omega) ?_))|with_reducible (refine kLn ?_)))
     exact⟨cs.length-(i+1),by omega,_,_,⟨i+1,rfl,hlt,hck,rfl,rfl,rfl⟩,fgA⟩
    ·rw[if_neg hz] at hck
     rw[hck,if_neg hz]
     repeat (any_goals (first|(apply w_any;(first|refine RT.nil ?_|refine RT.mvA ?_|refine RT.asA ?_|refine RT.ldA ?_|refine RT.bnA ?_|refine RT.callM rfl (hcl) rfl rfl ?_|refine RT.ixA ?_))|(apply v_any;(first|refine VT.seq rfl ?_|refine VT.reg rfl ?_|refine VT.block rfl ?_|refine VT.skip rfl ?_|refine VT.ret rfl ?_|refine VT.condY rfl rfl (by first|assumption|omega) ?_))|(with_reducible first|refine kSr ?_|refine kBr ?_|refine kLr ?_)|(with_reducible refine d_kEr ?_;refine kEr rfl ?_)))
     rfl
   ·obtain rfl:i=cs.length:=by omega
    rw[List.drop_length,ckAll] at hck
    rw[if_pos hck]
    have hj:=m_join s cs h (by omega) fun l hl=>(lvs_of (ckAll_ok hck l hl)).2
    repeat (any_goals (first|(apply w_any;(first|refine RT.nil ?_|refine RT.mvA ?_|refine RT.asA ?_|refine RT.ldA ?_|refine RT.bnA ?_|refine RT.callM rfl (hj) rfl rfl ?_))|(apply v_any;(first|refine VT.seq rfl ?_|refine VT.reg rfl ?_|refine VT.exit rfl ?_|refine VT.ret rfl ?_|refine VT.condN rfl rfl (by first|assumption|omega) ?_))|(with_reducible refine d_kEr ?_;refine kEr rfl ?_)))
    rfl
 ·rw[e] at hk ⊢
  rw[if_neg (by decide)]
  repeat (any_goals (first|(apply w_any;(first|refine RT.nil ?_|refine RT.mvA ?_|refine RT.asA ?_|refine RT.ldA ?_|refine RT.bnA ?_|refine RT.callM rfl (hk) rfl rfl ?_|refine RT.nwA ?_))|(apply v_any;(first|refine VT.seq rfl ?_|refine VT.reg rfl ?_|refine VT.condT rfl rfl ?_|refine VT.ret rfl ?_))|with_reducible (refine kSr ?_)|(with_reducible refine d_kEr ?_;refine kEr rfl ?_)))
  rfl
end Go.DL

/- The reference's linear equations, solved in place. -/
set_option maxRecDepth 100000
set_option maxHeartbeats 16000000
namespace Go.DL
open Go.Proofs Go
section
variable {P:Program}{H:List Blk}{s n:Nat}{al:AL}{tx ty':TypeId}{x y:Operand}{a b:Int}
end
structure KH (H:List Blk)(bt b n:Nat)(ps:List Nat)(M:List (List Int))(cl:List Int):Prop where
 rw:RW H b n ps M
 att:H[bt]? = some (.live 1 (cl.map eI))
 dt:bt≠b
 dr:∀i,i < ps.length→ps.getD i 0≠bt
section
variable {H T:List Blk}{bt b n q i u p:Nat}{ps:List Nat}{M:List (List Int)}{cl:List Int}
theorem RW.setRow (h:RW H b n ps M)(hi:i < ps.length)(r:List Int):RW (H.set (ps.getD i 0) (.live 1 (r.map eI))) b n ps (M.set i r):=by
 refine⟨blk_ne h.rows (h.ne i hi),fun j hj=>?_,h.ne,h.nd,by rw[List.length_set];exact h.len⟩
 have hl:=h.len
 by_cases e:i=j
 ·subst e
  rw[List.getElem?_set_self (h.lt.2 i hi),setD_get (by omega)]
 ·rw[List.getElem?_set_ne (fun q=>e (h.nd i j hi hj q)),setD_ne e];exact h.row j hj
theorem RW.swap (h:RW H b n ps M)(hu:u < ps.length)(hp:p < ps.length):
  RW (H.set b (.live 1 (((ps.map fun p=>[D.ms p 0 (n+1) (n+1)]).set p [.ms (ps.getD u 0) 0 (n+1) (n+1)]).set u [.ms (ps.getD p 0) 0 (n+1) (n+1)]))) b n ((ps.set p (ps.getD u 0)).set u (ps.getD p 0)) ((M.set p (M.getD u [])).set u (M.getD p [])):=by
 have hl:((ps.set p (ps.getD u 0)).set u (ps.getD p 0)).length=ps.length:=by simp
 have hlM:=h.len
 have hg:∀i,((ps.set p (ps.getD u 0)).set u (ps.getD p 0)).getD i 0=ps.getD (if i=u then p else if i=p then u else i) 0:=fun i=>by
  rw[swapM_get hp hu];split<;>(try split)<;>rfl
 have hgM:∀i,((M.set p (M.getD u [])).set u (M.getD p [])).getD i []=M.getD (if i=u then p else if i=p then u else i) []:=fun i=>by
  rw[swapM_get (by omega) (by omega)];split<;>(try split)<;>rfl
 have hi:∀i,i < ps.length→(if i=u then p else if i=p then u else i) < ps.length:=fun i hi=>by split<;>(try split)<;>omega
 refine⟨?_,fun i hil=>?_,fun i hil=>?_,fun i j hil hjl he=>?_,by simp[h.len]⟩
 ·rw[List.getElem?_set_self h.lt.1,List.map_set,List.map_set]
 ·rw[hl] at hil
  rw[hg,hgM,List.getElem?_set_ne (Ne.symm (h.ne _ (hi i hil)))]
  exact h.row _ (hi i hil)
 ·rw[hl] at hil
  rw[hg];exact h.ne _ (hi i hil)
 ·rw[hl] at hil hjl
  rw[hg,hg] at he
  have:=h.nd _ _ (hi i hil) (hi j hjl) he
  revert this
  repeat' split
  all_goals omega
theorem RW.ptr (h:RW H b n ps M)(hi:i < ps.length):(ps.map fun p=>[D.ms p 0 (n+1) (n+1)])[i]? = some [.ms (ps.getD i 0) 0 (n+1) (n+1)]:=by
 simp[List.getD_eq_getElem?_getD,hi]
theorem RW.get {L c used j:Nat}{M0:List (List Int)}{at':List Int}(_:RW H b n ps M)(hE:DM.Elim L n M0 c used at' M)(hi:i < L)(hj:j < n+1):(M.getD i [])[j]? = some (DM.ent M i j):=by
 have hr:=(hE.row hi).1
 rw[getD_some (by omega)];rfl
theorem KH.app (h:KH H bt b n ps M cl)(T:List Blk):KH (H++T) bt b n ps M cl:=⟨h.rw.app T,blk_app T h.att,h.dt,h.dr⟩
theorem KH.setRow (h:KH H bt b n ps M cl)(hi:i < ps.length)(r:List Int):KH (H.set (ps.getD i 0) (.live 1 (r.map eI))) bt b n ps (M.set i r) cl:=
 ⟨h.rw.setRow hi r,blk_ne h.att (h.dr i hi),h.dt,h.dr⟩
theorem KH.swap (h:KH H bt b n ps M cl)(hu:u < ps.length)(hp:p < ps.length):
  KH (H.set b (.live 1 (((ps.map fun p=>[D.ms p 0 (n+1) (n+1)]).set p [.ms (ps.getD u 0) 0 (n+1) (n+1)]).set u [.ms (ps.getD p 0) 0 (n+1) (n+1)]))) bt b n ((ps.set p (ps.getD u 0)).set u (ps.getD p 0)) ((M.set p (M.getD u [])).set u (M.getD p [])) cl:=by
 refine⟨h.rw.swap hu hp,blk_ne h.att (Ne.symm h.dt),h.dt,fun i hi=>?_⟩
 rw[swapM_get hp hu]
 simp only[List.length_set] at hi
 split
 ·exact h.dr p hp
 ·split
  ·exact h.dr u hu
  ·exact h.dr i hi
theorem KH.start (h:RW H b n ps M):KH (H++[.live 1 []]) H.length b n ps M []:=by
 obtain⟨l1,l2⟩:=h.lt
 exact⟨h.app _,blk_at (t:=0) rfl rfl,by omega,fun i hi=>by have:=l2 i hi;omega⟩
end
def ALs (n used:Nat)(cl at':List Int):Prop:=cl.length=used∧∀r,r < used→∃j:Nat,cl.getD r 0=j∧j < n∧at'.getD j 0=(r:Int)+1
theorem ALs.next {n used c:Nat}{cl at':List Int}(h:ALs n used cl at')(hc:c < n)(h0:at'.getD c 0=0)(hl:at'.length=n):ALs n (used+1) (cl++[(c:Int)]) (at'.set c ((used:Int)+1)):=by
 refine⟨by simp[h.1],fun r hr=>?_⟩
 have h1:=h.1
 rw[getD_snocL _ _ _ _ (by omega)]
 by_cases hu:r < used
 ·obtain⟨j,e1,e2,e3⟩:=h.2 r hu
  refine⟨j,by rw[if_pos (by omega)];exact e1,e2,?_⟩
  rw[getD_setX _ _ _ _ _ (by omega),if_neg]
  ·exact e3
  ·intro e;subst e;omega
 ·refine⟨c,by rw[if_neg (by omega)],hc,?_⟩
  rw[getD_setX _ _ _ _ _ (by omega),if_pos rfl];omega
end Go.DL
