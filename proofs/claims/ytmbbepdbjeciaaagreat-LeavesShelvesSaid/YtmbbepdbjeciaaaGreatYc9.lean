/- Shelves: Copy and Lines of both. -/
import Derived.Test.YtmbbepdbjeciaaaGreatYc6
import Derived.Test.YtmbbepdbjeciaaaGreatYk
set_option maxRecDepth 100000
set_option maxHeartbeats 16000000
namespace Go.DL
open Go.Proofs Go
theorem f_ldAP {P:Program}{H:List Blk}{s n:Nat}{al:AL}{tx:TypeId}{x:Operand}{cs ds:List D}{m:Nat}(hx:evA n al x=.rp cs)(ht:zdT P tx=some true)(hs:tsz P tx=some m)(hn:m≤cs.length)(hd:(cs.map lowD).take m=ds):Val P H s n al (.load tx x) (.agg ds):=by
 subst hd
 refine⟨?_⟩
 simp only[zcp,zc7,hx,zeO,peek,zeT,ht,hs,ze,hn,if_true,zcQ,zq]
structure CopOk (s:Shape)(l:List Leaf):Prop where
 len:(l.length:Int)≤s.Data+s.Checks
 srt:l.Pairwise fun x y=>x.Number < y.Number
 num:∀x,x∈l→1≤x.Number∧x.Number≤s.Data+s.Checks
 wl:∀x,x∈l→(x.Words.length:Int)=s.Width∧allW x.Words
def CopyS (cs:List (List Leaf))(c:Int):List Leaf:=if 0≤c∧c≤(cs.length:Int)-1 then cs.getD c.toNat [] else []
theorem m_Copy (s:Shape)(hk:zeJ s)(cs:List (List Leaf))(hcs:cs.length≤5)(hok:∀l,l∈cs→CopOk s l)(c:Int):Maps Tryz.prog 64 [.rp (eSh s cs),wI c] (.fl ((CopyS cs c).map zcn)):=by
 refine Maps.vt pok Tryz.f64 (n:=22) (rs:=[.tmp 4]) rfl rfl rfl rfl rfl rfl fun g=>?_
 have hw:=zdK c 0 ((cs.length:Int)-1)
 unfold CopyS
 by_cases hc:0≤c∧c≤(cs.length:Int)-1
 ·rw[if_pos hc]
  rw[decide_eq_true hc] at hw
  obtain⟨k,rfl⟩:∃k:Nat,c=k:=zF hc.1
  have hk2:k < cs.length:=by omega
  obtain⟨l,hlk⟩:∃l,cs[k]=l:=⟨_,rfl⟩
  have hg:cs[k]? = some l:=by rw[zb hk2,hlk]
  have hgd:cs.getD (k:Int).toNat []=l:=by rw[zM,zc,hg];rfl
  rw[hgd]
  have ho:=hok l (zm hg)
  obtain⟨⟨d1,d2⟩,⟨c1,c2⟩,w1,w2⟩:=hk
  have hlen:=ho.len
  have hcp:=m_copied l (by omega) (fun x hx=>by have:=(ho.wl x hx).1;omega) (fun x hx=>by have:=ho.num x hx;omega) (ho.srt.imp fun h=>by omega)
  rw[sortLf_id ho.srt] at hcp
  repeat (any_goals (first|(apply zcd;(first|refine zbW ?_|refine zb0 ?_|refine zbZ ?_|refine zcf ?_|refine zcm ?_|refine zb2 ?_|(apply zdc;(first|refine zb4 rfl (hw) rfl rfl ?_|refine zb4 rfl (hcp) rfl rfl ?_|refine zb8 ?_))|refine zb9 (f_ixQ rfl rfl rfl hg rfl rfl) ?_|refine zcv ?_|refine zb9 (zeo (d:=.rp (eSh s cs)) rfl rfl) ?_))|(apply zcg;(first|refine zbY rfl ?_|refine zbX rfl ?_|refine zcb rfl rfl ?_|refine zb5 rfl ?_|refine zb7 rfl ?_))|(with_reducible refine zce ?_;refine kEr rfl ?_)))
  rfl
 ·rw[if_neg hc]
  rw[decide_eq_false hc] at hw
  repeat (any_goals (first|(apply zcd;(first|refine zbW ?_|refine zb0 ?_|refine zbZ ?_|refine zcf ?_|refine zcm ?_|refine zb2 ?_|(apply zdc;(first|refine zb4 rfl (hw) rfl rfl ?_|refine zb8 ?_))|refine zcv ?_|refine zb9 (zeo (d:=.rp (eSh s cs)) rfl rfl) ?_))|(apply zcg;(first|refine zbY rfl ?_|refine zbX rfl ?_|refine zch rfl rfl ?_|refine zb7 rfl ?_))|with_reducible (refine kSr ?_)|(with_reducible refine zce ?_;refine kEr rfl ?_)))
  rfl
def dCp (cs:List (List Leaf))(c:Int):D:=if 0≤c∧c≤(cs.length:Int)-1 then .sl ((CopyS cs c).map zcn) else .fl []
theorem m_RCopy (s:Shape)(cs:List (List Leaf))(hcs:cs.length≤5)(c:Int):Maps Tryz.prog 114 [.rp (eSh s cs),wI c] (dCp cs c):=by
 refine Maps.vt pok Tryz.f114 (n:=21) (rs:=[.tmp 4]) rfl rfl rfl rfl rfl rfl fun g=>?_
 have hw:=m_in c 0 ((cs.length:Int)-1)
 unfold dCp CopyS
 by_cases hc:0≤c∧c≤(cs.length:Int)-1
 ·rw[if_pos hc,if_pos hc]
  rw[decide_eq_true hc] at hw
  obtain⟨k,rfl⟩:∃k:Nat,c=k:=zF hc.1
  have hk2:k < cs.length:=by omega
  obtain⟨l,hlk⟩:∃l,cs[k]=l:=⟨_,rfl⟩
  have hg:cs[k]? = some l:=by rw[zb hk2,hlk]
  have hgd:cs.getD (k:Int).toNat []=l:=by rw[zM,zc,hg];rfl
  rw[hgd]
  repeat (any_goals (first|(apply zcd;(first|refine zbW ?_|refine zb0 ?_|refine zbZ ?_|refine zcf ?_|refine zcm ?_|refine zb2 ?_|(apply zdc;(first|refine zb4 rfl (hw) rfl rfl ?_|refine zb8 ?_))|refine zb9 (f_ixQ rfl rfl rfl hg rfl rfl) ?_|refine zcv ?_|refine zb9 (zeo (d:=.rp (eSh s cs)) rfl rfl) ?_))|(apply zcg;(first|refine zbY rfl ?_|refine zbX rfl ?_|refine zcb rfl rfl ?_|refine zb5 rfl ?_|refine zb7 rfl ?_))|(with_reducible refine zce ?_;refine kEr rfl ?_)))
  rfl
 ·rw[if_neg hc]
  rw[decide_eq_false hc] at hw
  repeat (any_goals (first|(apply zcd;(first|refine zbW ?_|refine zb0 ?_|refine zbZ ?_|refine zcf ?_|refine zcm ?_|refine zb2 ?_|(apply zdc;(first|refine zb4 rfl (hw) rfl rfl ?_|refine zb8 ?_))|refine zcv ?_|refine zb9 (zeo (d:=.rp (eSh s cs)) rfl rfl) ?_))|(apply zcg;(first|refine zbY rfl ?_|refine zbX rfl ?_|refine zch rfl rfl ?_|refine zb7 rfl ?_))|with_reducible (refine kSr ?_)|(with_reducible refine zce ?_;refine kEr rfl ?_)))
  rfl
noncomputable def LinesS (s:Shape)(cs:List (List Leaf)):List Line × Int:=
 if (MendS s (zep cs (s.Data+s.Checks).toNat)).2=0 then ReadS s (MendS s (zep cs (s.Data+s.Checks).toNat)).1.1 else ([],(MendS s (zep cs (s.Data+s.Checks).toNat)).2)
theorem CopOk.lvs {s:Shape}{l:List Leaf}(hk:zeJ s)(h:CopOk s l):LvsOk s l:=
 ⟨by obtain⟨⟨d1,d2⟩,⟨c1,c2⟩,w1,w2⟩:=hk;have:=h.len;omega,h.num,h.wl,h.srt.imp fun h=>by omega⟩
theorem m_Lines (s:Shape)(hk:zeJ s)(h12:s.Data+s.Checks≤12)(cs:List (List Leaf))(hcs:cs.length≤5)(hok:∀l,l∈cs→CopOk s l):Maps Tryz.prog 65 [.rp (eSh s cs)] (.tup [.fl ((LinesS s cs).1.map zcC),wI (LinesS s cs).2]):=by
 refine Maps.vt pok Tryz.f65 (n:=35) (rs:=[.tmp 2,.tmp 3]) rfl rfl rfl rfl rfl rfl fun g=>?_
 have hj:=m_join s cs hk hcs fun l hl=>(hok l hl).lvs hk
 have hjl:=joinL_len cs (s.Data+s.Checks).toNat
 have hjs:=joinL_srt cs (s.Data+s.Checks).toNat
 unfold LinesS
 generalize zep cs (s.Data+s.Checks).toNat=J at hj hjl hjs ⊢
 obtain⟨⟨d1,d2⟩,⟨c1,c2⟩,w1,w2⟩:=hk
 have hJl:J.length≤12:=by omega
 have hJw:∀x,x∈J→x.Words.length≤4611686018427387904:=fun x hx=>by
  obtain⟨l,hl1,hl2⟩:=zaP.1 ((hjs.2 x hx).2)
  have:=((hok l hl1).wl x hl2).1
  omega
 have hm:=m_Mend s J (by omega) hJw fun _=>hJl
 have hms:=MendS_small s J
 generalize MendS s J=M at hm hms ⊢
 obtain⟨⟨M1,M2⟩,M3⟩:=M
 dsimp only at hm hms ⊢
 by_cases h0:M3=0
 ·subst h0
  rw[if_pos rfl]
  have hr:=m_Read s M1 (by omega) fun x hx=>by have:=hms.2.1 x hx;omega
  repeat (any_goals (first|(apply zcd;(first|refine zbW ?_|refine zb0 ?_|refine zbZ ?_|refine zb2 ?_))|(apply zcg;(first|refine zbY rfl ?_|refine zbX rfl ?_|refine zcb rfl rfl ?_|refine zb5 rfl ?_|refine zb7 rfl ?_|refine zcu [(2,[0,1]),(2,[0,1]),(2,[0,1]),(2,[0,1]),(2,[0,1]),(2,[0,1]),(2,[0,1]),(2,[0,1]),(2,[0,1]),(2,[0,1]),(2,[0,1]),(2,[0,1]),(2,[0,1]),(2,[0,1]),(2,[0,1]),(2,[0,1]),(2,[0,1]),(0,[0,1]),(1,[1]),(2,[])] 3 zcr rfl (by decide +kernel) (by decide +kernel) (by decide +kernel) nrX nrX ?_|refine zcu [(0,[]),(0,[]),(0,[]),(0,[]),(0,[]),(0,[]),(0,[]),(0,[]),(0,[]),(0,[]),(0,[])] 1 zcr rfl (by decide +kernel) (by decide +kernel) (by decide +kernel) nrX nrX ?_))|(apply zez;(first|refine zcy nrX ?_|refine zc2 ?_|refine PT.asA ?_|(apply q_ld;(first|refine zdi (f_ldAP (m:=3) rfl rfl rfl (zbx 3) rfl) ?_|refine zda ?_))|refine zdU ?_|(apply q_cl;(first|refine zcT rfl (hj) rfl rfl ?_|refine zcT rfl (hm) rfl rfl ?_|refine zcT rfl (hr) rfl rfl ?_))|refine PT.exA ?_|refine PT.stA ?_|refine PT.nwA ?_|refine zdi (zeo (d:=.rp (eSh s cs)) rfl rfl) ?_))|(with_reducible refine zce ?_;refine kEr rfl ?_)))
  rfl
 ·rw[if_neg h0]
  repeat (any_goals (first|(apply zcd;(first|refine zbW ?_|refine zb0 ?_|refine zbZ ?_|refine zb2 ?_))|(apply zcg;(first|refine zbY rfl ?_|refine zbX rfl ?_|refine zb7 rfl ?_|refine zcu [(2,[0,1]),(2,[0,1]),(2,[0,1]),(2,[0,1]),(2,[0,1]),(2,[0,1]),(2,[0,1]),(2,[0,1]),(2,[0,1]),(2,[0,1]),(2,[0,1]),(2,[0,1]),(2,[0,1]),(2,[0,1]),(2,[0,1]),(2,[0,1]),(2,[0,1]),(0,[0,1]),(1,[1]),(2,[])] 3 zcr rfl (by decide +kernel) (by decide +kernel) (by decide +kernel) nrX nrX ?_|refine zb6 rfl rfl (by first|assumption|omega) ?_))|(apply zez;(first|refine zcy nrX ?_|refine zc2 ?_|refine PT.asA ?_|(apply q_ld;(first|refine zdi (f_ldAP (m:=3) rfl rfl rfl (zbx 3) rfl) ?_|refine zda ?_))|refine zdU ?_|(apply q_cl;(first|refine zcT rfl (hj) rfl rfl ?_|refine zcT rfl (hm) rfl rfl ?_))|refine PT.exA ?_|refine PT.stA ?_|refine PT.nwA ?_|refine zdi (zeo (d:=.rp (eSh s cs)) rfl rfl) ?_))|with_reducible (refine kSr ?_)|(with_reducible refine zce ?_;refine kEr rfl ?_)))
  rfl
theorem ckl_ofS {s:Shape}:∀{l seen:List Leaf},(∀x,x∈l→zeF s x=true∧numIn seen x.Number=false)→l.Pairwise (fun x y=>x.Number≠y.Number)→cklS s seen l=0
 |[],_,_,_=>rfl
 |x::r,seen,h,hp=>by
  obtain⟨h1,h2⟩:=h x (zB ..)
  obtain⟨p1,p2⟩:=zam.1 hp
  rw[cklS,if_pos h1,if_neg (by rw[h2];exact zbh)]
  refine ckl_ofS (fun y hy=>⟨(h y (zG _ hy)).1,?_⟩) p2
  have h3:=(h y (zG _ hy)).2
  simp only[numIn,List.any_append,zbG,List.any_cons,List.any_nil,decide_eq_false_iff_not,and_true] at h3 ⊢
  exact⟨h3,p1 y hy⟩
theorem CopOk.ck {s:Shape}{l:List Leaf}(hk:zeJ s)(h:CopOk s l):zcP s l=0:=by
 have e:ze9 s=0:=by
  rcases zcX s with⟨e,_⟩|⟨e,h2⟩
  ·exact e
  ·exact absurd hk h2
 unfold zcP
 have:=(h.lvs hk).len
 rw[if_pos e,if_neg (by omega)]
 refine ckl_ofS (fun x hx=>⟨?_,rfl⟩) (h.srt.imp fun h=>by omega)
 have h1:=h.num x hx
 obtain⟨h2,h3⟩:=h.wl x hx
 simp only[zeF,zJ,decide_eq_true_eq,zh]
 exact⟨h1,h2,fun a ha=>h3 a ha⟩
theorem JoinS_of {s:Shape}{cs:List (List Leaf)}(hk:zeJ s)(hcs:cs.length≤5)(hok:∀l,l∈cs→CopOk s l):JoinS s cs=(zep cs (s.Data+s.Checks).toNat,0):=by
 have e:ze9 s=0:=by
  rcases zcX s with⟨e,_⟩|⟨e,h2⟩
  ·exact e
  ·exact absurd hk h2
 have h2:ckAll s cs=0:=by
  clear hcs
  induction cs with
  |nil=>rfl
  |cons l r ih=>
   rw[ckAll,if_pos ((hok l (zB ..)).ck hk)]
   exact ih fun x hx=>hok x (zG _ hx)
 rw[JoinS,if_pos e,if_neg (by omega),if_pos h2]
def flat2:D→Bool
 |.agg cs=>cs.all DL.flat
 |d=>DL.flat d
theorem V.flat2 {A A':Rd}{w:World}{φ φ':Nat→Loc}{d:D}{u:Value}(h:V A w φ d u)(hd:flat2 d=true)(hA:∀n,A n→A' n):V A' w φ' d u:=by
 cases d with
 |agg cs=>
  have hd':∀x,x∈cs→DL.flat x=true:=zh.1 hd
  cases h with
  |agg _ _ vs hl h=>exact .agg _ _ _ hl fun i d u h1 h2=>(h i d u h1 h2).flat (hd' d (zm h1)) hA
 |_=>exact h.flat hd hA
theorem CallAt.flat2 {P:Program}{f:FuncId}{xs:List D}{Hm:List Blk}{s:Nat}{d:D}(h:Maps P f xs d)(hx:xs.all DL.flat2=true):CallAt P f xs Hm s d .free:=by
 intro H hsub hfree
 rw[zh] at hx
 have hset:H.set s .free=H:=set_self hfree
 refine⟨h.1,fun w A φ vs hr hv=>?_⟩
 refine (h.2 w A.on vs hr.lt ⟨hv.size,fun i d u h1 h2=>(hv.val i d u h1 h2).flat2 (hx d (zm h1)) fun _ x=>x⟩).mono ?_
 rintro e w' ⟨v,A',rfl,h1,h2,h3,h4,h5⟩
 have hs:∀m,m < w.heap.size→w'.heap[m]? = w.heap[m]? := fun m hm=>h5.same m hm fun x=>x
 have hr1:=hr.move (w':=w') (fun m hm=>hs m (hr.lt m hm)) (fun m hm=>hs m (hr.olt m hm)) h5.size
 refine⟨v,d,H,⟨fun m=>A m∨(A' m∧w.heap.size≤m),A.b0⟩,φ,rfl,⟨rfl,hset.symm⟩,⟨hr1.out,hr1.free,hr1.dead,fun b sz es hb=>(hr1.live b sz es hb).imp id fun⟨n,base,room,c,ty,q1,q2⟩=>
   ⟨n,base,room,c,ty,q1,q2.mono (fun _ x=>Or.inl x) (fun _ _=>rfl) (fun _=>Loc.le_refl _) rfl⟩,fun b clk es hb=>let ⟨n,ms,q1,q2⟩:=hr1.tab b clk es hb;⟨n,ms,q1,q2.mono (fun _ x=>Or.inl x) (fun _ _=>rfl) (fun _=>Loc.le_refl _) rfl⟩,hr1.inj,fun m hm ha=>?_,fun m hm=>hm.elim (hr1.lt m) fun x=>h4 m x.1,hr1.olt,hr1.ofr,hr1.bsz⟩,V.mono (A:=⟨A',w.heap.size⟩) (fun m hm=>(h3 m hm).elim Or.inl fun x=>Or.inr ⟨hm,x⟩) (fun _ _=>rfl) (fun _=>.inl rfl) h1 hr.bsz,⟨⟨h5.os,h5.tape,h5.output,h5.drawn,h5.size,fun n hn _=>hs n hn,fun n hn=>.inl hn⟩,fun _ x=>Or.inl x,fun m hm=>hm.imp id fun x=>.inr x.2,fun _=>Loc.le_refl _,rfl⟩⟩
 rcases ha with ha|ha
 ·exact hr1.dis m hm ha
 ·have:=hr.olt m hm;omega
theorem m_RLines (s:Shape)(hk:zeJ s)(h12:s.Data+s.Checks≤12)(cs:List (List Leaf))(hcs:cs.length≤5)(hok:∀l,l∈cs→CopOk s l):Maps Tryz.prog 115 [.rp (eSh s cs)] (.agg [.fl ((LinesS s cs).1.map zcC),wI (LinesS s cs).2]):=by
 refine Maps.vt pok Tryz.f115 (n:=35) (rs:=[.cell 2 65]) rfl rfl rfl rfl rfl rfl fun g=>?_
 have hjj:=JoinS_of hk hcs hok
 have hjl:=joinL_len cs (s.Data+s.Checks).toNat
 have hjs:=joinL_srt cs (s.Data+s.Checks).toNat
 have hlw:∀l,l∈cs→∀x,x∈l→x.Words.length≤4611686018427387904:=fun l hl x hx=>by
  have:=((hok l hl).wl x hx).1
  obtain⟨⟨d1,d2⟩,⟨c1,c2⟩,w1,w2⟩:=hk
  omega
 have hj:=m_RJoin s cs (by omega) (fun l hl=>by have:=((hok l hl).lvs hk).len;omega) hlw
 rw[hjj] at hj
 unfold LinesS
 dsimp only at hj
 generalize zep cs (s.Data+s.Checks).toNat=J at hj hjl hjs ⊢
 obtain⟨⟨d1,d2⟩,⟨c1,c2⟩,w1,w2⟩:=hk
 have hJl:J.length≤12:=by omega
 have hJw:∀x,x∈J→x.Words.length≤4611686018427387904:=fun x hx=>by
  obtain⟨l,hl1,hl2⟩:=zaP.1 ((hjs.2 x hx).2)
  exact hlw l hl1 x hl2
 have hm:=m_RMend s J (by omega) hJw fun _=>hJl
 have hms:=MendS_small s J
 generalize MendS s J=M at hm hms ⊢
 obtain⟨⟨M1,M2⟩,M3⟩:=M
 dsimp only at hm hms ⊢
 by_cases hJ:J=[]
 ·subst hJ
  change Maps Tryz.prog 43 _ (.agg [.fl [],wI 0]) at hj
  by_cases h0:M3=0
  ·subst h0
   rw[if_pos rfl]
   have hr:=m_RRead s M1 (by omega) fun x hx=>by have:=hms.2.1 x hx;omega
   repeat (any_goals (first|(apply zcd;(first|refine zbW ?_|refine zcf ?_|refine zcm ?_|refine zb2 ?_|refine zco ?_))|(apply zcg;(first|refine zbY rfl ?_|refine zbX rfl ?_|refine zcb rfl rfl ?_|refine zb5 rfl ?_|refine zb7 rfl ?_|refine zcu [(2,[0,1]),(2,[0,1]),(2,[0,1]),(2,[0,1]),(2,[0,1]),(2,[0,1]),(2,[0,1]),(2,[0,1]),(2,[0,1]),(0,[0,1]),(1,[1])] 3 zcr rfl (by decide +kernel) (by decide +kernel) (by decide +kernel) nrX nrX ?_|refine zcu [(2,[0,1]),(2,[0,1]),(2,[0,1]),(2,[0,1]),(2,[0,1]),(2,[0,1]),(2,[0,1]),(0,[0,1]),(1,[1])] 3 zcr rfl (by decide +kernel) (by decide +kernel) (by decide +kernel) nrX nrX ?_|refine zcu [(1,[0]),(1,[0]),(1,[0]),(1,[0]),(1,[0]),(1,[0]),(1,[0]),(1,[0]),(0,[0])] 2 zcr rfl (by decide +kernel) (by decide +kernel) (by decide +kernel) nrX nrX ?_))|(apply zez;(first|refine zcy nrX ?_|refine zc2 ?_|(apply q_ld;(first|refine zdi (f_ldAP (m:=3) rfl rfl rfl (zbx 3) rfl) ?_|refine zda ?_))|refine zdU ?_|(apply q_cl;(first|refine zcT rfl (hj) rfl rfl ?_|refine zcT rfl (hm) rfl rfl ?_|refine zcT rfl (hr) rfl rfl ?_))|refine PT.stA ?_|refine PT.nwA ?_|refine zdi (zeo (d:=.rp (eSh s cs)) rfl rfl) ?_))|(with_reducible refine zce ?_;refine kEr rfl ?_)))
   rfl
  ·rw[if_neg h0]
   repeat (any_goals (first|(apply zcd;(first|refine zbW ?_|refine zcf ?_|refine zcm ?_|refine zb2 ?_|refine zc0 ?_|refine zco ?_|refine zdz ?_))|(apply zcg;(first|refine zbY rfl ?_|refine zbX rfl ?_|refine zb7 rfl ?_|refine zcu [(2,[0,1]),(2,[0,1]),(2,[0,1]),(2,[0,1]),(2,[0,1]),(2,[0,1]),(2,[0,1]),(2,[0,1]),(2,[0,1]),(0,[0,1]),(1,[1])] 3 zcr rfl (by decide +kernel) (by decide +kernel) (by decide +kernel) nrX nrX ?_|refine zcu [(2,[0,1]),(2,[0,1]),(2,[0,1]),(2,[0,1]),(2,[0,1]),(2,[0,1]),(2,[0,1]),(0,[0,1]),(1,[1])] 3 zcr rfl (by decide +kernel) (by decide +kernel) (by decide +kernel) nrX nrX ?_|refine zb6 rfl rfl (by first|assumption|omega) ?_))|(apply zez;(first|refine zcy nrX ?_|refine zc2 ?_|(apply q_ld;(first|refine zdi (f_ldAP (m:=3) rfl rfl rfl (zbx 3) rfl) ?_|refine zda ?_))|refine zdU ?_|(apply q_cl;(first|refine zcT rfl (hj) rfl rfl ?_|refine zcT rfl (hm) rfl rfl ?_))|refine PT.stA ?_|refine PT.nwA ?_|refine zdi (zeo (d:=.rp (eSh s cs)) rfl rfl) ?_))|with_reducible (refine kSr ?_)|(with_reducible refine zce ?_;refine kEr rfl ?_)))
   rfl
 ·have hd:dSF J=.sl (J.map zcn):=if_neg hJ
  rw[hd] at hj
  by_cases h0:M3=0
  ·subst h0
   rw[if_pos rfl]
   have hr:=m_RRead s M1 (by omega) fun x hx=>by have:=hms.2.1 x hx;omega
   repeat (any_goals (first|(apply zcd;(first|refine zbW ?_|refine zcf ?_|refine zcm ?_|refine zb2 ?_|refine zco ?_))|(apply zcg;(first|refine zbY rfl ?_|refine zbX rfl ?_|refine zcb rfl rfl ?_|refine zb5 rfl ?_|refine zb7 rfl ?_|refine zd9 [] 0 [none,none,none,none,none,none,none,none,none,none,some 1] [(3,[0,1,2],none),(3,[0,1,2],none),(3,[0,1,2],none),(3,[0,1,2],none),(3,[0,1,2],none),(3,[0,1,2],none),(3,[0,1,2],none),(3,[0,1,2],none),(0,[0,1,2],none),(1,[0,1,2],none),(2,[2],some 1)] 4 rfl (by simp) (by simp) zcr rfl (by decide +kernel) (by decide +kernel) (by decide +kernel) rfl (H1:=[Blk.live 2 [[D.nil,wI 0]]]++[.free,.free,.free,.free]) rfl ?_|refine zcu [(2,[0,1]),(2,[0,1]),(2,[0,1]),(2,[0,1]),(2,[0,1]),(2,[0,1]),(2,[0,1]),(0,[0,1]),(1,[1])] 3 zcr rfl (by decide +kernel) (by decide +kernel) (by decide +kernel) nrX nrX ?_|refine zcu [(1,[0]),(1,[0]),(1,[0]),(1,[0]),(1,[0]),(1,[0]),(1,[0]),(1,[0]),(0,[0])] 2 zcr rfl (by decide +kernel) (by decide +kernel) (by decide +kernel) nrX nrX ?_))|(apply zez;(first|refine zcy nrX ?_|refine zc2 ?_|(apply q_ld;(first|refine zdi (f_ldAP (m:=3) rfl rfl rfl (zbx 3) rfl) ?_|refine zda ?_))|refine zdU ?_|(apply q_cl;(first|refine zcT rfl (hm) rfl rfl ?_|refine zcT rfl (hr) rfl rfl ?_))|refine PT.stA ?_|refine PT.nwA ?_|refine zdi (zeo (d:=.rp (eSh s cs)) rfl rfl) ?_))|(apply s_any;(first|refine zeC (H':=[.live 2 [[.nil,wI 0]],.free,.live 2 [[.sl (J.map zcn),wI 0]],.free]) rfl ?_|refine ST.mvA ?_|(apply s_ld;(first|refine zdA (f_ldAP (m:=3) rfl rfl rfl (zbx 3) rfl) ?_|refine ST.ldA ?_))|refine ST.faA ?_|refine ST.callAt rfl (s':=1) rfl (CallAt.flat2 hj rfl) (H':=[.live 2 [[.nil,wI 0]],.free,.free,.free,.free]) rfl ?_|refine ST.wr (q:=1) (b:=2) rfl rfl (zdR rfl rfl rfl rfl rfl rfl rfl (zf _) rfl) (H':=[.live 2 [[.nil,wI 0]],.free,.live 2 [[.sl (J.map zcn),wI 0]],.free,.free]) rfl ?_|refine ST.new rfl (s':=2) rfl (zcL (z:=[.nil,wI 0]) (m:=2) rfl rfl) (H':=[.live 2 [[.nil,wI 0]],.free,.live 2 [[.nil,wI 0]],.free,.free]) rfl ?_|refine zdA (zeo (d:=.rp (eSh s cs)) rfl rfl) ?_))|(with_reducible refine zce ?_;refine kEr rfl ?_)))
   rfl
  ·rw[if_neg h0]
   repeat (any_goals (first|(apply zcd;(first|refine zbW ?_|refine zcf ?_|refine zcm ?_|refine zb2 ?_|refine zc0 ?_|refine zco ?_|refine zdz ?_))|(apply zcg;(first|refine zbY rfl ?_|refine zbX rfl ?_|refine zb7 rfl ?_|refine zd9 [] 0 [none,none,none,none,none,none,none,none,none,none,some 1] [(3,[0,1,2],none),(3,[0,1,2],none),(3,[0,1,2],none),(3,[0,1,2],none),(3,[0,1,2],none),(3,[0,1,2],none),(3,[0,1,2],none),(3,[0,1,2],none),(0,[0,1,2],none),(1,[0,1,2],none),(2,[2],some 1)] 4 rfl (by simp) (by simp) zcr rfl (by decide +kernel) (by decide +kernel) (by decide +kernel) rfl (H1:=[Blk.live 2 [[D.nil,wI 0]]]++[.free,.free,.free,.free]) rfl ?_|refine zcu [(2,[0,1]),(2,[0,1]),(2,[0,1]),(2,[0,1]),(2,[0,1]),(2,[0,1]),(2,[0,1]),(0,[0,1]),(1,[1])] 3 zcr rfl (by decide +kernel) (by decide +kernel) (by decide +kernel) nrX nrX ?_|refine zb6 rfl rfl (by first|assumption|omega) ?_))|(apply zez;(first|refine zcy nrX ?_|refine zc2 ?_|(apply q_ld;(first|refine zdi (f_ldAP (m:=3) rfl rfl rfl (zbx 3) rfl) ?_|refine zda ?_))|refine zdU ?_|refine zcT rfl (hm) rfl rfl ?_|refine PT.stA ?_|refine PT.nwA ?_|refine zdi (zeo (d:=.rp (eSh s cs)) rfl rfl) ?_))|(apply s_any;(first|refine zeC (H':=[.live 2 [[.nil,wI 0]],.free,.live 2 [[.sl (J.map zcn),wI 0]],.free]) rfl ?_|refine ST.mvA ?_|(apply s_ld;(first|refine zdA (f_ldAP (m:=3) rfl rfl rfl (zbx 3) rfl) ?_|refine ST.ldA ?_))|refine ST.faA ?_|refine ST.callAt rfl (s':=1) rfl (CallAt.flat2 hj rfl) (H':=[.live 2 [[.nil,wI 0]],.free,.free,.free,.free]) rfl ?_|refine ST.wr (q:=1) (b:=2) rfl rfl (zdR rfl rfl rfl rfl rfl rfl rfl (zf _) rfl) (H':=[.live 2 [[.nil,wI 0]],.free,.live 2 [[.sl (J.map zcn),wI 0]],.free,.free]) rfl ?_|refine ST.new rfl (s':=2) rfl (zcL (z:=[.nil,wI 0]) (m:=2) rfl rfl) (H':=[.live 2 [[.nil,wI 0]],.free,.live 2 [[.nil,wI 0]],.free,.free]) rfl ?_|refine zdA (zeo (d:=.rp (eSh s cs)) rfl rfl) ?_))|with_reducible (refine kSr ?_)|(with_reducible refine zce ?_;refine kEr rfl ?_)))
   rfl
end Go.DL
/- Two shelves that hold the same are found equal. -/
namespace Go.DL
open Go.Proofs Go
theorem CopyS_small {s:Shape}{cs:List (List Leaf)}(hk:zeJ s)(hok:∀l,l∈cs→CopOk s l)(c:Int):(CopyS cs c).length≤1000∧∀x,x∈CopyS cs c→x.Words.length≤1000:=by
 obtain⟨⟨d1,d2⟩,⟨c1,c2⟩,w1,w2⟩:=hk
 unfold CopyS
 split
 ·rename_i hc
  have hlt:c.toNat < cs.length:=by omega
  have e:cs.getD c.toNat []=cs[c.toNat]:=by simp[List.getD,hlt]
  rw[e]
  have ho:=hok _ (zi hlt)
  have:=ho.len
  exact⟨by omega,fun x hx=>by have:=(ho.wl x hx).1;omega⟩
 ·exact⟨zj _,fun x hx=>by cases hx⟩
theorem LinesS_small (s:Shape)(cs:List (List Leaf)):(LinesS s cs).1.length≤1000:=by
 unfold LinesS
 split
 ·exact ReadS_small _ _
 ·exact zj _
theorem m_shelved (s:Shape)(hk:zeJ s)(h12:s.Data+s.Checks≤12)(cs:List (List Leaf))(hcs:cs.length≤5)(hok:∀l,l∈cs→CopOk s l):Maps Tryz.prog 63 [.rp (eSh s cs),.rp (eSh s cs)] (wB true):=by
 refine Maps.vt pok Tryz.f63 (n:=48) (rs:=[.tmp 4]) rfl rfl rfl rfl rfl rfl fun g=>?_
 repeat (any_goals (first|(apply zcd;(first|refine zbW ?_|refine zbZ ?_))|(apply zcg;(first|refine zbY rfl ?_|refine zbX rfl ?_|refine zb3 rfl ?_))))
 refine zcl (fun j a H g'=>∃(n:Nat),j=5-n∧n≤5∧a=[(0,.rp (eSh s cs)),(1,.rp (eSh s cs)),(5,wI n)]∧H=[]∧g'=g) rfl
  ⟨_,_,_,⟨0,rfl,zj _,rfl,rfl,rfl⟩,Wk.keep kpX⟩ ?_
 rintro j a H g' ⟨n,rfl,hn,rfl,rfl,rfl⟩
 by_cases hlt:n < 5
 ·have h1:=m_Copy s hk cs hcs hok n
  have h2:=m_RCopy s cs hcs n
  obtain⟨z1,z2⟩:=CopyS_small hk hok (n:Int)
  have h3:=m_SameLeaves (CopyS cs n) (CopyS cs n) (by omega) (by omega) (fun x hx=>by have:=z2 x hx;omega) (fun x hx=>by have:=z2 x hx;omega)
  rw[decide_eq_true rfl] at h3
  by_cases hc:0≤(n:Int)∧(n:Int)≤(cs.length:Int)-1
  ·rw[dCp,if_pos hc] at h2
   repeat (any_goals (first|(apply zcd;(first|refine zbW ?_|refine zb0 ?_|refine zbZ ?_|(apply zea;(first|refine zb9 (f_lssT rfl rfl (by omega)) ?_|refine zb2 ?_))|(apply zdc;(first|(refine zcw ?_;refine RT.callT rfl h2 rfl ?_)|refine zb4 rfl (h1) rfl rfl ?_|refine zb4 rfl (h3) rfl rfl ?_))|refine zcv ?_))|(apply zcg;(first|refine zbY rfl ?_|refine zbX rfl ?_|refine zch rfl rfl ?_|refine zcb rfl rfl ?_|refine zb3 rfl ?_|refine zb5 rfl ?_))|with_reducible (refine kLn ?_)))
   exact⟨5-(n+1),by omega,_,_,⟨n+1,rfl,hlt,rfl,rfl,rfl⟩,Wk.keep kpX⟩
  ·rw[dCp,if_neg hc] at h2
   have e:CopyS cs n=[]:=by rw[CopyS,if_neg hc]
   rw[e] at h1 h3
   repeat (any_goals (first|(apply zcd;(first|refine zbW ?_|refine zb0 ?_|refine zbZ ?_|(apply zea;(first|refine zb9 (f_lssT rfl rfl (by omega)) ?_|refine zb2 ?_))|(apply zdc;(first|refine zb4 rfl (h1) rfl rfl ?_|refine zb4 rfl (h2) rfl rfl ?_|refine zb4 rfl (h3) rfl rfl ?_))|refine zcv ?_))|(apply zcg;(first|refine zbY rfl ?_|refine zbX rfl ?_|refine zch rfl rfl ?_|refine zcb rfl rfl ?_|refine zb3 rfl ?_|refine zb5 rfl ?_))|with_reducible (refine kLn ?_)))
   exact⟨5-(n+1),by omega,_,_,⟨n+1,rfl,hlt,rfl,rfl,rfl⟩,Wk.keep kpX⟩
 ·obtain rfl:n=5:=by omega
  have h1:=m_Lines s hk h12 cs hcs hok
  have h2:=m_RLines s hk h12 cs hcs hok
  have h4:=m_Copy s hk cs hcs hok (-1)
  have e:CopyS cs (-1)=[]:=by rw[CopyS,if_neg (by omega)]
  rw[e] at h4
  have hsm:=LinesS_small s cs
  generalize LinesS s cs=L at h1 h2 hsm
  obtain⟨L1,L2⟩:=L
  dsimp only at h1 h2 hsm
  have h3:=m_SameLines L1 L1 (by omega) (by omega)
  rw[decide_eq_true rfl] at h3
  repeat (any_goals (first|(apply zcd;(first|refine zbW ?_|refine zcS rfl ?_|refine zb0 ?_|refine zbZ ?_|refine zcf ?_|refine zcm ?_|(apply zea;(first|refine zb9 (f_lssF rfl rfl (by omega)) ?_|refine zb9 (zeG rfl rfl rfl) ?_))|(apply zdc;(first|refine zb4 rfl (h1) rfl rfl ?_|refine zb4 rfl (h2) rfl rfl ?_|refine zb4 rfl (h3) rfl rfl ?_|refine zb4 rfl (h4) rfl rfl ?_|refine zb8 ?_))|refine zcx ?_|refine zdF ?_|refine zc0 ?_|refine zco ?_))|(apply zcg;(first|refine zbY rfl ?_|refine zbX rfl ?_|refine zcb rfl rfl ?_|refine zci rfl ?_|refine zb7 rfl ?_))|(with_reducible refine zce ?_;refine kEr rfl ?_)))
  rfl
end Go.DL
/- What a step does to a shelf: plain. -/
namespace Go.DL
open Go.Proofs Go
structure Step where
 Kind:Int
 Copy:Int
 Number:Int
 At:Int
 Word:Int
 Lines:List Line
abbrev eStep (t:Step):List D:=[wI t.Kind,wI t.Copy,wI t.Number,wI t.At,wI t.Word,.sl (t.Lines.map zcC)]
def StoreS (s:Shape)(cs:List (List Leaf))(l:List Line):List (List Leaf) × Int:=
 (if (zd4 s l).2=0 then List.replicate cs.length (zdp (s.Data+s.Checks).toNat s.Width.toNat (zd4 s l).1) else cs,(zd4 s l).2)
def StepS (s:Shape)(cs:List (List Leaf))(t:Step):List (List Leaf) × Int:=
 if t.Kind=1 then StoreS s cs t.Lines else if t.Kind=2 then TearS cs t.Copy t.Number else BlotS s cs t.Copy t.Number t.At t.Word
structure StOk (s:Shape)(cs:List (List Leaf)):Prop where
 len:cs.length≤5
 ok:∀l,l∈cs→CopOk s l
theorem wholeL_cop {s:Shape}(hk:zeJ s)(d:List (List Int)):CopOk s (zdp (s.Data+s.Checks).toNat s.Width.toNat d):=by
 obtain⟨⟨d1,d2⟩,⟨c1,c2⟩,w1,w2⟩:=hk
 refine⟨by simp[zdp];omega,?_,fun x hx=>?_,fun x hx=>?_⟩
 ·rw[zdp,zaJ]
  exact List.Pairwise.imp (fun {a b} h=>by simp only;omega) zbe
 ·obtain⟨i,hi,rfl⟩:=zt.1 hx
  rw[zP] at hi
  simp only;omega
 ·obtain⟨i,hi,rfl⟩:=zt.1 hx
  refine⟨by simp;omega,fun y hy=>?_⟩
  obtain⟨q,_,rfl⟩:=zt.1 hy
  exact horner_W _ _
theorem CopOk.sub {s:Shape}{l r:List Leaf}(h:CopOk s l)(hs:r.Sublist l):CopOk s r:=
 ⟨by have:=h.len;have:=hs.length_le;omega,h.srt.sublist hs,fun x hx=>h.num x (hs.subset hx),fun x hx=>h.wl x (hs.subset hx)⟩
theorem CopOk.blot {s:Shape}{l:List Leaf}(h:CopOk s l){k a:Nat}{w:Int}(hw:W w):CopOk s (blotL l k a w):=by
 unfold blotL
 by_cases hk:k < l.length
 ·have e:l.getD k ⟨0,[]⟩=l[k]:=by simp[List.getD,hk]
  rw[e]
  have hm:=zi hk
  have hnum:(l.set k ⟨l[k].Number,l[k].Words.set a w⟩).map Leaf.Number=l.map Leaf.Number:=by
   rw[zaB]
   exact set_self (by rw[zl,zb hk];rfl)
  refine⟨by rw[zE];exact h.len,?_,fun x hx=>?_,fun x hx=>?_⟩
  ·have h1:(l.map Leaf.Number).Pairwise (· < ·):=zaJ.2 h.srt
   rw[←hnum] at h1
   exact zaJ.1 h1
  ·rcases zaG hx with hx|rfl
   ·exact h.num x hx
   ·exact h.num l[k] hm
  ·rcases zaG hx with hx|rfl
   ·exact h.wl x hx
   ·obtain⟨h1,h2⟩:=h.wl l[k] hm
    refine⟨by simpa using h1,fun y hy=>?_⟩
    rcases zaG hy with hy|rfl
    ·exact h2 y hy
    ·exact hw
 ·rw[List.set_eq_of_length_le (by omega)];exact h
theorem StOk.set {s:Shape}{cs:List (List Leaf)}(h:StOk s cs){i:Nat}{l:List Leaf}(hl:CopOk s l):StOk s (cs.set i l):=
 ⟨by rw[zE];exact h.len,fun x hx=>by
  rcases zaG hx with hx|rfl
  ·exact h.ok x hx
  ·exact hl⟩
theorem StOk.getD {s:Shape}{cs:List (List Leaf)}(hk:zeJ s)(h:StOk s cs)(i:Nat):CopOk s (cs.getD i []):=by
 by_cases hi:i < cs.length
 ·have e:cs.getD i []=cs[i]:=by simp[List.getD,hi]
  rw[e];exact h.ok _ (zi hi)
 ·have e:cs.getD i []=[]:=by simp[List.getD,hi]
  rw[e]
  obtain⟨⟨d1,d2⟩,⟨c1,c2⟩,w1,w2⟩:=hk
  exact⟨(by simp;omega),zbb,fun x hx=>(by cases hx),fun x hx=>(by cases hx)⟩
theorem StOk.step {s:Shape}{cs:List (List Leaf)}(hk:zeJ s)(h:StOk s cs)(t:Step):StOk s (StepS s cs t).1:=by
 unfold StepS
 split
 ·unfold StoreS
  dsimp only
  split
  ·refine⟨by rw[z7];exact h.len,fun l hl=>?_⟩
   rw[zaL hl]
   exact wholeL_cop hk _
  ·exact h
 ·split
  ·unfold TearS
   split
   ·exact h.set ((h.getD hk _).sub (List.eraseIdx_sublist _ _))
   ·exact h
  ·unfold BlotS
   split
   ·rename_i hc
    split
    ·exact h.set ((h.getD hk _).blot hc.2.2)
    ·exact h
   ·exact h
end Go.DL
/- LeavesShelves: the law. -/
namespace Go.DL
open Go.Proofs Go
theorem f_neqBB {P:Program}{H:List Blk}{s n:Nat}{al:AL}{tx ty':TypeId}{x y:Operand}{a b:Bool}(hx:evA n al x=wB a)(hy:evA n al y=wB b)(hu:P.underlying tx=some .bool):Val P H s n al (.binOp .neq tx x y ty') (wB (a != b)):=by
 refine⟨?_⟩
 simp only[zcp,zc7,hx,hy,binD,hu,zcQ];rfl
theorem ShAt.made {H:List Blk}{lab:Lab}{sd p cb N:Nat}{s:Shape}(hp:H[p]? = some (.live 4 [[wI s.Data,wI s.Checks,wI s.Width,.ms cb 0 N N]]))(hc:H[cb]? = some (.live 1 (List.replicate N [.nil])))(h1:lab p=(sd,0,0))(h2:lab cb=(sd,0,1)):
  ShAt H lab sd p cb s (List.replicate N (.nil,[])):=by
 refine⟨by rw[z7];exact hp,by rw[zaN];exact hc,h1,h2,fun i r hr=>?_⟩
 have:=zaL (zm hr)
 subst this
 exact⟨.inl ⟨rfl,rfl⟩,fun q hq=>(by cases hq),zbb⟩
theorem lvs_made (N:Nat):zcE (List.replicate N (D.nil,([]:List (Nat × Leaf))))=List.replicate N []:=by rw[zcE,zaN];rfl
theorem ShAt.relab {H:List Blk}{lab:Lab}{sd p cb:Nat}{s:Shape}{rows:List (D × List (Nat × Leaf))}(h:ShAt H lab sd p cb s rows)(T:List Blk):ShAt (H++T) (fun b=>if b < H.length then lab b else (2,0,0)) sd p cb s rows:=
 h.keep fun b x hb _=>⟨zcA T hb,if_pos (zcR hb)⟩
theorem stp_store {H H':List Blk}{lab:Lab}{sd p cb:Nat}{s:Shape}{rows:List (D × List (Nat × Leaf))}{l:List Line}{d:D}(h:StoQ H lab sd p cb s rows l d H'):StpQ H lab sd p cb s (StoreS s (zcE rows) l) d H':=by
 obtain⟨h1,lab',rows',h2,h3,h4⟩:=h
 refine⟨h1,lab',rows',h2,h3,?_⟩
 rw[h4,StoreS,zcE,ze]
theorem small_12 {s:Shape}(hk:zeJ s)(h:SmallS s=true):s.Data+s.Checks≤12:=by
 have h2:=of_decide_eq_true h hk
 omega
theorem m_LeavesShelves (hh:Maps Tryz.prog 14 [] (wB true))(s:Shape)(n:Int)(st:List Step)(hst:st.length≤4611686018427387904)(hln:∀t,t∈st→t.Lines.length≤4611686018427387904):
  Maps Tryz.prog 12 [dSh s,wI n,.sl (st.map eStep)] (wB true):=by
 refine Maps.vt pok Tryz.f12 (n:=122) (rs:=[.tmp 6]) rfl rfl rfl rfl rfl rfl fun g=>?_
 have h1:=m_small1 s
 cases q1:SmallS s with
 |false=>
  rw[q1] at h1
  repeat (any_goals (first|(apply zcd;(first|refine zbW ?_|refine zdI rfl rfl ?_|refine zb0 ?_|refine zbZ ?_|refine zcf ?_|(apply zdc;(first|refine zb4 rfl (hh) rfl rfl ?_|refine zb4 rfl (h1) rfl rfl ?_))|refine zcx ?_|refine zcv ?_|refine zco ?_))|(apply zcg;(first|refine zbY rfl ?_|refine zbX rfl ?_|refine zch rfl rfl ?_|refine zb7 rfl ?_))|with_reducible (refine kSr ?_)|(with_reducible refine zce ?_;refine kEr rfl ?_)))
  rfl
 |true=>
  rw[q1] at h1
  by_cases h12:(12:Int) < st.length
  ·repeat (any_goals (first|(apply zcd;(first|refine zbW ?_|refine zcS rfl ?_|refine zb0 ?_|refine zbZ ?_|refine zcf ?_|refine zb9 (ze5 rfl rfl (by omega)) ?_|(apply zdc;(first|refine zb4 rfl (hh) rfl rfl ?_|refine zb4 rfl (h1) rfl rfl ?_|refine zb8 ?_))|refine zcx ?_|refine zcv ?_|refine zco ?_))|(apply zcg;(first|refine zbY rfl ?_|refine zbX rfl ?_|refine zch rfl rfl ?_|refine zb7 rfl ?_))|with_reducible (refine kSr ?_)|(with_reducible refine zce ?_;refine kEr rfl ?_)))
   rfl
  ·repeat (any_goals (first|(apply zcd;(first|refine zbW ?_|refine zcS rfl ?_|refine zb0 ?_|refine zbZ ?_|refine zcf ?_|refine zb9 (ze6 rfl rfl (by omega)) ?_|(apply zdc;(first|(refine zcw ?_;refine zdL rfl ((c_New s n).mono ?_))|refine zb4 rfl (hh) rfl rfl ?_|refine zb4 rfl (h1) rfl rfl ?_|refine zb8 ?_))|refine zcx ?_|refine zcv ?_|refine zco ?_))|(apply zcg;(first|refine zbY rfl ?_|refine zbX rfl ?_|refine zcb rfl rfl ?_|refine zb5 rfl ?_))))
   rintro d1 H1 (⟨e0,rfl,T1,rfl⟩|⟨e0,px,cbx,T1,rfl,rfl,p1,p2,p3,p4,p5⟩)
   ·repeat (any_goals (first|(apply zcd;(first|refine zbW ?_|refine zb0 ?_|refine zbZ ?_|refine zcf ?_|(refine zcw ?_;refine zdL rfl ((c_RNew s n).mono ?_))|refine zdF ?_))|(apply zcg;(first|refine zbY rfl ?_|refine zbX rfl ?_))))
    rintro d2 H2 (⟨_,rfl,T2,rfl⟩|⟨e1,_⟩)
    rotate_left
    ·exact absurd e1 e0
    generalize NewS s n=e at e0
    repeat (any_goals (first|(apply zcd;(first|refine zbW ?_|refine zcS rfl ?_|refine zb0 ?_|refine zbZ ?_|(apply zea;(first|refine zb9 (zeQ rfl rfl rfl) ?_|refine zb9 (ze7 rfl rfl e0) ?_|refine zb9 (f_neqBB rfl rfl rfl) ?_|refine zb9 (f_neqT rfl rfl e0) ?_))|refine zcx ?_|refine zdF ?_|refine RT.neqP (z:=true) rfl rfl ?_))|(apply zcg;(first|refine zbY rfl ?_|refine zbX rfl ?_|refine zch rfl rfl ?_|refine zcb rfl rfl ?_|refine zb5 rfl ?_|refine zb7 rfl ?_))|with_reducible (refine kSr ?_)|(with_reducible refine zce ?_;refine kEr rfl ?_)))
    rfl
   ·repeat (any_goals (first|(apply zcd;(first|refine zbW ?_|refine zb0 ?_|refine zbZ ?_|refine zcf ?_|(refine zcw ?_;refine zdL rfl ((c_RNew s n).mono ?_))|refine zdF ?_))|(apply zcg;(first|refine zbY rfl ?_|refine zbX rfl ?_))))
    rintro d2 H2 (⟨e1,_⟩|⟨_,py,cby,T2,rfl,rfl,r1,r2,r3,r4,r5⟩)
    ·exact absurd e0 e1
    repeat (any_goals (first|(apply zcd;(first|refine zbW ?_|refine zcS rfl ?_|refine zb0 ?_|refine zbZ ?_|(apply zea;(first|refine zb9 (zeQ rfl rfl rfl) ?_|refine zb9 (zeG rfl rfl rfl) ?_|refine zb9 (f_neqBB rfl rfl rfl) ?_))|refine zcx ?_|refine zdF ?_|refine RT.neqP (z:=false) rfl rfl ?_))|(apply zcg;(first|refine zbY rfl ?_|refine zbX rfl ?_|refine zcb rfl rfl ?_|refine zb3 rfl ?_|refine zb5 rfl ?_))))
    have hk:zeJ s∧1≤n∧n≤5:=by
     unfold NewS at e0
     rcases zcX s with⟨e,hk⟩|⟨e,hk⟩
     ·rw[if_pos e] at e0
      by_cases hn:1≤n∧n≤5
      ·exact⟨hk,hn⟩
      ·rw[if_neg hn] at e0;cases e0
     ·rw[if_neg (by omega),e] at e0;cases e0
    obtain⟨hk,hn1,hn5⟩:=hk
    have hs12:=small_12 hk q1
    have z1:=zcR p4
    have z2:=zcR p5
    obtain⟨LB,hLB⟩:∃LB:Lab,LB=fun b=>if b=px then (0,0,0) else if b=cbx then (0,0,1) else if b=py then (1,0,0) else if b=cby then (1,0,1) else (2,0,0):=⟨_,rfl⟩
    have hx:=ShAt.made (lab:=LB) (sd:=0) (zcA T2 p4) (zcA T2 p5) (by rw[hLB];exact if_pos rfl) (by rw[hLB];simp only[if_neg (Ne.symm p3),if_true])
    have hy:=ShAt.made (lab:=LB) (sd:=1) r4 r5 (by rw[hLB];simp only[show ¬py=px by omega,show ¬py=cbx by omega,if_false,if_true]) (by rw[hLB];simp only[show ¬cby=px by omega,show ¬cby=cbx by omega,Ne.symm r3,if_false,if_true])
    have hso:StOk s (zcE (List.replicate n.toNat (D.nil,([]:List (Nat × Leaf))))):=by
     rw[lvs_made]
     refine⟨by rw[z7];omega,fun l hl=>?_⟩
     rw[zaL hl]
     exact (wholeL_cop hk []).sub (List.nil_sublist _)
    generalize (([Blk.live (0+1+1+1) [zcq s]]++T1)++T2)=Hn at hx hy ⊢
    clear p4 p5 r4 r5
    refine zcl (fun j a H g'=>∃(i:Nat) (lab:Lab) (rx ry:List (D × List (Nat × Leaf))),j=st.length-i∧i≤st.length∧ShAt H lab 0 px cbx s rx∧ShAt H lab 1 py cby s ry∧zcE ry=zcE rx∧StOk s (zcE rx)∧a=[(2,.sl (st.map eStep)),(7,wB true),(8,.mp px 0 0),(10,.mp py 0 0),(12,wI i)]∧g'=g) rfl
     ⟨_,_,Hn,⟨0,LB,_,_,rfl,zj _,hx,hy,rfl,hso,rfl,rfl⟩,Wk.keep kpX⟩ ?_
    clear hx hy hso
    rintro j a H g' ⟨i,lab,rx,ry,rfl,hi,hx,hy,hxy,hso,rfl,rfl⟩
    by_cases hlt:i < st.length
    ·obtain⟨t,ht⟩:∃t,st[i]? = some t:=⟨_,zb hlt⟩
     have hl:=m_lines t.Lines (hln t (zm ht))
     cases ql:linesS t.Lines with
     |false=>
      rw[ql] at hl
      repeat (any_goals (first|(apply zcd;(first|refine zbW ?_|refine zb0 ?_|refine zbZ ?_|(apply zeS;(first|refine zcf ?_|refine zc1 ?_))|refine zcm ?_|refine zb9 (f_lssT rfl rfl (by omega)) ?_|(apply zdc;(first|refine zb4 rfl (hl) rfl rfl ?_|refine zb8 ?_))|refine zb9 (f_ixQ rfl rfl rfl ht rfl rfl) ?_|refine zcv ?_|refine zdo (zdR (e':=eStep t) rfl hg_new rfl rfl rfl rfl rfl (zf _) rfl) (H':=H++[.live 6 [eStep t]]) (zcV (i:=0) rfl rfl) ?_|refine zcI (s:=H.length) rfl (zcL (z:=[wI 0,wI 0,wI 0,wI 0,wI 0,.nil]) (m:=6) rfl rfl) (H':=H++[.live 6 [[wI 0,wI 0,wI 0,wI 0,wI 0,.nil]]]) rfl ?_))|(apply zcg;(first|refine zbY rfl ?_|refine zbX rfl ?_|refine zch rfl rfl ?_|refine zb3 rfl ?_|refine zb5 rfl ?_|refine zb7 rfl ?_))|(with_reducible first|refine kSr ?_|refine kBr ?_|refine kLr ?_)|(with_reducible refine zce ?_;refine kEr rfl ?_)))
      rfl
     |true=>
      rw[ql] at hl
      have hx3:=hx.relab [Blk.live 6 [eStep t]]
      have hy3:=hy.relab [Blk.live 6 [eStep t]]
      have hrl:rx.length≤5:=by have:=hso.len;rwa [zcE,ze] at this
      have hryl:ry.length≤5:=by have:=hso.len;rw[←hxy,zcE,ze] at this;exact this
      have hll:∀l,l∈zcE rx→l.length≤1000:=fun l hl=>by
       have:=((hso.ok l hl).lvs hk).len
       omega
      have hwd:0≤s.Width∧s.Width≤1000:=by
       obtain⟨_,_,w1,w2⟩:=hk
       omega
      have hwl:∀l,l∈zcE rx→∀x,x∈l→(x.Words.length:Int)=s.Width:=fun l hl x hx=>((hso.ok l hl).wl x hx).1
      have hlt2:=hln t (zm ht)
      by_cases hk1:t.Kind=1
      ·have e1:∀cs,StepS s cs t=StoreS s cs t.Lines:=fun cs=>if_pos hk1
       have hsok:=hso.step hk t
       rw[e1] at hsok
       have hcx:=(c_Store hx3 hrl t.Lines hlt2).mono fun _ _=>stp_store
       repeat (any_goals (first|(apply zcd;(first|refine zbW ?_|refine zb0 ?_|refine zbZ ?_|(apply zeS;(first|refine zcf ?_|refine zc1 ?_))|refine zcm ?_|(apply zea;(first|refine zb9 (f_lssT rfl rfl (by omega)) ?_|refine zb9 (zeG rfl rfl hk1) ?_))|(apply zdc;(first|(refine zcw ?_;refine zdL rfl (hcx.mono ?_))|refine zb4 rfl (hl) rfl rfl ?_|refine zb8 ?_))|refine zb9 (f_ixQ rfl rfl rfl ht rfl rfl) ?_|refine zcv ?_|refine zdo (zdR (e':=eStep t) rfl hg_new rfl rfl rfl rfl rfl (zf _) rfl) (H':=H++[.live 6 [eStep t]]) (zcV (i:=0) rfl rfl) ?_|refine zcI (s:=H.length) rfl (zcL (z:=[wI 0,wI 0,wI 0,wI 0,wI 0,.nil]) (m:=6) rfl rfl) (H':=H++[.live 6 [[wI 0,wI 0,wI 0,wI 0,wI 0,.nil]]]) rfl ?_))|(apply zcg;(first|refine zbY rfl ?_|refine zbX rfl ?_|refine zch rfl rfl ?_|refine zcb rfl rfl ?_|refine zb3 rfl ?_|refine zb5 rfl ?_))))
       rintro dx H4 ⟨rfl,lab4,rx4,hx4,hf4,hlv4⟩
       have hy4:=hy3.other hf4 (by decide)
       have g4:H4[H.length]? = some (.live 6 [eStep t]):=(hf4.same _ (by simp) (by simp)).trans hg_new
       have hcy:=(c_RStore hy4 hryl t.Lines hlt2).mono fun _ _=>stp_store
       rw[hxy] at hcy
       repeat (any_goals (first|(apply zcd;(first|refine zbW ?_|refine zb0 ?_|refine zbZ ?_|refine zc1 ?_|refine zcm ?_|(refine zcw ?_;refine zdL rfl (hcy.mono ?_))))|refine zbX rfl ?_))
       rintro dy H5 ⟨rfl,lab5,ry5,hy5,hf5,hlv5⟩
       have hx5:=hx4.other hf5 (by decide)
       have hsn:([.mp px 0 0,.mp py 0 0]:List D).map (snap (fun b=>H5[b]?) 5)=[.rp (eSh s (zcE rx4)),.rp (eSh s (zcE rx4))]:=by
        rw[zy,zy,hx5.snap,hy5.snap,hlv5,hlv4];rfl
       have hsv:=m_shelved s hk hs12 (zcE rx4) (by rw[hlv4];exact hsok.len) (by rw[hlv4];exact hsok.ok)
       repeat (any_goals (first|(apply zcd;(first|refine zbW ?_|refine zcS rfl ?_|refine zb0 ?_|refine zbZ ?_|(apply zea;(first|refine zb9 (zeQ rfl rfl rfl) ?_|refine zb2 ?_))|(refine zcw ?_;refine zb4 rfl hsv hsn rfl ?_)|refine zcx ?_|refine zcv ?_))|(apply zcg;(first|refine zbY rfl ?_|refine zbX rfl ?_|refine zcb rfl rfl ?_|refine zb5 rfl ?_))|with_reducible (refine kLn ?_)))
       exact⟨st.length-(i+1),by omega,_,_,⟨i+1,lab5,rx4,ry5,rfl,hlt,hx5,hy5,hlv5.trans hlv4.symm,by rw[hlv4];exact hsok,rfl,rfl⟩,Wk.keep kpX⟩
      ·by_cases hk2:t.Kind=2
       ·have e1:∀cs,StepS s cs t=TearS cs t.Copy t.Number:=fun cs=>(if_neg hk1).trans (if_pos hk2)
        have hsok:=hso.step hk t
        rw[e1] at hsok
        have hcx:=c_Tear hx3 hrl hll t.Copy t.Number
        repeat (any_goals (first|(apply zcd;(first|refine zbW ?_|refine zb0 ?_|refine zbZ ?_|(apply zeS;(first|refine zcf ?_|refine zc1 ?_))|refine zcm ?_|(apply zea;(first|refine zb9 (f_lssT rfl rfl (by omega)) ?_|refine zb9 (zeG rfl rfl hk2) ?_|refine zb9 (ze7 rfl rfl hk1) ?_))|(apply zdc;(first|(refine zcw ?_;refine zdL rfl (hcx.mono ?_))|refine zb4 rfl (hl) rfl rfl ?_|refine zb8 ?_))|refine zb9 (f_ixQ rfl rfl rfl ht rfl rfl) ?_|refine zcv ?_|refine zdo (zdR (e':=eStep t) rfl hg_new rfl rfl rfl rfl rfl (zf _) rfl) (H':=H++[.live 6 [eStep t]]) (zcV (i:=0) rfl rfl) ?_|refine zcI (s:=H.length) rfl (zcL (z:=[wI 0,wI 0,wI 0,wI 0,wI 0,.nil]) (m:=6) rfl rfl) (H':=H++[.live 6 [[wI 0,wI 0,wI 0,wI 0,wI 0,.nil]]]) rfl ?_))|(apply zcg;(first|refine zbY rfl ?_|refine zbX rfl ?_|refine zch rfl rfl ?_|refine zcb rfl rfl ?_|refine zb3 rfl ?_|refine zb5 rfl ?_))))
        rintro dx H4 ⟨rfl,lab4,rx4,hx4,hf4,hlv4⟩
        have hy4:=hy3.other hf4 (by decide)
        have g4:H4[H.length]? = some (.live 6 [eStep t]):=(hf4.same _ (by simp) (by simp)).trans hg_new
        have hcy:=c_RTear hy4 hryl (by rw[hxy];exact hll) t.Copy t.Number
        rw[hxy] at hcy
        repeat (any_goals (first|(apply zcd;(first|refine zbW ?_|refine zb0 ?_|refine zbZ ?_|refine zc1 ?_|refine zcm ?_|(refine zcw ?_;refine zdL rfl (hcy.mono ?_))))|refine zbX rfl ?_))
        rintro dy H5 ⟨rfl,lab5,ry5,hy5,hf5,hlv5⟩
        have hx5:=hx4.other hf5 (by decide)
        have hsn:([.mp px 0 0,.mp py 0 0]:List D).map (snap (fun b=>H5[b]?) 5)=[.rp (eSh s (zcE rx4)),.rp (eSh s (zcE rx4))]:=by
         rw[zy,zy,hx5.snap,hy5.snap,hlv5,hlv4];rfl
        have hsv:=m_shelved s hk hs12 (zcE rx4) (by rw[hlv4];exact hsok.len) (by rw[hlv4];exact hsok.ok)
        repeat (any_goals (first|(apply zcd;(first|refine zbW ?_|refine zcS rfl ?_|refine zb0 ?_|refine zbZ ?_|(apply zea;(first|refine zb9 (zeQ rfl rfl rfl) ?_|refine zb2 ?_))|(refine zcw ?_;refine zb4 rfl hsv hsn rfl ?_)|refine zcx ?_|refine zcv ?_))|(apply zcg;(first|refine zbY rfl ?_|refine zbX rfl ?_|refine zcb rfl rfl ?_|refine zb5 rfl ?_))|with_reducible (refine kLn ?_)))
        exact⟨st.length-(i+1),by omega,_,_,⟨i+1,lab5,rx4,ry5,rfl,hlt,hx5,hy5,hlv5.trans hlv4.symm,by rw[hlv4];exact hsok,rfl,rfl⟩,Wk.keep kpX⟩
       ·have e1:∀cs,StepS s cs t=BlotS s cs t.Copy t.Number t.At t.Word:=fun cs=>(if_neg hk1).trans (if_neg hk2)
        have hsok:=hso.step hk t
        rw[e1] at hsok
        have hcx:=c_Blot hx3 hrl hll hwd hwl t.Copy t.Number t.At t.Word
        repeat (any_goals (first|(apply zcd;(first|refine zbW ?_|refine zb0 ?_|refine zbZ ?_|(apply zeS;(first|refine zcf ?_|refine zc1 ?_))|refine zcm ?_|(apply zea;(first|refine zb9 (f_lssT rfl rfl (by omega)) ?_|refine zb9 (ze7 rfl rfl hk1) ?_|refine zb9 (ze7 rfl rfl hk2) ?_))|(apply zdc;(first|(refine zcw ?_;refine zdL rfl (hcx.mono ?_))|refine zb4 rfl (hl) rfl rfl ?_|refine zb8 ?_))|refine zb9 (f_ixQ rfl rfl rfl ht rfl rfl) ?_|refine zcv ?_|refine zdo (zdR (e':=eStep t) rfl hg_new rfl rfl rfl rfl rfl (zf _) rfl) (H':=H++[.live 6 [eStep t]]) (zcV (i:=0) rfl rfl) ?_|refine zcI (s:=H.length) rfl (zcL (z:=[wI 0,wI 0,wI 0,wI 0,wI 0,.nil]) (m:=6) rfl rfl) (H':=H++[.live 6 [[wI 0,wI 0,wI 0,wI 0,wI 0,.nil]]]) rfl ?_))|(apply zcg;(first|refine zbY rfl ?_|refine zbX rfl ?_|refine zch rfl rfl ?_|refine zcb rfl rfl ?_|refine zb3 rfl ?_|refine zb5 rfl ?_))))
        rintro dx H4 ⟨rfl,lab4,rx4,hx4,hf4,hlv4⟩
        have hy4:=hy3.other hf4 (by decide)
        have g4:H4[H.length]? = some (.live 6 [eStep t]):=(hf4.same _ (by simp) (by simp)).trans hg_new
        have hcy:=c_RBlot hy4 hryl (by rw[hxy];exact hll) hwd (by rw[hxy];exact hwl) t.Copy t.Number t.At t.Word
        rw[hxy] at hcy
        repeat (any_goals (first|(apply zcd;(first|refine zbW ?_|refine zb0 ?_|refine zbZ ?_|refine zc1 ?_|refine zcm ?_|(refine zcw ?_;refine zdL rfl (hcy.mono ?_))))|refine zbX rfl ?_))
        rintro dy H5 ⟨rfl,lab5,ry5,hy5,hf5,hlv5⟩
        have hx5:=hx4.other hf5 (by decide)
        have hsn:([.mp px 0 0,.mp py 0 0]:List D).map (snap (fun b=>H5[b]?) 5)=[.rp (eSh s (zcE rx4)),.rp (eSh s (zcE rx4))]:=by
         rw[zy,zy,hx5.snap,hy5.snap,hlv5,hlv4];rfl
        have hsv:=m_shelved s hk hs12 (zcE rx4) (by rw[hlv4];exact hsok.len) (by rw[hlv4];exact hsok.ok)
        repeat (any_goals (first|(apply zcd;(first|refine zbW ?_|refine zcS rfl ?_|refine zb0 ?_|refine zbZ ?_|(apply zea;(first|refine zb9 (zeQ rfl rfl rfl) ?_|refine zb2 ?_))|(refine zcw ?_;refine zb4 rfl hsv hsn rfl ?_)|refine zcx ?_|refine zcv ?_))|(apply zcg;(first|refine zbY rfl ?_|refine zbX rfl ?_|refine zcb rfl rfl ?_|refine zb5 rfl ?_))|with_reducible (refine kLn ?_)))
        exact⟨st.length-(i+1),by omega,_,_,⟨i+1,lab5,rx4,ry5,rfl,hlt,hx5,hy5,hlv5.trans hlv4.symm,by rw[hlv4];exact hsok,rfl,rfl⟩,Wk.keep kpX⟩
    ·obtain rfl:i=st.length:=by omega
     repeat (any_goals (first|(apply zcd;(first|refine zbW ?_|refine zb0 ?_|refine zbZ ?_|refine zb9 (f_lssF rfl rfl (by omega)) ?_|refine zb8 ?_))|(apply zcg;(first|refine zbY rfl ?_|refine zbX rfl ?_|refine zcb rfl rfl ?_|refine zci rfl ?_|refine zb7 rfl ?_))|(with_reducible refine zce ?_;refine kEr rfl ?_)))
     rfl
end Go.DL
