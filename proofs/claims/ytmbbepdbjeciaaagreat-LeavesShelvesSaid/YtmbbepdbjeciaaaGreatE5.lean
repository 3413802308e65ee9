/- An empty slice as a block of one's own; a block that is given up; slices.Clone of words. -/
import Derived.Test.YtmbbepdbjeciaaaGreatE4
import Derived.Test.YtmbbepdbjeciaaaGreatE3
import Derived.Test.YtmbbepdbjeciaaaGreatE2
import Derived.JoinedOf
import Derived.Carry
import Derived.Handed
import Derived.SizedLaws
import Derived.RowKit
namespace Go.DL
open Go.RowKit Go.Proofs
section
variable {E:Ev}{ops l:List Oper}{n:Nat}{a:AL}{H H':List Blk}{g:Gst}{K:KA}{c:Code}{Q:KX}
theorem fr_phantom {G:Gh}(hG:zc6 G){ds:List Nat}{ac:Act}{w:World}{i:Nat}(he:lkN n a i=.nil)(sz:Nat)(h:FR G { t:=T n a,H:=H,ds:=ds,g:=g } ac w):
  FR G { t:=T n ((i,.ms H.length 0 0 0)::a),H:=H++[.live sz []],ds:=ds,g:=g } ac w:=by
 obtain⟨A,φ,hr⟩:=h
 have h1:=FRc.phantom hG (hr.room) (s:=H.length) (by simp) sz
 have e:(H++[Blk.free]).set H.length (.live sz [])=H++[.live sz []]:=set_room _ _
 simp only at h1
 rw[e] at h1
 refine⟨A,upd φ H.length .ph,h1.rh,⟨by simpa[T_length] using h1.tr.size,fun j d u k1 k2=>?_⟩,h1.gh,h1.df,h1.dk,h1.nd⟩
 rw[ze8] at k1
 split at k1
 ·rename_i hj
  cases k1
  simp only[lk]
  cases hb:Nat.beq i j with
  |false=>exact h1.tr.val j _ u (by rw[ze8,if_pos hj];rfl) k2
  |true=>
   have:=za0 hb
   subst this
   have hv:=h1.tr.val i (lk a i) u (by rw[ze8,if_pos hj]) k2
   have hb2:Nat.blt i n=true:=by simpa[zaA] using hj
   simp only[lkN,hb2,cond_true] at he
   rw[he] at hv
   simp only[cond_true]
   cases hv with
   |nil _ x=>exact .ms _ _ _ _ _ _ _ (zf _) (zf _) (by rw[zde];rfl)
 ·cases k1
theorem zdh {i s:Nat}(sz:Nat)(he:lkN n a i=.nil)(hs:H.length=s)(hH:H++[.live sz []]=H')(h:VT E c n ((i,.ms s 0 0 0)::a) H' g Q):VT E c n a H g Q:=by
 subst hs;subst hH
 exact⟨fun ro G hE ds ac w hr=>h.out ro G hE ds ac w (fr_phantom hE.st he sz hr)⟩
theorem VT.kill (b:Nat)(hb:Nat.blt b H.length=true)(hH:H.set b .dead=H')(h:VT E c n a H' g Q):VT E c n a H g Q:=by
 subst hH
 refine⟨fun ro G hE ds ac w ⟨A,φ,hr⟩=>h.out ro G hE ds ac w ⟨A,_,FRc.kill hE.st hr (b:=b) (by simpa[zaA] using hb)⟩⟩
theorem VT.addDead (h:VT E c n a (H++[.dead]) g Q):VT E c n a H g Q:=by
 refine⟨fun ro G hE ds ac w ⟨A,φ,hr⟩=>h.out ro G hE ds ac w ⟨A,upd φ H.length .dead,?_⟩⟩
 have h1:=FRc.kill hE.st hr.room (b:=H.length) (by simp)
 have e:(H++[Blk.free]).set H.length .dead=H++[.dead]:=set_room _ _
 simp only at h1
 rw[e] at h1
 exact h1
theorem VT.retP {i:Nat}(sz:Nat)(hc:isRetC c=true)(he:lkN n a i=.nil)(h:Q .ret ((i,.ms (H.length+1) 0 0 0)::a) (H++[.dead,.live sz []]) g):VT E c n a H g Q:=
 VT.addDead (zdh sz he (by simp) (by simp) (zb7 hc h))
end
theorem Maps.ofCalls {P:Program}(hP:POk P){f:FuncId}(fn:Func){vs:List Value}{r:Value}(hf:P.funcs[f]? = some fn)(hb:hasBody fn=true)(h:∀w,Calls P f vs.toArray w fun e w'=>e=.returned r∧w'=w):Maps P f (vs.map .v) (.v r):=by
 refine⟨enters_of hf (hP.name hf) (bodyC_of hb),fun w A us hA hv=>?_⟩
 have hu:us=vs.toArray:=by
  refine Array.ext (by simpa using hv.size) fun i h1 h2=>?_
  have hi:i < vs.length:=by simpa using h2
  have:=(hv.val i (.v vs[i]) us[i] (by simp[hi]) (by simp[h1])).v_inv
  simpa using this
 subst hu
 refine (callsIn_wide.2 (h w)).mono ?_
 rintro e w' ⟨rfl,rfl⟩
 exact⟨r,A,rfl,.v _ _,fun _ x=>x,fun _ x=>.inl x,hA,Ext.refl _ _⟩
theorem RT.sliceArr {E:Ev}{ops r:List Oper}{n:Nat}{a:AL}{H H':List Blk}{g:Gst}{K:KA}{i:Tmp}{x:Operand}{tx te ty:TypeId}{pos:String}{aft:Array Edge}{b m s:Nat}{cs:List D}(hs0:H.length=s)(hx:evA n a x=.mp b 0 0)(hu:E.P.underlying tx=some (.array m te))(hs:tsz E.P te=some 1)
  (hb:H[b]? = some (.live m [cs])) (hl:cs.length=m) (h0:0 < m) (hH:H.set b .dead++[.live 1 (cs.map fun d=>[d])]=H') (h:RT E ops r n ((i,.ms s 0 m m)::a) H' g K):
  RT E ops (⟨some i,.slice tx x none none none,ty,pos,aft,none⟩::r) n a H g K:=by
 subst hH;subst hs0
 refine⟨fun ro G hE ds Q hQ ac w hr=>?_⟩
 unfold wpListIn
 rw[if_pos (by simp[Region.wanted])]
 obtain⟨A,φ,hr⟩:=hr
 have hv:=hr.tr.ev x
 rw[zc7,hx] at hv
 generalize hxe:ac.eval x=u at hv
 cases hv with
 |mp _ _ _ _ adr hadr=>
 rcases hr.rh.live b m [cs] hb with⟨h1,_⟩|⟨n0,base,room,c,tyc,h1,h2⟩
 ·cases h1
 rw[h1] at hadr
 simp only[Loc.mpOk] at hadr
 subst hadr
 have hfit:=h2.fits
 simp only[z4,List.length_nil] at hfit
 have hsize:=h2.size
 have hroom:m≤room*m:=Nat.le_mul_of_pos_left m hfit
 have hlt:b < H.length:=(za.1 hb).1
 have hrun:(execOp ac.eval ⟨some i,.slice tx x none none none,ty,pos,aft,none⟩).run E.P w=.ok (.value (.slice (some ⟨n0,base,none⟩) m m)) w:=by
  have h3:execOp ac.eval ⟨some i,.slice tx x none none none,ty,pos,aft,none⟩=(do pure (.value (←Instr.sliceAt tx (ac.eval x) none none none))):=by simp only[execOp];rfl
  have h4:(Instr.sliceAt tx (.pointer (some ⟨n0,base+0*m+0,none⟩)) none none none).run E.P w=.ok (.slice (some ⟨n0,base,none⟩) m m) w:=by
   simp[Instr.sliceAt,run_underlying hu,zdw hs,Instr.sureAddr,Instr.sliceBounds,asAddr,Addr.add]
  rw[h3,hxe,Sem.run_bind,h4];rfl
 refine⟨fun _ _=>trivial,?_⟩
 rw[Oper.semAt_eq _ _ _ (by simp),hrun]
 have hr1:=hr.room
 have hr2:=FRc.renew hE.st hr1 (b:=b) (s:=H.length) (sz':=1) h1 (by simp) (w':=w) (c':=c) (ty:=tyc) ⟨rfl,rfl,rfl,zf _,rfl,h2.blk,fun _ _=>rfl⟩ base m (cs.map fun d=>[d]) (by simp[hl]) (by omega)
  (fun i e he=>by simp only[zl,zd] at he;obtain⟨_,_,rfl⟩:=he;rfl)
  (fun i e j d he hd=>by
   simp only[zl,zd] at he
   obtain⟨d',hd',rfl⟩:=he
   cases j with
   |zero=>
    simp only[zaQ,zn] at hd
    subst hd
    have:=h2.val 0 cs i d' rfl hd'
    simpa using this
   |succ j=>simp at hd)
 have e1:((H++[Blk.free]).set b .dead).set H.length (.live 1 (cs.map fun d=>[d]))=H.set b .dead++[.live 1 (cs.map fun d=>[d])]:=by
  rw[zD _ _ hlt]
  have:=set_room (H.set b .dead) (.live 1 (cs.map fun d=>[d]))
  rw[zE] at this
  exact this
 simp only at hr2
 rw[e1] at hr2
 have hr3:=hr2.value (some i) (d:=.ms H.length 0 m m) (x:=.slice (some ⟨n0,base,none⟩) m m) (.ms _ _ _ _ _ _ _ (zf _) (zf _) (by rw[zde];exact⟨by omega,.inr (by simp)⟩))
 simp only[zej] at hr3
 exact h.out ro G hE ds Q hQ _ _ ⟨A,_,hr3⟩
end Go.DL
/- A contract over no own block, put over some: what a call leaves behind is one block more. -/
namespace Go.DL
open Go.RowKit Go.Proofs
theorem CallSp.frame {P:Program}{f:FuncId}{xs:List D}{H:List Blk}{k n sz:Nat}{es:List (List D)}
  (h:CallSp P f (xs.map (snap (fun b=>H[b]?) 5)) [] fun d' H'=>d'=.ms k 0 n n∧H'[k]? = some (.live sz es)) (hf:∀e∈es,∀d∈e,zeu 5 d=true):
  CallSp P f xs H fun d' H'=>d'=.ms (H.length+1) 0 n n∧H'=H++[.dead,.live sz es]:=by
 refine⟨h.1,fun w A φ vs hr hv=>?_⟩
 have hr0:RH ⟨(both A φ).on,w.heap.size⟩ zcM w []:=
  ⟨fun _ _=>rfl,fun _ h=>(by simp at h),fun _ h=>(by simp at h),fun _ _ _ h=>(by simp at h),fun _ _ _ h=>(by simp at h),fun _ _ _ _ _ _ _ _ _ h=>(by cases h),fun _ ⟨_,_,_,_,h⟩=>(by cases h),fun n hn=>hn.elim (hr.lt n) (hr.olt n),fun _ ⟨_,_,_,_,h⟩=>(by cases h),fun _ ⟨_,_,_,_,h⟩=>(by cases h),zf _⟩
 refine (h.2 w ⟨(both A φ).on,w.heap.size⟩ zcM vs hr0 (hv.snap (B:=⟨(both A φ).on,w.heap.size⟩) hr (fun _ _ _ x=>x) (fun n x=>Or.inl x) (fun b sz es n base sz' room _ hp=>Or.inr ⟨b,_,_,_,hp⟩) 5)).mono ?_
 rintro e w' ⟨v,d,H',A',φ',rfl,⟨hd,hH'⟩,hr',hvd,hev⟩
 subst hd
 have nown:∀m,¬own zcM m:=fun m ⟨_,_,_,_,h⟩=>by cases h
 have hn:∀m,own φ' m→w.heap.size≤m:=fun m hm=>(hev.ext.own m hm).resolve_left (nown m)
 have hs:∀m,m < w.heap.size→w'.heap[m]? = w.heap[m]? := fun m hm=>hev.ext.same m hm (nown m)
 have hr1:=hr.move (w':=w') (fun m hm=>hs m (hr.lt m hm)) (fun m hm=>hs m (hr.olt m hm)) hev.ext.size
 let φ2:Nat→Loc:=fun b=>if b=H.length+1 then φ' k else if b=H.length then .dead else φ b
 have p1:φ2 (H.length+1)=φ' k:=by simp[φ2]
 have p0:φ2 H.length=.dead:=by simp[φ2]
 have pb:∀{b},b≠H.length+1→b≠H.length→φ2 b=φ b:=fun h1 h2=>by simp[φ2,h1,h2]
 have pl:∀{b},b < H.length→φ2 b=φ b:=fun h=>pb (by omega) (by omega)
 have f_ge:∀b,H.length≤b→φ b=.free:=fun b hb=>hr.out b (zs hb)
 have le2:∀b,(φ b).le (φ2 b):=fun b=>by
  rcases zZ b H.length with x|x
  ·rw[pl x];exact Loc.le_refl _
  ·exact .inl (f_ge b x)
 have back:∀{b m base sz room},φ2 b=.loc m base sz room→(b=H.length+1∧φ' k=.loc m base sz room)∨(b < H.length∧φ b=.loc m base sz room):=fun {b m base sz room} hb=>by
  by_cases h1:b=H.length+1
  ·subst h1;rw[p1] at hb;exact .inl ⟨rfl,hb⟩
  ·by_cases h2:b=H.length
   ·subst h2;rw[p0] at hb;cases hb
   ·rw[pb h1 h2] at hb
    rcases zZ b H.length with x|x
    ·exact .inr ⟨x,hb⟩
    ·rw[f_ge b x] at hb;cases hb
 have own2:∀{m},own φ2 m→own φ' m∨own φ m:=fun⟨b,base,sz,room,hb⟩=>(back hb).elim (fun x=>.inl ⟨k,_,_,_,x.2⟩) fun x=>.inr ⟨b,_,_,_,x.2⟩
 have b0le:A.b0≤w.heap.size:=hr.bsz
 refine⟨v,_,_,⟨fun m=>A m∨(A' m∧w.heap.size≤m),A.b0⟩,φ2,rfl,⟨rfl,rfl⟩,?_,?_,⟨⟨hev.ext.os,hev.ext.tape,hev.ext.output,hev.ext.drawn,hev.ext.size,fun m hm _=>hs m hm,fun m hm=>(own2 hm).elim (fun x=>.inr (hn m x)) .inl⟩,fun _ x=>.inl x,fun m hm=>hm.elim .inl fun x=>.inr (.inr x.2),le2,rfl⟩⟩
 ·have len2:(H++[Blk.dead,.live sz es]).length=H.length+2:=by simp
  have get:∀b x,(H++[Blk.dead,.live sz es])[b]? = some x→(b < H.length∧H[b]? = some x)∨(b=H.length∧x=.dead)∨(b=H.length+1∧x=.live sz es):=fun b x hx=>by
   rcases zZ b H.length with y|y
   ·rw[zk y] at hx;exact .inl ⟨y,hx⟩
   ·rw[zu y] at hx
    rcases hk:b-H.length with _|_|q
    ·rw[hk] at hx;cases hx;exact .inr (.inl ⟨by omega,rfl⟩)
    ·rw[hk] at hx;cases hx;exact .inr (.inr ⟨by omega,rfl⟩)
    ·rw[hk] at hx;simp at hx
  refine⟨fun b hb=>?_,fun b hb=>?_,fun b hb=>?_,fun b sz' es' hb=>?_,fun b c' es' hb=>?_,fun b b' m base sz1 room base' sz' room' h1 h2=>?_,fun m hm ha=>?_,fun m hm=>?_,fun m hm=>?_,fun m hm=>?_,zR b0le hev.ext.size⟩
  ·rw[zaw,len2] at hb
   rw[pb (by omega) (by omega)];exact f_ge b (by omega)
  ·rcases get b _ hb with⟨h1,h2⟩|⟨_,h2⟩|⟨_,h2⟩
   ·rw[pl h1];exact hr.free b h2
   ·cases h2
   ·cases h2
  ·rcases get b _ hb with⟨h1,h2⟩|⟨h1,_⟩|⟨_,h2⟩
   ·rw[pl h1];exact hr.dead b h2
   ·subst h1;exact p0
   ·cases h2
  ·rcases get b _ hb with⟨h1,h2⟩|⟨_,h2⟩|⟨h1,h2⟩
   ·rw[pl h1]
    exact (hr1.live b sz' es' h2).imp id fun⟨m,base,room,c,ty,q1,q2⟩=>⟨m,base,room,c,ty,q1,q2.mono (fun _ x=>Or.inl x) (fun _ _=>rfl) le2 rfl⟩
   ·cases h2
   ·cases h2
    subst h1
    rw[p1]
    have e0:A'.b0=w.heap.size:=hev.b0
    rcases hr'.live k sz es hH' with q|⟨m,base,room,c,ty,q1,q2⟩
    ·exact .inl q
    ·refine .inr ⟨m,base,room,c,ty,q1,q2.blk,q2.fits,q2.size,q2.len,fun i e j d k1 k2=>?_⟩
     obtain⟨u,k3,k4⟩:=q2.val i e j d k1 k2
     exact⟨u,k3,k4.freshUp (A':=⟨fun m=>A m∨(A' m∧w.heap.size≤m),A.b0⟩) (fun m hm hb=>Or.inr ⟨hm,by rw[e0] at hb;exact hb⟩) (by rw[e0];exact b0le) 5 (hf e (zm k1) d (zm k2))⟩
  ·rcases get b _ hb with⟨h1,h2⟩|⟨_,h2⟩|⟨h1,h2⟩
   ·rw[pl h1]
    obtain⟨m,ms,q1,q2⟩:=hr1.tab b c' es' h2
    exact⟨m,ms,q1,q2.mono (fun _ x=>Or.inl x) (fun _ _=>rfl) le2 rfl⟩
   ·cases h2
   ·cases h2
  ·rcases back h1 with⟨x1,x2⟩|⟨x1,x2⟩
   ·rcases back h2 with⟨y1,y2⟩|⟨y1,y2⟩
    ·omega
    ·have:=hn m ⟨k,_,_,_,x2⟩
     have:=hr.olt m ⟨b',_,_,_,y2⟩
     omega
   ·rcases back h2 with⟨y1,y2⟩|⟨y1,y2⟩
    ·have:=hn m ⟨k,_,_,_,y2⟩
     have:=hr.olt m ⟨b,_,_,_,x2⟩
     omega
    ·exact hr.inj _ _ _ _ _ _ _ _ _ x2 y2
  ·rcases own2 hm with x|x
   ·rcases ha with ha|ha
    ·have:=hr.lt m ha;have:=hn m x;omega
    ·exact hr'.dis m x ha.1
   ·rcases ha with ha|ha
    ·exact hr.dis m x ha
    ·have:=hr.olt m x;omega
  ·exact hm.elim (fun x=>zaf (hr.lt m x) hev.ext.size) fun x=>hr'.lt m x.1
  ·exact (own2 hm).elim (hr'.olt m) fun x=>zaf (hr.olt m x) hev.ext.size
  ·exact (own2 hm).elim (fun x=>zR b0le (hn m x)) (hr.ofr m)
 ·cases hvd with
  |ms _ _ _ _ _ cap' a h1 h2 h3=>exact .ms _ _ _ _ _ _ _ h1 h2 (by rw[p1];exact h3)
end Go.DL
/- Arguments of a statement, opened: what is read stands for abstract values over all that is there. -/
namespace Go.DL
open Go.RowKit Go.Proofs Go.ChangeShapes Go.WideShapes
noncomputable section
section
variable {H:Type}{enc:TypeId × Value→H}{P:Program}{w:World}
def Opens (enc:TypeId × Value→H)(P:Program)(w:World)(t:TypeId)(R:List D→Prop):Prop:=
 ∀(fuel:Nat) (cs:List Value) (x:DataW H × List MemPlace),DataW.trod enc P w 0 (fun _=>true) true fuel t cs=some x→(∀n,n∈x.1.weights P t→n≤reachBytes)→
  ∃ds:List D,R ds∧ds.length=cs.length∧∀A:Rd,(∀n,n < w.heap.size→A n)→∀(i:Nat) (d:D) (u:Value),ds[i]? = some d→cs[i]? = some u→V A w zcM d u
def zek (k:IntKind)(ds:List D):Prop:=∃n:Int,(Lit.int k n).wf=true∧ds=[.v (.int k n)]
def Rsl (R:List D→Prop)(ds:List D):Prop:=∃es:List (List D),es.length≤reachBytes∧(∀e,e∈es→R e)∧ds=[.sl es]
def Rcat:List (List D→Prop)→List D→Prop
 |[],ds=>ds=[]
 |R::Rs,ds=>∃a b,ds=a++b∧R a∧Rcat Rs b
theorem weightsAll_mem {H:Type}{P:Program}{e:TypeId}{n:Nat}{d:DataW H}(hn:n∈d.weights P e):∀{l:List (DataW H)},d∈l→n∈DataW.weightsAll P e l
 |a::l,h=>by
  unfold DataW.weightsAll
  rw[zK]
  rcases zH.1 h with h|h
  ·subst h;exact .inl hn
  ·exact .inr (weightsAll_mem hn h)
theorem zd5 {t:TypeId}{k:IntKind}(ht:P.underlying t=some (.int k)):Opens enc P w t (zek k):=by
 intro fuel cs x h _
 obtain⟨n,rfl,_,hw⟩:=DataW.trod_int ht h
 refine⟨_,⟨n,hw,rfl⟩,rfl,fun A _ i d u h1 h2=>?_⟩
 match i,h1,h2 with
 |0,h1,h2=>cases h1;cases h2;exact .v _ _
theorem opens_slice {t e:TypeId}{R:List D→Prop}(ht:P.underlying t=some (.slice e))(hc:0 < P.cellsOf e)(hb:0 < P.bytesOf e)(he:Opens enc P w e R):Opens enc P w t (Rsl R):=by
 intro fuel cs x h hwt
 rcases DataW.trod_slice ht h with⟨rfl,_⟩|⟨a,len,cap,elems,rest,n,_,rfl,rfl,_,hl,hm,hlen,hel,_⟩
 ·refine⟨[.sl []],⟨[],zj _,(fun e h=>by cases h),rfl⟩,rfl,fun A _ i d u h1 h2=>?_⟩
  match i,h1,h2 with
  |0,h1,h2=>cases h1;cases h2;exact .sl0 _ _ _
 ·have key:∀i,i < len→∃ds cs':List _,(R ds∧ds.length=cs'.length∧∀A:Rd,(∀n,n < w.heap.size→A n)→∀(j:Nat) (d:D) (u:Value),ds[j]? = some d→cs'[j]? = some u→V A w zcM d u)∧
    w.cells? 0 (a.add (i*P.cellsOf e)) (P.cellsOf e)=some cs':=by
   intro i hi
   obtain⟨y,hy⟩:∃y,elems[i]? = some y:=⟨elems[i]'(by omega),by simp[show i < elems.length by omega]⟩
   have h1:=hel i hi
   rw[hy,za8] at h1
   obtain⟨cs',h2,h3⟩:=h1
   have hyl:y∈elems:=zm hy
   obtain⟨ds,h4⟩:=he _ _ _ h3 fun n hn=>hwt n (by
    simp only[DataW.weights,ht,zH,zK]
    exact .inr (.inl (weightsAll_mem hn (zt.2 ⟨y,hyl,rfl⟩))))
   exact⟨ds,cs',h4,h2⟩
  let f:Nat→List D:=fun i=>if h:i < len then (key i h).choose else []
  have hf:∀i,i < len→∃cs':List _,(R (f i)∧(f i).length=cs'.length∧∀A:Rd,(∀n,n < w.heap.size→A n)→∀(j:Nat) (d:D) (u:Value),(f i)[j]? = some d→cs'[j]? = some u→V A w zcM d u)∧
    w.cells? 0 (a.add (i*P.cellsOf e)) (P.cellsOf e)=some cs':=by
   intro i hi
   have:=(key i hi).choose_spec
   simp only[f,dif_pos hi]
   exact this
  let es:List (List D):=(List.range len).map f
  have hes:es.length=len:=by simp[es]
  have hget:∀(i:Nat) (e:List D),es[i]? = some e→i < len∧e=f i:=by
   intro i e h
   have hi:i < len:=by rw[←hes];exact (za.1 h).1
   refine⟨hi,?_⟩
   simp[es,hi] at h
   exact h.symm
  have hlr:len≤reachBytes:=by
   have:=hwt (((elems.map (·.1)).length+(rest.map (·.1)).length)*P.bytesOf e) (by simp only[DataW.weights,ht];exact zB ..)
   have h2:len*1≤((elems.map (·.1)).length+(rest.map (·.1)).length)*P.bytesOf e:=zaK (by simp;omega) hb
   omega
  refine⟨[.sl es],⟨es,by rw[hes];exact hlr,fun e h=>?_,rfl⟩,rfl,fun A hA i d u h1 h2=>?_⟩
  ·obtain⟨i,hi⟩:=List.getElem?_of_mem h
   obtain⟨h1,rfl⟩:=hget i e hi
   obtain⟨cs',h2,_⟩:=hf i h1
   exact h2.1
  ·match i,h1,h2 with
   |0,h1,h2=>
    cases h1
    cases h2
    by_cases h0:len=0
    ·have:es=[]:=zU (by omega)
     rw[this,h0]
     exact .sl0 _ _ _
    ·have hsp:a=⟨a.block,a.off,none⟩∧a.block < w.heap.size:=by
      obtain⟨cs',h3,h4⟩:=hf 0 (by omega)
      obtain⟨_,h5,h6⟩:=World.cells?_some h4
      have h7:=h6 0 hc
      obtain⟨c0,hc0⟩:∃c0,cs'[0]? = some c0:=⟨cs'[0]'(by omega),by simp[show 0 < cs'.length by omega]⟩
      rw[hc0] at h7
      have h8:=World.block_lt_of_cell? w _ h7
      refine⟨?_,by simpa[Addr.add] using h8⟩
      unfold World.cell? at h7
      cases a with
      |mk b o s=>
       cases s with
       |none=>rfl
       |some s=>
        simp[Addr.add] at h7
        split at h7<;>cases h7
     have hc':∀(i:Nat) (e':List D) (j:Nat) (d:D),es[i]? = some e'→e'[j]? = some d→∃u,w.cell? ⟨a.block,a.off+i*P.cellsOf e+j,none⟩=some u∧∀A:Rd,(∀n,n < w.heap.size→A n)→V A w zcM d u:=by
      intro i e' j d h1 h2
      obtain⟨hi,rfl⟩:=hget i e' h1
      obtain⟨cs',h3,h4⟩:=hf i hi
      obtain⟨_,h5,h6⟩:=World.cells?_some h4
      have hj:j < (f i).length:=(za.1 h2).1
      have hj':j < cs'.length:=by rw[←h3.2.1];exact hj
      have h7:=h6 j (by omega)
      rw[hsp.1] at h7
      refine⟨cs'[j],?_,fun A hA=>h3.2.2 A hA j d _ h2 (by simp[hj'])⟩
      rw[show cs'[j]? = some cs'[j] by simp[hj']] at h7
      rw[add_none,add_none] at h7
      exact h7
     have hsz:∀(i:Nat) (e':List D),es[i]? = some e'→e'.length=P.cellsOf e:=by
      intro i e' h1
      obtain⟨hi,rfl⟩:=hget i e' h1
      obtain⟨cs',h3,h4⟩:=hf i hi
      rw[h3.2.1];exact (World.cells?_some h4).2.1
     rw[hsp.1,←hes]
     refine .sl _ es a.block a.off (P.cellsOf e) cap (fun i j=>(w.cell? ⟨a.block,a.off+i*P.cellsOf e+j,none⟩).getD default) (hA _ hsp.2) (by omega) hsz (fun i e' j d h1 h2=>?_) fun i e' j d h1 h2=>?_
     ·obtain⟨u,h3,_⟩:=hc' i e' j d h1 h2
      simp only[h3];rfl
     ·obtain⟨u,h3,h4⟩:=hc' i e' j d h1 h2
      simp only[h3]
      exact h4 A.all hA
def OpensF (enc:TypeId × Value→H)(P:Program)(w:World):List Field→List (List D→Prop)→Nat→Nat→Prop
 |[],[],o,n=>o=n
 |f::fs,R::Rs,o,n=>f.offset=o∧o+P.cellsOf f.type≤n∧Opens enc P w f.type R∧OpensF enc P w fs Rs (o+P.cellsOf f.type) n
 |_,_,_,_=>False
theorem opens_fields {n fuel:Nat}{cs:List Value}(hn:cs.length=n):∀(fs:List Field) (Rs:List (List D→Prop)) (o:Nat),OpensF enc P w fs Rs o n→
  (∀f,f∈fs→∃y,DataW.trod enc P w 0 (fun _=>true) true fuel f.type ((cs.drop f.offset).take (P.cellsOf f.type))=some y∧∀n,n∈y.1.weights P f.type→n≤reachBytes)→
  ∃ds:List D,Rcat Rs ds∧ds.length=(cs.drop o).length∧∀A:Rd,(∀n,n < w.heap.size→A n)→∀(i:Nat) (d:D) (u:Value),ds[i]? = some d→(cs.drop o)[i]? = some u→V A w zcM d u
 |[],[],o,h,_=>by
  have e:o=n:=h
  refine⟨[],rfl,by simp;omega,fun A _ i d u h1 _=>by simp at h1⟩
 |f::fs,R::Rs,o,h,hr=>by
  obtain⟨h1,h1b,h2,h3⟩:=h
  obtain⟨y,hy,hyw⟩:=hr f (zB ..)
  rw[h1] at hy
  obtain⟨a,k1,k2,k3⟩:=h2 _ _ _ hy hyw
  obtain⟨b,q1,q2,q3⟩:=opens_fields hn fs Rs _ h3 fun g hg=>hr g (zG _ hg)
  have hl:a.length=P.cellsOf f.type:=by rw[k2];simp;omega
  refine⟨a++b,⟨a,b,rfl,k1,q1⟩,?_,fun A hA i d u e1 e2=>?_⟩
  ·rw[zw,hl,q2];simp;omega
  ·by_cases hi:i < a.length
   ·rw[zk hi] at e1
    exact k3 A hA i d u e1 (by rw[zbt (by omega)];exact e2)
   ·rw[zu (by omega)] at e1
    refine q3 A hA _ d u e1 ?_
    rw[zV] at e2 ⊢
    rw[←e2]
    congr 1
    omega
 |[],_::_,_,h,_=>h.elim
 |_::_,[],_,h,_=>h.elim
theorem opens_struct {t:TypeId}{fs:Array Field}{Rs:List (List D→Prop)}(ht:P.underlying t=some (.struct fs))(h:OpensF enc P w fs.toList Rs 0 (P.cellsOf t)):Opens enc P w t (Rcat Rs):=by
 intro fuel cs x hx hwt
 obtain⟨xs,n,_,rfl,hl,hlen,hf⟩:=DataW.trod_struct ht hx
 have:=opens_fields (fuel:=n) hl fs.toList Rs 0 h fun f hm=>by
  obtain⟨i,hi⟩:=List.getElem?_of_mem hm
  have h1:=hf i f (by simpa using hi)
  have hi':i < xs.length:=by rw[hlen];simpa using (za.1 hi).1
  refine⟨xs[i],by rw[h1];simp[hi'],fun n hn=>hwt n ?_⟩
  simp only[DataW.weights,ht]
  exact DataW.weights_mem_each (j:=i) (t:=f.type) (d:=xs[i].1) (by simp[hi]) (by simp[hi']) n hn
 simpa using this
theorem arg_plain {t:TypeId}{v:Value}{x:DataW H}{ps:List MemPlace}{R:List D→Prop}(h:Opens enc P w t R)(hv:v.cells=#[v])(hd:DataW.Trod enc P w 0 (fun _=>true) true t v x ps)(hw:∀n,n∈x.weights P t→n≤reachBytes):
  ∃d,R [d]∧∀A:Rd,(∀n,n < w.heap.size→A n)→V A w zcM d v:=by
 obtain⟨fuel,hf⟩:=hd
 obtain⟨ds,h1,h2,h3⟩:=h _ _ _ hf hw
 rw[hv] at h2 h3
 match ds,h2 with
 |[d],_=>exact⟨d,h1,fun A hA=>h3 A hA 0 d v rfl rfl⟩
theorem arg_int {r:Reach}{b0:Nat}{t:TypeId}{k:IntKind}{v:Value}{x:DataW H}{ps:List MemPlace}(ht:P.underlying t=some (.int k))(ho:Value.okWide P w r b0 t v)
  (hd:DataW.Trod enc P w 0 (fun _=>true) true t v x ps):∃n:Int,(Lit.int k n).wf=true∧∀A:Rd,(∀n,n < w.heap.size→A n)→V A w zcM (.v (.int k n)) v:=by
 have hv:v.cells=#[v]:=by
  cases v<;>first|rfl|simp[Value.okWide,Cell.okWide,Cell.ok,ht] at ho
 obtain⟨d,⟨n,h1,h2⟩,h3⟩:=arg_plain (zd5 ht) hv hd (fun n hn=>by
  obtain⟨fuel,hf⟩:=hd
  obtain⟨m,_,hx,_⟩:=DataW.trod_int ht hf
  cases hx
  simp[DataW.weights] at hn)
 cases h2
 exact⟨n,h1,h3⟩
theorem arg_slice {r:Reach}{b0:Nat}{t e:TypeId}{R:List D→Prop}{v:Value}{x:DataW H}{ps:List MemPlace}(ht:P.underlying t=some (.slice e))(hc:0 < P.cellsOf e)(hb:0 < P.bytesOf e)(he:Opens enc P w e R)
  (ho:Value.okWide P w r b0 t v) (hd:DataW.Trod enc P w 0 (fun _=>true) true t v x ps) (hw:∀n,n∈x.weights P t→n≤reachBytes):
  ∃es:List (List D),es.length≤reachBytes∧(∀e,e∈es→R e)∧∀A:Rd,(∀n,n < w.heap.size→A n)→V A w zcM (.sl es) v:=by
 have hv:v.cells=#[v]:=by
  cases v<;>first|rfl|simp[Value.okWide,Cell.okWide,Cell.ok,ht] at ho
 obtain⟨d,⟨es,h1,h2,h3⟩,h4⟩:=arg_plain (opens_slice ht hc hb he) hv hd hw
 cases h3
 exact⟨es,h1,h2,h4⟩
theorem arg_struct {r:Reach}{b0:Nat}{t:TypeId}{fs:Array Field}{Rs:List (List D→Prop)}{v:Value}{x:DataW H}{ps:List MemPlace}(ht:P.underlying t=some (.struct fs))
  (h:OpensF enc P w fs.toList Rs 0 (P.cellsOf t)) (ho:Value.okWide P w r b0 t v) (hd:DataW.Trod enc P w 0 (fun _=>true) true t v x ps) (hw:∀n,n∈x.weights P t→n≤reachBytes):
  ∃ds:List D,Rcat Rs ds∧∀A:Rd,(∀n,n < w.heap.size→A n)→V A w zcM (.agg ds) v:=by
 obtain⟨cs,rfl,_⟩:∃cs,v=.agg cs∧cs.size=P.cellsOf t:=by
  unfold Value.okWide at ho
  rw[ht] at ho
  obtain⟨cs,h1,h2,_⟩:=ho
  exact⟨cs,h1,h2⟩
 obtain⟨fuel,hf⟩:=hd
 obtain⟨ds,h1,h2,h3⟩:=opens_struct ht h _ _ _ hf hw
 refine⟨ds,h1,fun A hA=>.agg _ _ _ (by simpa[Value.cells] using h2.symm) fun i d u e1 e2=>h3 A hA i d u e1 (by simpa[Value.cells] using e2)⟩
end
theorem Ext.below {w w':World}(h:Ext w (fun _=>False) w' (fun _=>False)):Below w.heap.size w w':=
 ⟨h.os,h.tape,h.output,h.size,fun k hk=>h.same k hk fun x=>x⟩
theorem post_below {H:Type}{enc:TypeId × Value→H}{P:Program}{f:Func}{s:ChangeSpec}{apart fresh handsOn again:Bool}{W W':World}{args:Array Value}{v:Value}{ds gs:List (DataW H)}{before pa pv:List MemPlace}
  (hW:DataW.Whole enc P f.params.toList s.vars apart W args.toList ds gs before)
  (hres:∀(b:Nat) (sp:Nat→Bool) (hd:Bool),DataW.TrodAll enc P W' b sp hd f.resultTypes.toList (v.resultList f.resultTypes.size) (s.fn H (ds++gs)).results [])
  (hargs:∀sp:Nat→Bool,(∀p∈before,sp p.block=true)→DataW.TrodAll enc P W' 0 sp true f.params.toList args.toList (s.fn H (ds++gs)).args pa)
  (hvars:∀sp:Nat→Bool,(∀p∈before,sp p.block=true)→DataW.TrodVars enc P W' sp s.vars (s.fn H (ds++gs)).vars pv)
  (hps:before=pa++pv) (hb:Below W.heap.size W W')
  (hok:∀(j:Nat) (t:TypeId) (r:Value),f.resultTypes[j]? = some t→(v.resultList f.resultTypes.size)[j]? = some r→Value.okWide P W' .any 0 t r):
  s.post enc P f apart fresh handsOn again W args v W':=by
 have hlt:=hW.lt
 have hold:∀p∈before,(fun b=>decide (b < W.heap.size)) p.block=true:=fun p hp=>by simpa using hlt p hp
 refine⟨ds,gs,before,[],pa,pv,hW,hres _ _ _,hargs _ hold,hvars _ hold,hb.frame _,fun _=>?_⟩
 obtain⟨_,_,_,_,_,hz,hn⟩:=hW
 refine⟨hok,_,_,([]++pa)++pv,⟨[]++pa,pv,trodAll_append (hargs _ (fun _ _=>rfl)) (hres _ _ _),hvars _ (fun _ _=>rfl),rfl,?_,?_⟩,?_⟩
 ·intro b off hp
  have hp':MemPlace.cell b off∈before:=by rw[hps];simpa using hp
  rw[hb.frozen (hlt _ hp')]
  exact hz b off hp'
 ·intro ha
  have:=hn ha
  rw[hps] at this
  simpa using this
 ·intro p hp _
  rw[hps]
  simpa using hp
theorem trodAll_below {H:Type}{enc:TypeId × Value→H}{P:Program}{W W':World}{sp:Nat→Bool}(hl:laidOutB P=true)(hb:Below W.heap.size W W'):∀{ts:List TypeId} {vs:List Value} {ds:List (DataW H)} {ps:List MemPlace},(∀t,t∈ts→P.readableRec t=true∧t < P.types.size)→DataW.TrodAll enc P W 0 (fun _=>true) true ts vs ds ps→(∀p,p∈ps→p.block < W.heap.size)→(∀p,p∈ps→sp p.block=true)→DataW.TrodAll enc P W' 0 sp true ts vs ds ps
 |[],_,_,_,_,h,_,_=>by
  obtain⟨rfl,rfl,rfl⟩:=trodAll_nil h
  exact rfl
 |t::ts,_,_,_,ht,h,hlt,hsp=>by
  obtain⟨v,vs,d,ds,p,q,rfl,rfl,rfl,h1,h2⟩:=trodAll_cons h
  obtain⟨k1,k2⟩:=ht t (zB ..)
  exact⟨p,q,WideElems.Trod_stays hl k1 k2 h1 (fun x hx=>hb.same (hlt x (by simp[hx]))) (fun x hx=>hsp x (by simp[hx])),trodAll_below hl hb (fun t' h'=>ht t' (zG _ h')) h2 (fun x hx=>hlt x (by simp[hx])) (fun x hx=>hsp x (by simp[hx])),rfl⟩
theorem law_true {H:Type}{enc:TypeId × Value→H}{P:Program}{f:FuncId}{fn:Func}{s:ChangeSpec}{apart fresh handsOn again:Bool}{tb:TypeId}(hl:laidOutB P=true)
  (hp:∀t,t∈fn.params.toList→P.readableRec t=true∧t < P.types.size) (hr:fn.resultTypes=#[tb]) (htb:P.underlying tb=some .bool) (hv:s.vars=[])
  {W:World} {args:Array Value} {ds gs:List (DataW H)} {before:List MemPlace} (hW:DataW.Whole enc P fn.params.toList s.vars apart W args.toList ds gs before)
  (hs:∀gs,gs=[]→s.fn H (ds++gs)={ results:=[.lit (.bool true)],args:=ds })
  {xs:List D} (hx:VS ⟨fun n=>n < W.heap.size,W.heap.size⟩ W zcM xs args) (hm:Maps P f xs (.v (.bool true))):
  Calls P f args W fun e W'=>∃v,e=.returned v∧s.post enc P fn apart fresh handsOn again W args v W':=by
 refine (callsIn_wide.1 (hm.2 W _ args (fun n h=>h) hx)).mono ?_
 rintro e W' ⟨v,A',rfl,hvv,_,_,_,hext⟩
 have hvb:=hvv.v_inv
 subst hvb
 obtain⟨p,q,h1,h2,h3,_⟩:=id hW
 have hgs:gs=[]∧q=[]:=by
  rw[hv] at h2
  cases gs with
  |nil=>exact⟨rfl,h2⟩
  |cons=>exact h2.elim
 obtain⟨rfl,rfl⟩:=hgs
 rw[zN] at h3
 subst h3
 refine⟨_,rfl,post_below (pa:=before) (pv:=[]) hW (fun b sp hd=>?_) (fun sp hsp=>?_) (fun sp _=>?_) (by simp) hext.below (ok_one hr rfl (okWide_bool_mk htb _))⟩
 ·rw[hs _ rfl,hr]
  exact trodAll_mk1 (shut_bool htb true)
 ·rw[hs _ rfl]
  exact trodAll_below hl hext.below hp h1 hW.lt hsp
 ·rw[hs _ rfl,hv];rfl
end
end Go.DL
/- Elements of several cells: appended to a slice of one's own. -/
namespace Go.DL
open Go.RowKit Go.Proofs
section
variable {P:Program}{H:List Blk}{s n:Nat}{al:AL}{tx:TypeId}{x y:Operand}
theorem f_appG {α:Type}{f:α→List D}{te:TypeId}{m c m' c' b1 b2 sz by':Nat}{o v:List α}(hx:evA n al x=.ms b1 0 m c)(hy:evA n al y=.ms b2 0 m' c')(hb1:H[b1]? = some (.live sz (o.map f)))(hb2:H[b2]? = some (.live sz (v.map f)))(hm:m=o.length)(hm':m'=v.length)
  (he:zc3 P tx=some (te,sz)) (h0:0 < sz) (hz:(zdC P te).map List.length=some sz) (hby:P.bytesOf te=by') (hf:∀a,(f a).length=sz∧(f a).all isCell=true) (hl:(o.length+v.length)*by'≤140737488355328) (hl2:o.length+v.length≤9223372036854775807) (hsb:sameB (.ms b1 0 m c) (.ms b2 0 m' c')=false:=by exact tX18):
  Ap P H s n al (.call { callee:=.builtin .append,args:=#[x,y],argTypes:=#[tx,tx] }) (o++v).length (some b1) (.live sz ((o++v).map f)):=by
 subst hm;subst hm'
 have hu:P.underlying tx=some (.slice te):=by
  unfold zc3 at he
  split at he
  ·rename_i e hu;simp only[zd] at he;obtain⟨_,_,h⟩:=he;cases h;exact hu
  ·cases he
 refine f_app hx hy ?_ (by simp) hsb
 have e1:zcF H (.ms b1 0 o.length c)=some (o.map f):=by
  simp only[zcF,hb1,zQ,ze,zf,if_true,zS]
  rw[zg (by simp)]
 have e2:zcF H (.ms b2 0 v.length c')=some (v.map f):=by
  simp only[zcF,hb2,zQ,ze,zf,if_true,zS]
  rw[zg (by simp)]
 have e3:∀l:List α,(l.map f).all (fun e=>e.length==sz)=true:=fun l=>zh.2 fun e he=>by
  obtain⟨a,_,rfl⟩:=zt.1 he
  simpa using (hf a).1
 have e4:(v.map f).all (fun e=>e.all isCell)=true:=zh.2 fun e he=>by
  obtain⟨a,_,rfl⟩:=zt.1 he
  exact (hf a).2
 simp only[zew,addedD,he,hu,e1,e2]
 rw[if_pos]
 ·simp only[hb1,zcZ];simp
 ·refine⟨h0,hz,e3 o,e3 v,e4,?_,?_⟩
  ·rw[hby,ze,ze];exact hl
  ·rw[ze,ze];exact hl2
end
end Go.DL
/- Drawn regions over blocks whose number is not known: where nothing that is hidden is laid yet. -/
namespace Go.DL
open Go.RowKit Go.Proofs
noncomputable section
theorem maskL_id {base:Nat}{hs:List Nat}{H:List Blk}(h:∀i,i∈hs→H[base+i]? = some .free):zcz base hs H=H:=by
 refine zae fun b=>?_
 rw[maskL_get]
 split
 ·rename_i hc
  obtain⟨⟨s,hs,rfl⟩,_⟩:=hc
  exact (h s hs).symm
 ·rfl
def freeAt (T:List Blk)(i:Nat):Bool:=match T[i]? with
 |some .free=>true
 |_=>false
theorem zb1 {H0 T:List Blk}{hs:List Nat}(h:hs.all (freeAt T)=true):zcz H0.length hs (H0++T)=H0++T:=
 maskL_id fun i hi=>by
  have h1:=zh.1 h i hi
  unfold freeAt at h1
  rw[zu (by omega),show H0.length+i-H0.length=i by omega]
  split at h1
  ·assumption
  ·cases h1
section
variable {E:Ev}{ops r:List Oper}{base s:Nat}{hs:List Nat}{pl:List (Nat × List Nat)}{n:Nat}{a:AL}{H H':List Blk}{K:KP}{i:Tmp}{op:Op}{ty:TypeId}{pos:String}{aft:Array Edge}{d:D}
theorem zcD (hm:zcz base hs H=H)(hv:Val E.P H (base+s) n a op d)(h:PT E ops base pl r n ((i,d)::a) H K):PT E ops base ((s,hs)::pl) (⟨some i,op,ty,pos,aft,none⟩::r) n a H K:=
 zdi (by rw[hm];exact hv) h
theorem zeN {k:Blk}{s':Nat}(hm:zcz base hs H=H)(hs':base+s=s')(hv:Mk E.P H s' n a op d k)(hH:H.set s' k=H')(h:PT E ops base pl r n ((i,d)::a) H' K):PT E ops base ((s,hs)::pl) (⟨some i,op,ty,pos,aft,none⟩::r) n a H K:=
 PT.new hs' (by rw[hm];exact hv) hH h
theorem zey {b:Nat}{k:Blk}(hm:zcz base hs H=H)(hv:Wr E.P H (base+s) n a op b k)(hH:H.set b k=H')(h:PT E ops base pl r n a H' K):PT E ops base ((s,hs)::pl) (⟨none,op,ty,pos,aft,none⟩::r) n a H K:=
 PT.wr (by rw[hm];exact hv) hH h
theorem zdH {dst:Option Tmp}{f:Operand}{args:List Operand}{tys:Array TypeId}{f':FuncId}{xs ys:List D}(hm0:zcz base hs H=H)(hc:callA n a f args=some (f',xs))
  (hm:Maps E.P f' ys d) (hy:xs.map (snap (fun b=>H[b]?) 5)=ys) (hd:zeu 5 d=true) (h:PT E ops base pl r n (setA dst d a) H K):
  PT E ops base ((s,hs)::pl) (⟨dst,.call { callee:=.value f,args:=args.toArray,argTypes:=tys },ty,pos,aft,none⟩::r) n a H K:=
 zcT hc hm (by rw[hm0];exact hy) hd h
end
theorem lowB_mono {K K':Nat}(hK:K≤K'):∀(k:Nat) (d:D),zdq k K d=true→zdq k K' d=true:=by
 intro k
 induction k with
 |zero=>intro d h;cases d<;>simp_all [zdq]<;>omega
 |succ k ih=>
  intro d h
  cases d with
  |agg cs=>simp only[zdq,zh] at h ⊢;exact fun x hx=>ih x (h x hx)
  |tup cs=>simp only[zdq,zh] at h ⊢;exact fun x hx=>ih x (h x hx)
  |fn f a b=>simp only[zdq,zh,zJ] at h ⊢;exact⟨fun x hx=>ih x (h.1 x hx),fun x hx=>ih x (h.2 x hx)⟩
  |_=>simp_all [zdq]<;>omega
theorem BlkBelow.mono {K K':Nat}(hK:K≤K'){b:Blk}(h:BlkBelow K b):BlkBelow K' b:=by
 cases b with
 |live sz es=>exact fun e he d hd=>lowB_mono hK 4 d (h e he d hd)
 |tab c es=>exact fun e he=>lowB_mono hK 4 _ (h e he)
 |_=>trivial
section
variable {P:Program}{n s:Nat}{al:AL}{H:List Blk}{x y:Operand}{tx ty':TypeId}{a b:Int}
theorem zeQ (hx:evA n al x=wI a)(hy:evA n al y=wI b)(h:a=b):Val P H s n al (.binOp .neq tx x y ty') (wB false):=by
 have h1:=f_neq (P:=P) (H:=H) (s:=s) (tx:=tx) (ty':=ty') hx hy
 rwa [decide_eq_false (fun q=>q h)] at h1
theorem f_neqT (hx:evA n al x=wI a)(hy:evA n al y=wI b)(h:¬a=b):Val P H s n al (.binOp .neq tx x y ty') (wB true):=by
 have h1:=f_neq (P:=P) (H:=H) (s:=s) (tx:=tx) (ty':=ty') hx hy
 rwa [decide_eq_true h] at h1
theorem ze7 (hx:evA n al x=wI a)(hy:evA n al y=wI b)(h:¬a=b):Val P H s n al (.binOp .eql tx x y ty') (wB false):=by
 have h1:=f_eql (P:=P) (H:=H) (s:=s) (tx:=tx) (ty':=ty') hx hy
 rwa [decide_eq_false h] at h1
theorem zeG (hx:evA n al x=wI a)(hy:evA n al y=wI b)(h:a=b):Val P H s n al (.binOp .eql tx x y ty') (wB true):=by
 have h1:=f_eql (P:=P) (H:=H) (s:=s) (tx:=tx) (ty':=ty') hx hy
 rwa [decide_eq_true h] at h1
end
theorem fg_ws {N n:Nat}{a a':AL}{pre ws T:List Blk}(hd:Hd n a a')(le:N≤(pre++ws).length)(ab:(a'.all fun p=>zdq 4 pre.length p.2)=true)
  (hb1:∀b,b∈pre→BlkBelow (pre++ws).length b) (hb2:∀b,b∈ws→BlkBelow 0 b):Wk N n a (pre++(ws++T)) a' (pre++ws):=
 zeP ⟨hd,by rw[←zT,List.take_left],le,zh.2 fun p hp=>lowB_mono (by rw[zw];omega) 4 _ (zh.1 ab p hp),fun b hb=>(zK.1 hb).elim (hb1 b) fun h=>(hb2 b h).mono (zj _)⟩
theorem fg_ws0 {N n:Nat}{a a':AL}{pre ws:List Blk}(hd:Hd n a a')(le:N≤(pre++ws).length)(ab:(a'.all fun p=>zdq 4 pre.length p.2)=true)
  (hb1:∀b,b∈pre→BlkBelow (pre++ws).length b) (hb2:∀b,b∈ws→BlkBelow 0 b):Wk N n a (pre++ws) a' (pre++ws):=by
 have h:=fg_ws (T:=[]) hd le ab hb1 hb2
 rw[zN] at h
 exact h
theorem sel_app {H0:List Blk}{x y:Blk}:sel [H0.length,H0.length+1] (H0++[x,y]) H0.length=some x∧sel [H0.length,H0.length+1] (H0++[x,y]) (H0.length+1)=some y:=by
 constructor
 ·simp[sel]
 ·simp[sel,zu]
theorem kill_app {H0:List Blk}{x y:Blk}:killL (H0++[x,y]) [H0.length,H0.length+1]=H0++[.dead,.dead]:=by
 simp[killL,zal]
end
end Go.DL
/- The steps of walks, with what may be said of the operations as automatic arguments. -/
namespace Go.DL
open Go.RowKit Go.Proofs
noncomputable section
section
variable {E:Ev}{ops r:List Oper}{n:Nat}{a:AL}{H H':List Blk}{g:Gst}{K:KA}{dst:Option Tmp}{i:Tmp}{op:Op}{x y z:Operand}{tx ty ty':TypeId}{pos:String}{aft:Array Edge}{f:Nat}{bo:BinOp}{uo:UnOp}{cl:Call}{d:D}
theorem tX8 {p:Prop}(h:p:=by first|exact f_mvV rfl|exact f_mvS rfl|exact f_mvF rfl|exact f_mvO rfl|exact f_mvP rfl|exact f_mvR rfl|exact f_mvA rfl|exact f_mvT rfl|exact f_mvN rfl|exact f_mvU rfl|exact f_mvX rfl):p:=h
theorem zb0 (h:RT E ops r n ((i,d)::a) H g K)(hv:Val E.P H H.length n a (.move x) d:=by exact tX8):RT E ops (⟨some i,.move x,ty,pos,aft,none⟩::r) n a H g K:=zb9 hv h
theorem tX9 {p:Prop}(h:p:=by first|exact f_asV rfl|exact f_asS rfl|exact f_asF rfl|exact f_asO rfl|exact f_asP rfl|exact f_asR rfl|exact f_asA rfl|exact f_asT rfl|exact f_asN rfl|exact f_asU rfl|exact f_asX rfl):p:=h
theorem zbZ (h:RT E ops r n ((i,d)::a) H g K)(hv:Val E.P H H.length n a (.assign x) d:=by exact tX9):RT E ops (⟨some i,.assign x,ty,pos,aft,none⟩::r) n a H g K:=zb9 hv h
theorem tX13 {p:Prop}(h:p:=by (first|omega|(simp only[zE,z7,zw,ze,z4,List.length_nil];omega))):p:=h
theorem tX3 {p:Prop}(h:p:=by first|exact f_ldV rfl rfl|exact zcB rfl rfl rfl rfl rfl|exact f_ldW rfl rfl tX13 rfl|exact f_ldS rfl rfl|exact f_ldFl rfl rfl|exact zev rfl rfl rfl rfl rfl rfl|exact f_ldG rfl rfl rfl|exact f_ldA rfl rfl rfl rfl nrX):p:=h
theorem zcf (h:RT E ops r n ((i,d)::a) H g K)(hv:Val E.P H H.length n a (.load tx x) d:=by exact tX3):RT E ops (⟨some i,.load tx x,ty,pos,aft,none⟩::r) n a H g K:=zb9 hv h
theorem tX2 {p:Prop}(h:p:=by first|exact f_fa0 rfl rfl (zaE _)|exact f_fa1 rfl rfl (zaE _)|exact f_fa2 rfl rfl (zaE _)|exact f_fa3 rfl rfl (zaE _)|exact f_faO0 (o:=0) rfl rfl (zaE _)|exact f_faO0 (o:=1) rfl rfl (zaE _)|exact f_faO0 (o:=2) rfl rfl (zaE _)|exact f_faO0 (o:=3) rfl rfl (zaE _)|exact f_faO0 rfl rfl (zaE _)|exact f_faO rfl rfl (zaE _)):p:=h
theorem zcm (h:RT E ops r n ((i,d)::a) H g K)(hv:Val E.P H H.length n a (.fieldAddr tx x f) d:=by exact tX2):RT E ops (⟨some i,.fieldAddr tx x f,ty,pos,aft,none⟩::r) n a H g K:=zb9 hv h
theorem tX4 {p:Prop}(h:p:=by first|exact f_lss rfl rfl|exact f_add rfl rfl (by omega) (by omega)|exact f_eql rfl rfl|exact f_neq rfl rfl|exact f_leq rfl rfl|exact f_gtr rfl rfl|exact f_geq rfl rfl|exact f_sub rfl rfl (by omega) (by omega)|exact f_mul rfl rfl (by omega) (by omega)|exact f_rem rfl rfl (by omega) (by omega)|exact f_quo rfl rfl (by omega) (by omega) (by omega)):p:=h
theorem zb2 (h:RT E ops r n ((i,d)::a) H g K)(hv:Val E.P H H.length n a (.binOp bo tx x y ty') d:=by exact tX4):RT E ops (⟨some i,.binOp bo tx x y ty',ty,pos,aft,none⟩::r) n a H g K:=zb9 hv h
theorem zcx (h:RT E ops r n ((i,d)::a) H g K)(hv:Val E.P H H.length n a (.pick x y z) d:=by first|exact f_pickTV rfl rfl|exact f_pickFV rfl rfl):RT E ops (⟨some i,.pick x y z,ty,pos,aft,none⟩::r) n a H g K:=zb9 hv h
theorem zdF (h:RT E ops r n ((i,d)::a) H g K)(hv:Val E.P H H.length n a (.extract x f) d:=by exact f_ext rfl rfl):RT E ops (⟨some i,.extract x f,ty,pos,aft,none⟩::r) n a H g K:=zb9 hv h
theorem tX20 {p:Prop}(h:p:=by first|with_reducible exact castR _|with_reducible exact castS _|rfl|omega):p:=h
theorem tX1 {p:Prop}(h:p:=by first|exact zeq rfl rfl tX20 (by omega) rfl rfl|exact f_ix rfl rfl tX20 (by assumption) rfl rfl|exact zct rfl rfl tX20 rfl rfl tX13):p:=h
theorem zcO (h:RT E ops r n ((i,d)::a) H g K)(hv:Val E.P H H.length n a (.indexAddr tx x y) d:=by exact tX1):RT E ops (⟨some i,.indexAddr tx x y,ty,pos,aft,none⟩::r) n a H g K:=zb9 hv h
theorem tX16 {p:Prop}(h:p:=by first|exact f_notT rfl|exact f_notF rfl|exact f_notD rfl|exact f_not rfl|exact f_neg rfl (by omega) (by omega)):p:=h
theorem zcv (h:RT E ops r n ((i,d)::a) H g K)(hv:Val E.P H H.length n a (.unOp uo tx x) d:=by exact tX16):RT E ops (⟨some i,.unOp uo tx x,ty,pos,aft,none⟩::r) n a H g K:=zb9 hv h
theorem tX14 {p:Prop}(h:p:=by first|exact f_lenM rfl rfl|exact f_lenF rfl rfl|exact f_lenO rfl rfl|exact f_lenN rfl rfl|exact f_max rfl rfl|exact f_min rfl rfl):p:=h
theorem zb8 (h:RT E ops r n ((i,d)::a) H g K)(hv:Val E.P H H.length n a (.call cl) d:=by exact tX14):RT E ops (⟨some i,.call cl,ty,pos,aft,none⟩::r) n a H g K:=zb9 hv h
theorem tX6 {p:Prop}(h:p:=by first|exact f_slHi rfl rfl tX20 (by omega) rfl|exact f_slLo rfl rfl tX20 (by omega) rfl (fun _=>rfl)|exact zdm rfl|exact f_mkf nrX nrX|exact f_fd rfl rfl rfl):p:=h
theorem zdz (h:RT E ops r n ((i,d)::a) H g K)(hv:Val E.P H H.length n a (op) d:=by exact tX6):RT E ops (⟨some i,op,ty,pos,aft,none⟩::r) n a H g K:=zb9 hv h
theorem tX0 {p:Prop}(h:p:=by first|exact f_boxV rfl rfl rfl|exact f_boxA rfl rfl nrX|exact f_boxS rfl|exact f_boxU rfl|exact f_boxO rfl|exact f_boxF rfl|exact f_boxR rfl|exact f_boxP rfl|exact f_boxN rfl|exact zcL (z:=[wI 0]) (m:=1) rfl rfl|exact zcL (z:=[wI 0,wI 0]) (m:=2) rfl rfl|exact zcL (z:=[wI 0,wI 0,wI 0]) (m:=3) rfl rfl|exact zcL (z:=[wI 0,wI 0,wI 0,wI 0]) (m:=4) rfl rfl|exact zcL (z:=[.nil,wI 0]) (m:=2) rfl rfl|exact zcL (z:=[wI 0,.nil]) (m:=2) rfl rfl|exact zcL (z:=[.nil]) (m:=1) rfl rfl|exact zcL (z:=[.nil,.nil]) (m:=2) rfl rfl|exact f_alloc rfl|exact f_makeW rfl rfl rfl rfl rfl rfl tX13|exact ze1 rfl rfl rfl):p:=h
theorem zco {s:Nat}{k:Blk}(h:RT E ops r n ((i,d)::a) H' g K)(hs:H.length=s:=by exact tX19)(hv:Mk E.P H s n a op d k:=by exact tX0)(hH:H++[k]=H':=by exact tX19):RT E ops (⟨some i,op,ty,pos,aft,none⟩::r) n a H g K:=zcI hs hv hH h
theorem tX5 {p:Prop}(h:p:=by first|exact zeB rfl rfl tX13 rfl rfl|exact f_stV rfl rfl rfl rfl rfl rfl rfl|exact zdR rfl rfl rfl rfl rfl rfl rfl (by decide) nrX|exact f_st rfl rfl rfl rfl rfl rfl rfl rfl (by decide) nrX):p:=h
theorem zc0 {b:Nat}{k:Blk}(h:RT E ops r n a H' g K)(hv:Wr E.P H H.length n a (.store tx x y) b k:=by exact tX5)(hH:H.set b k=H':=by exact tX19):RT E ops (⟨none,.store tx x y,ty,pos,aft,none⟩::r) n a H g K:=zdo hv hH h
end
section
variable {E:Ev}{ops r:List Oper}{base s:Nat}{hs:List Nat}{pl:List (Nat × List Nat)}{n:Nat}{a:AL}{H H':List Blk}{K:KP}{dst:Option Tmp}{i:Tmp}{op:Op}{x y z:Operand}{tx ty ty':TypeId}{pos:String}{aft:Array Edge}{f:Nat}{bo:BinOp}{uo:UnOp}{cl:Call}{d:D}
theorem zc2 (h:PT E ops base pl r n ((i,d)::a) H K)(hv:Val E.P (zcz base hs H) (base+s) n a (.move x) d:=by exact tX8):PT E ops base ((s,hs)::pl) (⟨some i,.move x,ty,pos,aft,none⟩::r) n a H K:=zdi hv h
theorem zdG (hm:zcz base hs H=H)(h:PT E ops base pl r n ((i,d)::a) H K)(hv:Val E.P H (base+s) n a (.move x) d:=by exact tX8):PT E ops base ((s,hs)::pl) (⟨some i,.move x,ty,pos,aft,none⟩::r) n a H K:=zcD hm hv h
theorem PT.asA (h:PT E ops base pl r n ((i,d)::a) H K)(hv:Val E.P (zcz base hs H) (base+s) n a (.assign x) d:=by exact tX9):PT E ops base ((s,hs)::pl) (⟨some i,.assign x,ty,pos,aft,none⟩::r) n a H K:=zdi hv h
theorem PT.asI (hm:zcz base hs H=H)(h:PT E ops base pl r n ((i,d)::a) H K)(hv:Val E.P H (base+s) n a (.assign x) d:=by exact tX9):PT E ops base ((s,hs)::pl) (⟨some i,.assign x,ty,pos,aft,none⟩::r) n a H K:=zcD hm hv h
theorem zda (h:PT E ops base pl r n ((i,d)::a) H K)(hv:Val E.P (zcz base hs H) (base+s) n a (.load tx x) d:=by exact tX3):PT E ops base ((s,hs)::pl) (⟨some i,.load tx x,ty,pos,aft,none⟩::r) n a H K:=zdi hv h
theorem PT.ldI (hm:zcz base hs H=H)(h:PT E ops base pl r n ((i,d)::a) H K)(hv:Val E.P H (base+s) n a (.load tx x) d:=by exact tX3):PT E ops base ((s,hs)::pl) (⟨some i,.load tx x,ty,pos,aft,none⟩::r) n a H K:=zcD hm hv h
theorem zdU (h:PT E ops base pl r n ((i,d)::a) H K)(hv:Val E.P (zcz base hs H) (base+s) n a (.fieldAddr tx x f) d:=by exact tX2):PT E ops base ((s,hs)::pl) (⟨some i,.fieldAddr tx x f,ty,pos,aft,none⟩::r) n a H K:=zdi hv h
theorem zeI (hm:zcz base hs H=H)(h:PT E ops base pl r n ((i,d)::a) H K)(hv:Val E.P H (base+s) n a (.fieldAddr tx x f) d:=by exact tX2):PT E ops base ((s,hs)::pl) (⟨some i,.fieldAddr tx x f,ty,pos,aft,none⟩::r) n a H K:=zcD hm hv h
theorem PT.bnA (h:PT E ops base pl r n ((i,d)::a) H K)(hv:Val E.P (zcz base hs H) (base+s) n a (.binOp bo tx x y ty') d:=by exact tX4):PT E ops base ((s,hs)::pl) (⟨some i,.binOp bo tx x y ty',ty,pos,aft,none⟩::r) n a H K:=zdi hv h
theorem zef (hm:zcz base hs H=H)(h:PT E ops base pl r n ((i,d)::a) H K)(hv:Val E.P H (base+s) n a (.binOp bo tx x y ty') d:=by exact tX4):PT E ops base ((s,hs)::pl) (⟨some i,.binOp bo tx x y ty',ty,pos,aft,none⟩::r) n a H K:=zcD hm hv h
theorem PT.pkA (h:PT E ops base pl r n ((i,d)::a) H K)(hv:Val E.P (zcz base hs H) (base+s) n a (.pick x y z) d:=by first|exact f_pickTV rfl rfl|exact f_pickFV rfl rfl):PT E ops base ((s,hs)::pl) (⟨some i,.pick x y z,ty,pos,aft,none⟩::r) n a H K:=zdi hv h
theorem PT.pkI (hm:zcz base hs H=H)(h:PT E ops base pl r n ((i,d)::a) H K)(hv:Val E.P H (base+s) n a (.pick x y z) d:=by first|exact f_pickTV rfl rfl|exact f_pickFV rfl rfl):PT E ops base ((s,hs)::pl) (⟨some i,.pick x y z,ty,pos,aft,none⟩::r) n a H K:=zcD hm hv h
theorem PT.exA (h:PT E ops base pl r n ((i,d)::a) H K)(hv:Val E.P (zcz base hs H) (base+s) n a (.extract x f) d:=by exact f_ext rfl rfl):PT E ops base ((s,hs)::pl) (⟨some i,.extract x f,ty,pos,aft,none⟩::r) n a H K:=zdi hv h
theorem PT.exI (hm:zcz base hs H=H)(h:PT E ops base pl r n ((i,d)::a) H K)(hv:Val E.P H (base+s) n a (.extract x f) d:=by exact f_ext rfl rfl):PT E ops base ((s,hs)::pl) (⟨some i,.extract x f,ty,pos,aft,none⟩::r) n a H K:=zcD hm hv h
theorem zem (h:PT E ops base pl r n ((i,d)::a) H K)(hv:Val E.P (zcz base hs H) (base+s) n a (.indexAddr tx x y) d:=by exact tX1):PT E ops base ((s,hs)::pl) (⟨some i,.indexAddr tx x y,ty,pos,aft,none⟩::r) n a H K:=zdi hv h
theorem PT.ixI (hm:zcz base hs H=H)(h:PT E ops base pl r n ((i,d)::a) H K)(hv:Val E.P H (base+s) n a (.indexAddr tx x y) d:=by exact tX1):PT E ops base ((s,hs)::pl) (⟨some i,.indexAddr tx x y,ty,pos,aft,none⟩::r) n a H K:=zcD hm hv h
theorem PT.unA (h:PT E ops base pl r n ((i,d)::a) H K)(hv:Val E.P (zcz base hs H) (base+s) n a (.unOp uo tx x) d:=by exact tX16):PT E ops base ((s,hs)::pl) (⟨some i,.unOp uo tx x,ty,pos,aft,none⟩::r) n a H K:=zdi hv h
theorem PT.unI (hm:zcz base hs H=H)(h:PT E ops base pl r n ((i,d)::a) H K)(hv:Val E.P H (base+s) n a (.unOp uo tx x) d:=by exact tX16):PT E ops base ((s,hs)::pl) (⟨some i,.unOp uo tx x,ty,pos,aft,none⟩::r) n a H K:=zcD hm hv h
theorem PT.clA (h:PT E ops base pl r n ((i,d)::a) H K)(hv:Val E.P (zcz base hs H) (base+s) n a (.call cl) d:=by exact tX14):PT E ops base ((s,hs)::pl) (⟨some i,.call cl,ty,pos,aft,none⟩::r) n a H K:=zdi hv h
theorem PT.clI (hm:zcz base hs H=H)(h:PT E ops base pl r n ((i,d)::a) H K)(hv:Val E.P H (base+s) n a (.call cl) d:=by exact tX14):PT E ops base ((s,hs)::pl) (⟨some i,.call cl,ty,pos,aft,none⟩::r) n a H K:=zcD hm hv h
theorem PT.msA (h:PT E ops base pl r n ((i,d)::a) H K)(hv:Val E.P (zcz base hs H) (base+s) n a (op) d:=by exact tX6):PT E ops base ((s,hs)::pl) (⟨some i,op,ty,pos,aft,none⟩::r) n a H K:=zdi hv h
theorem PT.msI (hm:zcz base hs H=H)(h:PT E ops base pl r n ((i,d)::a) H K)(hv:Val E.P H (base+s) n a (op) d:=by exact tX6):PT E ops base ((s,hs)::pl) (⟨some i,op,ty,pos,aft,none⟩::r) n a H K:=zcD hm hv h
theorem PT.nwA {s':Nat}{k:Blk}(h:PT E ops base pl r n ((i,d)::a) H' K)(hs':base+s=s':=by rfl)(hv:Mk E.P (zcz base hs H) s' n a op d k:=by exact tX0)(hH:H.set s' k=H':=by exact tX19):PT E ops base ((s,hs)::pl) (⟨some i,op,ty,pos,aft,none⟩::r) n a H K:=PT.new hs' hv hH h
theorem PT.nwI {s':Nat}{k:Blk}(hm:zcz base hs H=H)(h:PT E ops base pl r n ((i,d)::a) H' K)(hs':base+s=s':=by exact tX19)(hv:Mk E.P H s' n a op d k:=by exact tX0)(hH:H.set s' k=H':=by exact tX19):PT E ops base ((s,hs)::pl) (⟨some i,op,ty,pos,aft,none⟩::r) n a H K:=zeN hm hs' hv hH h
theorem PT.stA {b:Nat}{k:Blk}(h:PT E ops base pl r n a H' K)(hv:Wr E.P (zcz base hs H) (base+s) n a (.store tx x y) b k:=by exact tX5)(hH:H.set b k=H':=by exact tX19):PT E ops base ((s,hs)::pl) (⟨none,.store tx x y,ty,pos,aft,none⟩::r) n a H K:=PT.wr hv hH h
theorem PT.stI {b:Nat}{k:Blk}(hm:zcz base hs H=H)(h:PT E ops base pl r n a H' K)(hv:Wr E.P H (base+s) n a (.store tx x y) b k:=by exact tX5)(hH:H.set b k=H':=by exact tX19):PT E ops base ((s,hs)::pl) (⟨none,.store tx x y,ty,pos,aft,none⟩::r) n a H K:=zey hm hv hH h
end
theorem tX7 {p:Prop}(h:p:=by first|decide|exact zj _|exact zf _|(first|omega|(simp only[zE,z7,zw,ze,z4,List.length_nil];omega))):p:=h
theorem fgA {N n:Nat}{a a':AL}{H H':List Blk}(hd:Hd n a a':=by repeat first|exact True.intro|refine And.intro ?_ ?_|exact Or.inr (Or.inl rfl)|exact Or.inl rfl|(refine zeg rfl ?_;omega)|(refine zeg rfl ?_;simp;done))(pre:H.take H'.length=H':=by rfl)(le:N≤H'.length:=by exact tX7)(ab:(a'.all fun p=>zdq 4 H'.length p.2)=true:=by first|rfl|simp_all [zdq])(hb:∀b∈H',BlkBelow H'.length b:=by repeat first|exact zdN|refine zcJ ?_ ?_|exact zd2 _ _|exact bb_dead|exact bb_free|exact zdg rfl|(simp[BlkBelow,zdq];done)):Wk N n a H a' H':=zeP ⟨hd,pre,le,ab,hb⟩
end
end Go.DL
/- Only temporaries are forgotten; all own blocks stay. -/
namespace Go.DL
open Go.RowKit Go.Proofs
theorem Wk.keep {N n:Nat}{a a':AL}{H:List Blk}(hd:Hd n a a'):Wk N n a H a' H:=⟨fun {G} hG hN {ds g ac w} ⟨A,φ,hr⟩=>⟨A,φ,hr.rh,⟨by simpa[T_length] using hr.tr.size,fun i d u h1 h2=>by
  rw[ze8] at h1
  split at h1
  ·rename_i hi
   cases h1
   have h3:=hr.tr.val i (lk a i) u (by rw[ze8,if_pos hi]) h2
   have h4:=hd.lk i
   have hb:Nat.blt i n=true:=by simpa[zaA] using hi
   simp only[lkN,hb,cond_true] at h4
   exact h4.v h3
  ·cases h1⟩,hr.gh,hr.df,hr.dk,hr.nd⟩⟩
theorem f_slLoO {P:Program}{H:List Blk}{s n:Nat}{al:AL}{x y:Operand}{tx te:TypeId}{a:Int}{bk off len cap sz k:Nat}{es:List (List D)}(hx:evA n al x=.ms bk off len cap)(hy:evA n al y=wI a)(hn:a=k)(hk:k≤len)(hc:len≤cap)
  (he:zc3 P tx=some (te,sz)) (hb:H[bk]? = some (.live sz es)):Val P H s n al (.slice tx x (some y) none none) (.ms bk (off+k) (len-k) (cap-k)):=by
 subst hn
 refine⟨?_⟩
 simp only[zcp,zc7,sliceD,he,hx,unfl,zbc,zq,hy,bndD,intD,za3,zah,false_and,if_false]
 rw[if_pos ⟨by simp[zcZ,hb],by omega,by omega,by omega⟩]
 simp[zcQ]
theorem f_slLo0 {P:Program}{H:List Blk}{s n:Nat}{al:AL}{x y:Operand}{tx te:TypeId}{a:Int}{bk len cap sz k:Nat}{es:List (List D)}(hx:evA n al x=.ms bk 0 len cap)(hy:evA n al y=wI a)(hn:a=k)(hk:k≤len)(hc:len≤cap)
  (he:zc3 P tx=some (te,sz)) (hb:H[bk]? = some (.live sz es)):Val P H s n al (.slice tx x (some y) none none) (.ms bk k (len-k) (cap-k)):=by
 have h:=f_slLoO (s:=s) hx hy hn hk hc he hb
 rwa [zQ] at h
end Go.DL
/- Appends to a slice of one's own that has room. -/
namespace Go.DL
open Go.RowKit Go.Proofs
section
variable {P:Program}{H:List Blk}{s n:Nat}{al:AL}{tx:TypeId}{x y:Operand}
theorem zd1 {α:Type}{f:α→List D}{te:TypeId}{m mm c m' c' b1 b2 sz by':Nat}{es:List (List D)}{o v:List α}(hx:evA n al x=.ms b1 0 m c)(hy:evA n al y=.ms b2 0 m' c')(hb1:H[b1]? = some (.live sz es))(hes:es.take m=o.map f)(hle:m≤es.length)(hb2:H[b2]? = some (.live sz (v.map f)))(hm:m=o.length)(hm':m'=v.length)
  (hmm:o.length+v.length=mm) (he:zc3 P tx=some (te,sz)) (h0:0 < sz) (hz:(zdC P te).map List.length=some sz) (hby:P.bytesOf te=by') (hf:∀a,(f a).length=sz∧(f a).all isCell=true) (hl:(o.length+v.length)*by'≤140737488355328) (hl2:o.length+v.length≤9223372036854775807) (hsb:sameB (.ms b1 0 m c) (.ms b2 0 m' c')=false:=by exact tX18):
  Ap P H s n al (.call { callee:=.builtin .append,args:=#[x,y],argTypes:=#[tx,tx] }) mm (some b1) (.live sz ((o++v).map f)):=by
 subst hm;subst hm';subst hmm
 have hu:P.underlying tx=some (.slice te):=by
  unfold zc3 at he
  split at he
  ·rename_i e hu;simp only[zd] at he;obtain⟨_,_,h⟩:=he;cases h;exact hu
  ·cases he
 refine f_app hx hy ?_ (by simp) hsb
 have e1:zcF H (.ms b1 0 o.length c)=some (o.map f):=by
  simp only[zcF,hb1,zQ,hle,if_true,zS,hes]
 have e2:zcF H (.ms b2 0 v.length c')=some (v.map f):=by
  simp only[zcF,hb2,zQ,ze,zf,if_true,zS]
  rw[zg (by simp)]
 have e3:∀l:List α,(l.map f).all (fun e=>e.length==sz)=true:=fun l=>zh.2 fun e he=>by
  obtain⟨a,_,rfl⟩:=zt.1 he
  simpa using (hf a).1
 have e4:(v.map f).all (fun e=>e.all isCell)=true:=zh.2 fun e he=>by
  obtain⟨a,_,rfl⟩:=zt.1 he
  exact (hf a).2
 simp only[zew,addedD,he,hu,e1,e2]
 rw[if_pos]
 ·simp only[hb1,zcZ];simp
 ·refine⟨h0,hz,e3 o,e3 v,e4,?_,?_⟩
  ·rw[hby,ze,ze];exact hl
  ·rw[ze,ze];exact hl2
theorem ap2 {H:List Blk}{q:Nat}(h:q < H.length)(x y:Blk):killO (H++[x]) (some q)++[y]=H.set q .dead++[x,y]:=by
 rw[killO,zD _ _ h,zT];rfl
end
theorem zcc {H1 T:List Blk}{hs:List Nat}{base:Nat}(hb:H1.length=base)(h:hs.all (freeAt T)=true):zcz base hs (H1++T)=H1++T:=by
 subst hb;exact zb1 h
section
variable {E:Ev}{ops r:List Oper}{base s:Nat}{hs:List Nat}{pl:List (Nat × List Nat)}{n:Nat}{a:AL}{H H':List Blk}{K:KP}{i:Tmp}{op:Op}{ty:TypeId}{pos:String}{aft:Array Edge}{d:D}
theorem PT.apI {s' m:Nat}{o:Option Nat}{k:Blk}(hm:zcz base hs H=H)(hs':base+s=s')(hv:Ap E.P H s' n a op m o k)(hH:(killO H o).set s' k=H')(h:PT E ops base pl r n ((i,.ms s' 0 m m)::a) H' K):PT E ops base ((s,hs)::pl) (⟨some i,op,ty,pos,aft,none⟩::r) n a H K:=
 PT.ap hs' (by rw[hm];exact hv) hH h
end
theorem zcV {H:List Blk}{T T':List Blk}{i:Nat}{k:Blk}{b:Nat}(hb:H.length=b)(h:T.set i k=T'):(H++T).set (b+i) k=H++T':=by
 subst hb;subst h
 rw[zal _ _ (by omega)];congr 2;omega
theorem ze0 {H:List Blk}{T T':List Blk}{i q b:Nat}{k:Blk}(hq:q < H.length)(hb:H.length=b)(h:T.set i k=T'):(killO (H++T) (some q)).set (b+i) k=H.set q .dead++T':=by
 rw[killO,zD _ _ hq]
 exact zcV (by rw[zE,hb]) h
theorem zdB (H T:List Blk)(x:Blk):(H++(T++[x])).dropLast=H++T:=by
 rw[←zT,List.dropLast_concat]
end Go.DL
/- Walks of regions that draw their order, where calls leave own blocks and appends claim what they take. -/
namespace Go.DL
open Go.RowKit Go.Proofs
noncomputable section
def shw (base:Nat)(ws:List (Option Nat)):List (Option Nat):=ws.map (Option.map (base+·))
theorem shw_get (base:Nat)(ws:List (Option Nat))(k:Nat):(shw base ws).getD k none=(ws.getD k none).map (base+·):=by
 simp only[shw,zc,zl]
 cases ws[k]? <;> rfl
theorem zeD (ops:List Oper)(base i:Nat):zds ops base i=base+zds ops 0 i:=by simp[zds]
theorem hidQ_shift (ops:List Oper)(an:List (List Nat))(ws:List (Option Nat))(base i:Nat):hidQ ops an (shw base ws) base i=(hidQ ops an ws 0 i).map (base+·):=by
 unfold hidQ
 rw[zW,List.map_filterMap,List.map_filterMap]
 congr 1
 ·congr 1;funext k
  split
  ·split<;>simp
  ·rfl
 ·congr 1;funext k
  rw[shw_get]
  split<;>simp
theorem maskL_shift (base:Nat):∀(hs:List Nat) (H:List Blk),zcz 0 (hs.map (base+·)) H=zcz base hs H
 |[],_=>rfl
 |s::hs,H=>by
  have h:=maskL_shift base hs (H.set (base+s) .free)
  simp only[zcz,zy,List.foldl_cons,zQ] at h ⊢
  exact h
theorem bneS (base x b:Nat):(base+x != base+b)=(x != b):=by
 rw[zbB,bne_iff_ne,bne_iff_ne];omega
theorem bneO (base x b:Nat):(some (base+x) != some (base+b))=(some x != some b):=by
 rw[zbB,bne_iff_ne,bne_iff_ne]
 constructor
 ·intro h e;cases e;exact h rfl
 ·intro h e
  have e':base+x=base+b:=zbl e
  exact h (by rw[show x=b by omega])
theorem indepQ_shift (ops:List Oper)(an:List (List Nat))(ws:List (Option Nat))(base j i:Nat):indepQ ops an (shw base ws) base j i=indepQ ops an ws 0 j i:=by
 unfold indepQ
 cases ops[j]? with
 |none=>rfl
 |some p=>
  cases ops[i]? with
  |none=>rfl
  |some o=>
   simp only
   rw[shw_get,shw_get,zeD ops base j,zeD ops base i]
   generalize ws.getD j none=wj
   generalize ws.getD i none=wi
   cases wj<;>cases wi<;>simp only[zq,zbc,bneS,bneO]<;>first|done|rfl
theorem drawQ_shift (ops:List Oper)(ws:List (Option Nat))(base:Nat):drawQ ops (shw base ws) base=drawQ ops ws 0:=by
 unfold drawQ
 simp only[indepQ_shift]
abbrev PlQ:=List (Nat × List Nat × Option Nat)
def planQ (ops:List Oper)(ws:List (Option Nat)):PlQ:=(List.range ops.length).map fun i=>(zds ops 0 i,hidQ ops (ancs ops []) ws 0 i,ws.getD i none)
def planP (P:Program)(ops:List Oper)(base:Nat):PlQ→List Oper→List D→List Blk→TH→Prop
 |(s,hs,w)::pl,o::l,t,H,K=>∃d e,ActsQ P ops o (base+s) t (zcz base hs H) d e∧zfc e (zdu o) (w.map (base+·))=true∧planP P ops base pl l (setT t o.dst d) (e.app H (base+s)) K
 |_,_,t,H,K=>K t H
theorem planP_run {P:Program}{ops:List Oper}{ws:List (Option Nat)}{base:Nat}{K:TH}:∀(m i:Nat) (st:St),i+m=ops.length→planP P ops base ((planQ ops ws).drop i) (ops.drop i) st.t st.H K→
  ∃stf,RunQ P ops (ancs ops []) (shw base ws) base (List.range' i m) st stf∧stf.ds=st.ds∧stf.g=st.g∧K stf.t stf.H
 |0,i,st,hi,h=>by
  have h1:ops.drop i=[]:=zab (by omega)
  have h2:(planQ ops ws).drop i=[]:=zab (by simp[planQ];omega)
  rw[h1,h2] at h
  exact⟨st,rfl,rfl,rfl,h⟩
 |m+1,i,st,hi,h=>by
  have hlt:i < ops.length:=by omega
  have hlt2:i < (planQ ops ws).length:=by simp[planQ];omega
  rw[zO hlt,zO hlt2] at h
  have hg:(planQ ops ws)[i]=(zds ops 0 i,hidQ ops (ancs ops []) ws 0 i,ws.getD i none):=by simp[planQ]
  rw[hg] at h
  obtain⟨d,e,h1,h2,h3⟩:=h
  obtain⟨stf,r1,r2,r3,r4⟩:=planP_run m (i+1) { t:=setT st.t ops[i].dst d,H:=e.app st.H (base+zds ops 0 i),ds:=st.ds,g:=st.g } (by omega) h3
  refine⟨stf,?_,r2,r3,r4⟩
  rw[List.range'_succ]
  refine⟨_,⟨ops[i],d,e,zb hlt,?_,?_,rfl⟩,?_⟩
  ·rw[hidQ_shift,maskL_shift,zeD];exact h1
  ·rw[shw_get];exact h2
  ·rw[zeD];exact r1
structure QT (E:Ev)(ops:List Oper)(base:Nat)(pl:PlQ)(l:List Oper)(n:Nat)(a:AL)(H:List Blk)(K:KP):Prop where
 out:planP E.P ops base pl l (T n a) H fun t H=>∃a',t=T n a'∧K a' H
section
variable {E:Ev}{ops r:List Oper}{base s:Nat}{hs:List Nat}{w:Option Nat}{pl:PlQ}{n:Nat}{a:AL}{H H':List Blk}{K:KP}{i:Tmp}{op:Op}{ty:TypeId}{pos:String}{aft:Array Edge}{d:D}
theorem QT.nil (h:K a H):QT E ops base pl [] n a H K:=by
 refine⟨?_⟩
 cases pl with
 |nil=>exact⟨a,rfl,h⟩
 |cons x pl=>exact⟨a,rfl,h⟩
theorem QT.done {Q:KX}{g:Gst}(hH:H.dropLast=H')(h:Q .normal a H' g):QT E ops base pl [] n a H (KD Q g):=by
 subst hH;exact QT.nil h
theorem QT.stepG {o:Oper}{d:D}{e:Eff}(hg:o.guard=none)(hs':zcp E.P (zcz base hs H) (base+s) (T n a) o.op=some (d,e))(hk:zfc e (zdu o) (w.map (base+·))=true)(h:QT E ops base pl r n (setA o.dst d a) (e.app H (base+s)) K):QT E ops base ((s,hs,w)::pl) (o::r) n a H K:=by
 refine⟨d,e,?_,hk,?_⟩
 ·unfold ActsQ
  simp only[hg]
  unfold goQ
  split
  ·rename_i f args tys hop;rw[hop] at hs';cases hs'
  ·exact hs'
 ·rw[zej];exact h.out
theorem QT.v (hv:Val E.P (zcz base hs H) (base+s) n a op d)(h:QT E ops base pl r n ((i,d)::a) H K):QT E ops base ((s,hs,w)::pl) (⟨some i,op,ty,pos,aft,none⟩::r) n a H K:=QT.stepG (e:=.keep) rfl hv.out rfl h
theorem QT.vI (hm:zcz base hs H=H)(hv:Val E.P H (base+s) n a op d)(h:QT E ops base pl r n ((i,d)::a) H K):QT E ops base ((s,hs,w)::pl) (⟨some i,op,ty,pos,aft,none⟩::r) n a H K:=QT.v (by rw[hm];exact hv) h
theorem QT.newI {k:Blk}{s':Nat}(hm:zcz base hs H=H)(hn:zdu ⟨some i,op,ty,pos,aft,none⟩=true)(hs':base+s=s')(hv:Mk E.P H s' n a op d k)(hH:H.set s' k=H')(h:QT E ops base pl r n ((i,d)::a) H' K):QT E ops base ((s,hs,w)::pl) (⟨some i,op,ty,pos,aft,none⟩::r) n a H K:=by
 subst hs';subst hH;exact QT.stepG (e:=.put k) rfl (by rw[hm];exact hv.out) hn h
theorem QT.wrI {q:Nat}{k:Blk}(hm:zcz base hs H=H)(hn:zdu ⟨none,op,ty,pos,aft,none⟩=true)(hv:Wr E.P H (base+s) n a op (base+q) k)(hH:H.set (base+q) k=H')(h:QT E ops base pl r n a H' K):QT E ops base ((s,hs,some q)::pl) (⟨none,op,ty,pos,aft,none⟩::r) n a H K:=by
 subst hH;exact QT.stepG (e:=.upd (base+q) k) rfl (by rw[hm];exact hv.out) (by simp[zfc,hn]) h
theorem QT.apI {s' q m:Nat}{k:Blk}(hm:zcz base hs H=H)(hn:zdu ⟨some i,op,ty,pos,aft,none⟩=true)(hs':base+s=s')(hv:Ap E.P H s' n a op m (some (base+q)) k)(hH:(killO H (some (base+q))).set s' k=H')(h:QT E ops base pl r n ((i,.ms s' 0 m m)::a) H' K):QT E ops base ((s,hs,some q)::pl) (⟨some i,op,ty,pos,aft,none⟩::r) n a H K:=by
 subst hs';subst hH;exact QT.stepG (e:=.ren (some (base+q)) k) rfl (by rw[hm];exact hv.out) (by simp[zfc,hn]) h
theorem QT.apN {s' m:Nat}{k:Blk}(hm:zcz base hs H=H)(hn:zdu ⟨some i,op,ty,pos,aft,none⟩=true)(hs':base+s=s')(hv:Ap E.P H s' n a op m none k)(hH:H.set s' k=H')(h:QT E ops base pl r n ((i,.ms s' 0 m m)::a) H' K):QT E ops base ((s,hs,w)::pl) (⟨some i,op,ty,pos,aft,none⟩::r) n a H K:=by
 subst hs';subst hH;exact QT.stepG (e:=.ren none k) rfl (by rw[hm];exact hv.out) (by simp[zfc,hn]) h
theorem QT.callMI {dst:Option Tmp}{f:Operand}{args:List Operand}{tys:Array TypeId}{f':FuncId}{xs ys:List D}(hm0:zcz base hs H=H)(hc:callA n a f args=some (f',xs))
  (hm:Maps E.P f' ys d) (hy:xs.map (snap (fun b=>H[b]?) 5)=ys) (hd:zeu 5 d=true) (h:QT E ops base pl r n (setA dst d a) H K):
  QT E ops base ((s,hs,w)::pl) (⟨dst,.call { callee:=.value f,args:=args.toArray,argTypes:=tys },ty,pos,aft,none⟩::r) n a H K:=by
 have hc':zd0 (T n a) f args=some (f',xs):=callD_T.trans hc
 refine⟨d,.keep,?_,rfl,?_⟩
 ·unfold ActsQ
  simp only
  unfold goQ
  simp only[hc',hm0]
  exact .inl ⟨by rw[hy];exact hm,hd,trivial⟩
 ·rw[zej];exact h.out
theorem QT.callAt {f:Operand}{args:List Operand}{tys:Array TypeId}{f':FuncId}{xs:List D}{x:Blk}{s':Nat}(hm0:zcz base hs H=H)(hc:callA n a f args=some (f',xs))(hs':base+s=s')
  (hat:CallAt E.P f' xs H s' d x) (hH:H.set s' x=H') (h:QT E ops base pl r n ((i,d)::a) H' K):
  QT E ops base ((s,hs,w)::pl) (⟨some i,.call { callee:=.value f,args:=args.toArray,argTypes:=tys },ty,pos,aft,none⟩::r) n a H K:=by
 subst hs';subst hH
 have hc':zd0 (T n a) f args=some (f',xs):=callD_T.trans hc
 refine⟨d,.put x,?_,?_,?_⟩
 ·unfold ActsQ
  simp only
  unfold goQ
  simp only[hc',hm0]
  exact .inr ⟨x,rfl,hat⟩
 ·simp[zfc,zdu,isCallV]
 ·rw[zej];exact h.out
end
section
variable {E:Ev}{n:Nat}{a:AL}{H:List Blk}{g:Gst}{c:Code}{Q:KX}
theorem VT.drawQ (ws:List (Option Nat))(pl:PlQ)(k:Nat){l:List Oper}{base:Nat}{H1:List Blk}(hm:E.P.follows .mixedOrders=true)(hc:regC c=some (true,l.toArray))(hd:drawQ l ws 0=true)(hp:planQ l ws=pl)(hk:zeb l+1=k)(hb:H.length=base)
  (hH:H++List.replicate k .free=H1) (h:QT E l base pl l n a H1 (KD Q g)):VT E c n a H g Q:=by
 subst hk;subst hb;subst hH;subst hp
 cases c with
 |region id ops d=>
  cases hc
  refine⟨fun ro G hE ds=>?_⟩
  obtain⟨stf,h1,h2,h3,a',h4,h5⟩:=planP_run (P:=E.P) (ops:=l) (ws:=ws) (base:=H.length) (K:=fun t H=>∃a',t=T n a'∧KD Q g a' H) l.length 0 { t:=T n a,H:=H++List.replicate (zeb l+1) .free,ds:=ds,g:=g } (by omega) (by simpa using h.out)
  rw[←za7] at h1
  refine Sp_drawQ hE.st hE.yk hm (shw H.length ws) (by rw[drawQ_shift];exact hd) h1 ?_
  simp only at h2 h3 h4
  exact⟨a',h4,by rw[h3];exact h5⟩
 |_=>cases hc
end
theorem f_sl3O {P:Program}{H:List Blk}{s n:Nat}{al:AL}{x y z:Operand}{tx te:TypeId}{a:Int}{bk len cap sz k:Nat}{es:List (List D)}(hx:evA n al x=.ms bk 0 len cap)(hy:evA n al y=wI a)(hz:evA n al z=wI a)(hn:a=k)(hk:k≤len)(hc:len≤cap)
  (he:zc3 P tx=some (te,sz)) (hb:H[bk]? = some (.live sz es)):Val P H s n al (.slice tx x none (some y) (some z)) (.ms bk 0 k k):=by
 subst hn
 refine⟨?_⟩
 simp only[zcp,zc7,sliceD,he,hx,unfl,zbc,zq,hy,hz,bndD,intD,za3,zby,reduceCtorEq,false_and,and_false,if_false]
 rw[if_pos ⟨by simp[zcZ,hb],by omega,by omega,by omega,by omega⟩]
 simp[zcQ]
theorem snapWt {lk:Nat→Option Blk}{b m cap k:Nat}{o:List Int}(h:lk b=some (.live 1 (o.map eI)))(hm:m≤o.length):snap lk (k+1) (.ms b 0 m cap)=.sl ((o.take m).map eI):=by
 simp only[snap,h,zQ,ze,hm,if_true,zS]
 rw[←zbs,eI_map _ _ fun x=>by cases k<;>rfl]
theorem VT.retA {E:Ev}{n:Nat}{a a':AL}{H:List Blk}{g:Gst}{c:Code}{Q:KX}(hc:isRetC c=true)(hd:Hd n a a')(h:Q .ret a' H g):VT E c n a H g Q:=VT.forget a' H (Wk.keep hd) (zb7 hc h)
theorem QT.new {E:Ev}{ops r:List Oper}{base s:Nat}{hs:List Nat}{w:Option Nat}{pl:PlQ}{n:Nat}{a:AL}{H H':List Blk}{K:KP}{i:Tmp}{op:Op}{ty:TypeId}{pos:String}{aft:Array Edge}{d:D}{k:Blk}{s':Nat}(hn:zdu ⟨some i,op,ty,pos,aft,none⟩=true)(hs':base+s=s')(hv:Mk E.P (zcz base hs H) s' n a op d k)(hH:H.set s' k=H')(h:QT E ops base pl r n ((i,d)::a) H' K):QT E ops base ((s,hs,w)::pl) (⟨some i,op,ty,pos,aft,none⟩::r) n a H K:=by
 subst hs';subst hH;exact QT.stepG (e:=.put k) rfl hv.out hn h
theorem killSet {H T T' T'':List Blk}{i j b:Nat}{k:Blk}(hb:H.length=b)(h1:T.set i .dead=T')(h2:T'.set j k=T''):(killO (H++T) (some (b+i))).set (b+j) k=H++T'':=by
 rw[killO,zcV hb h1,zcV hb h2]
theorem snap2 {lk:Nat→Option Blk}{x y x' y':D}(h1:snap lk 5 x=x')(h2:snap lk 5 y=y'):[x,y].map (snap lk 5)=[x',y']:=by
 rw[zy,zy,z8,h1,h2]
end
end Go.DL
/- Walks of regions that draw their order, where operations claim blocks of the region and blocks that were there before. -/
namespace Go.DL
open Go.RowKit Go.Proofs
noncomputable section
def rho (ab:List Nat)(base i:Nat):Nat:=ab.getD i (base+(i-ab.length))
theorem rhX {p:Prop}(h:p:=by first|(simp[rho,-List.length_eq_zero_iff];done)|(simp[rho,-List.length_eq_zero_iff];omega)):p:=h
theorem rho_ge (ab:List Nat)(base s:Nat):rho ab base (ab.length+s)=base+s:=by
 rw[rho,zc,zs (by omega)]
 simp
theorem rho_inj {ab:List Nat}{base:Nat}(hl:∀b,b∈ab→b < base)(hn:ab.Nodup){i j:Nat}(h:rho ab base i=rho ab base j):i=j:=by
 unfold rho at h
 simp only[zc] at h
 by_cases hi:i < ab.length
 ·rw[zb hi] at h
  by_cases hj:j < ab.length
  ·rw[zb hj] at h
   exact (List.getElem_inj hn).1 h
  ·rw[zs (zbI hj)] at h
   have:=hl ab[i] (zi hi)
   simp at h;omega
 ·rw[zs (zbI hi)] at h
  by_cases hj:j < ab.length
  ·rw[zb hj] at h
   have:=hl ab[j] (zi hj)
   simp at h;omega
  ·rw[zs (zbI hj)] at h
   simp at h;omega
section
variable (ab:List Nat)(base:Nat)
def shR (ws:List (Option Nat)):List (Option Nat):=ws.map (Option.map (rho ab base))
theorem shR_get (ws:List (Option Nat))(k:Nat):(shR ab base ws).getD k none=(ws.getD k none).map (rho ab base):=by
 simp only[shR,zc,zl]
 cases ws[k]? <;> rfl
theorem slotR (ops:List Oper)(i:Nat):zds ops base i=rho ab base (zds ops ab.length i):=by
 rw[zeD ops ab.length,rho_ge,←zeD]
theorem hidR (ops:List Oper)(an:List (List Nat))(ws:List (Option Nat))(i:Nat):hidQ ops an (shR ab base ws) base i=(hidQ ops an ws ab.length i).map (rho ab base):=by
 unfold hidQ
 rw[zW,List.map_filterMap,List.map_filterMap]
 congr 1
 ·congr 1;funext k
  split
  ·split
   ·simp[rho_ge]
   ·rfl
  ·rfl
 ·congr 1;funext k
  rw[shR_get]
  split<;>simp
end
theorem indepR {ab:List Nat}{base:Nat}(hi:∀i j,rho ab base i=rho ab base j→i=j)(ops:List Oper)(an:List (List Nat))(ws:List (Option Nat))(j i:Nat):indepQ ops an (shR ab base ws) base j i=indepQ ops an ws ab.length j i:=by
 have b1:∀x y,(rho ab base x != rho ab base y)=(x != y):=fun x y=>by
  rw[zbB,bne_iff_ne,bne_iff_ne]
  exact⟨fun h e=>h (by rw[e]),fun h e=>h (hi _ _ e)⟩
 have b2:∀x y,(some (rho ab base x) != some (rho ab base y))=(some x != some y):=fun x y=>by
  rw[zbB,bne_iff_ne,bne_iff_ne]
  exact⟨fun h e=>h (by cases e;rfl),fun h e=>h (by rw[hi _ _ (zbl e)])⟩
 unfold indepQ
 cases ops[j]? with
 |none=>rfl
 |some p=>
  cases ops[i]? with
  |none=>rfl
  |some o=>
   simp only
   rw[shR_get,shR_get,slotR ab base ops j,slotR ab base ops i]
   generalize ws.getD j none=wj
   generalize ws.getD i none=wi
   cases wj<;>cases wi<;>simp only[zq,zbc,b1,b2]<;>first|done|rfl
theorem drawR {ab:List Nat}{base:Nat}(hi:∀i j,rho ab base i=rho ab base j→i=j)(ops:List Oper)(ws:List (Option Nat)):drawQ ops (shR ab base ws) base=drawQ ops ws ab.length:=by
 unfold drawQ
 simp only[indepR hi]
def planR' (ops:List Oper)(ws:List (Option Nat))(a:Nat):PlQ:=(List.range ops.length).map fun i=>(zds ops 0 i,hidQ ops (ancs ops []) ws a i,ws.getD i none)
def planS (P:Program)(ops:List Oper)(ab:List Nat)(base:Nat):PlQ→List Oper→List D→List Blk→TH→Prop
 |(s,hs,w)::pl,o::l,t,H,K=>∃d e,ActsQ P ops o (base+s) t (zcz 0 (hs.map (rho ab base)) H) d e∧zfc e (zdu o) (w.map (rho ab base))=true∧planS P ops ab base pl l (setT t o.dst d) (e.app H (base+s)) K
 |_,_,t,H,K=>K t H
theorem planS_run {P:Program}{ops:List Oper}{ws:List (Option Nat)}{ab:List Nat}{base:Nat}{K:TH}:∀(m i:Nat) (st:St),i+m=ops.length→planS P ops ab base ((planR' ops ws ab.length).drop i) (ops.drop i) st.t st.H K→
  ∃stf,RunQ P ops (ancs ops []) (shR ab base ws) base (List.range' i m) st stf∧stf.ds=st.ds∧stf.g=st.g∧K stf.t stf.H
 |0,i,st,hi,h=>by
  have h1:ops.drop i=[]:=zab (by omega)
  have h2:(planR' ops ws ab.length).drop i=[]:=zab (by simp[planR'];omega)
  rw[h1,h2] at h
  exact⟨st,rfl,rfl,rfl,h⟩
 |m+1,i,st,hi,h=>by
  have hlt:i < ops.length:=by omega
  have hlt2:i < (planR' ops ws ab.length).length:=by simp[planR'];omega
  rw[zO hlt,zO hlt2] at h
  have hg:(planR' ops ws ab.length)[i]=(zds ops 0 i,hidQ ops (ancs ops []) ws ab.length i,ws.getD i none):=by simp[planR']
  rw[hg] at h
  obtain⟨d,e,h1,h2,h3⟩:=h
  obtain⟨stf,r1,r2,r3,r4⟩:=planS_run m (i+1) { t:=setT st.t ops[i].dst d,H:=e.app st.H (base+zds ops 0 i),ds:=st.ds,g:=st.g } (by omega) h3
  refine⟨stf,?_,r2,r3,r4⟩
  rw[List.range'_succ]
  refine⟨_,⟨ops[i],d,e,zb hlt,?_,?_,rfl⟩,?_⟩
  ·rw[hidR,zeD];exact h1
  ·rw[shR_get];exact h2
  ·rw[zeD];exact r1
structure ST (E:Ev)(ops:List Oper)(ab:List Nat)(base:Nat)(pl:PlQ)(l:List Oper)(n:Nat)(a:AL)(H:List Blk)(K:KP):Prop where
 out:planS E.P ops ab base pl l (T n a) H fun t H=>∃a',t=T n a'∧K a' H
section
variable {E:Ev}{ops r:List Oper}{ab:List Nat}{base s:Nat}{hs:List Nat}{w:Option Nat}{pl:PlQ}{n:Nat}{a:AL}{H H':List Blk}{K:KP}{i:Tmp}{op:Op}{ty:TypeId}{pos:String}{aft:Array Edge}{d:D}
theorem ST.nil (h:K a H):ST E ops ab base pl [] n a H K:=by
 refine⟨?_⟩
 cases pl with
 |nil=>exact⟨a,rfl,h⟩
 |cons x pl=>exact⟨a,rfl,h⟩
theorem zeC {Q:KX}{g:Gst}(hH:H.dropLast=H')(h:Q .normal a H' g):ST E ops ab base pl [] n a H (KD Q g):=by
 subst hH;exact ST.nil h
theorem ST.stepG {o:Oper}{d:D}{e:Eff}(hg:o.guard=none)(hs':zcp E.P (zcz 0 (hs.map (rho ab base)) H) (base+s) (T n a) o.op=some (d,e))(hk:zfc e (zdu o) (w.map (rho ab base))=true)(h:ST E ops ab base pl r n (setA o.dst d a) (e.app H (base+s)) K):ST E ops ab base ((s,hs,w)::pl) (o::r) n a H K:=by
 refine⟨d,e,?_,hk,?_⟩
 ·unfold ActsQ
  simp only[hg]
  unfold goQ
  split
  ·rename_i f args tys hop;rw[hop] at hs';cases hs'
  ·exact hs'
 ·rw[zej];exact h.out
theorem zdA (hv:Val E.P (zcz 0 (hs.map (rho ab base)) H) (base+s) n a op d)(h:ST E ops ab base pl r n ((i,d)::a) H K):ST E ops ab base ((s,hs,w)::pl) (⟨some i,op,ty,pos,aft,none⟩::r) n a H K:=ST.stepG (e:=.keep) rfl hv.out rfl h
theorem ST.new {k:Blk}{s':Nat}(hn:zdu ⟨some i,op,ty,pos,aft,none⟩=true)(hs':base+s=s')(hv:Mk E.P (zcz 0 (hs.map (rho ab base)) H) s' n a op d k)(hH:H.set s' k=H')(h:ST E ops ab base pl r n ((i,d)::a) H' K):ST E ops ab base ((s,hs,w)::pl) (⟨some i,op,ty,pos,aft,none⟩::r) n a H K:=by
 subst hs';subst hH;exact ST.stepG (e:=.put k) rfl hv.out hn h
theorem ST.wr {b q:Nat}{k:Blk}(hb:rho ab base q=b)(hn:zdu ⟨none,op,ty,pos,aft,none⟩=true)(hv:Wr E.P (zcz 0 (hs.map (rho ab base)) H) (base+s) n a op b k)(hH:H.set b k=H')(h:ST E ops ab base pl r n a H' K):ST E ops ab base ((s,hs,some q)::pl) (⟨none,op,ty,pos,aft,none⟩::r) n a H K:=by
 subst hH;subst hb;exact ST.stepG (e:=.upd (rho ab base q) k) rfl hv.out (by simp[zfc,hn]) h
theorem ST.ap {s' b q m:Nat}{k:Blk}(hb:rho ab base q=b)(hn:zdu ⟨some i,op,ty,pos,aft,none⟩=true)(hs':base+s=s')(hv:Ap E.P (zcz 0 (hs.map (rho ab base)) H) s' n a op m (some b) k)(hH:(killO H (some b)).set s' k=H')(h:ST E ops ab base pl r n ((i,.ms s' 0 m m)::a) H' K):ST E ops ab base ((s,hs,some q)::pl) (⟨some i,op,ty,pos,aft,none⟩::r) n a H K:=by
 subst hs';subst hH;subst hb;exact ST.stepG (e:=.ren (some (rho ab base q)) k) rfl hv.out (by simp[zfc,hn]) h
theorem ST.apN {s' m:Nat}{k:Blk}(hn:zdu ⟨some i,op,ty,pos,aft,none⟩=true)(hs':base+s=s')(hv:Ap E.P (zcz 0 (hs.map (rho ab base)) H) s' n a op m none k)(hH:H.set s' k=H')(h:ST E ops ab base pl r n ((i,.ms s' 0 m m)::a) H' K):ST E ops ab base ((s,hs,w)::pl) (⟨some i,op,ty,pos,aft,none⟩::r) n a H K:=by
 subst hs';subst hH;exact ST.stepG (e:=.ren none k) rfl hv.out (by simp[zfc,hn]) h
theorem ST.callM {dst:Option Tmp}{f:Operand}{args:List Operand}{tys:Array TypeId}{f':FuncId}{xs ys:List D}(hc:callA n a f args=some (f',xs))
  (hm:Maps E.P f' ys d) (hy:xs.map (snap (fun b=>(zcz 0 (hs.map (rho ab base)) H)[b]?) 5)=ys) (hd:zeu 5 d=true) (h:ST E ops ab base pl r n (setA dst d a) H K):
  ST E ops ab base ((s,hs,w)::pl) (⟨dst,.call { callee:=.value f,args:=args.toArray,argTypes:=tys },ty,pos,aft,none⟩::r) n a H K:=by
 have hc':zd0 (T n a) f args=some (f',xs):=callD_T.trans hc
 refine⟨d,.keep,?_,rfl,?_⟩
 ·unfold ActsQ
  simp only
  unfold goQ
  simp only[hc']
  exact .inl ⟨by rw[hy];exact hm,hd,trivial⟩
 ·rw[zej];exact h.out
theorem ST.callAt {f:Operand}{args:List Operand}{tys:Array TypeId}{f':FuncId}{xs:List D}{x:Blk}{s':Nat}(hc:callA n a f args=some (f',xs))(hs':base+s=s')
  (hat:CallAt E.P f' xs (zcz 0 (hs.map (rho ab base)) H) s' d x) (hH:H.set s' x=H') (h:ST E ops ab base pl r n ((i,d)::a) H' K):
  ST E ops ab base ((s,hs,w)::pl) (⟨some i,.call { callee:=.value f,args:=args.toArray,argTypes:=tys },ty,pos,aft,none⟩::r) n a H K:=by
 subst hs';subst hH
 have hc':zd0 (T n a) f args=some (f',xs):=callD_T.trans hc
 refine⟨d,.put x,?_,?_,?_⟩
 ·unfold ActsQ
  simp only
  unfold goQ
  simp only[hc']
  exact .inr ⟨x,rfl,hat⟩
 ·simp[zfc,zdu,isCallV]
 ·rw[zej];exact h.out
end
theorem mskR {ab:List Nat}{base b:Nat}{hs:List Nat}{H:List Blk}{x:Blk}(h:H[b]? = some x)(hn:∀i,i∈hs→rho ab base i≠b):(zcz 0 (hs.map (rho ab base)) H)[b]? = some x:=by
 rw[maskL_get,if_neg,h]
 rintro⟨⟨c,hc,hb⟩,_⟩
 obtain⟨i,hi,rfl⟩:=zt.1 hc
 exact hn i hi (by omega)
section
variable {E:Ev}{n:Nat}{a:AL}{H:List Blk}{g:Gst}{c:Code}{Q:KX}
theorem zd9 (ab:List Nat)(na:Nat)(ws:List (Option Nat))(pl:PlQ)(k:Nat){l:List Oper}{base:Nat}{H1:List Blk}(hna:ab.length=na)(hl:∀b,b∈ab→b < base)(hn:ab.Nodup)(hm:E.P.follows .mixedOrders=true)(hc:regC c=some (true,l.toArray))(hd:Go.DL.drawQ l ws na=true)(hp:planR' l ws na=pl)(hk:zeb l+1=k)(hb:H.length=base)
  (hH:H++List.replicate k .free=H1) (h:ST E l ab base pl l n a H1 (KD Q g)):VT E c n a H g Q:=by
 subst hk;subst hb;subst hH;subst hna;subst hp
 cases c with
 |region id ops d=>
  cases hc
  refine⟨fun ro G hE ds=>?_⟩
  obtain⟨stf,h1,h2,h3,a',h4,h5⟩:=planS_run (P:=E.P) (ops:=l) (ws:=ws) (ab:=ab) (base:=H.length) (K:=fun t H=>∃a',t=T n a'∧KD Q g a' H) l.length 0 { t:=T n a,H:=H++List.replicate (zeb l+1) .free,ds:=ds,g:=g } (by omega) (by simpa using h.out)
  rw[←za7] at h1
  refine Sp_drawQ hE.st hE.yk hm (shR ab H.length ws) (by rw[drawR fun i j=>rho_inj hl hn];exact hd) h1 ?_
  simp only at h2 h3 h4
  exact⟨a',h4,by rw[h3];exact h5⟩
 |_=>cases hc
end
end
end Go.DL
/- The steps of walks in drawn regions with claims, with what may be said of the operations as automatic arguments. -/
namespace Go.DL
open Go.RowKit Go.Proofs
noncomputable section
section
variable {E:Ev}{ops r l:List Oper}{ab:List Nat}{base s:Nat}{hs:List Nat}{cw:Option Nat}{pl:PlQ}{n:Nat}{a:AL}{H H':List Blk}{K:KP}{dst:Option Tmp}{i:Tmp}{op:Op}{x y z:Operand}{tx ty ty':TypeId}{pos:String}{aft:Array Edge}{f:Nat}{bo:BinOp}{uo:UnOp}{cl:Call}{d:D}
theorem ST.mvA (h:ST E ops ab base pl r n ((i,d)::a) H K)(hv:Val E.P (zcz 0 (hs.map (rho ab base)) H) (base+s) n a (.move x) d:=by exact tX8):ST E ops ab base ((s,hs,cw)::pl) (⟨some i,.move x,ty,pos,aft,none⟩::r) n a H K:=zdA hv h
theorem ST.asA (h:ST E ops ab base pl r n ((i,d)::a) H K)(hv:Val E.P (zcz 0 (hs.map (rho ab base)) H) (base+s) n a (.assign x) d:=by exact tX9):ST E ops ab base ((s,hs,cw)::pl) (⟨some i,.assign x,ty,pos,aft,none⟩::r) n a H K:=zdA hv h
theorem ST.ldA (h:ST E ops ab base pl r n ((i,d)::a) H K)(hv:Val E.P (zcz 0 (hs.map (rho ab base)) H) (base+s) n a (.load tx x) d:=by exact tX3):ST E ops ab base ((s,hs,cw)::pl) (⟨some i,.load tx x,ty,pos,aft,none⟩::r) n a H K:=zdA hv h
theorem ST.faA (h:ST E ops ab base pl r n ((i,d)::a) H K)(hv:Val E.P (zcz 0 (hs.map (rho ab base)) H) (base+s) n a (.fieldAddr tx x f) d:=by exact tX2):ST E ops ab base ((s,hs,cw)::pl) (⟨some i,.fieldAddr tx x f,ty,pos,aft,none⟩::r) n a H K:=zdA hv h
theorem ST.bnA (h:ST E ops ab base pl r n ((i,d)::a) H K)(hv:Val E.P (zcz 0 (hs.map (rho ab base)) H) (base+s) n a (.binOp bo tx x y ty') d:=by exact tX4):ST E ops ab base ((s,hs,cw)::pl) (⟨some i,.binOp bo tx x y ty',ty,pos,aft,none⟩::r) n a H K:=zdA hv h
theorem ST.pkA (h:ST E ops ab base pl r n ((i,d)::a) H K)(hv:Val E.P (zcz 0 (hs.map (rho ab base)) H) (base+s) n a (.pick x y z) d:=by first|exact f_pickTV rfl rfl|exact f_pickFV rfl rfl):ST E ops ab base ((s,hs,cw)::pl) (⟨some i,.pick x y z,ty,pos,aft,none⟩::r) n a H K:=zdA hv h
theorem ST.exA (h:ST E ops ab base pl r n ((i,d)::a) H K)(hv:Val E.P (zcz 0 (hs.map (rho ab base)) H) (base+s) n a (.extract x f) d:=by exact f_ext rfl rfl):ST E ops ab base ((s,hs,cw)::pl) (⟨some i,.extract x f,ty,pos,aft,none⟩::r) n a H K:=zdA hv h
theorem ST.ixA (h:ST E ops ab base pl r n ((i,d)::a) H K)(hv:Val E.P (zcz 0 (hs.map (rho ab base)) H) (base+s) n a (.indexAddr tx x y) d:=by exact tX1):ST E ops ab base ((s,hs,cw)::pl) (⟨some i,.indexAddr tx x y,ty,pos,aft,none⟩::r) n a H K:=zdA hv h
theorem ST.unA (h:ST E ops ab base pl r n ((i,d)::a) H K)(hv:Val E.P (zcz 0 (hs.map (rho ab base)) H) (base+s) n a (.unOp uo tx x) d:=by exact tX16):ST E ops ab base ((s,hs,cw)::pl) (⟨some i,.unOp uo tx x,ty,pos,aft,none⟩::r) n a H K:=zdA hv h
theorem ST.clA (h:ST E ops ab base pl r n ((i,d)::a) H K)(hv:Val E.P (zcz 0 (hs.map (rho ab base)) H) (base+s) n a (.call cl) d:=by exact tX14):ST E ops ab base ((s,hs,cw)::pl) (⟨some i,.call cl,ty,pos,aft,none⟩::r) n a H K:=zdA hv h
theorem ST.msA (h:ST E ops ab base pl r n ((i,d)::a) H K)(hv:Val E.P (zcz 0 (hs.map (rho ab base)) H) (base+s) n a (op) d:=by exact tX6):ST E ops ab base ((s,hs,cw)::pl) (⟨some i,op,ty,pos,aft,none⟩::r) n a H K:=zdA hv h
theorem d_ST (h:ST E ops ab base pl l n a H K):ST E ops ab base pl l n a H K:=h
end
end
end Go.DL
/- Maps whose keys are words, as lists of pairs: a look, a write, their number. -/
set_option maxRecDepth 100000
namespace Go.DL
open Go.RowKit Go.Proofs
noncomputable section
abbrev KV:=List (Int × D)
abbrev kW (k:Int):Value:=.int .i64 k
def zeW:KV→Int→Option (Nat × D)
 |[],_=>none
 |p::r,k=>if p.1=k then some (0,p.2) else (zeW r k).map fun q=>(q.1+1,q.2)
def aget (kv:KV)(k:Int):Option D:=(zeW kv k).map (·.2)
def aset:KV→Int→D→KV
 |[],k,v=>[(k,v)]
 |p::r,k,v=>if p.1=k then (k,v)::r else p::aset r k v
def tabE:Nat→KV→List (Value × D × Nat)
 |_,[]=>[]
 |j,p::r=>(kW p.1,p.2,j)::tabE (j+1) r
def tabB (kv:KV):Blk:=.tab kv.length (tabE 0 kv)
theorem tabE_len:∀(kv:KV) (j:Nat),(tabE j kv).length=kv.length
 |[],_=>rfl
 |_::r,j=>by simp[tabE,tabE_len r]
theorem aget_set:∀(kv:KV) (k k':Int) (v:D),aget (aset kv k v) k'=if k'=k then some v else aget kv k'
 |[],k,k',v=>by
  by_cases h:k'=k
  ·subst h;simp[aset,aget,zeW]
  ·simp[aset,aget,zeW,h,Ne.symm h]
 |p::r,k,k',v=>by
  have ih:=aget_set r k k' v
  by_cases hp:p.1=k
  ·simp only[aset,if_pos hp]
   by_cases h:k'=k
   ·subst h;simp[aget,zeW]
   ·have h2:¬p.1=k':=fun e=>h (by rw[←e,hp])
    simp only[aget,zeW,if_neg (Ne.symm h),if_neg h,if_neg h2]
  ·simp only[aset,if_neg hp]
   by_cases h:p.1=k'
   ·have:¬k'=k:=fun e=>hp (h.trans e)
    simp[aget,zeW,h,this]
   ·simp only[aget,zeW,if_neg h,Option.map_map] at ih ⊢
    by_cases hk:k'=k
    ·rw[if_pos hk] at ih ⊢
     exact ih
    ·rw[if_neg hk] at ih ⊢
     exact ih
theorem aset_len:∀(kv:KV) (k:Int) (v:D),(aset kv k v).length=kv.length+(if (zeW kv k).isSome=true then 0 else 1)
 |[],_,_=>rfl
 |p::r,k,v=>by
  by_cases hp:p.1=k
  ·simp[aset,zeW,hp]
  ·have ih:=aset_len r k v
   simp only[aset,if_neg hp,z4,ih,zeW,Option.isSome_map]
   omega
theorem tabFind_E (k:Int):∀(kv:KV) (j i:Nat),tabFind (.int .i64) (kW k) (tabE j kv) i=some ((zeW kv k).map fun q=>(i+q.1,q.2))
 |[],_,_=>rfl
 |p::r,j,i=>by
  have hs:Instr.sameNow (.int .i64) (kW k) (kW p.1)=some (k==p.1):=by simp[Instr.sameNow]
  simp only[tabE,tabFind,hs]
  by_cases h:p.1=k
  ·subst h
   simp[zeW]
  ·have hb:(k==p.1)=false:=by simp;exact Ne.symm h
   simp only[hb,zeW,if_neg h,tabFind_E k r (j+1) (i+1),Option.map_map]
   congr 2
   funext q
   simp;omega
theorem tabE_mod (k:Int)(v:D):∀(kv:KV) (j q:Nat) (d:D),zeW kv k=some (q,d)→(tabE j kv).modify q (fun e=>(kW k,v,e.2.2))=tabE j (aset kv k v)
 |[],_,_,_,h=>by cases h
 |p::r,j,q,d,h=>by
  by_cases hp:p.1=k
  ·simp only[zeW,if_pos hp,zn,zz] at h
   obtain⟨rfl,_⟩:=h
   simp[tabE,aset,hp]
  ·simp only[zeW,if_neg hp,zd,zz,zaX] at h
   obtain⟨q',d',h1,rfl,rfl⟩:=h
   simp only[tabE,aset,if_neg hp,List.modify_succ_cons,tabE_mod k v r (j+1) q' d' h1]
theorem tabE_new (k:Int)(v:D):∀(kv:KV) (j:Nat),zeW kv k=none→tabE j kv++[(kW k,v,j+kv.length)]=tabE j (aset kv k v)
 |[],_,_=>rfl
 |p::r,j,h=>by
  have hp:¬p.1=k:=fun hp=>by simp[zeW,hp] at h
  simp only[zeW,if_neg hp,Option.map_eq_none_iff] at h
  simp only[tabE,aset,if_neg hp,List.cons_append,z4]
  rw[←tabE_new k v r (j+1) h,show j+(r.length+1)=j+1+r.length by omega]
section
variable {P:Program}{H:List Blk}{s n:Nat}{al:AL}{tx ty':TypeId}{x y z:Operand}{k:Int}{b:Nat}{kv:KV}{te:TypeId}
theorem f_mvM (hx:evA n al x=.mm b):Val P H s n al (.move x) (.mm b):=⟨by simp[zcp,zc7,hx]⟩
theorem f_asM (hx:evA n al x=.mm b):Val P H s n al (.assign x) (.mm b):=⟨by simp[zcp,zc7,hx]⟩
theorem f_mkmap:Mk P H s n al (.makeMap tx none) (.mm s) (tabB []):=⟨rfl⟩
theorem f_look {d:D}(hx:evA n al x=.mm b)(hy:evA n al y=wI k)(hb:H[b]? = some (tabB kv))(ht:mapT P tx=some (.int .i64,te))(hd:(aget kv k).orElse (fun _=>zvD P te)=some d):
  Val P H s n al (.lookup tx x y false) d:=by
 refine⟨?_⟩
 simp only[zcp,zc7,hx,hy,lookupD,ht,hb,tabB,tabFind_E k,aget] at hd ⊢
 cases hf:zeW kv k with
 |none=>rw[hf] at hd;simp at hd;simp[hd,zcQ]
 |some q=>rw[hf] at hd;simp at hd;simp[hd,zcQ]
theorem f_mupd {d:D}(hx:evA n al x=.mm b)(hy:evA n al y=wI k)(hz:evA n al z=d)(hb:H[b]? = some (tabB kv))(ht:mapT P tx=some (.int .i64,te)):
  Wr P H s n al (.mapUpdate tx x y z) b (tabB (aset kv k d)):=by
 subst hz
 refine⟨?_⟩
 have hl:=aset_len kv k (evA n al z)
 simp only[zcp,zc7,hx,hy,mapUpdD,ht,hb,tabB,tabFind_E k]
 cases hf:zeW kv k with
 |none=>
  have h1:=tabE_new k (evA n al z) kv 0 hf
  simp only[zQ] at h1
  simp only[hf,za3,zah,if_false] at hl
  simp[hl,h1]
 |some q=>
  have h1:=tabE_mod k (evA n al z) kv 0 q.1 q.2 hf
  simp only[hf,zby,if_true,za6] at hl
  simp[hl,h1]
end
theorem RT.lenM {E:Ev}{ops r:List Oper}{n:Nat}{a:AL}{H:List Blk}{g:Gst}{K:KA}{i:Tmp}{x:Operand}{t kt et ty:TypeId}{pos:String}{aft:Array Edge}{b:Nat}{kv:KV}(hx:evA n a x=.mm b)(hu:E.P.underlying t=some (.map kt et))
  (hb:H[b]? = some (tabB kv)) (h:RT E ops r n ((i,wI kv.length)::a) H g K):RT E ops (⟨some i,.call { callee:=.builtin .len,args:=#[x],argTypes:=#[t] },ty,pos,aft,none⟩::r) n a H g K:=by
 refine⟨fun ro G hE ds Q hQ ac w hr=>?_⟩
 unfold wpListIn
 rw[if_pos (by simp[Region.wanted])]
 obtain⟨A,φ,hr⟩:=hr
 have hv:=hr.tr.ev x
 rw[zc7,hx] at hv
 have hrun:(execOp ac.eval ⟨some i,.call { callee:=.builtin .len,args:=#[x],argTypes:=#[t] },ty,pos,aft,none⟩).run E.P w=.ok (.value (.int .i64 kv.length)) w:=by
  have h3:execOp ac.eval ⟨some i,.call { callee:=.builtin .len,args:=#[x],argTypes:=#[t] },ty,pos,aft,none⟩=(do pure (.value (←Builtin.len_ #[t] ty #[ac.eval x]))):=by
   simp only[execOp,resolve,invoke]
   simp[builtin]
  have h4:=run_lenTab (P:=E.P) (tx:=ty) hr hu hv hb
  rw[tabE_len] at h4
  rw[h3,Sem.run_bind,h4];rfl
 refine⟨fun _ _=>trivial,?_⟩
 rw[Oper.semAt_eq _ _ _ (by simp),hrun]
 have hr3:=hr.value (some i) (d:=wI kv.length) (x:=.int .i64 kv.length) (.v _ _)
 simp only[zej] at hr3
 exact h.out ro G hE ds Q hQ _ _ ⟨A,_,hr3⟩
end
end Go.DL
/- Steps over own blocks that are known by facts of the context. -/
namespace Go.DL
open Go.RowKit Go.Proofs
noncomputable section
section
variable {H T:List Blk}{i j:Nat}{x y:Blk}
theorem zcR (h:H[i]? = some x):i < H.length:=(za.1 h).1
theorem zcA (T:List Blk)(h:H[i]? = some x):(H++T)[i]? = some x:=by
 rw[zk (zcR h)];exact h
theorem zdv (h:H[i]? = some x)(hn:j≠i):(H.set j y)[i]? = some x:=by
 rw[zr hn];exact h
theorem hg_self (h:j < H.length):(H.set j y)[j]? = some y:=zp h
theorem hg_new:(H++x::T)[H.length]? = some x:=by
 rw[zu (zf _),zaT];rfl
theorem zdO {t l:Nat}(hl:H.length=l)(h:T[t]? = some x):(H++T)[l+t]? = some x:=by
 subst hl
 rw[zu (by omega)]
 rw[show H.length+t-H.length=t by omega];exact h
theorem tX12 {p:Prop}(h:p:=by first|assumption|omega|(simp only[zE,zw,z4,List.length_nil,ze,z7];omega)):p:=h
theorem hgX {p:Prop}(h:p:=by repeat (first|assumption|exact hg_new|exact zdO (by first|rfl|simp) rfl|exact hg_self tX12|refine zcA _ ?_|refine zdv ?_ (by first|assumption|omega)|refine mskR ?_ rhX)):p:=h
end
section
variable {P:Program}{H:List Blk}{s n:Nat}{al:AL}{tx:TypeId}{x y:Operand}{a:Int}
theorem f_ldWD {bk k:Nat}{o:List Int}(hx:evA n al x=.mp bk k 0)(hb:H[bk]? = some (.live 1 (o.map eI)))(hk:k < o.length)(ht:zdT P tx=some false):Val P H s n al (.load tx x) (wI (o.getD k 0)):=by
 have h:=f_ldW (s:=s) hx hb hk ht
 have e:o.getD k 0=o[k]:=by rw[zc,zb hk];rfl
 rw[e];exact h
theorem f_ldM {α:Type}{f:α→List D}{l:List α}{bk k fo sz:Nat}{rest:List D}{d:D}(hx:evA n al x=.mp bk k fo)(hb:H[bk]? = some (.live sz (l.map f)))(hk:k < l.length)(hd:(f l[k]).drop fo=d::rest)(ht:zdT P tx=some false):Val P H s n al (.load tx x) d:=
 zcB hx hb (by rw[zl,zb hk];rfl) hd ht
theorem f_ldMW {α:Type}{f:α→List D}{l:List α}{bk k sz m:Nat}(hx:evA n al x=.mp bk k 0)(hb:H[bk]? = some (.live sz (l.map f)))(hk:k < l.length)(ht:zdT P tx=some true)(hs:tsz P tx=some m)(hn:(f l[k]).length=m):Val P H s n al (.load tx x) (.agg (f l[k])):=
 zev hx hb (by rw[zl,zb hk];rfl) ht hs hn
theorem f_bslA1 {te:TypeId}{cs z:List D}{m:Nat}(hx:evA n al x=.agg cs)(he:zc3 P tx=some (te,m))(hz:zdC P te=some z)(hl:z.length=m)(hm:cs.length=m)(hc:cs.all isCell=true)(h0:0 < cs.length:=by exact Nat.succ_pos _)(h1:cs.length≤16777216:=by simp):Mk P H s n al (.buildSlice tx 1 #[(0,x)]) (.ms s 0 1 1) (.live m [cs]):=by
 subst hm
 refine f_bsl (ps:=[(0,x)]) ?_
 simp[zes,he,hz,hl,rowsD,hx,zcY,hc,h0,h1]
theorem f_bsl0 {te:TypeId}{z:List D}{m:Nat}(he:zc3 P tx=some (te,m))(hz:zdC P te=some z)(hl:z.length=m)(h0:0 < m:=by decide):Mk P H s n al (.buildSlice tx 0 #[]) (.ms s 0 0 0) (.live m []):=by
 refine f_bsl (ps:=[]) ?_
 simp[zes,he,hz,hl,rowsD,Nat.pos_iff_ne_zero.1 h0]
end
section
variable {E:Ev}{ops r:List Oper}{n:Nat}{a:AL}{H H':List Blk}{g:Gst}{K:KA}{dst:Option Tmp}{i:Tmp}{op:Op}{x y z:Operand}{tx ty ty':TypeId}{pos:String}{aft:Array Edge}{f:Nat}{d:D}
theorem RT.mvM (h:RT E ops r n ((i,d)::a) H g K)(hv:Val E.P H H.length n a (.move x) d:=by exact f_mvM rfl):RT E ops (⟨some i,.move x,ty,pos,aft,none⟩::r) n a H g K:=zb9 hv h
theorem RT.asM (h:RT E ops r n ((i,d)::a) H g K)(hv:Val E.P H H.length n a (.assign x) d:=by exact f_asM rfl):RT E ops (⟨some i,.assign x,ty,pos,aft,none⟩::r) n a H g K:=zb9 hv h
theorem zc1 (h:RT E ops r n ((i,d)::a) H g K)(hv:Val E.P H H.length n a (.load tx x) d:=by first|exact zcB rfl hgX rfl rfl rfl|exact zev rfl hgX rfl rfl rfl rfl|exact f_ldWD rfl hgX tX12 rfl|exact f_ldM rfl hgX tX12 rfl rfl|exact f_ldMW rfl hgX tX12 rfl rfl rfl):RT E ops (⟨some i,.load tx x,ty,pos,aft,none⟩::r) n a H g K:=zb9 hv h
theorem RT.ixH (h:RT E ops r n ((i,d)::a) H g K)(hv:Val E.P H H.length n a (.indexAddr tx x y) d:=by exact zct rfl rfl (by first|with_reducible exact castR _|with_reducible exact castS _|assumption|rfl|omega) hgX rfl tX12):RT E ops (⟨some i,.indexAddr tx x y,ty,pos,aft,none⟩::r) n a H g K:=zb9 hv h
theorem RT.lkH (h:RT E ops r n ((i,d)::a) H g K)(hv:Val E.P H H.length n a (.lookup tx x y false) d:=by exact f_look rfl rfl hgX rfl rfl):RT E ops (⟨some i,.lookup tx x y false,ty,pos,aft,none⟩::r) n a H g K:=zb9 hv h
theorem RT.stH {b:Nat}{k:Blk}(h:RT E ops r n a H' g K)(hv:Wr E.P H H.length n a (.store tx x y) b k:=by first|exact zeB rfl hgX tX12 rfl rfl|exact f_stV rfl hgX rfl rfl rfl rfl rfl|exact zdR rfl hgX rfl rfl rfl rfl rfl (by first|decide|exact zf _) rfl|exact f_st rfl hgX rfl rfl rfl rfl rfl rfl (by first|decide|exact zf _) rfl)(hH:H.set b k=H':=by rfl):RT E ops (⟨none,.store tx x y,ty,pos,aft,none⟩::r) n a H g K:=zdo hv hH h
theorem RT.muH {b:Nat}{k:Blk}(h:RT E ops r n a H' g K)(hv:Wr E.P H H.length n a (.mapUpdate tx x y z) b k:=by exact f_mupd rfl rfl rfl hgX rfl)(hH:H.set b k=H':=by rfl):RT E ops (⟨none,.mapUpdate tx x y z,ty,pos,aft,none⟩::r) n a H g K:=zdo hv hH h
theorem RT.mkH {s:Nat}(h:RT E ops r n ((i,.mm s)::a) H' g K)(hs:H.length=s:=by first|rfl|omega)(hH:H++[tabB []]=H':=by rfl):RT E ops (⟨some i,.makeMap tx none,ty,pos,aft,none⟩::r) n a H g K:=zcI hs f_mkmap hH h
theorem RT.lnH {t kt et:TypeId}{b:Nat}{kv:KV}(h:RT E ops r n ((i,wI kv.length)::a) H g K)(hx:evA n a x=.mm b:=by rfl)(hu:E.P.underlying t=some (.map kt et):=by rfl)(hb:H[b]? = some (tabB kv):=by exact hgX):RT E ops (⟨some i,.call { callee:=.builtin .len,args:=#[x],argTypes:=#[t] },ty,pos,aft,none⟩::r) n a H g K:=RT.lenM hx hu hb h
end
section
variable {E:Ev}{ops r:List Oper}{base s:Nat}{hs:List Nat}{pl:List (Nat × List Nat)}{n:Nat}{a:AL}{H H':List Blk}{K:KP}{dst:Option Tmp}{i:Tmp}{op:Op}{x y z:Operand}{tx ty ty':TypeId}{pos:String}{aft:Array Edge}{f:Nat}{d:D}
theorem PT.mvMI (hm:zcz base hs H=H)(h:PT E ops base pl r n ((i,d)::a) H K)(hv:Val E.P H (base+s) n a (.move x) d:=by exact f_mvM rfl):PT E ops base ((s,hs)::pl) (⟨some i,.move x,ty,pos,aft,none⟩::r) n a H K:=zcD hm hv h
theorem PT.asMI (hm:zcz base hs H=H)(h:PT E ops base pl r n ((i,d)::a) H K)(hv:Val E.P H (base+s) n a (.assign x) d:=by exact f_asM rfl):PT E ops base ((s,hs)::pl) (⟨some i,.assign x,ty,pos,aft,none⟩::r) n a H K:=zcD hm hv h
theorem PT.ldHI (hm:zcz base hs H=H)(h:PT E ops base pl r n ((i,d)::a) H K)(hv:Val E.P H (base+s) n a (.load tx x) d:=by first|exact zcB rfl hgX rfl rfl rfl|exact zev rfl hgX rfl rfl rfl rfl|exact f_ldWD rfl hgX tX12 rfl|exact f_ldM rfl hgX tX12 rfl rfl|exact f_ldMW rfl hgX tX12 rfl rfl rfl):PT E ops base ((s,hs)::pl) (⟨some i,.load tx x,ty,pos,aft,none⟩::r) n a H K:=zcD hm hv h
end
section
variable {E:Ev}{ops r:List Oper}{ab:List Nat}{base s:Nat}{hs:List Nat}{cw:Option Nat}{pl:PlQ}{n:Nat}{a:AL}{H H':List Blk}{K:KP}{dst:Option Tmp}{i:Tmp}{op:Op}{x y z:Operand}{tx ty ty':TypeId}{pos:String}{aft:Array Edge}{f:Nat}{d:D}
theorem ST.mvM (h:ST E ops ab base pl r n ((i,d)::a) H K)(hv:Val E.P (zcz 0 (hs.map (rho ab base)) H) (base+s) n a (.move x) d:=by exact f_mvM rfl):ST E ops ab base ((s,hs,cw)::pl) (⟨some i,.move x,ty,pos,aft,none⟩::r) n a H K:=zdA hv h
theorem ST.asM (h:ST E ops ab base pl r n ((i,d)::a) H K)(hv:Val E.P (zcz 0 (hs.map (rho ab base)) H) (base+s) n a (.assign x) d:=by exact f_asM rfl):ST E ops ab base ((s,hs,cw)::pl) (⟨some i,.assign x,ty,pos,aft,none⟩::r) n a H K:=zdA hv h
theorem ST.ldH (h:ST E ops ab base pl r n ((i,d)::a) H K)(hv:Val E.P (zcz 0 (hs.map (rho ab base)) H) (base+s) n a (.load tx x) d:=by first|exact zcB rfl hgX rfl rfl rfl|exact zev rfl hgX rfl rfl rfl rfl|exact f_ldWD rfl hgX tX12 rfl|exact f_ldM rfl hgX tX12 rfl rfl|exact f_ldMW rfl hgX tX12 rfl rfl rfl):ST E ops ab base ((s,hs,cw)::pl) (⟨some i,.load tx x,ty,pos,aft,none⟩::r) n a H K:=zdA hv h
theorem ST.ixH (h:ST E ops ab base pl r n ((i,d)::a) H K)(hv:Val E.P (zcz 0 (hs.map (rho ab base)) H) (base+s) n a (.indexAddr tx x y) d:=by exact zct rfl rfl (by first|with_reducible exact castR _|with_reducible exact castS _|assumption|rfl|omega) hgX rfl tX12):ST E ops ab base ((s,hs,cw)::pl) (⟨some i,.indexAddr tx x y,ty,pos,aft,none⟩::r) n a H K:=zdA hv h
theorem ST.lkH (h:ST E ops ab base pl r n ((i,d)::a) H K)(hv:Val E.P (zcz 0 (hs.map (rho ab base)) H) (base+s) n a (.lookup tx x y false) d:=by exact f_look rfl rfl hgX rfl rfl):ST E ops ab base ((s,hs,cw)::pl) (⟨some i,.lookup tx x y false,ty,pos,aft,none⟩::r) n a H K:=zdA hv h
end
end
end Go.DL
/- Guards of walks: the next operation is of a kind. -/
namespace Go.DL
open Go.RowKit Go.Proofs
noncomputable section
section
variable {E:Ev}{ops r:List Oper}{n:Nat}{a:AL}{H:List Blk}{g:Gst}{K:KA}{dst:Option Tmp}{x y z:Operand}{tx ty ty':TypeId}{pos:String}{aft:Array Edge}{f:Nat}{bo:BinOp}{uo:UnOp}{cl:Call}{b:Bool}{ps:Array (Nat × Operand)}{qs rs:Array Operand}{fn:Fn}{lo hi mx:Option Operand}{j:Nat × Bool}
theorem w_mv (h:RT E ops (⟨dst,.move x,ty,pos,aft,none⟩::r) n a H g K):RT E ops (⟨dst,.move x,ty,pos,aft,none⟩::r) n a H g K:=h
theorem w_as (h:RT E ops (⟨dst,.assign x,ty,pos,aft,none⟩::r) n a H g K):RT E ops (⟨dst,.assign x,ty,pos,aft,none⟩::r) n a H g K:=h
theorem zeS (h:RT E ops (⟨dst,.load tx x,ty,pos,aft,none⟩::r) n a H g K):RT E ops (⟨dst,.load tx x,ty,pos,aft,none⟩::r) n a H g K:=h
theorem w_fa (h:RT E ops (⟨dst,.fieldAddr tx x f,ty,pos,aft,none⟩::r) n a H g K):RT E ops (⟨dst,.fieldAddr tx x f,ty,pos,aft,none⟩::r) n a H g K:=h
theorem zea (h:RT E ops (⟨dst,Op.binOp bo tx x y ty',ty,pos,aft,none⟩::r) n a H g K):RT E ops (⟨dst,Op.binOp bo tx x y ty',ty,pos,aft,none⟩::r) n a H g K:=h
theorem w_pk (h:RT E ops (⟨dst,.pick x y z,ty,pos,aft,none⟩::r) n a H g K):RT E ops (⟨dst,.pick x y z,ty,pos,aft,none⟩::r) n a H g K:=h
theorem w_ex (h:RT E ops (⟨dst,.extract x f,ty,pos,aft,none⟩::r) n a H g K):RT E ops (⟨dst,.extract x f,ty,pos,aft,none⟩::r) n a H g K:=h
theorem w_ix (h:RT E ops (⟨dst,.indexAddr tx x y,ty,pos,aft,none⟩::r) n a H g K):RT E ops (⟨dst,.indexAddr tx x y,ty,pos,aft,none⟩::r) n a H g K:=h
theorem w_un (h:RT E ops (⟨dst,.unOp uo tx x,ty,pos,aft,none⟩::r) n a H g K):RT E ops (⟨dst,.unOp uo tx x,ty,pos,aft,none⟩::r) n a H g K:=h
theorem w_st (h:RT E ops (⟨dst,.store tx x y,ty,pos,aft,none⟩::r) n a H g K):RT E ops (⟨dst,.store tx x y,ty,pos,aft,none⟩::r) n a H g K:=h
theorem zdc (h:RT E ops (⟨dst,.call cl,ty,pos,aft,none⟩::r) n a H g K):RT E ops (⟨dst,.call cl,ty,pos,aft,none⟩::r) n a H g K:=h
theorem w_bs (h:RT E ops (⟨dst,.buildSlice tx f ps,ty,pos,aft,none⟩::r) n a H g K):RT E ops (⟨dst,.buildSlice tx f ps,ty,pos,aft,none⟩::r) n a H g K:=h
theorem w_mk (h:RT E ops (⟨dst,.makeSlice tx x y,ty,pos,aft,none⟩::r) n a H g K):RT E ops (⟨dst,.makeSlice tx x y,ty,pos,aft,none⟩::r) n a H g K:=h
theorem w_al (h:RT E ops (⟨dst,.alloc tx,ty,pos,aft,none⟩::r) n a H g K):RT E ops (⟨dst,.alloc tx,ty,pos,aft,none⟩::r) n a H g K:=h
theorem w_bx (h:RT E ops (⟨dst,.box tx x,ty,pos,aft,none⟩::r) n a H g K):RT E ops (⟨dst,.box tx x,ty,pos,aft,none⟩::r) n a H g K:=h
theorem w_sl (h:RT E ops (⟨dst,.slice tx x lo hi mx,ty,pos,aft,none⟩::r) n a H g K):RT E ops (⟨dst,.slice tx x lo hi mx,ty,pos,aft,none⟩::r) n a H g K:=h
theorem w_bd (h:RT E ops (⟨dst,.build tx ps,ty,pos,aft,none⟩::r) n a H g K):RT E ops (⟨dst,.build tx ps,ty,pos,aft,none⟩::r) n a H g K:=h
theorem w_mf (h:RT E ops (⟨dst,.makeFunc fn qs rs,ty,pos,aft,none⟩::r) n a H g K):RT E ops (⟨dst,.makeFunc fn qs rs,ty,pos,aft,none⟩::r) n a H g K:=h
theorem w_lk (h:RT E ops (⟨dst,.lookup tx x y b,ty,pos,aft,none⟩::r) n a H g K):RT E ops (⟨dst,.lookup tx x y b,ty,pos,aft,none⟩::r) n a H g K:=h
theorem w_mu (h:RT E ops (⟨dst,.mapUpdate tx x y z,ty,pos,aft,none⟩::r) n a H g K):RT E ops (⟨dst,.mapUpdate tx x y z,ty,pos,aft,none⟩::r) n a H g K:=h
theorem w_mm (h:RT E ops (⟨dst,.makeMap tx lo,ty,pos,aft,none⟩::r) n a H g K):RT E ops (⟨dst,.makeMap tx lo,ty,pos,aft,none⟩::r) n a H g K:=h
theorem w_g {op:Op}(h:RT E ops (⟨dst,op,ty,pos,aft,some j⟩::r) n a H g K):RT E ops (⟨dst,op,ty,pos,aft,some j⟩::r) n a H g K:=h
end
section
variable {E:Ev}{ops r:List Oper}{base:Nat}{pl:List (Nat × List Nat)}{n:Nat}{a:AL}{H:List Blk}{K:KP}{dst:Option Tmp}{x y z:Operand}{tx ty ty':TypeId}{pos:String}{aft:Array Edge}{f:Nat}{bo:BinOp}{uo:UnOp}{cl:Call}{b:Bool}{ps:Array (Nat × Operand)}{qs rs:Array Operand}{fn:Fn}{lo hi mx:Option Operand}{j:Nat × Bool}
theorem q_mv (h:PT E ops base pl (⟨dst,.move x,ty,pos,aft,none⟩::r) n a H K):PT E ops base pl (⟨dst,.move x,ty,pos,aft,none⟩::r) n a H K:=h
theorem q_as (h:PT E ops base pl (⟨dst,.assign x,ty,pos,aft,none⟩::r) n a H K):PT E ops base pl (⟨dst,.assign x,ty,pos,aft,none⟩::r) n a H K:=h
theorem q_ld (h:PT E ops base pl (⟨dst,.load tx x,ty,pos,aft,none⟩::r) n a H K):PT E ops base pl (⟨dst,.load tx x,ty,pos,aft,none⟩::r) n a H K:=h
theorem q_fa (h:PT E ops base pl (⟨dst,.fieldAddr tx x f,ty,pos,aft,none⟩::r) n a H K):PT E ops base pl (⟨dst,.fieldAddr tx x f,ty,pos,aft,none⟩::r) n a H K:=h
theorem q_bn (h:PT E ops base pl (⟨dst,Op.binOp bo tx x y ty',ty,pos,aft,none⟩::r) n a H K):PT E ops base pl (⟨dst,Op.binOp bo tx x y ty',ty,pos,aft,none⟩::r) n a H K:=h
theorem q_pk (h:PT E ops base pl (⟨dst,.pick x y z,ty,pos,aft,none⟩::r) n a H K):PT E ops base pl (⟨dst,.pick x y z,ty,pos,aft,none⟩::r) n a H K:=h
theorem q_ex (h:PT E ops base pl (⟨dst,.extract x f,ty,pos,aft,none⟩::r) n a H K):PT E ops base pl (⟨dst,.extract x f,ty,pos,aft,none⟩::r) n a H K:=h
theorem q_ix (h:PT E ops base pl (⟨dst,.indexAddr tx x y,ty,pos,aft,none⟩::r) n a H K):PT E ops base pl (⟨dst,.indexAddr tx x y,ty,pos,aft,none⟩::r) n a H K:=h
theorem q_un (h:PT E ops base pl (⟨dst,.unOp uo tx x,ty,pos,aft,none⟩::r) n a H K):PT E ops base pl (⟨dst,.unOp uo tx x,ty,pos,aft,none⟩::r) n a H K:=h
theorem q_st (h:PT E ops base pl (⟨dst,.store tx x y,ty,pos,aft,none⟩::r) n a H K):PT E ops base pl (⟨dst,.store tx x y,ty,pos,aft,none⟩::r) n a H K:=h
theorem q_cl (h:PT E ops base pl (⟨dst,.call cl,ty,pos,aft,none⟩::r) n a H K):PT E ops base pl (⟨dst,.call cl,ty,pos,aft,none⟩::r) n a H K:=h
theorem q_bs (h:PT E ops base pl (⟨dst,.buildSlice tx f ps,ty,pos,aft,none⟩::r) n a H K):PT E ops base pl (⟨dst,.buildSlice tx f ps,ty,pos,aft,none⟩::r) n a H K:=h
theorem q_mk (h:PT E ops base pl (⟨dst,.makeSlice tx x y,ty,pos,aft,none⟩::r) n a H K):PT E ops base pl (⟨dst,.makeSlice tx x y,ty,pos,aft,none⟩::r) n a H K:=h
theorem q_al (h:PT E ops base pl (⟨dst,.alloc tx,ty,pos,aft,none⟩::r) n a H K):PT E ops base pl (⟨dst,.alloc tx,ty,pos,aft,none⟩::r) n a H K:=h
theorem q_bx (h:PT E ops base pl (⟨dst,.box tx x,ty,pos,aft,none⟩::r) n a H K):PT E ops base pl (⟨dst,.box tx x,ty,pos,aft,none⟩::r) n a H K:=h
theorem q_sl (h:PT E ops base pl (⟨dst,.slice tx x lo hi mx,ty,pos,aft,none⟩::r) n a H K):PT E ops base pl (⟨dst,.slice tx x lo hi mx,ty,pos,aft,none⟩::r) n a H K:=h
theorem q_bd (h:PT E ops base pl (⟨dst,.build tx ps,ty,pos,aft,none⟩::r) n a H K):PT E ops base pl (⟨dst,.build tx ps,ty,pos,aft,none⟩::r) n a H K:=h
theorem q_mf (h:PT E ops base pl (⟨dst,.makeFunc fn qs rs,ty,pos,aft,none⟩::r) n a H K):PT E ops base pl (⟨dst,.makeFunc fn qs rs,ty,pos,aft,none⟩::r) n a H K:=h
theorem q_g {op:Op}(h:PT E ops base pl (⟨dst,op,ty,pos,aft,some j⟩::r) n a H K):PT E ops base pl (⟨dst,op,ty,pos,aft,some j⟩::r) n a H K:=h
end
section
variable {E:Ev}{ops r:List Oper}{ab:List Nat}{base:Nat}{pl:PlQ}{n:Nat}{a:AL}{H:List Blk}{K:KP}{dst:Option Tmp}{x y z:Operand}{tx ty ty':TypeId}{pos:String}{aft:Array Edge}{f:Nat}{bo:BinOp}{uo:UnOp}{cl:Call}{b:Bool}{ps:Array (Nat × Operand)}{qs rs:Array Operand}{fn:Fn}{lo hi mx:Option Operand}{j:Nat × Bool}
theorem s_mv (h:ST E ops ab base pl (⟨dst,.move x,ty,pos,aft,none⟩::r) n a H K):ST E ops ab base pl (⟨dst,.move x,ty,pos,aft,none⟩::r) n a H K:=h
theorem s_as (h:ST E ops ab base pl (⟨dst,.assign x,ty,pos,aft,none⟩::r) n a H K):ST E ops ab base pl (⟨dst,.assign x,ty,pos,aft,none⟩::r) n a H K:=h
theorem s_ld (h:ST E ops ab base pl (⟨dst,.load tx x,ty,pos,aft,none⟩::r) n a H K):ST E ops ab base pl (⟨dst,.load tx x,ty,pos,aft,none⟩::r) n a H K:=h
theorem s_fa (h:ST E ops ab base pl (⟨dst,.fieldAddr tx x f,ty,pos,aft,none⟩::r) n a H K):ST E ops ab base pl (⟨dst,.fieldAddr tx x f,ty,pos,aft,none⟩::r) n a H K:=h
theorem s_bn (h:ST E ops ab base pl (⟨dst,Op.binOp bo tx x y ty',ty,pos,aft,none⟩::r) n a H K):ST E ops ab base pl (⟨dst,Op.binOp bo tx x y ty',ty,pos,aft,none⟩::r) n a H K:=h
theorem s_pk (h:ST E ops ab base pl (⟨dst,.pick x y z,ty,pos,aft,none⟩::r) n a H K):ST E ops ab base pl (⟨dst,.pick x y z,ty,pos,aft,none⟩::r) n a H K:=h
theorem s_ex (h:ST E ops ab base pl (⟨dst,.extract x f,ty,pos,aft,none⟩::r) n a H K):ST E ops ab base pl (⟨dst,.extract x f,ty,pos,aft,none⟩::r) n a H K:=h
theorem s_ix (h:ST E ops ab base pl (⟨dst,.indexAddr tx x y,ty,pos,aft,none⟩::r) n a H K):ST E ops ab base pl (⟨dst,.indexAddr tx x y,ty,pos,aft,none⟩::r) n a H K:=h
theorem s_un (h:ST E ops ab base pl (⟨dst,.unOp uo tx x,ty,pos,aft,none⟩::r) n a H K):ST E ops ab base pl (⟨dst,.unOp uo tx x,ty,pos,aft,none⟩::r) n a H K:=h
theorem s_st (h:ST E ops ab base pl (⟨dst,.store tx x y,ty,pos,aft,none⟩::r) n a H K):ST E ops ab base pl (⟨dst,.store tx x y,ty,pos,aft,none⟩::r) n a H K:=h
theorem s_cl (h:ST E ops ab base pl (⟨dst,.call cl,ty,pos,aft,none⟩::r) n a H K):ST E ops ab base pl (⟨dst,.call cl,ty,pos,aft,none⟩::r) n a H K:=h
theorem s_bs (h:ST E ops ab base pl (⟨dst,.buildSlice tx f ps,ty,pos,aft,none⟩::r) n a H K):ST E ops ab base pl (⟨dst,.buildSlice tx f ps,ty,pos,aft,none⟩::r) n a H K:=h
theorem s_al (h:ST E ops ab base pl (⟨dst,.alloc tx,ty,pos,aft,none⟩::r) n a H K):ST E ops ab base pl (⟨dst,.alloc tx,ty,pos,aft,none⟩::r) n a H K:=h
theorem s_sl (h:ST E ops ab base pl (⟨dst,.slice tx x lo hi mx,ty,pos,aft,none⟩::r) n a H K):ST E ops ab base pl (⟨dst,.slice tx x lo hi mx,ty,pos,aft,none⟩::r) n a H K:=h
theorem s_bd (h:ST E ops ab base pl (⟨dst,.build tx ps,ty,pos,aft,none⟩::r) n a H K):ST E ops ab base pl (⟨dst,.build tx ps,ty,pos,aft,none⟩::r) n a H K:=h
theorem s_lk (h:ST E ops ab base pl (⟨dst,.lookup tx x y b,ty,pos,aft,none⟩::r) n a H K):ST E ops ab base pl (⟨dst,.lookup tx x y b,ty,pos,aft,none⟩::r) n a H K:=h
theorem s_mu (h:ST E ops ab base pl (⟨dst,.mapUpdate tx x y z,ty,pos,aft,none⟩::r) n a H K):ST E ops ab base pl (⟨dst,.mapUpdate tx x y z,ty,pos,aft,none⟩::r) n a H K:=h
end
section
variable {E:Ev}{n:Nat}{a:AL}{H:List Blk}{g:Gst}{Q:KX}{ops:List Oper}{K:KA}{KK:KP}{c:Code}{l:List Oper}{base:Nat}{pl:List (Nat × List Nat)}{pq:PlQ}{ab:List Nat}
theorem w_nil (h:RT E ops [] n a H g K):RT E ops [] n a H g K:=h
theorem q_nil (h:PT E ops base pl [] n a H KK):PT E ops base pl [] n a H KK:=h
theorem s_nil (h:ST E ops ab base pq [] n a H KK):ST E ops ab base pq [] n a H KK:=h
theorem zcd (h:RT E ops l n a H g K):RT E ops l n a H g K:=h
theorem zez (h:PT E ops base pl l n a H KK):PT E ops base pl l n a H KK:=h
theorem s_any (h:ST E ops ab base pq l n a H KK):ST E ops ab base pq l n a H KK:=h
theorem zcg (h:VT E c n a H g Q):VT E c n a H g Q:=h
end
end
end Go.DL
/- What is read of an argument, as plain data: numbers, booleans, lists. -/
namespace Go.DL
open Go.RowKit Go.Proofs Go.ChangeShapes Go.WideShapes
noncomputable section
section
variable {H:Type}{enc:TypeId × Value→H}{P:Program}{w:World}
end
theorem wf_i64 {n:Int}(h:(Lit.int .i64 n).wf=true):-9223372036854775808≤n∧n≤9223372036854775807:=by
 simp only[Lit.wf,zJ,decide_eq_true_eq] at h
 exact h
theorem reach62:reachBytes≤4611686018427387904:=by decide
theorem list_of {α:Type}{Q:α→Prop}{g:α→List D}:∀{es:List (List D)},(∀e,e∈es→∃a,Q a∧e=g a)→∃l:List α,(∀a,a∈l→Q a)∧es=l.map g
 |[],_=>⟨[],fun a h=>(by cases h),rfl⟩
 |e::es,h=>by
  obtain⟨a,ha,rfl⟩:=h e (zB ..)
  obtain⟨l,hl,rfl⟩:=list_of fun e he=>h e (zG _ he)
  refine⟨a::l,fun b hb=>?_,rfl⟩
  rcases zH.1 hb with e|e
  ·rw[e];exact ha
  ·exact hl b e
theorem slice_of {α:Type}{Q:α→Prop}{g:α→List D}{R:List D→Prop}(hR:∀e,R e→∃a,Q a∧e=g a){es:List (List D)}(h1:es.length≤reachBytes)(h2:∀e,e∈es→R e):
  ∃l:List α,(l.length≤4611686018427387904∧∀a,a∈l→Q a)∧es=l.map g:=by
 obtain⟨l,h3,rfl⟩:=list_of fun e he=>hR e (h2 e he)
 exact⟨l,⟨by have:=reach62;simp at h1;omega,h3⟩,rfl⟩
end
end Go.DL
/- Engine: small steps of operations. -/
set_option maxHeartbeats 4000000
namespace Go.DL
open Go.Proofs Go
theorem map_get {α β:Type}{f:α→β}{l:List α}{k:Nat}{x:α}(h:l[k]? = some x):(l.map f)[k]? = some (f x):=by rw[zl,h];rfl
section
variable {P:Program}{H:List Blk}{s n:Nat}{al:AL}{tx ty':TypeId}{x y:Operand}{a b:Int}
theorem f_ixQ {α:Type}{f:α→List D}{l:List α}{k:Nat}{sz:Nat}{z:α}(hx:unfl (evA n al x)=.sl (l.map f))(hy:evA n al y=wI a)(hn:a=k)(hk:l[k]? = some z)(hs:(zc3 P tx).map (·.2)=some sz)(hf:(f z).length=sz):
  Val P H s n al (.indexAddr tx x y) (.rp (f z)):=by
 obtain⟨h1,rfl⟩:=za.1 hk
 exact zeq hx hy hn h1 hs hf
end
theorem f_appL {P:Program}{H:List Blk}{s n:Nat}{al:AL}{tx:TypeId}{x y:Operand}{α:Type}{f:α→List D}{te:TypeId}{m mm c b1 sz by':Nat}{es:List (List D)}{o v:List α}{d':D}(hx:evA n al x=.ms b1 0 m c)(hy:evA n al y=d')(hb1:H[b1]? = some (.live sz es))(hes:es.take m=o.map f)(hle:m≤es.length)(hv:zcF H d'=some (v.map f))(hm:m=o.length)
  (hmm:o.length+v.length=mm) (he:zc3 P tx=some (te,sz)) (h0:0 < sz) (hz:(zdC P te).map List.length=some sz) (hby:P.bytesOf te=by') (hf:∀a,(f a).length=sz∧(f a).all isCell=true) (hl:(o.length+v.length)*by'≤140737488355328) (hl2:o.length+v.length≤9223372036854775807) (hsb:sameB (.ms b1 0 m c) d'=false:=by exact tX18):
  Ap P H s n al (.call { callee:=.builtin .append,args:=#[x,y],argTypes:=#[tx,tx] }) mm (some b1) (.live sz ((o++v).map f)):=by
 subst hm;subst hmm
 have hu:P.underlying tx=some (.slice te):=by
  unfold zc3 at he
  split at he
  ·rename_i e hu;simp only[zd] at he;obtain⟨_,_,h⟩:=he;cases h;exact hu
  ·cases he
 refine f_app hx hy ?_ (by simp) hsb
 have e1:zcF H (.ms b1 0 o.length c)=some (o.map f):=by
  simp only[zcF,hb1,zQ,hle,if_true,zS,hes]
 have e3:∀l:List α,(l.map f).all (fun e=>e.length==sz)=true:=fun l=>zh.2 fun e he=>by
  obtain⟨a,_,rfl⟩:=zt.1 he
  simpa using (hf a).1
 have e4:(v.map f).all (fun e=>e.all isCell)=true:=zh.2 fun e he=>by
  obtain⟨a,_,rfl⟩:=zt.1 he
  exact (hf a).2
 simp only[zew,addedD,he,hu,e1,hv]
 rw[if_pos]
 ·simp only[hb1,zcZ];simp
 ·refine⟨h0,hz,e3 o,e3 v,e4,?_,?_⟩
  ·rw[hby,ze,ze];exact hl
  ·rw[ze,ze];exact hl2
section
variable {P:Program}{H:List Blk}{s n:Nat}{al:AL}{tx ty':TypeId}{x y:Operand}{a b:Int}{k:Nat}
theorem f_lssF (hx:evA n al x=wI a)(hy:evA n al y=wI b)(h:¬a < b):Val P H s n al (.binOp .lss tx x y ty') (wB false):=by
 have h1:=f_lss (P:=P) (H:=H) (s:=s) (tx:=tx) (ty':=ty') hx hy
 rwa [decide_eq_false h] at h1
end
theorem elems_sl (H:List Blk)(v:List Int):zcF H (.sl (v.map eI))=some (v.map eI):=by
 simp only[zcF];exact congrArg some (eI_map _ _ fun x=>rfl)
section
variable {P:Program}{H:List Blk}{s n:Nat}{al:AL}{tx ty':TypeId}{x y:Operand}{a b:Int}
theorem f_leqT (hx:evA n al x=wI a)(hy:evA n al y=wI b)(h:a≤b):Val P H s n al (.binOp .leq tx x y ty') (wB true):=by
 have h1:=f_leq (P:=P) (H:=H) (s:=s) (tx:=tx) (ty':=ty') hx hy
 rwa [decide_eq_true h] at h1
theorem f_leqF (hx:evA n al x=wI a)(hy:evA n al y=wI b)(h:¬a≤b):Val P H s n al (.binOp .leq tx x y ty') (wB false):=by
 have h1:=f_leq (P:=P) (H:=H) (s:=s) (tx:=tx) (ty':=ty') hx hy
 rwa [decide_eq_false h] at h1
end
section
variable {P:Program}{H:List Blk}{s n:Nat}{al:AL}{tx:TypeId}{x y:Operand}{a b:Int}
end
end Go.DL
/- Engine: structs of numbers, compared. -/
namespace Go.DL
open Go.Proofs Go
section
variable {P:Program}{H:List Blk}{s n:Nat}{al:AL}{tx ty':TypeId}{x y:Operand}{cs ds:List D}{b:Bool}
theorem f_neqAgg (hx:evA n al x=.agg cs)(hy:evA n al y=.agg ds)(h:aggEqD P tx cs ds=some b):Val P H s n al (.binOp .neq tx x y ty') (wB (!b)):=by
 refine⟨?_⟩
 simp only[zcp,zc7,hx,hy,binD,h,zq,zcQ]
end
end Go.DL
/- Engine: parts of an own slice; rows of words, each in a block of its own. -/
namespace Go.DL
open Go.Proofs Go
section
variable {P:Program}{H:List Blk}{s n:Nat}{al:AL}{tx te:TypeId}{x y z:Operand}{a b:Int}
theorem f_slB {bk len cap sz lo hi:Nat}{es:List (List D)}(hx:evA n al x=.ms bk 0 len cap)(hy:evA n al y=wI a)(hz:evA n al z=wI b)(ha:a=lo)(hb':b=hi)(h1:lo≤hi)(h2:hi≤cap)
  (he:zc3 P tx=some (te,sz)) (hb:H[bk]? = some (.live sz es)):Val P H s n al (.slice tx x (some y) (some z) none) (.ms bk lo (hi-lo) (cap-lo)):=by
 subst ha;subst hb'
 refine⟨?_⟩
 simp only[zcp,zc7,sliceD,he,hx,unfl,zbc,zq,hy,hz,bndD,intD,za3,zby,reduceCtorEq,false_and,and_false,if_false,zah]
 rw[if_pos ⟨by simp[zcZ,hb],by omega,by omega,by omega⟩]
 simp[zcQ]
theorem f_bslC1 {d z:D}(hx:evA n al x=d)(hc:zcY d=[d])(hi:isCell d=true)(he:zc3 P tx=some (te,1))(hz:zdC P te=some [z]):Mk P H s n al (.buildSlice tx 1 #[(0,x)]) (.ms s 0 1 1) (.live 1 [[d]]):=by
 refine f_bsl (ps:=[(0,x)]) ?_
 simp[zes,he,hz,rowsD,hx,hc,hi,List.replicate]
end
section
variable {P:Program}{H:List Blk}{s n:Nat}{al:AL}{tx te:TypeId}{x0 x1 x2 x3 x4 x5 x6:Operand}{a0 a1 a2 a3 a4 a5 a6:Int}
theorem f_bslW7 (h0:evA n al x0=wI a0)(h1:evA n al x1=wI a1)(h2:evA n al x2=wI a2)(h3:evA n al x3=wI a3)(h4:evA n al x4=wI a4)(h5:evA n al x5=wI a5)(h6:evA n al x6=wI a6)(he:zc3 P tx=some (te,1))(hz:zdC P te=some [wI 0]):
  Mk P H s n al (.buildSlice tx 7 #[(0,x0),(1,x1),(2,x2),(3,x3),(4,x4),(5,x5),(6,x6)]) (.ms s 0 7 7) (.live 1 ([a0,a1,a2,a3,a4,a5,a6].map eI)):=
 f_bsl (ps:=[(0,x0),(1,x1),(2,x2),(3,x3),(4,x4),(5,x5),(6,x6)]) (by simp[zes,he,hz,rowsD,h0,h1,h2,h3,h4,h5,h6,zcY,isCell,eI,List.replicate,Value.oneCell'])
end
end Go.DL
/- Engine: the capacity of nil; the start of an own slice. -/
namespace Go.DL
open Go.Proofs Go
section
variable {E:Ev}{ops r:List Oper}{n:Nat}{a:AL}{H:List Blk}{g:Gst}{K:KA}{i:Tmp}{x:Operand}{t te ty:TypeId}{pos:String}{aft:Array Edge}
theorem RT.capN (hx:evA n a x=.nil)(hu:E.P.underlying t=some (.slice te))(h:RT E ops r n ((i,wI 0)::a) H g K):RT E ops (⟨some i,.call { callee:=.builtin .cap,args:=#[x],argTypes:=#[t] },ty,pos,aft,none⟩::r) n a H g K:=by
 refine⟨fun ro G hE ds Q hQ ac w hr=>?_⟩
 unfold wpListIn
 rw[if_pos (by simp[Region.wanted])]
 obtain⟨A,φ,hr⟩:=hr
 have hv:=hr.tr.ev x
 rw[zc7,hx] at hv
 obtain⟨a0,hs⟩:∃a0,ac.eval x=.slice a0 0 0:=by
  generalize ac.eval x=u at hv
  cases hv;exact⟨_,rfl⟩
 have hrun:(execOp ac.eval ⟨some i,.call { callee:=.builtin .cap,args:=#[x],argTypes:=#[t] },ty,pos,aft,none⟩).run E.P w=.ok (.value (.int .i64 0)) w:=by
  have h3:execOp ac.eval ⟨some i,.call { callee:=.builtin .cap,args:=#[x],argTypes:=#[t] },ty,pos,aft,none⟩=(do pure (.value (←Builtin.cap_ #[t] ty #[ac.eval x]))):=by
   simp only[execOp,resolve,invoke]
   simp[builtin]
  rw[h3,hs,Sem.run_bind]
  have h4:(Builtin.cap_ #[t] ty #[Value.slice a0 0 0]).run E.P w=.ok (.int .i64 0) w:=by
   simp[Builtin.cap_,run_underlying hu]
   rfl
  rw[h4];rfl
 refine⟨fun _ _=>trivial,?_⟩
 rw[Oper.semAt_eq _ _ _ (by simp),hrun]
 have hr3:=hr.value (some i) (d:=wI 0) (x:=.int .i64 0) (.v _ _)
 simp only[zej] at hr3
 exact h.out ro G hE ds Q hQ _ _ ⟨A,_,hr3⟩
end
section
variable {P:Program}{H:List Blk}{s n:Nat}{al:AL}{tx te:TypeId}{x y:Operand}{a:Int}
theorem f_slHiO {bk len cap sz hi:Nat}{es:List (List D)}(hx:evA n al x=.ms bk 0 len cap)(hy:evA n al y=wI a)(ha:a=hi)(h2:hi≤cap)
  (he:zc3 P tx=some (te,sz)) (hb:H[bk]? = some (.live sz es)):Val P H s n al (.slice tx x none (some y) none) (.ms bk 0 hi cap):=by
 subst ha
 refine⟨?_⟩
 simp only[zcp,zc7,sliceD,he,hx,unfl,zbc,zq,hy,bndD,intD,za3,zby,reduceCtorEq,false_and,and_false,if_false,zah]
 rw[if_pos ⟨by simp[zcZ,hb],by omega,by omega,by omega⟩]
 simp[zcQ]
theorem f_slNil0 {sz:Nat}(hx:evA n al x=.nil)(hy:evA n al y=wI 0)(he:zc3 P tx=some (te,sz)):Val P H s n al (.slice tx x none (some y) none) .nil:=by
 refine⟨?_⟩
 simp[zcp,zc7,sliceD,he,hx,unfl,hy,bndD,intD,zcQ]
end
theorem f_appZ0 {P:Program}{H:List Blk}{s n:Nat}{al:AL}{tx:TypeId}{x y:Operand}{te ti:TypeId}{ki:IntKind}{k:Nat}(hx:evA n al x=.nil)(hy:evA n al y=wI (k:Int))
  (he:zc3 P tx=some (te,1)) (hti:P.underlying ti=some (.int ki)) (hz:zdC P te=some [wI 0]) (hby:P.bytesOf te=8) (hl:k≤1000000):
  Ap P H s n al (.call { callee:=.builtin .append,args:=#[x,y],argTypes:=#[tx,ti] }) k none (.live 1 ((List.replicate k (0:Int)).map eI)):=by
 refine f_app hx hy ?_ (by simp) rfl
 have e1:zcF H .nil=some []:=rfl
 have e2:addedD P H te ti (wI k)=some (List.replicate k [wI 0]):=by
  simp only[addedD,hti,wI,show (0:Int)≤(k:Int) by omega,if_true,hz,zq,zM]
 have e3:(List.replicate k (0:Int)).map eI=List.replicate k [wI 0]:=by rw[zaN];rfl
 rw[e3]
 simp only[zew,he,e1,e2]
 rw[if_pos]
 refine⟨by decide,by rw[hz];rfl,by simp,by simp,?_,?_,?_⟩
 ·rw[zh];intro x hx;rw[zaL hx];rfl
 ·rw[hby,z7];simp;omega
 ·rw[z7];simp;omega
end Go.DL
