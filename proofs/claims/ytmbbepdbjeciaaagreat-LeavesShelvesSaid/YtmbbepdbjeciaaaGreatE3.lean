/- A region that draws its order: one canonical run stands for all orders, where what is unordered commutes. -/
import Derived.Test.YtmbbepdbjeciaaaGreatE2
import Derived.OrdersIn
namespace Go.DL
open Go.RowKit Go.Proofs
noncomputable section
inductive Kind where
 |pure|look|make|write
 deriving DecidableEq
def zcN (o:Oper):Kind:=
 match o.op with
 |.move _|.assign _|.pick ..|.binOp ..|.unOp ..|.convert ..|.extract ..|.field ..|.index ..|.fieldAddr ..|.makeFunc ..|.build ..|.nilCheck _|.sliceToArrayPointer ..=>.pure
 |.call { callee:=.builtin b,.. }=>match b with
  |.len|.max|.min=>.pure
  |_=>.write
 |.indexAddr ..|.slice ..|.load ..|.lookup ..=>.look
 |.call { callee:=.value _,.. }=>.look
 |.alloc _|.box ..|.buildSlice ..|.makeSlice ..|.makeMap ..=>.make
 |_=>.write
def zdx (o:Oper):List Nat:=(o.after.toList.filter (Region.binds .any)).map (·.on)
def ancs:List Oper→List (List Nat)→List (List Nat)
 |[],acc=>acc
 |o::r,acc=>ancs r (acc++[(zdx o).flatMap fun j=>j::acc.getD j []])
def zdk (ops:List Oper)(o:Oper):List Nat:=
 (o.op.operands.toList.filterMap fun|.tmp t=>some t|_=>none)++
  match o.guard with
  |some (j,_)=>match ops[j]? with
   |some p=>p.dst.toList
   |none=>[]
  |none=>[]
def rankOf (ops:List Oper)(i:Nat):Nat:=((ops.take i).filter fun o=>zcN o==.make||zcN o==.write).length
def slots (ops:List Oper):Nat:=(ops.filter fun o=>zcN o==.make||zcN o==.write).length
def zfa (o:Oper):Bool:=zcN o==.make||zcN o==.write
def indep (ops:List Oper)(an:List (List Nat))(j i:Nat):Bool:=
 match ops[j]?,ops[i]? with
 |some p,some o=>
  (match p.dst with|some d=>!(zdk ops o).contains d&&o.dst != some d|none=>true)&&
  (match o.dst with|some d=>!(zdk ops p).contains d|none=>true)&&
  (match zcN p,zcN o with
   |.write,k=>k==.pure
   |k,.write=>k==.pure
   |.make,.look=>!(an.getD i []).contains j
   |.look,.make=>!(an.getD j []).contains i
   |_,_=>true)
 |_,_=>false
def drawOk (ops:List Oper):Bool:=
 let an:=ancs ops []
 (List.range ops.length).all fun i=>
  (((ops[i]?).map zdx).getD []).all (fun j=>decide (j < i))&&
  (List.range i).all fun j=>(an.getD i []).contains j||indep ops an j i
def zd7 (ops:List Oper)(an:List (List Nat))(i:Nat):List Nat:=
 (List.range ops.length).filterMap fun k=>match ops[k]? with
  |some o=>if zfa o&&!(an.getD i []).contains k then some (rankOf ops k) else none
  |none=>none
def zcz (base:Nat)(hs:List Nat)(H:List Blk):List Blk:=hs.foldl (fun H s=>H.set (base+s) .free) H
section
variable {P:Program}{G:Gh}
theorem maskL_get (base:Nat):∀(hs:List Nat) (H:List Blk) (b:Nat),(zcz base hs H)[b]? = if (∃s∈hs,b=base+s)∧b < H.length then some .free else H[b]?
 |[],H,b=>by simp[zcz]
 |s::hs,H,b=>by
  have ih:=maskL_get base hs (H.set (base+s) .free) b
  have e:zcz base (s::hs) H=zcz base hs (H.set (base+s) .free):=rfl
  rw[e,ih,zE]
  by_cases h2:b < H.length
  ·by_cases h1:∃s'∈hs,b=base+s'
   ·obtain⟨s',h3,h4⟩:=h1
    rw[if_pos ⟨⟨s',h3,h4⟩,h2⟩,if_pos ⟨⟨s',zG _ h3,h4⟩,h2⟩]
   ·rw[if_neg (fun h=>h1 h.1)]
    by_cases h3:base+s=b
    ·subst h3
     rw[zp h2,if_pos ⟨⟨s,zB ..,rfl⟩,h2⟩]
    ·rw[zr h3,if_neg]
     rintro⟨⟨s',h4,h5⟩,_⟩
     rcases zH.1 h4 with h6|h6
     ·subst h6;exact h3 h5.symm
     ·exact h1 ⟨s',h6,h5⟩
  ·rw[if_neg (fun h=>h2 h.2),if_neg (fun h=>h2 h.2),zs (by simpa using h2),zs (by simpa using h2)]
theorem maskL_sub (base:Nat)(hs:List Nat)(H:List Blk):Sub (zcz base hs H) H:=fun b sz es h=>by
 rw[maskL_get] at h
 split at h
 ·cases h
 ·exact h
theorem maskL_free {base:Nat}{hs:List Nat}{H:List Blk}{b:Nat}{y:Blk}(h:(zcz base hs H)[b]? = some y)(hf:H[b]? = some .free):y=.free:=by
 rw[maskL_get] at h
 split at h
 ·exact (zbl h).symm
 ·rw[hf] at h;exact (zbl h).symm
theorem maskL_subT (base:Nat)(hs:List Nat)(H:List Blk):SubT (zcz base hs H) H:=fun b sz es h=>by
 rw[maskL_get] at h
 split at h
 ·cases h
 ·exact h
theorem maskL_set {base:Nat}{hs:List Nat}{H:List Blk}{s:Nat}{x:Blk}(h:s∈hs):zcz base hs (H.set (base+s) x)=zcz base hs H:=by
 apply zae
 intro b
 rw[maskL_get,maskL_get,zE,zX]
 by_cases h1:(∃s'∈hs,b=base+s')∧b < H.length
 ·rw[if_pos h1,if_pos h1]
 ·rw[if_neg h1,if_neg h1]
  split
  ·rename_i e
   split
   ·rename_i hl;exact absurd ⟨⟨s,h,e.symm⟩,e ▸ hl⟩ h1
   ·rename_i hl;rw[zs];omega
  ·rfl
def Acts (P:Program)(ops:List Oper)(o:Oper)(s:Nat)(t:List D)(H:List Blk)(d:D)(e:Eff):Prop:=
 match o.guard with
 |none=>go
 |some (j,want)=>match guardD ops t j with
  |some b=>if b=want then go else d=.v undef∧e=.keep
  |none=>undefD ops t j=true∧d=.v undef∧e=.keep
where go:Prop:=
 match o.op with
 |.call { callee:=.value f,args,.. }=>match zd0 t f args.toList with
  |some (g,xs)=>Maps P g (xs.map (snap (fun b=>H[b]?) 5)) d∧zeu 5 d=true∧e=.keep
  |none=>False
 |op=>zcp P H s t op=some (d,e)
theorem stepD_congr {H:List Blk}{s:Nat}{t t':List D}{op:Op}(h:∀x∈op.operands,ev t x=ev t' x):zcp P H s t op=zcp P H s t' op:=by
 cases op with
 |move x=>simp[zcp,h x (by simp[Op.operands])]
 |assign x=>simp[zcp,h x (by simp[Op.operands])]
 |pick c a b=>simp[zcp,h c (by simp[Op.operands]),h a (by simp[Op.operands]),h b (by simp[Op.operands])]
 |binOp op ty x y _=>simp[zcp,h x (by simp[Op.operands]),h y (by simp[Op.operands])]
 |unOp op _ x=>simp[zcp,h x (by simp[Op.operands])]
 |convert src dst x=>simp[zcp,h x (by simp[Op.operands])]
 |extract x i=>simp[zcp,h x (by simp[Op.operands])]
 |field ty x f=>simp[zcp,h x (by simp[Op.operands])]
 |index ty x i=>simp[zcp,h x (by simp[Op.operands]),h i (by simp[Op.operands])]
 |fieldAddr ty x f=>simp[zcp,h x (by simp[Op.operands])]
 |indexAddr ty x i=>simp[zcp,h x (by simp[Op.operands]),h i (by simp[Op.operands])]
 |slice ty x lo hi mx=>
  have h1:lo.map (ev t)=lo.map (ev t'):=by cases lo<;>simp;exact h _ (by simp[Op.operands])
  have h2:hi.map (ev t)=hi.map (ev t'):=by cases hi<;>simp;exact h _ (by simp[Op.operands])
  have h3:mx.map (ev t)=mx.map (ev t'):=by cases mx<;>simp;exact h _ (by simp[Op.operands])
  simp only[zcp,h x (by simp[Op.operands]),h1,h2,h3]
 |load ty p=>simp[zcp,h p (by simp[Op.operands])]
 |nilCheck x=>simp[zcp,h x (by simp[Op.operands])]
 |sliceToArrayPointer ty x=>simp[zcp,h x (by simp[Op.operands])]
 |makeFunc f a b=>
  have h1:a.toList.map (ev t)=a.toList.map (ev t'):=zI fun x hx=>h x (by simp[Op.operands];exact .inl (by simpa using hx))
  have h2:b.toList.map (ev t)=b.toList.map (ev t'):=zI fun x hx=>h x (by simp[Op.operands];exact .inr (by simpa using hx))
  simp only[zcp,h1,h2]
 |build ty ps=>
  have h1:ps.toList.map (fun p=>(p.1,ev t p.2))=ps.toList.map (fun p=>(p.1,ev t' p.2)):=zI fun p hp=>by
   rw[h p.2 (by simp only[Op.operands,List.mem_toArray,zt];exact⟨p,hp,rfl⟩)]
  simp only[zcp,h1]
 |buildSlice ty len ps=>
  have h1:ps.toList.map (fun p=>(p.1,ev t p.2))=ps.toList.map (fun p=>(p.1,ev t' p.2)):=zI fun p hp=>by
   rw[h p.2 (by simp only[Op.operands,List.mem_toArray,zt];exact⟨p,hp,rfl⟩)]
  simp only[zcp,h1]
 |makeSlice ty l c=>simp[zcp,h l (by simp[Op.operands]),h c (by simp[Op.operands])]
 |alloc ty=>rfl
 |box _ x=>simp only[zcp,h x (by simp[Op.operands])]
 |store ty p x=>simp[zcp,h p (by simp[Op.operands]),h x (by simp[Op.operands])]
 |makeMap ty r=>cases r<;>rfl
 |lookup ty x i ok=>simp[zcp,h x (by simp[Op.operands]),h i (by simp[Op.operands])]
 |mapUpdate ty m k x=>simp[zcp,h m (by simp[Op.operands]),h k (by simp[Op.operands]),h x (by simp[Op.operands])]
 |mapEntry ty m k=>simp[zcp,h m (by simp[Op.operands]),h k (by simp[Op.operands])]
 |entryStore ty m k x=>simp[zcp,h m (by simp[Op.operands]),h k (by simp[Op.operands]),h x (by simp[Op.operands])]
 |call c=>
  obtain⟨cal,args,tys⟩:=c
  cases cal with
  |builtin b=>
   have h1:args.toList.map (ev t)=args.toList.map (ev t'):=zI fun x hx=>h x (by simp[Op.operands,Call.operands];simpa using hx)
   simp only[zcp,h1]
  |_=>rfl
 |_=>rfl
theorem ev_setT {t:List D}{dst:Option Tmp}{d:D}{x:Operand}(h:∀i,dst=some i→x≠.tmp i):ev (setT t dst d) x=ev t x:=by
 cases x with
 |tmp j=>
  cases dst with
  |none=>rfl
  |some i=>
   have hne:i≠j:=fun e=>h i rfl (by rw[e])
   simp[ev,lkF_eq,setT,List.getD,hne]
 |_=>rfl
theorem reads_op {ops:List Oper}{o:Oper}{i:Nat}(h:i∉zdk ops o):∀x∈o.op.operands,x≠.tmp i:=fun x hx e=>by
 subst e
 exact h (by simp only[zdk,zK,zbQ];exact .inl ⟨_,by simpa using hx,rfl⟩)
theorem guardD_setT {ops:List Oper}{o:Oper}{t:List D}{dst:Option Tmp}{d:D}{j:Nat}{want:Bool}(hg:o.guard=some (j,want))(h:∀i,dst=some i→i∉zdk ops o):
  guardD ops (setT t dst d) j=guardD ops t j:=by
 unfold guardD
 cases hj:ops[j]? with
 |none=>rfl
 |some p=>
  cases hp:p.dst with
  |none=>simp[hp]
  |some k=>
   simp only[hp]
   cases dst with
   |none=>rfl
   |some i=>
    have hne:i≠k:=fun e=>h i rfl (by subst e;simp[zdk,hg,hj,hp])
    simp[setT,hne]
theorem undefD_setT {ops:List Oper}{o:Oper}{t:List D}{dst:Option Tmp}{d:D}{j:Nat}{want:Bool}(hg:o.guard=some (j,want))(h:∀i,dst=some i→i∉zdk ops o):
  undefD ops (setT t dst d) j=undefD ops t j:=by
 unfold undefD
 cases hj:ops[j]? with
 |none=>rfl
 |some p=>
  cases hp:p.dst with
  |none=>simp[hp]
  |some k=>
   simp only[hp]
   cases dst with
   |none=>rfl
   |some i=>
    have hne:i≠k:=fun e=>h i rfl (by subst e;simp[zdk,hg,hj,hp])
    simp[setT,hne]
theorem Acts.setT {ops:List Oper}{o:Oper}{s:Nat}{t:List D}{H:List Blk}{d d':D}{e:Eff}{dst:Option Tmp}(h:∀i,dst=some i→i∉zdk ops o):
  Acts P ops o s (DL.setT t dst d') H d e↔Acts P ops o s t H d e:=by
 have hev:∀x∈o.op.operands,ev (DL.setT t dst d') x=ev t x:=fun x hx=>ev_setT fun i hi=>reads_op (h i hi) x hx
 have hgo:Acts.go P o s (DL.setT t dst d') H d e=Acts.go P o s t H d e:=by
  unfold Acts.go
  split
  ·rename_i f args tys hop
   have h1:zd0 (DL.setT t dst d') f args.toList=zd0 t f args.toList:=by
    unfold zd0
    have hf:ev (DL.setT t dst d') f=ev t f:=hev f (by rw[hop];simp[Op.operands,Call.operands])
    have ha:args.toList.map (ev (DL.setT t dst d'))=args.toList.map (ev t):=zI fun x hx=>hev x (by rw[hop];simp[Op.operands,Call.operands];exact .inr (by simpa using hx))
    rw[hf,ha]
   rw[h1]
  ·rw[stepD_congr hev]
 unfold Acts
 split
 ·rw[hgo]
 ·rename_i j want hg
  rw[guardD_setT hg h,undefD_setT hg h,hgo]
theorem builtin_pure {H H':List Blk}{s:Nat}{b:Builtin}{xs:List D}{ts:List TypeId}(h:b=.len∨b=.max∨b=.min):zdW P H s b xs ts=zdW P H' s b xs ts:=by
 rcases h with rfl|rfl|rfl
 all_goals
  unfold zdW
  split<;>first|rfl|simp_all
theorem stepD_pure {H H':List Blk}{s:Nat}{t:List D}{o:Oper}(h:zcN o=.pure∨zcN o=.make):zcp P H s t o.op=zcp P H' s t o.op:=by
 unfold zcN at h
 split at h<;>first
  |(rename_i ho;rw[ho];rfl)
  |(rename_i r ho;rw[ho];cases r<;>rfl)
  |(rcases h with h|h<;>cases h)
  |(rename_i b args tys ho
    rw[ho]
    simp only[zcp]
    cases b<;>first|(simp at h;done)|exact builtin_pure (by simp))
theorem stepD_eff {H:List Blk}{s:Nat}{t:List D}{o:Oper}{d:D}{e:Eff}(h:zcp P H s t o.op=some (d,e)):
  (zcN o=.pure∨zcN o=.look→e=.keep)∧(zcN o=.make→∃x,e=.put x):=by
 have kd:∀{q:Option D},zcQ q=some (d,e)→e=.keep:=fun {q} h=>by
  simp only[zcQ,zd,zz] at h
  obtain⟨_,_,_,rfl⟩:=h;rfl
 have bl:∀{b:Builtin} {xs:List D} {ts:List TypeId},(b=.len∨b=.max∨b=.min)→zdW P H s b xs ts=some (d,e)→e=.keep:=fun {b xs ts} hb h=>by
  unfold zdW at h
  split at h
  ·split at h
   ·simp only[zd,zz] at h
    obtain⟨_,_,_,rfl⟩:=h;rfl
   ·cases h
  ·simp at hb
  ·simp only[zd,zz] at h
   obtain⟨_,_,_,rfl⟩:=h;rfl
  ·simp only[zd,zz] at h
   obtain⟨_,_,_,rfl⟩:=h;rfl
  ·cases h
 unfold zcN
 cases ho:o.op with
 |move x=>rw[ho] at h;simp only[zcp,zn,zz] at h;exact⟨fun _=>h.2.symm,fun x=>by cases x⟩
 |assign x=>rw[ho] at h;simp only[zcp,zn,zz] at h;exact⟨fun _=>h.2.symm,fun x=>by cases x⟩
 |makeFunc f a b=>rw[ho] at h;simp only[zcp,zn,zz] at h;exact⟨fun _=>h.2.symm,fun x=>by cases x⟩
 |pick c a b=>rw[ho] at h;exact⟨fun _=>kd h,fun x=>by cases x⟩
 |binOp op ty x y _=>rw[ho] at h;exact⟨fun _=>kd h,fun x=>by cases x⟩
 |unOp op _ x=>rw[ho] at h;exact⟨fun _=>kd h,fun x=>by cases x⟩
 |convert src dst x=>rw[ho] at h;exact⟨fun _=>kd h,fun x=>by cases x⟩
 |extract x i=>rw[ho] at h;exact⟨fun _=>kd h,fun x=>by cases x⟩
 |field ty x f=>rw[ho] at h;exact⟨fun _=>kd h,fun x=>by cases x⟩
 |index ty x i=>rw[ho] at h;exact⟨fun _=>kd h,fun x=>by cases x⟩
 |fieldAddr ty x f=>rw[ho] at h;exact⟨fun _=>kd h,fun x=>by cases x⟩
 |indexAddr ty x i=>rw[ho] at h;exact⟨fun _=>kd h,fun x=>by cases x⟩
 |slice ty x lo hi mx=>
  rw[ho] at h
  simp only[zcp] at h
  split at h
  ·cases h
  ·exact⟨fun _=>kd h,fun x=>by cases x⟩
 |load ty p=>rw[ho] at h;exact⟨fun _=>kd h,fun x=>by cases x⟩
 |nilCheck x=>rw[ho] at h;exact⟨fun _=>kd h,fun x=>by cases x⟩
 |sliceToArrayPointer ty x=>rw[ho] at h;exact⟨fun _=>kd h,fun x=>by cases x⟩
 |build ty ps=>rw[ho] at h;exact⟨fun _=>kd h,fun x=>by cases x⟩
 |buildSlice ty len ps=>
  rw[ho] at h
  simp only[zcp,zd,zz,zaX] at h
  obtain⟨_,_,_,_,rfl⟩:=h
  exact⟨fun x=>(by rcases x with x|x<;>cases x),fun _=>⟨_,rfl⟩⟩
 |makeSlice ty l c=>
  rw[ho] at h
  simp only[zcp,zd,zz,zaX] at h
  obtain⟨_,_,_,_,_,_,rfl⟩:=h
  exact⟨fun x=>(by rcases x with x|x<;>cases x),fun _=>⟨_,rfl⟩⟩
 |alloc ty=>
  rw[ho] at h
  simp only[zcp,zd,zz] at h
  obtain⟨_,_,_,rfl⟩:=h
  exact⟨fun x=>(by rcases x with x|x<;>cases x),fun _=>⟨_,rfl⟩⟩
 |box _ x=>
  rw[ho] at h
  simp only[zcp] at h
  split at h
  ·simp only[zn,zz] at h
   obtain⟨_,rfl⟩:=h
   exact⟨fun x=>(by rcases x with x|x<;>cases x),fun _=>⟨_,rfl⟩⟩
  ·cases h
 |call c=>
  obtain⟨cal,args,tys⟩:=c
  cases cal with
  |builtin b=>
   rw[ho] at h
   simp only[zcp] at h
   by_cases hb:b=.len∨b=.max∨b=.min
   ·refine⟨fun _=>bl hb h,fun x=>?_⟩
    rcases hb with rfl|rfl|rfl<;>simp at x
   ·cases b<;>simp at hb ⊢
  |value f=>rw[ho] at h;cases h
  |invoke r m=>rw[ho] at h;cases h
 |store ty p x=>exact⟨fun x=>(by rcases x with x|x<;>cases x),fun x=>(by cases x)⟩
 |mapUpdate ty m k x=>exact⟨fun x=>(by rcases x with x|x<;>cases x),fun x=>(by cases x)⟩
 |mapEntry ty m k=>exact⟨fun x=>(by rcases x with x|x<;>cases x),fun x=>(by cases x)⟩
 |entryStore ty m k x=>exact⟨fun x=>(by rcases x with x|x<;>cases x),fun x=>(by cases x)⟩
 |lookup ty x i ok=>rw[ho] at h;exact⟨fun _=>kd h,fun x=>by cases x⟩
 |makeMap ty r=>
  rw[ho] at h
  cases r with
  |some _=>cases h
  |none=>
   simp only[zcp,zn,zz] at h
   obtain⟨_,rfl⟩:=h
   exact⟨fun x=>(by rcases x with x|x<;>cases x),fun _=>⟨_,rfl⟩⟩
 |_=>rw[ho] at h;cases h
theorem Acts.go_eff {o:Oper}{s:Nat}{t:List D}{H:List Blk}{d:D}{e:Eff}(h:Acts.go P o s t H d e):
  (zcN o=.pure∨zcN o=.look→e=.keep)∧(zcN o=.make→∃x,e=.put x):=by
 unfold Acts.go at h
 split at h
 ·rename_i ho
  split at h
  ·exact⟨fun _=>h.2.2,fun x=>by unfold zcN at x;rw[ho] at x;cases x⟩
  ·exact h.elim
 ·exact stepD_eff h
theorem Acts.eff {ops:List Oper}{o:Oper}{s:Nat}{t:List D}{H:List Blk}{d:D}{e:Eff}(h:Acts P ops o s t H d e):
  (zcN o=.pure∨zcN o=.look→e=.keep)∧(zcN o=.make→e=.keep∨∃x,e=.put x):=by
 unfold Acts at h
 split at h
 ·exact⟨(Acts.go_eff h).1,fun x=>.inr ((Acts.go_eff h).2 x)⟩
 ·split at h
  ·split at h
   ·exact⟨(Acts.go_eff h).1,fun x=>.inr ((Acts.go_eff h).2 x)⟩
   ·exact⟨fun _=>h.2,fun _=>.inl h.2⟩
  ·exact⟨fun _=>h.2.2,fun _=>.inl h.2.2⟩
theorem Acts.heap {ops:List Oper}{o:Oper}{s:Nat}{t:List D}{H H':List Blk}{d:D}{e:Eff}(hk:zcN o=.pure∨zcN o=.make)(h:Acts P ops o s t H d e):Acts P ops o s t H' d e:=by
 have hgo:Acts.go P o s t H d e→Acts.go P o s t H' d e:=fun h=>by
  unfold Acts.go at h ⊢
  split at h
  ·rename_i ho
   unfold zcN at hk;rw[ho] at hk;rcases hk with hk|hk<;>cases hk
  ·rw[stepD_pure hk (H':=H')] at h;exact h
 unfold Acts at h ⊢
 split at h
 ·exact hgo h
 ·split at h
  ·split at h
   ·rename_i hb;rw[if_pos hb];exact hgo h
   ·rename_i hb;rw[if_neg hb];exact h
  ·exact h
def zdf (ops:List Oper)(base i:Nat):Nat:=base+(match ops[i]? with|some o=>if zfa o then rankOf ops i else slots ops|none=>slots ops)
def StepR (P:Program)(ops:List Oper)(an:List (List Nat))(base i:Nat)(st st':St):Prop:=
 ∃o d e,ops[i]? = some o∧Acts P ops o (zdf ops base i) st.t (zcz base (zd7 ops an i) st.H) d e∧st'={ t:=setT st.t o.dst d,H:=e.app st.H (zdf ops base i),ds:=st.ds,g:=st.g }
theorem setT_comm {t:List D}{a b:Option Tmp}{x y:D}(h:∀i,a=some i→b≠some i):setT (setT t a x) b y=setT (setT t b y) a x:=by
 cases a with
 |none=>cases b<;>rfl
 |some i=>cases b with
  |none=>rfl
  |some j=>exact List.set_comm _ _ (fun e=>h i rfl (by rw[e]))
theorem rank_lt {ops:List Oper}{i:Nat}{o:Oper}(ho:ops[i]? = some o)(hn:zfa o=true):rankOf ops i < slots ops:=by
 have hi:=(za.1 ho).1
 have he:=(za.1 ho).2
 have:slots ops=((ops.take i++ops.drop i).filter fun o=>zcN o==.make||zcN o==.write).length:=by rw[za1];rfl
 rw[this,za4,zw,zO hi,he,zba (by simpa[zfa] using hn)]
 simp[rankOf]
theorem rank_mono {ops:List Oper}{i j:Nat}{o:Oper}(ho:ops[j]? = some o)(hn:zfa o=true)(h:j < i):rankOf ops j < rankOf ops i:=by
 have h1:(ops.take i)[j]? = some o:=by rw[z5,if_pos h];exact ho
 have:=rank_lt h1 hn
 have e:rankOf (ops.take i) j=rankOf ops j:=by simp only[rankOf];rw[List.take_take,zbz (Nat.le_of_lt h)]
 rw[e] at this
 exact this
theorem slot_ne {ops:List Oper}{base i j:Nat}{o p:Oper}(ho:ops[i]? = some o)(hp:ops[j]? = some p)(hno:zfa o=true)(hnp:zfa p=true)(h:i≠j):zdf ops base i≠zdf ops base j:=by
 simp only[zdf,ho,hp,hno,hnp,if_true]
 rcases Nat.lt_or_gt_of_ne h with h|h
 ·have:=rank_mono ho hno h;omega
 ·have:=rank_mono hp hnp h;omega
theorem hidden_mem {ops:List Oper}{an:List (List Nat)}{i j:Nat}{p:Oper}(hp:ops[j]? = some p)(hn:zfa p=true)(h:(an.getD i []).contains j=false):rankOf ops j∈zd7 ops an i:=by
 simp only[zd7,zbQ,zP]
 exact⟨j,(za.1 hp).1,by simp only[hp,hn,h,Bool.not_false,Bool.and_true,if_true]⟩
theorem StepR.swap {ops:List Oper}{an:List (List Nat)}{base j i:Nat}{st s1 s2:St}(hij:j≠i)(hind:indep ops an j i=true)(h1:StepR P ops an base j st s1)(h2:StepR P ops an base i s1 s2):
  ∃s1',StepR P ops an base i st s1'∧StepR P ops an base j s1' s2:=by
 obtain⟨p,dp,ep,hp,ap,rfl⟩:=h1
 obtain⟨o,d,e,ho,ao,rfl⟩:=h2
 simp only[indep,hp,ho,zJ] at hind
 obtain⟨⟨i1,i2⟩,i3⟩:=hind
 have r1:∀k,p.dst=some k→k∉zdk ops o:=fun k hk=>by rw[hk] at i1;simp at i1;exact i1.1
 have r2:∀k,o.dst=some k→k∉zdk ops p:=fun k hk=>by rw[hk] at i2;simpa using i2
 have r3:∀k,p.dst=some k→o.dst≠some k:=fun k hk=>by rw[hk] at i1;simp at i1;exact i1.2
 have ao':=(Acts.setT r1).1 ao
 have key:Acts P ops o (zdf ops base i) st.t (zcz base (zd7 ops an i) st.H) d e∧Acts P ops p (zdf ops base j) st.t (zcz base (zd7 ops an j) (e.app st.H (zdf ops base i))) dp ep∧
   e.app (ep.app st.H (zdf ops base j)) (zdf ops base i)=ep.app (e.app st.H (zdf ops base i)) (zdf ops base j):=by
  have keepP:zcN p=.pure∨zcN p=.look→ep=.keep:=ap.eff.1
  have keepO:zcN o=.pure∨zcN o=.look→e=.keep:=ao.eff.1
  have needP:zcN p=.make∨zcN p=.write→zfa p=true:=fun h=>by simp[zfa];exact h
  have needO:zcN o=.make∨zcN o=.write→zfa o=true:=fun h=>by simp[zfa];exact h
  have slotO:zfa o=true→zdf ops base i=base+rankOf ops i:=fun h=>by simp[zdf,ho,h]
  have slotP:zfa p=true→zdf ops base j=base+rankOf ops j:=fun h=>by simp[zdf,hp,h]
  cases hkp:zcN p with
  |pure=>
   have e1:=keepP (.inl hkp)
   subst e1
   exact⟨ao',ap.heap (.inl hkp),rfl⟩
  |write=>
   rw[hkp] at i3
   have hko:zcN o=.pure:=by cases hk:zcN o<;>rw[hk] at i3<;>first|rfl|simp at i3
   have e1:=keepO (.inl hko)
   subst e1
   exact⟨ao'.heap (.inl hko),ap,rfl⟩
  |look=>
   have e1:=keepP (.inr hkp)
   subst e1
   cases hko:zcN o with
   |pure=>have e2:=keepO (.inl hko);subst e2;exact⟨ao',ap,rfl⟩
   |look=>have e2:=keepO (.inr hko);subst e2;exact⟨ao',ap,rfl⟩
   |write=>rw[hkp,hko] at i3;simp at i3
   |make=>
    rw[hkp,hko] at i3
    have hc:(an.getD j []).contains i=false:=by simpa using i3
    have hn:=needO (.inl hko)
    refine⟨ao',?_,rfl⟩
    rcases ao.eff.2 hko with rfl|⟨x,rfl⟩
    ·exact ap
    ·rw[slotO hn]
     simp only[Eff.app]
     rw[maskL_set (hidden_mem ho hn hc)]
     exact ap
  |make=>
   have hnp:=needP (.inl hkp)
   have epc:=ap.eff.2 hkp
   have nohide:(an.getD i []).contains j=false→zcz base (zd7 ops an i) (ep.app st.H (zdf ops base j))=zcz base (zd7 ops an i) st.H:=fun hc=>by
    rcases epc with rfl|⟨x,rfl⟩
    ·rfl
    ·rw[slotP hnp];simp only[Eff.app];rw[maskL_set (hidden_mem hp hnp hc)]
   cases hko:zcN o with
   |pure=>have e2:=keepO (.inl hko);subst e2;exact⟨ao'.heap (.inl hko),ap,rfl⟩
   |look=>
    rw[hkp,hko] at i3
    have hc:(an.getD i []).contains j=false:=by simpa using i3
    have e2:=keepO (.inr hko);subst e2
    rw[nohide hc] at ao'
    exact⟨ao',ap,rfl⟩
   |write=>rw[hkp,hko] at i3;simp at i3
   |make=>
    refine⟨ao'.heap (.inr hko),ap.heap (.inr hkp),?_⟩
    have hno:=needO (.inl hko)
    have hne:=slot_ne (base:=base) ho hp hno hnp (Ne.symm hij)
    rcases epc with rfl|⟨x,rfl⟩
    ·rfl
    ·rcases ao.eff.2 hko with rfl|⟨y,rfl⟩
     ·rfl
     ·exact List.set_comm _ _ (Ne.symm hne)
 refine⟨_,⟨o,d,e,ho,key.1,rfl⟩,p,dp,ep,hp,(Acts.setT r2).2 key.2.1,?_⟩
 rw[setT_comm r3,key.2.2]
end
end
end Go.DL
/- A region that draws its order: the rule. -/
namespace Go.DL
open Go.RowKit Go.Proofs
noncomputable section
def RunR (P:Program)(ops:List Oper)(an:List (List Nat))(base:Nat):List Nat→St→St→Prop
 |[],st,st'=>st=st'
 |i::l,st,st'=>∃s1,StepR P ops an base i st s1∧RunR P ops an base l s1 st'
section
variable {P:Program}{G:Gh}{ops:List Oper}{an:List (List Nat)}{base:Nat}
theorem RunR.front {i:Nat}:∀{l1 l2:List Nat} {st stf:St},(∀j∈l1,j≠i∧indep ops an j i=true)→RunR P ops an base (l1++i::l2) st stf→
  ∃s1,StepR P ops an base i st s1∧RunR P ops an base (l1++l2) s1 stf
 |[],l2,st,stf,_,h=>h
 |j::l1,l2,st,stf,hj,h=>by
  obtain⟨s1,h1,h2⟩:=h
  obtain⟨s2,h3,h4⟩:=RunR.front (fun k hk=>hj k (zG _ hk)) h2
  obtain⟨hne,hi⟩:=hj j (zB ..)
  obtain⟨s3,h5,h6⟩:=h1.swap hne hi h3
  exact⟨s3,h5,s2,h6,h4⟩
theorem ancs_spec:∀(l:List Oper) (acc:List (List Nat)),(∀k,k < acc.length→(ancs l acc).getD k []=acc.getD k [])∧
  ∀k o,l[k]? = some o→∀m∈(ancs l acc).getD (acc.length+k) [],m∈zdx o∨∃j∈zdx o,m∈(ancs l acc).getD j []
 |[],acc=>⟨fun _ _=>rfl,fun k o h=>by simp at h⟩
 |p::l,acc=>by
  obtain⟨h1,h2⟩:=ancs_spec l (acc++[(zdx p).flatMap fun j=>j::acc.getD j []])
  have e:ancs (p::l) acc=ancs l (acc++[(zdx p).flatMap fun j=>j::acc.getD j []]):=rfl
  rw[e]
  have h1':∀k,k < acc.length→(ancs l (acc++[(zdx p).flatMap fun j=>j::acc.getD j []])).getD k []=acc.getD k []:=fun k hk=>by
   rw[h1 k (by simp;omega)]
   simp[List.getD,zk hk]
  refine⟨h1',fun k o hk m hm=>?_⟩
  cases k with
  |zero=>
   simp only[zaQ,zn] at hk
   subst hk
   rw[za6,h1 acc.length (by simp)] at hm
   have:(acc++[(zdx p).flatMap fun j=>j::acc.getD j []]).getD acc.length []=(zdx p).flatMap fun j=>j::acc.getD j []:=by simp[List.getD]
   rw[this,List.mem_flatMap] at hm
   obtain⟨j,hj,hm⟩:=hm
   rcases zH.1 hm with rfl|hm
   ·exact .inl hj
   ·rcases zZ j acc.length with hlt|hge
    ·exact .inr ⟨j,hj,by rw[h1' j hlt];exact hm⟩
    ·simp[List.getD,zs hge] at hm
  |succ k=>
   simp only[zbv] at hk
   refine h2 k o hk m ?_
   rw[show (acc++[(zdx p).flatMap fun j=>j::acc.getD j []]).length+k=acc.length+(k+1) by simp;omega]
   exact hm
def zdt (n:Nat)(listed:Array Bool):List Nat:=(List.range n).filter fun i=>!listed.getD i true
theorem mem_rem {n i:Nat}{listed:Array Bool}:i∈zdt n listed↔i < n∧listed.getD i true=false:=by simp[zdt]
structure SlotsFree (ops:List Oper)(base:Nat)(listed:Array Bool)(H:List Blk):Prop where
 slot:∀k,k < ops.length→listed.getD k true=false→H[zdf ops base k]? = some .free
 last:H[base+slots ops]? = some .free
theorem slot_set {H:List Blk}{b s:Nat}{x:Blk}(h:H[s]? = some .free)(hb:b≠s):(H.set b x)[s]? = some .free:=by
 rw[zX,if_neg hb];exact h
theorem slot_case {i:Nat}{o:Oper}(ho:ops[i]? = some o):zdf ops base i=base+slots ops∨(zfa o=true∧zdf ops base i=base+rankOf ops i∧rankOf ops i < slots ops):=by
 by_cases hn:zfa o=true
 ·exact .inr ⟨hn,by simp[zdf,ho,hn],rank_lt ho hn⟩
 ·exact .inl (by simp[zdf,ho,hn])
theorem Acts.upd_live {o:Oper}{s:Nat}{t:List D}{H:List Blk}{d:D}{e:Eff}(h:Acts P ops o s t H d e):(∀b x,e=.upd b x→∃y,H[b]? = some y∧y≠.free)∧
  (∀b x,e=.ren (some b) x→∃y,H[b]? = some y∧y≠.free):=by
 have go:Acts.go P o s t H d e→(∀b x,e=.upd b x→∃y,H[b]? = some y∧y≠.free)∧(∀b x,e=.ren (some b) x→∃y,H[b]? = some y∧y≠.free):=fun h=>by
  unfold Acts.go at h
  split at h
  ·split at h
   ·obtain⟨_,_,rfl⟩:=h;exact⟨fun _ _ x=>(by cases x),fun _ _ x=>(by cases x)⟩
   ·exact h.elim
  ·exact⟨fun b x he=>stepD_upd (he ▸ h),fun b x he=>stepD_ren (he ▸ h)⟩
 unfold Acts at h
 split at h
 ·exact go h
 ·split at h
  ·split at h
   ·exact go h
   ·obtain⟨_,rfl⟩:=h;exact⟨fun _ _ x=>(by cases x),fun _ _ x=>(by cases x)⟩
  ·obtain⟨_,_,rfl⟩:=h;exact⟨fun _ _ x=>(by cases x),fun _ _ x=>(by cases x)⟩
theorem zdY {listed:Array Bool}{i k:Nat}(hk:k < listed.size):(listed.setIfInBounds i true).getD k true=(if i=k then true else listed.getD k true):=by
 rw[zac,zac,zak]
 split
 ·rename_i h;subst h;simp[hk]
 ·rfl
theorem getD_set' {listed:Array Bool}{i k:Nat}:(listed.setIfInBounds i true).getD k false=(if i=k∧k < listed.size then true else listed.getD k false):=by
 rw[zac,zac,zak]
 by_cases h:i=k
 ·subst h
  by_cases hk:i < listed.size<;>simp[hk]
 ·simp[h]
theorem getD_ft {listed:Array Bool}{k:Nat}(hk:k < listed.size):listed.getD k true=listed.getD k false:=by
 simp[zac,hk]
theorem SlotsFree.step {listed:Array Bool}{st st':St}{i:Nat}(hf:SlotsFree ops base listed st.H)(hi:i < ops.length)(hli:listed.getD i true=false)(hls:listed.size=ops.length)
  (h:StepR P ops an base i st st'):SlotsFree ops base (listed.setIfInBounds i true) st'.H:=by
 obtain⟨o,d,e,ho,ha,rfl⟩:=h
 have live:∀{b:Nat} {y:Blk},(zcz base (zd7 ops an i) st.H)[b]? = some y→y≠.free→∀s:Nat,st.H[s]? = some Blk.free→b≠s:=fun {b y} hb hy s hs e=>by
  subst e;exact hy (maskL_free hb hs)
 have other:∀s:Nat,st.H[s]? = some Blk.free→s≠zdf ops base i→(e.app st.H (zdf ops base i))[s]? = some Blk.free:=fun s hs hne=>by
  cases e with
  |keep=>exact hs
  |put x=>exact slot_set hs (Ne.symm hne)
  |upd b x=>obtain⟨y,hb,hy⟩:=ha.upd_live.1 b x rfl;exact slot_set hs (live hb hy s hs)
  |ren ob x=>
   refine slot_set ?_ (Ne.symm hne)
   cases ob with
   |none=>exact hs
   |some b=>obtain⟨y,hb,hy⟩:=ha.upd_live.2 b x rfl;exact slot_set hs (live hb hy s hs)
 have keep:zfa o=false→∀s:Nat,st.H[s]? = some Blk.free→(e.app st.H (zdf ops base i))[s]? = some Blk.free:=fun hn s hs=>by
  have hk:zcN o=.pure∨zcN o=.look:=by cases hk:zcN o<;>simp[zfa,hk] at hn ⊢
  rw[ha.eff.1 hk];exact hs
 refine⟨fun k hk hlk=>?_,?_⟩
 ·have hki:k≠i:=fun e=>by subst e;rw[zdY (by omega)] at hlk;simp at hlk
  have hlk':listed.getD k true=false:=by
   rw[zdY (by omega),if_neg (Ne.symm hki)] at hlk;exact hlk
  have hs:=hf.slot k hk hlk'
  by_cases hn:zfa o=true
  ·refine other _ hs fun he=>?_
   obtain⟨p,hp⟩:∃p,ops[k]? = some p:=⟨_,zb hk⟩
   rcases slot_case (base:=base) hp with h1|⟨h1,_,_⟩
   ·rcases slot_case (base:=base) ho with h2|⟨_,h2,h3⟩
    ·simp[zdf,ho,hn] at h2
     have:=rank_lt ho hn;omega
    ·omega
   ·exact slot_ne hp ho h1 hn hki he
  ·exact keep (by simpa using hn) _ hs
 ·by_cases hn:zfa o=true
  ·refine other _ hf.last ?_
   rcases slot_case (base:=base) ho with h2|⟨_,h2,h3⟩
   ·simp[zdf,ho,hn] at h2
    have:=rank_lt ho hn;omega
   ·omega
  ·exact keep (by simpa using hn) _ hf.last
theorem SlotsFree.at {listed:Array Bool}{H:List Blk}{i:Nat}(hf:SlotsFree ops base listed H)(hi:i < ops.length)(hli:listed.getD i true=false):H[zdf ops base i]? = some .free:=hf.slot i hi hli
theorem step_ok (hG:zc6 G)(hY:YOk P G){ro:Option Nat}{st st':St}{a:Act}{w:World}{i:Nat}{Q:Exit→Act→World→Prop}{K:Act→World→Prop}(hr:FR G st a w)(hfree:st.H[zdf ops base i]? = some .free)
  (h:StepR P ops an base i st st') (hK:∀a' w',FR G st' a' w'→K a' w'):wpOpIn (FW ro) 0 P ops.toArray Q i K a w:=by
 obtain⟨o,d,e,ho,ha,rfl⟩:=h
 obtain⟨A,φ,hr⟩:=hr
 have hgo:Acts.go P o (zdf ops base i) st.t (zcz base (zd7 ops an i) st.H) d e→o.wpIn (FW ro) 0 P a w K Q:=fun h=>by
  unfold Acts.go at h
  split at h
  ·rename_i f args tys hop
   split at h
   ·rename_i g xs hc
    obtain⟨h1,h2,rfl⟩:=h
    refine execO_ok hG hY (K:=fun s=>s={ t:=setT st.t o.dst d,H:=st.H,ds:=st.ds,g:=st.g }) ⟨A,φ,hr⟩ ?_ fun s a' w' e hf=>hK a' w' (by rw[e] at hf;exact hf)
    unfold zfb
    rw[hop]
    simp only[zeM hc,hc]
    exact call_freshL (lk:=fun b=>(zcz base (zd7 ops an i) st.H)[b]?) (fun b sz es hb=>maskL_sub _ _ _ _ _ _ hb) h1 h2 rfl
   ·exact h.elim
  ·rename_i hop
   obtain⟨x,w',A',φ',h1,h2⟩:=stepD_ok hG hr hfree (maskL_sub base (zd7 ops an i) st.H) (maskL_subT base (zd7 ops an i) st.H) h
   have hnd:∀c,o.op≠.defer c:=fun c hc=>by rw[hc] at h;cases h
   refine⟨fun _ _=>trivial,?_⟩
   rw[Oper.semAt_eq _ _ _ hnd]
   rcases h1 with h1|⟨h1,rfl⟩
   ·rw[h1];exact hK _ _ ⟨A',φ',h2⟩
   ·rw[h1];exact hK _ _ ⟨A',φ',h2⟩
 have hget:ops.toArray[i]? = some o:=by simpa using ho
 unfold wpOpIn
 simp only[hget]
 unfold Acts at ha
 split at ha
 ·rename_i hg
  rw[if_pos (by simp[Region.wanted,hg])]
  exact hgo ha
 ·rename_i j want hg
  split at ha
  ·rename_i b hb
   have hy:=guard_ok (ops:=ops) hr.tr hb
   have hw:Region.wanted o (yielded ops.toArray a.tmps)=(b==want):=by simp[Region.wanted,hg,hy]
   rw[hw]
   split at ha
   ·rename_i hbw
    rw[if_pos (by simpa using hbw)]
    exact hgo ha
   ·rename_i hbw
    rw[if_neg (by simpa using hbw)]
    obtain⟨rfl,rfl⟩:=ha
    exact⟨fun _ _=>trivial,hK _ _ ⟨A,φ,hr.value o.dst (.v _ _)⟩⟩
  ·obtain⟨hu,rfl,rfl⟩:=ha
   have hw:Region.wanted o (yielded ops.toArray a.tmps)=false:=by simp[Region.wanted,hg,undef_ok (ops:=ops) hr.tr hu]
   rw[hw,if_neg (by simp)]
   exact⟨fun _ _=>trivial,hK _ _ ⟨A,φ,hr.value o.dst (.v _ _)⟩⟩
theorem any_ok (hG:zc6 G)(hY:YOk P G){ro:Option Nat}{Q:Exit→Act→World→Prop}{stf:St}(hd:drawOk ops=true)(han:an=ancs ops [])(hQ:∀a' w',FR G stf a' w'→Q .normal a' w'):
  ∀(fuel:Nat) (listed:Array Bool) (st:St) (a:Act) (w:World),listed.size=ops.length→(zdt ops.length listed).length=fuel→
   (∀k,listed.getD k false=true→∀m∈an.getD k [],listed.getD m false=true)→FR G st a w→SlotsFree ops base listed st.H→RunR P ops an base (zdt ops.length listed) st stf→
   wpAnyIn (FW ro) 0 P .any ops.toArray Q fuel listed a w:=by
 have hdeps:∀i o,ops[i]? = some o→∀j∈zdx o,j < i:=fun i o ho j hj=>by
  have hi:=(za.1 ho).1
  simp only[drawOk,zh,zP,zJ] at hd
  have:=(hd i hi).1 j (by simp[ho];exact hj)
  simpa using this
 have hind:∀i,i < ops.length→∀j,j < i→(an.getD i []).contains j=true∨indep ops an j i=true:=fun i hi j hj=>by
  simp only[drawOk,zh,zP,zJ] at hd
  have:=(hd i hi).2 j hj
  rw[←han] at this
  simpa using this
 have ready_iff:∀(listed:Array Bool) i,i∈Region.ready .any ops.toArray listed↔i < ops.length∧listed.getD i true=false∧∃o,ops[i]? = some o∧∀j∈zdx o,listed.getD j false=true:=fun listed i=>by
  unfold Region.ready
  simp only[zar,zP,zbo,zJ,zas]
  refine and_congr Iff.rfl (and_congr Iff.rfl ?_)
  cases ho:ops[i]? with
  |none=>simp[ho]
  |some o=>
   simp only[zbj,ho,zq,zao,zn,exists_eq_left']
   simp only[zdx,zt,zar,zbH,zbT,zbm,zas]
   constructor
   ·rintro h j ⟨e,⟨he,hb⟩,rfl⟩
    rcases h e he with h|h
    ·rw[hb] at h;cases h
    ·exact h
   ·intro h e he
    cases hb:Region.binds .any e with
    |false=>exact .inl rfl
    |true=>exact .inr (h e.on ⟨e,⟨he,hb⟩,rfl⟩)
 intro fuel
 induction fuel with
 |zero=>
  intro listed st a w hls hlen hdc hr hf hrun
  have hnil:zdt ops.length listed=[]:=zU hlen
  refine⟨?_,?_⟩
  ·cases hrd:Region.ready .any ops.toArray listed with
   |nil=>rfl
   |cons i l=>
    have:i∈Region.ready .any ops.toArray listed:=by rw[hrd];exact zB ..
    obtain⟨h1,h2,_⟩:=(ready_iff listed i).1 this
    have:i∈zdt ops.length listed:=mem_rem.2 ⟨h1,h2⟩
    rw[hnil] at this;cases this
  ·rw[hnil] at hrun
   have:st=stf:=hrun
   subst this
   exact hQ a w hr
 |succ fuel ih=>
  intro listed st a w hls hlen hdc hr hf hrun
  refine⟨fun hnil=>?_,fun i hi=>?_⟩
  ·
   exfalso
   cases hrem:zdt ops.length listed with
   |nil=>rw[hrem] at hlen;cases hlen
   |cons i l=>
    have himem:i∈zdt ops.length listed:=by rw[hrem];exact zB ..
    obtain⟨h1,h2⟩:=mem_rem.1 himem
    have hready:i∈Region.ready .any ops.toArray listed:=by
     refine (ready_iff listed i).2 ⟨h1,h2,_,zb h1,fun j hj=>?_⟩
     have hji:=hdeps i _ (zb h1) j hj
     have hjl:j < listed.size:=by omega
     cases hjv:listed.getD j true with
     |true=>rw[←getD_ft hjl];exact hjv
     |false=>
      have hjm:j∈zdt ops.length listed:=mem_rem.2 ⟨by omega,hjv⟩
      have hs:(zdt ops.length listed).Pairwise (· < ·):=List.Pairwise.filter _ zbe
      rw[hrem] at hs hjm
      rcases zH.1 hjm with e|hm
      ·omega
      ·have:=(zam.1 hs).1 j hm;omega
    rw[hnil] at hready;cases hready
  ·obtain⟨h1,h2,o,ho,hdep⟩:=(ready_iff listed i).1 hi
   have himem:i∈zdt ops.length listed:=mem_rem.2 ⟨h1,h2⟩
   obtain⟨l1,l2,hl⟩:=List.append_of_mem himem
   have hs:(zdt ops.length listed).Pairwise (· < ·):=List.Pairwise.filter _ zbe
   have hl1:∀j∈l1,j < i:=fun j hj=>by
    rw[hl] at hs
    exact (zau.1 hs).2.2 j hj i (zB ..)
   have hl2:∀j∈l2,i < j:=fun j hj=>by
    rw[hl] at hs
    exact (zam.1 (zau.1 hs).2.1).1 j hj
   have hunl:∀j∈l1,listed.getD j true=false:=fun j hj=>(mem_rem.1 (by rw[hl];exact zaj _ hj)).2
   have hfront:∀j∈l1,j≠i∧indep ops an j i=true:=fun j hj=>by
    have hji:=hl1 j hj
    refine⟨by omega,?_⟩
    rcases hind i h1 j hji with hc|hc
    ·exfalso
     have hm:j∈an.getD i []:=by simpa using hc
     have hspec:=(ancs_spec ops []).2 i o ho j (by rw[←han];simpa using hm)
     rw[←han] at hspec
     have hlisted:listed.getD j false=true:=by
      rcases hspec with h|⟨k,hk,hm'⟩
      ·exact hdep j h
      ·exact hdc k (hdep k hk) j hm'
     have hjl:j < listed.size:=by omega
     have:=hunl j hj
     rw[getD_ft hjl,hlisted] at this;cases this
    ·exact hc
   rw[hl] at hrun
   obtain⟨s1,hstep,hrest⟩:=RunR.front hfront hrun
   have hrem':zdt ops.length (listed.setIfInBounds i true)=l1++l2:=by
    have hcongr:zdt ops.length (listed.setIfInBounds i true)=(zdt ops.length listed).filter fun k=>decide (k≠i):=by
     unfold zdt
     rw[List.filter_filter]
     apply List.filter_congr
     intro k hk
     rw[zdY (by rw[hls];simpa using hk)]
     by_cases hik:i=k
     ·subst hik;simp
     ·simp[hik,Ne.symm hik]
    rw[hcongr,hl,za4,zaR (by simp)]
    congr 1
    ·exact zbd.2 fun j hj=>by have:=hl1 j hj;simp;omega
    ·exact zbd.2 fun j hj=>by have:=hl2 j hj;simp;omega
   refine step_ok hG hY hr (hf.at h1 h2) hstep fun a' w' hr'=>?_
   refine ih _ s1 a' w' (by simpa using hls) ?_ ?_ hr' (hf.step h1 h2 hls hstep) (by rw[hrem'];exact hrest)
   ·rw[hrem']
    rw[hl] at hlen
    simp only[zw,z4] at hlen ⊢
    omega
   ·intro k hk m hm
    rw[getD_set'] at hk ⊢
    split at hk
    ·rename_i hik
     obtain⟨rfl,_⟩:=hik
     have hspec:=(ancs_spec ops []).2 i o ho m (by rw[←han];simpa using hm)
     rw[←han] at hspec
     have:listed.getD m false=true:=by
      rcases hspec with h|⟨k,hk,hm'⟩
      ·exact hdep m h
      ·exact hdc k (hdep k hk) m hm'
     split
     ·rfl
     ·exact this
    ·split
     ·rfl
     ·exact hdc k hk m hm
end
end
end Go.DL
/- A range over a function, over abstract values: what an iterator promises, and the rule for the statement. -/
namespace Go.DL
open Go.RowKit Go.Proofs
noncomputable section
def still:Nat→D→Bool
 |k+1,.agg cs=>cs.all (still k)
 |k+1,.tup cs=>cs.all (still k)
 |_,.fl _=>true
 |_,d=>flat d
theorem V.fl_up {A A':Rd}{w:World}{φ φ':Nat→Loc}(hA:∀n,A n→A' n)(hb:A'.b0≤A.b0){es:List (List D)}{u:Value}(h:V A w φ (.fl es) u):V A' w φ' (.fl es) u:=by
 cases h with
 |fl0=>exact .fl0 _ _ _
 |fl _ _ n off sz cap u ha hcap hsz hc h=>
  exact .fl _ _ n off sz cap u ⟨hA n ha.1,zR hb ha.2⟩ hcap hsz hc fun i e j d h1 h2=>
   V.mono (A:=A.fresh) (A':=A'.fresh) (fun m hm=>⟨hA m hm.1,zR hb hm.2⟩) (fun _ _=>rfl) (fun _=>Loc.le_refl _) (h i e j d h1 h2)
theorem V.still {A A':Rd}{w:World}{φ φ':Nat→Loc}(hA:∀n,A n→A' n)(hb:A'.b0≤A.b0):∀(k:Nat) {d:D} {u:Value},V A w φ d u→DL.still k d=true→V A' w φ' d u:=by
 intro k
 induction k with
 |zero=>
  intro d u h hd
  cases d with
  |fl es=>exact h.fl_up hA hb
  |_=>exact h.flat (by simpa[DL.still] using hd) hA
 |succ k ih=>
  intro d u h hd
  cases d with
  |fl es=>exact h.fl_up hA hb
  |agg cs=>
   simp only[DL.still,zh] at hd
   cases h with
   |agg _ cs vs hl h=>exact .agg _ _ _ hl fun i d u h1 h2=>ih (h i d u h1 h2) (hd d (zm h1))
  |tup cs=>
   simp only[DL.still,zh] at hd
   cases h with
   |tup _ cs vs hl h=>exact .tup _ _ _ hl fun i d u h1 h2=>ih (h i d u h1 h2) (hd d (zm h1))
  |_=>exact h.flat (by simpa[DL.still] using hd) hA
def setPs (t:List D):List (Tmp × D)→List D
 |[]=>t
 |(i,d)::r=>setPs (t.set i d) r
theorem TR.puts {A:Rd}{w:World}{φ:Nat→Loc}:∀(ps:List Tmp) {args:List D} {vs:List Value} {t:List D} {tmps:Array Value},TR A w φ t tmps→vs.length=args.length→
  (∀(i:Nat) (d:D) (u:Value),args[i]? = some d→vs[i]? = some u→V A w φ d u)→
  TR A w φ (setPs t (ps.zip args)) ((ps.zip vs).foldl (fun tmps p=>tmps.setIfInBounds p.1 p.2) tmps)
 |[],_,_,_,_,ht,_,_=>ht
 |p::ps,[],[],_,_,ht,_,_=>ht
 |p::ps,d::args,v::vs,t,tmps,ht,hl,hv=>by
  simp only[List.zip_cons_cons,setPs,List.foldl_cons]
  refine TR.puts ps (TR.put (a:=⟨tmps,[]⟩) ht (some p) (hv 0 d v rfl rfl)) (by simpa using hl) fun i d' u h1 h2=>hv (i+1) d' u (by simpa using h1) (by simpa using h2)
theorem Keep.wide {N:Nat}{w w':World}{F F':Fr}(X:Nat→Prop)(h:Keep N w F w' F'):
  Keep N w ⟨fun n=>F.O n∨X n,F.A,F.φ⟩ w' ⟨fun n=>F'.O n∨X n,F'.A,F'.φ⟩:=
 ⟨{ h.ext with same:=fun n hn ho=>h.ext.same n hn fun x=>ho (.inl x),own:=fun n hn=>hn.elim (fun x=>(h.ext.own n x).imp .inl id) fun x=>.inl (.inr x) },h.up,fun n hn=>(h.new n hn).imp id (.imp .inl id),h.le,h.b0⟩
def Gh.body (N:Nat)(w:World)(F:Fr)(l:Nat)(R0:Loop):Gh where
 N:=N
 I:=fun _ w' F'=>Keep N w ⟨fun n=>F.O n∨n=l,F.A,F.φ⟩ w' ⟨fun n=>F'.O n∨n=l,F'.A,F'.φ⟩∧¬F'.O l∧¬F'.A l∧w'.heap[l]? = some (.loop R0)
theorem stab_body (N:Nat)(w:World)(F:Fr)(l:Nat)(R0:Loop):zc6 (Gh.body N w F l R0):=by
 rintro g w1 F1 w2 F2 ⟨h1,h2,h3,h4⟩ k
 have hl:l < w1.heap.size:=(z3.1 h4).1
 refine⟨h1.trans (k.wide _),fun x=>?_,fun x=>?_,(k.ext.same l hl h2).trans h4⟩
 ·exact (k.ext.own l x).elim h2 fun y=>by omega
 ·rcases k.new l x with y|y|y
  ·exact h3 y
  ·exact h2 y
  ·omega
structure RangeI (N:Nat)(w0:World)(F0:Fr)(m:Nat)(ds:List Nat)(l:Nat)(w:World)(F:Fr)(H:List Blk)(R:Loop)(A:Rd)(φ:Nat→Loc):Prop where
 rh:RH A φ w H
 keep:Keep N w0 F0 w ⟨zec φ ds,A,φ⟩
 le:∀b,(F0.φ b).le (φ b)
 hm:m≤w.heap.size
 rcd:w.heap[l]? = some (.loop R)
 lA:¬A l
 lO:¬zec φ ds l
 dk:∀r,r∈ds→w.heap[r]? = some (.deferred (some []))∧¬A r∧¬own φ r
 o1:∀n,F.O n→m≤n∧¬zec φ ds n∧¬A n
 a1:∀n,F.A n→¬zec φ ds n∧n≠l∧(F0.A n∨w0.heap.size≤n)
 b1:F0.A.b0≤F.A.b0
section
variable {P:Program}{N:Nat}{w0:World}{F0:Fr}{m:Nat}{ds:List Nat}{l:Nat}
theorem RangeI.olt {w:World}{F:Fr}{H:List Blk}{R:Loop}{A:Rd}{φ:Nat→Loc}(h:RangeI N w0 F0 m ds l w F H R A φ){n:Nat}(hn:zec φ ds n):n < w.heap.size:=
 hn.elim (h.rh.olt n) fun hm=>(z3.1 (h.dk n hm).1).1
theorem RangeI.stab (hl:l < m)(hm0:w0.heap.size≤m){w w':World}{F F':Fr}{H:List Blk}{R:Loop}{A:Rd}{φ:Nat→Loc}(h:RangeI N w0 F0 m ds l w F H R A φ){M:Nat}(k:Keep M w F w' F'):
  RangeI N w0 F0 m ds l w' F' H R A φ:=by
 have hO:∀n,zec φ ds n→w'.heap[n]? = w.heap[n]? := fun n hn=>k.ext.same n (h.olt hn) fun x=>(h.o1 n x).2.1 hn
 have hA:∀n,A n→w'.heap[n]? = w.heap[n]? := fun n hn=>k.ext.same n (h.rh.lt n hn) fun x=>(h.o1 n x).2.2 hn
 have hmw:=h.hm
 have hlt:l < w.heap.size:=by omega
 refine⟨h.rh.move hA (fun n hn=>hO n (.inl hn)) k.ext.size,?_,h.le,zR h.hm k.ext.size,(k.ext.same l hlt fun x=>by have:=(h.o1 l x).1;omega).trans h.rcd,h.lA,h.lO,fun r hr=>⟨(hO r (.inr hr)).trans (h.dk r hr).1,(h.dk r hr).2⟩,fun n hn=>?_,fun n hn=>?_,by rw[k.b0];exact h.b1⟩
 ·refine⟨⟨k.ext.os.trans h.keep.ext.os,k.ext.tape.trans h.keep.ext.tape,k.ext.output.trans h.keep.ext.output,zR h.keep.ext.drawn k.ext.drawn,zR h.keep.ext.size k.ext.size,fun n hn ho=>?_,h.keep.ext.own⟩,h.keep.up,h.keep.new,h.keep.le,h.keep.b0⟩
  exact (k.ext.same n (zaf hn h.keep.ext.size) fun x=>by have:=(h.o1 n x).1;omega).trans (h.keep.ext.same n hn ho)
 ·rcases k.ext.own n hn with x|x
  ·exact h.o1 n x
  ·exact⟨by omega,fun y=>by have:=h.olt y;omega,fun y=>by have:=h.rh.lt n y;omega⟩
 ·rcases k.new n hn with x|x|x
  ·exact h.a1 n x
  ·exact⟨(h.o1 n x).2.1,fun e=>by have:=(h.o1 n x).1;omega,.inr (zR hm0 (h.o1 n x).1)⟩
  ·exact⟨fun y=>by have:=h.olt y;omega,fun e=>by omega,.inr (zR h.keep.ext.size x)⟩
theorem range_round (hl:l < m)(hm0:w0.heap.size≤l){w:World}{F:Fr}{H:List Blk}{R0:Loop}{A:Rd}{φ:Nat→Loc}(h:RangeI N w0 F0 m ds l w F H R0 A φ)(hs:R0.state=.ready)(hp:R0.pending=none)
  {t:List D} (ht:TR F0.A w0 F0.φ t R0.tmps) (hA1:∀n,F0.A n→n < w0.heap.size∧¬F0.O n) {args:List D} {vs:Array Value} (hv:VS F.A w F.φ args vs) (hst:args.all (DL.still 3)=true)
  (hFA:∀n,F.A n→n < w.heap.size) (hFO:∀n,F.O n→n < w.heap.size) (hdis:∀n,F.O n→¬F.A n) {RB:Exit→St→Prop}
  (hB:∀Gb,zc6 Gb→YOk P Gb→Gb.N=H.length→Sp P (some l) Gb R0.assign { t:=setPs t (R0.params.toList.zip args),H:=H,ds:=[],g:=(0,false) } fun e s=>e=.normal∧∀Gb',zc6 Gb'→YOk P Gb'→Gb'.N=H.length→Sp P (some l) Gb' R0.body s RB)
  {J:List Blk→Prop} {S:Code→List Blk→Prop} (hJ:∀s,RB .normal s→J s.H) (hret:∀s,RB .ret s→S .ret s.H) (hexit:∀id s,RB (.exit id) s→S (.exit id) s.H) (hno:∀s,(∀t,¬RB (.goto t) s)∧(∀c,¬RB (.panic c) s)∧¬RB .outgrown s):
  RoundIn Fence.wide 0 P l R0.fn ((R0.params.zip vs).foldl (fun tmps (t,a)=>tmps.setIfInBounds t a) R0.tmps) R0.assign R0.body w fun e w'=>
   (∀n,F.O n∨F.A n→w'.heap[n]? = w.heap[n]?)∧w.heap.size≤w'.heap.size∧
   ((e=.returned (.bool true)∧∃H' A' φ',J H'∧RangeI N w0 F0 m ds l w' F H' R0 A' φ')∨
    (e=.returned (.bool false)∧∃c H' A' φ',S c H'∧RangeI N w0 F0 m ds l w' F H' { R0 with state:=.done,pending:=some c } A' φ')):=by
 have hmw:=h.hm
 have hlt:l < w.heap.size:=by omega
 let A2:Rd:=⟨fun n=>A n∨F.A n,A.b0⟩
 have hAb:A.b0=F0.A.b0:=h.keep.b0
 have hrh:RH A2 φ w H:=⟨h.rh.out,h.rh.free,h.rh.dead,fun b sz es hb=>(h.rh.live b sz es hb).imp id fun⟨n,base,room,c,ty,q1,q2⟩=>
   ⟨n,base,room,c,ty,q1,q2.mono (fun _ x=>Or.inl x) (fun _ _=>rfl) (fun _=>Loc.le_refl _) rfl⟩,fun b clk es hb=>let ⟨n,ms,q1,q2⟩:=h.rh.tab b clk es hb;⟨n,ms,q1,q2.mono (fun _ x=>Or.inl x) (fun _ _=>rfl) (fun _=>Loc.le_refl _) rfl⟩,h.rh.inj,fun n hn ha=>ha.elim (h.rh.dis n hn) fun x=>(h.a1 n x).1 (.inl hn),fun n hn=>hn.elim (h.rh.lt n) (hFA n),h.rh.olt,h.rh.ofr,h.rh.bsz⟩
 have htr:TR A2 w φ (setPs t (R0.params.toList.zip args)) ((R0.params.zip vs).foldl (fun tmps (t,a)=>tmps.setIfInBounds t a) R0.tmps):=by
  have h0:TR A2 w φ t R0.tmps:=ht.mono (fun n hn=>Or.inl (h.keep.up n hn)) (fun n hn=>h.keep.ext.same n (hA1 n hn).1 (hA1 n hn).2) h.le (zaF hAb)
  have:=TR.puts (A:=A2) (w:=w) (φ:=φ) R0.params.toList (args:=args) (vs:=vs.toList) h0 (by simpa using hv.size) fun i d u h1 h2=>by
   refine (hv.val i d u h1 (by simpa using h2)).still (A':=A2) (fun n hn=>Or.inr hn) (by show A.b0≤F.A.b0;rw[hAb];exact h.b1) 3 ?_
   rw[zh] at hst
   exact hst d (zm h1)
  rw[←Array.foldl_toList,Array.toList_zip]
  exact this
 let Fb:Fr:=⟨own φ,A2,φ⟩
 let Gb:=Gh.body H.length w Fb l R0
 have hGb:zc6 Gb:=stab_body _ _ _ _ _
 have hYb:YOk P Gb:=fun l g ds vs K w F _ _ _ _ _ _ h=>h.elim
 have hlo:¬own φ l:=fun x=>h.lO (.inl x)
 have hla:¬A2 l:=fun x=>x.elim h.lA fun y=>(h.a1 l y).2.1 rfl
 have hown:∀φ:Nat→Loc,zec φ []=own φ:=fun φ=>by funext n;simp[zec]
 have hfr:FR Gb { t:=setPs t (R0.params.toList.zip args),H:=H,ds:=[],g:=(0,false) } { tmps:=(R0.params.zip vs).foldl (fun tmps (t,a)=>tmps.setIfInBounds t a) R0.tmps,defers:=[] } w:=
  ⟨A2,φ,hrh,htr,by rw[hown];exact⟨Keep.refl _ _ _,hlo,hla,h.rcd⟩,rfl,by simp,List.nodup_nil⟩
 have hend:∀(R' R'':Loop) (s:St) (a:Act) (w':World) (A':Rd) (φ':Nat→Loc),FRc (Gh.body H.length w Fb l R'') s a w' A' φ'→
   (∀n,F.O n∨F.A n→(w'.putObj l (.loop R')).heap[n]? = w.heap[n]?)∧w.heap.size≤(w'.putObj l (.loop R')).heap.size∧RangeI N w0 F0 m ds l (w'.putObj l (.loop R')) F s.H R' A' φ':=by
  intro R' R'' s a w' A' φ' hr
  obtain⟨k,k1,k2,k3⟩:=hr.gh
  have hlt':l < w'.heap.size:=(z3.1 k3).1
  have hws:w.heap.size≤w'.heap.size:=k.ext.size
  have k0:∀n,n < w.heap.size→¬own φ n→n≠l→w'.heap[n]? = w.heap[n]? := fun n h1 h2 h3=>k.ext.same n h1 fun x=>x.elim h2 h3
  have hownall:∀n,own φ' n→own φ n∨w.heap.size≤n:=fun n hn=>by
   rcases k.ext.own n (.inl (.inl hn)) with (x|x)|x
   ·exact .inl x
   ·exact absurd (.inl (x ▸ hn)) k1
   ·exact .inr x
  have hdsl:∀r,r∈ds→r≠l:=fun r hr e=>h.lO (.inr (e ▸ hr))
  have hds1:∀r,r∈ds→w'.heap[r]? = some (.deferred (some []))∧¬A' r∧¬own φ' r:=fun r hr=>by
   obtain⟨q1,q2,q3⟩:=h.dk r hr
   have hrlt:r < w.heap.size:=(z3.1 q1).1
   refine⟨(k0 r hrlt q3 (hdsl r hr)).trans q1,fun x=>?_,fun x=>?_⟩
   ·rcases k.new r x with (y|y)|(y|y)|y
    ·exact q2 y
    ·exact (h.a1 r y).1 (.inr hr)
    ·exact q3 y
    ·exact hdsl r hr y
    ·omega
   ·rcases hownall r x with y|y
    ·exact q3 y
    ·omega
  have hoth:∀n,n≠l→(w'.putObj l (.loop R')).heap[n]? = w'.heap[n]? := fun n hn=>World.putObj_heap_other hn
  have hnl:∀n,own φ' n→n≠l:=fun n hn e=>k1 (.inl (e ▸ hn))
  have hnA:∀n,A' n→n≠l:=fun n hn e=>k2 (e ▸ hn)
  have hFl:∀n,F.O n∨F.A n→n≠l∧¬own φ n∧n < w.heap.size:=fun n hn=>by
   rcases hn with hn|hn
   ·have:=(h.o1 n hn).1
    exact⟨by omega,fun x=>(h.o1 n hn).2.1 (.inl x),hFO n hn⟩
   ·exact⟨(h.a1 n hn).2.1,fun x=>(h.a1 n hn).1 (.inl x),hFA n hn⟩
  have hall':∀n,zec φ' ds n→zec φ ds n∨w.heap.size≤n:=fun n hn=>hn.elim (fun x=>(hownall n x).imp .inl id) fun x=>.inl (.inr x)
  refine⟨fun n hn=>?_,?_,?_,?_,fun b=>?_,?_,World.putObj_heap_same hlt',k2,?_,fun r hr=>⟨(hoth r (hdsl r hr)).trans (hds1 r hr).1,(hds1 r hr).2⟩,fun n hn=>?_,fun n hn=>?_,h.b1⟩
  ·obtain⟨q1,q2,q3⟩:=hFl n hn
   rw[hoth n q1];exact k0 n q3 q2 q1
  ·rw[World.putObj_size];exact hws
  ·exact hr.rh.move (fun n hn=>hoth n (hnA n hn)) (fun n hn=>hoth n (hnl n hn)) (zaF World.putObj_size.symm)
  ·refine⟨⟨k.ext.os.trans h.keep.ext.os,k.ext.tape.trans h.keep.ext.tape,k.ext.output.trans h.keep.ext.output,zR h.keep.ext.drawn k.ext.drawn,?_,fun n hn ho=>?_,fun n hn=>?_⟩,fun n hn=>k.up n (.inl (h.keep.up n hn)),fun n hn=>?_,fun b hb=>?_,k.b0.trans hAb⟩
   ·rw[World.putObj_size];exact zR h.keep.ext.size hws
   ·have hnlt:n < w.heap.size:=zaf hn h.keep.ext.size
    rw[hoth n (by omega),k0 n hnlt (fun x=>(h.keep.ext.own n (.inl x)).elim ho fun y=>by omega) (by omega)]
    exact h.keep.ext.same n hn ho
   ·rcases hall' n hn with x|x
    ·exact h.keep.ext.own n x
    ·exact .inr (zR h.keep.ext.size x)
   ·rcases k.new n hn with (y|y)|(y|y)|y
    ·exact h.keep.new n y
    ·exact (h.a1 n y).2.2.imp id .inr
    ·rcases h.keep.ext.own n (.inl y) with z|z
     ·exact .inr (.inl z)
     ·exact .inr (.inr z)
    ·exact .inr (.inr (by omega))
    ·exact .inr (.inr (zR h.keep.ext.size y))
   ·exact Loc.le_trans (h.keep.le b hb) (by
     rcases zZ b H.length with hb'|hb'
     ·exact k.le b hb'
     ·exact .inl (h.rh.out b (zs hb')))
  ·exact Loc.le_trans (h.le b) (by
     rcases zZ b H.length with hb'|hb'
     ·exact k.le b hb'
     ·exact .inl (h.rh.out b (zs hb')))
  ·rw[World.putObj_size];omega
  ·rintro (x|x)
   ·exact k1 (.inl x)
   ·exact h.lO (.inr x)
  ·obtain⟨q1,q2,q3⟩:=h.o1 n hn
   refine⟨q1,fun x=>(hall' n x).elim q2 fun y=>by have:=hFO n hn;omega,fun x=>?_⟩
   rcases k.new n x with (y|y)|(y|y)|y
   ·exact q3 y
   ·exact hdis n hn y
   ·exact q2 (.inl y)
   ·omega
   ·have:=hFO n hn;omega
  ·obtain⟨q1,q2⟩:=h.a1 n hn
   exact⟨fun x=>(hall' n x).elim q1 fun y=>by have:=hFA n hn;omega,q2⟩
 refine roundIn_of_wpIn (F:=Fence.wide) trivial ?_
 refine wpIn_mono (hB Gb hGb hYb rfl _ w hfr) ?_
 rintro e a w' ⟨s,⟨rfl,hbody⟩,A',φ',hr⟩
 have hgi:=hr.gh
 obtain⟨k,k1,k2,k3⟩:=hgi
 let R1:Loop:={ R0 with state:=.busy }
 let Gc:=Gh.body H.length w Fb l R1
 have hlt':l < w'.heap.size:=(z3.1 k3).1
 refine⟨_,run_beginRound k3 hs,?_⟩
 have hoth:∀n,n≠l→(w'.putObj l (.loop R1)).heap[n]? = w'.heap[n]? := fun n hn=>World.putObj_heap_other hn
 have hfr2:FR Gc s a (w'.putObj l (.loop R1)):=by
  refine⟨A',φ',hr.rh.move (fun n hn=>hoth n fun e=>k2 (e ▸ hn)) (fun n hn=>hoth n fun e=>k1 (.inl (e ▸ hn))) (zaF World.putObj_size.symm),hr.tr.mono (fun _ x=>x) (fun n hn=>hoth n fun e=>k2 (e ▸ hn)) (fun _=>Loc.le_refl _),⟨?_,k1,k2,World.putObj_heap_same hlt'⟩,hr.df,fun r hr'=>⟨(hoth r fun e=>?_).trans (hr.dk r hr').1,(hr.dk r hr').2⟩,hr.nd⟩
  ·exact⟨⟨k.ext.os,k.ext.tape,k.ext.output,k.ext.drawn,by rw[World.putObj_size];exact k.ext.size,fun n hn ho=>(hoth n fun e=>ho (.inr e)).trans (k.ext.same n hn ho),k.ext.own⟩,k.up,k.new,k.le,k.b0⟩
  ·exact k1 (.inr (e ▸ hr'))
 refine wpIn_mono (hbody Gc (stab_body _ _ _ _ _) (fun l g ds vs K w F _ _ _ _ _ _ h=>h.elim) rfl a _ hfr2) ?_
 rintro e a2 w2 ⟨s2,q,A2',φ2',hr2⟩
 have k4:=hr2.gh.2.2.2
 cases e with
 |normal=>
  refine⟨_,_,run_endRound none k4,?_⟩
  obtain⟨q1,q2,q3⟩:=hend { R1 with state:=.ready,pending:=none } R1 s2 a2 w2 A2' φ2' hr2
  refine⟨q1,q2,.inl ⟨rfl,s2.H,A2',φ2',hJ s2 q,?_⟩⟩
  have e1:({ R1 with state:=.ready,pending:=none }:Loop)=R0:=by
   cases R0;simp only at hs hp;subst hs;subst hp;rfl
  rw[←e1];exact q3
 |ret=>
  refine⟨_,_,run_endRound (some .ret) k4,?_⟩
  obtain⟨q1,q2,q3⟩:=hend { R1 with state:=.done,pending:=some .ret } R1 s2 a2 w2 A2' φ2' hr2
  exact⟨q1,q2,.inr ⟨rfl,.ret,s2.H,A2',φ2',hret s2 q,q3⟩⟩
 |exit id=>
  refine⟨_,_,run_endRound (some (.exit id)) k4,?_⟩
  obtain⟨q1,q2,q3⟩:=hend { R1 with state:=.done,pending:=some (.exit id) } R1 s2 a2 w2 A2' φ2' hr2
  exact⟨q1,q2,.inr ⟨rfl,.exit id,s2.H,A2',φ2',hexit id s2 q,q3⟩⟩
 |goto t=>exact ((hno s2).1 t q).elim
 |panic c=>exact ((hno s2).2.1 c q).elim
 |outgrown=>exact ((hno s2).2.2 q).elim
def Iter (P:Program)(f:FuncId)(first caps:List D)(seq:List (List D)):Prop:=
 Enters P f∧∀(G:Gh) (l:Nat),zc6 G→YOk P G→G.N=0→(∀i args K,seq[i]? = some args→K true (i+1,false)→K false (i,true)→G.Y l (i,false) args K)→
  ∀(w:World) (A:Nat→Prop) (vs:Array Value),(∀n,A n→n < w.heap.size)→VS ⟨A,w.heap.size⟩ w zcM (first++([.fn (.yield l) [] []]++caps)) vs→
   G.I (0,false) w ⟨fun _=>False,⟨A,w.heap.size⟩,zcM⟩→
   CallsIn Fence.wide 0 P f vs w fun e w'=>∃v g F,e=.returned v∧(g=(seq.length,false)∨g.2=true)∧G.I g w' F
theorem Iter.ofS {P:Program}{f:FuncId}{fn:Func}{c:Code}{first caps:List D}{seq:List (List D)}(hf:P.funcs[f]? = some fn)(hb:fn.body=some c)(hname:(fn.name == "runtime.NumGoroutine")=false)
  (h:∀(G:Gh) (l:Nat),zc6 G→YOk P G→G.N=0→(∀i args K,seq[i]? = some args→K true (i+1,false)→K false (i,true)→G.Y l (i,false) args K)→
   Sp P none G c { t:=(first++([.fn (.yield l) [] []]++caps))++List.replicate (fn.ntmps-(first++([D.fn (.yield l) [] []]++caps)).length) .any,H:=[],ds:=[],g:=(0,false) }
    (PostE P fn.results.toList fun _ s=>s.g=(seq.length,false)∨s.g.2=true)):Iter P f first caps seq:=by
 refine⟨enters_of hf hname hb,fun G l hG hY hN hYY w A vs hA hv hg=>?_⟩
 refine func_ofS hG hf hb (g:=(0,false)) (rh_nil hA (zf _)) hv (by rw[own_nowhere];exact hg) (h G l hG hY hN hYY) ?_
 intro s w' A' φ' d x _ hg' _ q
 exact⟨x,s.g,_,rfl,q,hg'⟩
theorem Iter.of {P:Program}{f:FuncId}{fn:Func}{c:Code}{first caps:List D}{seq:List (List D)}(hf:P.funcs[f]? = some fn)(hb:fn.body=some c)(hname:(fn.name == "runtime.NumGoroutine")=false)
  (h:∀(G:Gh) (l:Nat),zc6 G→YOk P G→G.N=0→(∀i args K,seq[i]? = some args→K true (i+1,false)→K false (i,true)→G.Y l (i,false) args K)→
   vc P none G c { t:=(first++([.fn (.yield l) [] []]++caps))++List.replicate (fn.ntmps-(first++([D.fn (.yield l) [] []]++caps)).length) .any,H:=[],ds:=[],g:=(0,false) }
    (PostE P fn.results.toList fun _ s=>s.g=(seq.length,false)∨s.g.2=true)):Iter P f first caps seq:=
 Iter.ofS hf hb hname fun G l hG hY hN hYY=>vc_ok hG hY c (h G l hG hY hN hYY)
end
theorem VS.app {A:Rd}{w:World}{φ:Nat→Loc}{d1 d2:List D}{v1 v2:Array Value}(h1:VS A w φ d1 v1)(h2:VS A w φ d2 v2):VS A w φ (d1++d2) (v1++v2):=by
 refine⟨by simp[h1.size,h2.size],fun i d u k1 k2=>?_⟩
 rw[zan] at k1
 rw[zbV,h1.size] at k2
 split at k1
 ·rename_i hi;rw[if_pos hi] at k2;exact h1.val i d u k1 k2
 ·rename_i hi;rw[if_neg hi] at k2;exact h2.val _ d u k1 k2
theorem Sp_range {P:Program}{G:Gh}(hG:zc6 G){g:Operand}{ps:Array Tmp}{assign body:Code}{st:St}{Q:Exit→St→Prop}{f:FuncId}{first caps:List D}{seq:List (List D)}
  (ks:List Nat) (hf:ev st.t g=.fn (.func f) first caps) (hk:∀b∈ks,b < st.H.length) (hI:Iter P f (first.map (snap (sel ks st.H) 5)) (caps.map (snap (sel ks st.H) 5)) seq)
  (hseq:∀(i:Nat) args,seq[i]? = some args→args.length=ps.size∧args.all (still 3)=true) (J:Nat→List Blk→Prop) (J0:J 0 (killL st.H ks))
  (hB:∀(i:Nat) args H',seq[i]? = some args→J i H'→∀l Gb,zc6 Gb→YOk P Gb→Gb.N=H'.length→
   Sp P (some l) Gb assign { t:=setPs st.t (ps.toList.zip args),H:=H',ds:=[],g:=(0,false) } fun e s=>e=.normal∧∀Gb',zc6 Gb'→YOk P Gb'→Gb'.N=H'.length→
    Sp P (some l) Gb' body s fun e s'=>match e with
     |.normal=>J (i+1) s'.H
     |.ret=>∀ds',Q .ret { st with H:=s'.H,ds:=ds' }
     |.exit id=>∀ds',Q (.exit id) { st with H:=s'.H,ds:=ds' }
     |_=>False)
  (hQ:∀H' ds',J seq.length H'→Q .normal { st with H:=H',ds:=ds' }):Sp P none G (.rangeFunc g ps assign body) st Q:=by
 rintro a w ⟨A,φ,hr⟩
 obtain⟨A1,φ1,k0,k1,k2,k3,k4,k5,k6⟩:=freezeL ks hr.rh hk
 have hr1:FRc G { st with H:=killL st.H ks } a w A1 φ1:=
  hr.step hG k1 ⟨rfl,rfl,rfl,zf _,zf _,fun _ _ _=>rfl,fun n hn=>.inl (k5 n hn)⟩ k2 (fun m hm=>(k3 m hm).imp id .inl) k4 k0
 have hvf:=hr.tr.ev g
 rw[hf] at hvf
 generalize hu:a.eval g=u at hvf
 cases hvf with
 |fn _ _ _ _ vs us hl hl' hh hh'=>
 have hlk:∀b x,sel ks st.H b=some x→st.H[b]? = some x∧b∈ks:=fun b x hb=>by
  unfold sel at hb
  split at hb
  ·rename_i hc;exact⟨hb,by simpa using hc⟩
  ·cases hb
 let r:=w.heap.size
 let l:=w.heap.size+1
 have hlr:∀r',r'∈r::st.ds→r'≠l∧r' < l:=fun r' hr'=>by
  rcases zH.1 hr' with e|e
  ·subst e;exact⟨by omega,by omega⟩
  ·have:=(z3.1 (hr.dk r' e).1).1
   exact⟨by omega,by omega⟩
 refine wpIn_rangeFunc fun fn _=>?_
 let R0:Loop:={ state:=.ready,pending:=none,fn,tmps:=a.tmps,params:=ps,assign,body,defers:=w.heap.size }
 let w2:World:=(w.alloc (.deferred (some []))).alloc (.loop R0)
 have hsz2:w2.heap.size=w.heap.size+2:=by simp[w2]
 have hlt2:∀n,n < w.heap.size→w2.heap[n]? = w.heap[n]? := fun n hn=>by
  show ((w.alloc (.deferred (some []))).alloc (.loop R0)).heap[n]? = _
  rw[zed _ _ (by simp;omega),zed _ _ hn]
 have hl2:w2.heap[l]? = some (.loop R0):=by
  have:=World.alloc_heap_new (w.alloc (.deferred (some []))) (.loop R0)
  simpa[l,w2] using this
 have hr2:w2.heap[r]? = some (.deferred (some [])):=by
  show ((w.alloc (.deferred (some []))).alloc (.loop R0)).heap[r]? = _
  rw[zed _ _ (by simp[r]),heap_alloc_new]
 refine⟨l,[{ target:=.collected r,args:=#[] }],w2,{ target:=.fn (.func f) us,args:=vs++#[.func (.yield l) #[] #[]] },w2,f,vs++#[.func (.yield l) #[] #[]]++us,w2,run_enterLoop_outer fn a.tmps ps assign body,?_,fun _ _=>trivial,by simp only[invoke];exact hI.1 _ _,fun hd=>by simp[FW,Fence.wide] at hd,?_⟩
 ·have he:#[Operand.const (.func (.yield l) #[] #[])].map a.eval=#[.func (.yield l) #[] #[]]:=by simp[Act.eval]
  simp only[resolve,he,hu,Deferred.ofValue,Sem.run_pure]
 let F0:Fr:=⟨zec φ1 st.ds,A1,φ1⟩
 let m:=w.heap.size+2
 let S:Code→List Blk→Prop:=fun c H'=>(c=.ret∧∀ds',Q .ret { st with H:=H',ds:=ds' })∨∃id,c=.exit id∧∀ds',Q (.exit id) { st with H:=H',ds:=ds' }
 let Gi:Gh:={ N:=0,I:=fun g w' F'=>∃H' A' φ',(g.2=false∧J g.1 H'∧RangeI G.N w F0 m (r::st.ds) l w' F' H' R0 A' φ')∨(g.2=true∧∃c,S c H'∧RangeI G.N w F0 m (r::st.ds) l w' F' H' { R0 with state:=.done,pending:=some c } A' φ'),Y:=fun l' g args K=>l'=l∧g.2=false∧seq[g.1]? = some args∧K true (g.1+1,false)∧K false (g.1,true) }
 have hA1:∀n,A1 n→n < w.heap.size∧¬zec φ1 st.ds n:=fun n hn=>⟨k1.lt n hn,fun x=>x.elim (fun y=>k1.dis n y hn) fun y=>(hr1.dk n y).2.1 hn⟩
 have hGi:zc6 Gi:=by
  rintro g w' F' w'' F'' ⟨H',A',φ',h⟩ k
  refine⟨H',A',φ',h.imp (fun⟨h1,h2,h3⟩=>⟨h1,h2,h3.stab (by omega) (by omega) k⟩) fun⟨h1,c,h2,h3⟩=>⟨h1,c,h2,h3.stab (by omega) (by omega) k⟩⟩
 have hYi:YOk P Gi:=by
  rintro l' ⟨i,b⟩ args vs' K w' F' ⟨H',A',φ',hI'⟩ hv hFA hFO hdis hb0 ⟨rfl,hb,hq,hK1,hK2⟩
  simp only at hb;subst hb
  rcases hI' with⟨_,hJ,hRI⟩|⟨hb,_⟩
  ·obtain⟨hlen,hst⟩:=hseq i args hq
   refine⟨_,_,_,_,_,run_yield hRI.rcd (by rw[hv.size];exact hlen),?_⟩
   refine (range_round (l:=l) (RB:=fun e s'=>match e with
     |.normal=>J (i+1) s'.H
     |.ret=>∀ds',Q .ret { st with H:=s'.H,ds:=ds' }
     |.exit id=>∀ds',Q (.exit id) { st with H:=s'.H,ds:=ds' }
     |_=>False) (J:=J (i+1)) (S:=S) (by omega) (by omega) hRI rfl rfl hr1.tr hA1 hv hst hFA hFO hdis (fun Gb h1 h2 h3=>hB i args H' hq hJ l Gb h1 h2 h3) (fun s h=>h) (fun s h=>.inl ⟨rfl,h⟩) (fun id s h=>.inr ⟨id,rfl,h⟩)
     (fun s=>⟨fun t h=>h,fun c h=>h,fun h=>h⟩)).mono ?_
   rintro e w'' ⟨q1,q2,⟨rfl,H'',A'',φ'',q3,q4⟩|⟨rfl,c,H'',A'',φ'',q3,q4⟩⟩
   ·exact⟨true,_,rfl,hK1,⟨H'',A'',φ'',.inl ⟨rfl,q3,q4⟩⟩,q1,q2⟩
   ·exact⟨false,_,rfl,hK2,⟨H'',A'',φ'',.inr ⟨rfl,c,q3,q4⟩⟩,q1,q2⟩
  ·cases hb
 have hown:∀n,A1 n→¬zec φ1 (r::st.ds) n:=fun n hn x=>by
  rcases x with y|y
  ·exact k1.dis n y hn
  ·rcases zH.1 y with e|e
   ·have:=k1.lt n hn;omega
   ·exact (hr1.dk n e).2.1 hn
 have hstart:Gi.I (0,false) w2 ⟨fun _=>False,⟨A1.on,w2.heap.size⟩,zcM⟩:=by
  refine⟨killL st.H ks,A1,φ1,.inl ⟨rfl,J0,?_⟩⟩
  refine⟨k1.move (fun n hn=>hlt2 n (k1.lt n hn)) (fun n hn=>hlt2 n (k1.olt n hn)) (by omega),⟨⟨rfl,rfl,rfl,zf _,by omega,fun n hn _=>hlt2 n hn,fun n hn=>?_⟩,fun _ x=>x,fun _ x=>.inl x,fun _ _=>Loc.le_refl _,rfl⟩,fun _=>Loc.le_refl _,by omega,hl2,fun x=>by have:=k1.lt l x;omega,fun x=>?_,fun r' hr'=>?_,fun n hn=>hn.elim,fun n hn=>⟨hown n hn,fun e=>by have:=k1.lt n hn;omega,.inl hn⟩,by have:=k1.bsz;show A1.b0≤w2.heap.size;omega⟩
  ·rcases hn with x|x
   ·exact .inl (.inl x)
   ·rcases zH.1 x with e|e
    ·exact .inr (by omega)
    ·exact .inl (.inr e)
  ·rcases x with x|x
   ·have:=k1.olt l x;omega
   ·exact (hlr l x).1 rfl
  ·rcases zH.1 hr' with e|e
   ·subst e
    exact⟨hr2,fun x=>by have:=k1.lt _ x;omega,fun x=>by have:=k1.olt _ x;omega⟩
   ·obtain⟨q1,q2,q3⟩:=hr1.dk r' e
    exact⟨(hlt2 r' (z3.1 q1).1).trans q1,q2,q3⟩
 have hvs:VS ⟨A1.on,w2.heap.size⟩ w2 zcM (first.map (snap (sel ks st.H) 5)++([.fn (.yield l) [] []]++caps.map (snap (sel ks st.H) 5))) (vs++#[.func (.yield l) #[] #[]]++us):=by
  have hs:∀{ds:List D} {vs:Array Value},VS A w φ ds vs→VS ⟨A1.on,w2.heap.size⟩ w2 zcM (ds.map (snap (sel ks st.H) 5)) vs:=fun h=>by
   have h1:=h.snap (B:=⟨A1.on,w2.heap.size⟩) hr.rh (fun b sz es hb=>(hlk b _ hb).1) k2 (fun b sz es n base sz' room hb hp=>k6 b (hlk b _ hb).2 n base sz' room hp) 5
   exact⟨h1.size,fun i d u q1 q2=>(h1.val i d u q1 q2).mono (fun _ x=>x) (fun n hn=>hlt2 n (k1.lt n hn)) fun _=>Loc.le_refl _⟩
  rw[Array.append_assoc]
  refine (hs ⟨hl,hh⟩).app (VS.app ⟨rfl,fun i d u h1 h2=>?_⟩ (hs ⟨hl',hh'⟩))
  cases i with
  |zero=>simp at h1 h2;subst h1;subst h2;exact .fn _ _ _ _ _ _ rfl rfl (by simp) (by simp)
  |succ i=>simp at h1
 refine (hI.2 Gi l hGi hYi rfl (fun i args K h1 h2 h3=>⟨rfl,rfl,h1,h2,h3⟩) w2 A1.on _ (fun n hn=>by have:=k1.lt n hn;omega) hvs hstart).mono ?_
 rintro e w3 ⟨v,g3,F3,rfl,hg3,H',A',φ',hcase⟩
 have hback:∀(R:Loop) (R':Loop),RangeI G.N w F0 m (r::st.ds) l w3 F3 H' R A' φ'→FRc G { st with H:=H',ds:=r::st.ds } { a with defers:=[{ target:=.collected r,args:=#[] }]++a.defers } (w3.putObj l (.loop R')) A' φ':=by
  intro R R' h
  have hoth:∀n,n≠l→(w3.putObj l (.loop R')).heap[n]? = w3.heap[n]? := fun n hn=>World.putObj_heap_other hn
  have hA':∀n,A' n→n≠l:=fun n hn e=>h.lA (e ▸ hn)
  have hO':∀n,zec φ' (r::st.ds) n→n≠l:=fun n hn e=>h.lO (e ▸ hn)
  have hk:Keep G.N w F0 (w3.putObj l (.loop R')) ⟨zec φ' (r::st.ds),A',φ'⟩:=
   ⟨⟨h.keep.ext.os,h.keep.ext.tape,h.keep.ext.output,h.keep.ext.drawn,by rw[World.putObj_size];exact h.keep.ext.size,fun n hn ho=>(hoth n (by omega)).trans (h.keep.ext.same n hn ho),h.keep.ext.own⟩,h.keep.up,h.keep.new,h.keep.le,h.keep.b0⟩
  refine⟨h.rh.move (fun n hn=>hoth n (hA' n hn)) (fun n hn=>hoth n (hO' n (.inl hn))) (zaF World.putObj_size.symm),?_,hG _ _ _ _ _ hr1.gh hk,?_,fun r' hr'=>⟨(hoth r' (hlr r' hr').1).trans (h.dk r' hr').1,(h.dk r' hr').2⟩,?_⟩
  ·exact hr1.tr.mono (A:=A1) (A':=A') h.keep.up (fun n hn=>(hoth n (by have:=k1.lt n hn;omega)).trans (h.keep.ext.same n (hA1 n hn).1 (hA1 n hn).2)) h.le (zaF h.keep.b0)
  ·show [{ target:=.collected r,args:=#[] }]++a.defers=_
   rw[hr.df];rfl
  ·refine zaY.2 ⟨fun hm=>?_,hr.nd⟩
   have:=(z3.1 (hr.dk r hm).1).1;omega
 rcases hcase with⟨h1,hJ,hRI⟩|⟨h1,c,hS,hRI⟩
 ·refine⟨none,_,run_endLoop hRI.rcd (by simp[R0]),?_⟩
  rcases hg3 with e|e
  ·subst e
   exact⟨_,hQ H' (r::st.ds) hJ,A',φ',hback _ _ hRI⟩
  ·rw[e] at h1;cases h1
 ·refine⟨some c,_,run_endLoop hRI.rcd (by simp),?_⟩
  rcases hS with⟨rfl,hq⟩|⟨id,rfl,hq⟩
  ·exact wpIn_ret ⟨_,hq (r::st.ds),A',φ',hback _ _ hRI⟩
  ·exact wpIn_exit ⟨_,hq (r::st.ds),A',φ',hback _ _ hRI⟩
end
end Go.DL
/- The rule for a region that draws its order. -/
namespace Go.DL
open Go.RowKit Go.Proofs
noncomputable section
def mkPlan (ops:List Oper):List (Nat × List Nat):=
 let an:=ancs ops []
 (List.range ops.length).map fun i=>(zdf ops 0 i,zd7 ops an i)
def actGo (P:Program)(o:Oper)(s:Nat)(Hm:List Blk)(st:St)(K:St→Prop):Prop:=
 match o.op with
 |.call { callee:=.value f,args,.. }=>match zd0 st.t f args.toList with
  |some (g,xs)=>∃d,Maps P g (xs.map (snap (fun b=>Hm[b]?) 5)) d∧zeu 5 d=true∧K { t:=setT st.t o.dst d,H:=st.H,ds:=st.ds,g:=st.g }
  |none=>False
 |op=>match zcp P Hm s st.t op with
  |some (d,e)=>K { t:=setT st.t o.dst d,H:=e.app st.H s,ds:=st.ds,g:=st.g }
  |none=>False
def actO (P:Program)(ops:List Oper)(o:Oper)(s:Nat)(Hm:List Blk)(st:St)(K:St→Prop):Prop:=
 match o.guard with
 |none=>actGo P o s Hm st K
 |some (j,want)=>match guardD ops st.t j with
  |some b=>if b=want then actGo P o s Hm st K else K { t:=setT st.t o.dst (.v undef),H:=st.H,ds:=st.ds,g:=st.g }
  |none=>undefD ops st.t j=true∧K { t:=setT st.t o.dst (.v undef),H:=st.H,ds:=st.ds,g:=st.g }
def zeY (P:Program)(ops:List Oper)(base:Nat):List (Nat × List Nat)→List Oper→St→(St→Prop)→Prop
 |(s,hs)::pl,o::l,st,K=>actO P ops o (base+s) (zcz base hs st.H) st fun st'=>zeY P ops base pl l st' K
 |_,_,st,K=>K st
section
variable {P:Program}{G:Gh}{ops:List Oper}{base:Nat}
theorem actGo_step {o:Oper}{s:Nat}{Hm:List Blk}{st:St}{K:St→Prop}(h:actGo P o s Hm st K):
  ∃d e,Acts.go P o s st.t Hm d e∧K { t:=setT st.t o.dst d,H:=e.app st.H s,ds:=st.ds,g:=st.g }:=by
 unfold actGo at h
 split at h
 ·rename_i f args tys hop
  split at h
  ·rename_i g xs hc
   obtain⟨d,h1,h2,h3⟩:=h
   refine⟨d,.keep,?_,h3⟩
   unfold Acts.go
   rw[hop];simp only[hc]
   exact⟨h1,h2,trivial⟩
  ·exact h.elim
 ·rename_i hop
  split at h
  ·rename_i d e hs
   refine⟨d,e,?_,h⟩
   unfold Acts.go
   split
   ·rename_i f args tys ho;exact absurd ho (hop _ _ _)
   ·exact hs
  ·exact h.elim
theorem actO_step {o:Oper}{s:Nat}{Hm:List Blk}{st:St}{K:St→Prop}(h:actO P ops o s Hm st K):
  ∃d e,Acts P ops o s st.t Hm d e∧K { t:=setT st.t o.dst d,H:=e.app st.H s,ds:=st.ds,g:=st.g }:=by
 unfold actO at h
 split at h
 ·rename_i hg
  obtain⟨d,e,h1,h2⟩:=actGo_step h
  exact⟨d,e,by unfold Acts;rw[hg];exact h1,h2⟩
 ·rename_i j want hg
  split at h
  ·rename_i b hb
   split at h
   ·rename_i hw
    obtain⟨d,e,h1,h2⟩:=actGo_step h
    exact⟨d,e,by unfold Acts;rw[hg];simp only[hb,if_pos hw];exact h1,h2⟩
   ·rename_i hw
    exact⟨.v undef,.keep,by unfold Acts;rw[hg];simp only[hb,if_neg hw];trivial,h⟩
  ·rename_i hb
   exact⟨.v undef,.keep,by unfold Acts;rw[hg];simp only[hb];exact⟨h.1,trivial,trivial⟩,h.2⟩
theorem slotAt_base (i:Nat):zdf ops base i=base+zdf ops 0 i:=by simp[zdf]
theorem runPlan_run (K:St→Prop):∀(l:List Oper) (k:Nat) (st:St),ops.drop k=l→
  zeY P ops base ((List.range' k l.length).map fun i=>(zdf ops 0 i,zd7 ops (ancs ops []) i)) l st K→
  ∃stf,RunR P ops (ancs ops []) base (List.range' k l.length) st stf∧K stf
 |[],k,st,_,h=>⟨st,rfl,by simpa[zeY] using h⟩
 |o::l,k,st,hd,h=>by
  have hk:k < ops.length:=by
   rcases zZ k ops.length with x|x
   ·exact x
   ·rw[zab x] at hd;cases hd
  rw[zO hk] at hd
  obtain⟨ho,hd⟩:=List.cons.inj hd
  simp only[z4,List.range'_succ,zy,zeY] at h ⊢
  obtain⟨d,e,h1,h2⟩:=actO_step h
  obtain⟨stf,h3,h4⟩:=runPlan_run K l (k+1) _ hd h2
  refine⟨stf,⟨_,⟨o,d,e,by rw[zb hk,ho],?_,rfl⟩,?_⟩,h4⟩
  ·rw[slotAt_base];exact h1
  ·rw[slotAt_base];exact h3
theorem Eff.app_length {H:List Blk}{s:Nat}{e:Eff}:(e.app H s).length=H.length:=by
 cases e with
 |keep=>rfl
 |put x=>simp[Eff.app]
 |upd b x=>simp[Eff.app]
 |ren o x=>cases o<;>simp[Eff.app,killO]
theorem RunR.last {an:List (List Nat)}:∀{l:List Nat} {listed:Array Bool} {st stf:St},RunR P ops an base l st stf→listed.size=ops.length→l.Nodup→(∀i∈l,i < ops.length∧listed.getD i true=false)→
  SlotsFree ops base listed st.H→stf.H.length=st.H.length∧stf.H[base+slots ops]? = some .free
 |[],_,st,stf,h,_,_,_,hf=>by
  have:st=stf:=h
  subst this;exact⟨rfl,hf.last⟩
 |i::l,listed,st,stf,⟨s1,h1,h2⟩,hs,hn,hl,hf=>by
  obtain⟨q1,q2⟩:=hl i (zB ..)
  have hf':=hf.step q1 q2 hs h1
  have hl':∀j∈l,j < ops.length∧(listed.setIfInBounds i true).getD j true=false:=fun j hj=>by
   obtain⟨r1,r2⟩:=hl j (zG _ hj)
   refine⟨r1,?_⟩
   have hne:i≠j:=fun e=>(zaY.1 hn).1 (e ▸ hj)
   rw[zdY (by omega),if_neg hne]
   exact r2
  obtain⟨k1,k2⟩:=RunR.last h2 (by simpa using hs) (zaY.1 hn).2 hl' hf'
  obtain⟨o,d,e,_,_,rfl⟩:=h1
  exact⟨k1.trans Eff.app_length,k2⟩
theorem FRc.drop {st:St}{H:List Blk}{a:Act}{w:World}{A:Rd}{φ:Nat→Loc}(hH:st.H=H++[.free])(h:FRc G st a w A φ):FRc G { st with H:=H } a w A φ:=by
 have hr:=h.rh
 rw[hH] at hr
 refine⟨⟨fun b hb=>?_,fun b hb=>?_,fun b hb=>?_,fun b sz es hb=>?_,fun b clk es hb=>?_,hr.inj,hr.dis,hr.lt,hr.olt,hr.ofr,hr.bsz⟩,h.tr,h.gh,h.df,h.dk,h.nd⟩
 ·rcases zbD b H.length with hl|hl|hl
  ·rw[zaw] at hb;exact absurd hb (Nat.not_le_of_lt hl)
  ·exact hr.free b (by subst hl;simp)
  ·exact hr.out b (by simp;omega)
 ·exact hr.free b (by rw[zk (za.1 hb).1];exact hb)
 ·exact hr.dead b (by rw[zk (za.1 hb).1];exact hb)
 ·exact hr.live b sz es (by rw[zk (za.1 hb).1];exact hb)
 ·exact hr.tab b clk es (by rw[zk (za.1 hb).1];exact hb)
theorem FRc.rooms {a:Act}{w:World}{A:Rd}{φ:Nat→Loc}:∀(n:Nat) {st:St},FRc G st a w A φ→FRc G { st with H:=st.H++List.replicate n .free } a w A φ
 |0,st,h=>by simpa using h
 |n+1,st,h=>by
  have:=FRc.rooms n h.room
  rw[zaW]
  simpa using this
theorem Sp_draw (hG:zc6 G)(hY:YOk P G){ro:Option Nat}{id:Nat}{st:St}{Q:Exit→St→Prop}(hm:P.follows .mixedOrders=true)(hd:drawOk ops=true){pl:List (Nat × List Nat)}(hpl:mkPlan ops=pl)
  (h:zeY P ops st.H.length pl ops { st with H:=st.H++List.replicate (slots ops+1) .free } fun s=>Q .normal { s with H:=s.H.dropLast }):Sp P ro G (.region id ops.toArray true) st Q:=by
 rintro a w ⟨A,φ,hr⟩
 refine wpIn_region_any hm ?_
 rw[←hpl] at h
 have hpl':mkPlan ops=(List.range' 0 ops.length).map fun i=>(zdf ops 0 i,zd7 ops (ancs ops []) i):=by
  simp[mkPlan,za7]
 rw[hpl'] at h
 obtain⟨stf,hrun,hq⟩:=runPlan_run _ ops 0 _ (by simp) h
 have hlen:(st.H++List.replicate (slots ops+1) Blk.free).length=st.H.length+slots ops+1:=by simp;omega
 have hfree:∀k,k≤slots ops→(st.H++List.replicate (slots ops+1) Blk.free)[st.H.length+k]? = some .free:=fun k hk=>by
  rw[zu (by omega),zY,if_pos (by omega)]
 have hsf:SlotsFree ops st.H.length (Array.replicate ops.length false) (st.H++List.replicate (slots ops+1) Blk.free):=by
  refine⟨fun k hk _=>?_,hfree _ (zf _)⟩
  rcases slot_case (base:=st.H.length) (zb hk) with e|⟨_,e,hlt⟩
  ·rw[e];exact hfree _ (zf _)
  ·rw[e];exact hfree _ (Nat.le_of_lt hlt)
 have hrem:zdt ops.length (Array.replicate ops.length false)=List.range' 0 ops.length:=by
  rw[←za7]
  refine zbd.2 fun i hi=>?_
  simp at hi;simp[hi]
 obtain⟨k1,k2⟩:=hrun.last (listed:=Array.replicate ops.length false) (by simp) (List.nodup_range' ..) (fun i hi=>by simp at hi;exact⟨hi,by simp[hi]⟩) hsf
 have hlast:stf.H=stf.H.dropLast++[.free]:=by
  have hne:stf.H≠[]:=fun e=>by rw[e] at k1;simp at k1
  have h1:=(zbA hne).symm
  have h2:stf.H.getLast hne=.free:=by
   have:=List.getLast_eq_getElem hne
   have h3:stf.H.length-1=st.H.length+slots ops:=by rw[k1,hlen];rfl
   rw[za] at k2
   obtain⟨hlt,k2⟩:=k2
   rw[this,←k2]
   congr 1
  rw[h2] at h1;exact h1
 have hfr0:FR G st a { w with drawn:=w.drawn+1 }:=
  ⟨A,φ,hr.drew hG⟩
 have hfr1:FR G { st with H:=st.H++List.replicate (slots ops+1) .free } a { w with drawn:=w.drawn+1 }:=
  let ⟨A,φ,h⟩:=hfr0;⟨A,φ,h.rooms _⟩
 rw[zbo]
 refine any_ok (P:=P) (stf:=stf) hG hY hd rfl (fun a' w' ⟨A',φ',hr'⟩=>⟨_,hq,A',φ',hr'.drop hlast⟩) ops.length _ _ a _ (by simp) (by rw[hrem];simp) (fun k hk=>by
   rw[zac] at hk;simp only[zbu] at hk;split at hk<;>cases hk) hfr1 hsf ?_
 rw[hrem];exact hrun
end
end
end Go.DL
/- Values that speak of no own block from some number on. -/
namespace Go.DL
open Go.RowKit Go.Proofs
noncomputable section
def zdq:Nat→Nat→D→Bool
 |_,K,.ms b _ _ _=>Nat.blt b K
 |_,K,.mp b _ _=>Nat.blt b K
 |_,K,.mm b=>Nat.blt b K
 |k+1,K,.agg cs=>cs.all (zdq k K)
 |k+1,K,.tup cs=>cs.all (zdq k K)
 |k+1,K,.fn _ a b=>a.all (zdq k K)&&b.all (zdq k K)
 |_,_,.v _=>true
 |_,_,.any=>true
 |_,_,.nil=>true
 |_,_,.sl _=>true
 |_,_,.fl _=>true
 |_,_,.rp _=>true
 |0,_,_=>false
def cutφ (K:Nat)(φ:Nat→Loc):Nat→Loc:=fun b=>if b < K then φ b else .free
theorem cutφ_lt {K b:Nat}{φ:Nat→Loc}(h:b < K):cutφ K φ b=φ b:=by simp[cutφ,h]
theorem V.cut {A:Rd}{w:World}{φ:Nat→Loc}{K:Nat}:∀(k:Nat) {d:D} {u:Value},V A w φ d u→zdq k K d=true→V A w (cutφ K φ) d u:=by
 have blt:∀{b:Nat},Nat.blt b K=true→b < K:=fun h=>by simpa[zaA] using h
 intro k
 induction k with
 |zero=>
  intro d u h hb
  cases h with
  |ms _ b off len cap cap' a h1 h2 h3=>exact .ms _ _ _ _ _ _ _ h1 h2 (by rw[cutφ_lt (blt hb)];exact h3)
  |mp _ b i f x h1=>exact .mp _ _ _ _ _ (by rw[cutφ_lt (blt hb)];exact h1)
  |mm _ b r h1=>exact .mm _ _ _ (by rw[cutφ_lt (blt hb)];exact h1)
  |v=>exact .v _ _
  |any=>exact .any _ _
  |nil=>exact .nil _ _
  |sl0=>exact .sl0 _ _ _
  |sl _ es n off sz cap u a b c d e=>exact .sl _ es n off sz cap u a b c d e
  |fl0=>exact .fl0 _ _ _
  |fl _ es n off sz cap u a b c d e=>exact .fl _ es n off sz cap u a b c d e
  |rp _ cs n off u a b c=>exact .rp _ cs n off u a b c
  |agg=>simp[zdq] at hb
  |tup=>simp[zdq] at hb
  |fn=>simp[zdq] at hb
 |succ k ih=>
  intro d u h hb
  have all:∀{cs:List D} {i:Nat} {d:D},cs.all (zdq k K)=true→cs[i]? = some d→zdq k K d=true:=fun h1 h2=>
   zh.1 h1 _ (zm h2)
  cases h with
  |ms _ b off len cap cap' a h1 h2 h3=>exact .ms _ _ _ _ _ _ _ h1 h2 (by rw[cutφ_lt (blt hb)];exact h3)
  |mp _ b i f x h1=>exact .mp _ _ _ _ _ (by rw[cutφ_lt (blt hb)];exact h1)
  |mm _ b r h1=>exact .mm _ _ _ (by rw[cutφ_lt (blt hb)];exact h1)
  |v=>exact .v _ _
  |any=>exact .any _ _
  |nil=>exact .nil _ _
  |sl0=>exact .sl0 _ _ _
  |sl _ es n off sz cap u a b c d e=>exact .sl _ es n off sz cap u a b c d e
  |fl0=>exact .fl0 _ _ _
  |fl _ es n off sz cap u a b c d e=>exact .fl _ es n off sz cap u a b c d e
  |rp _ cs n off u a b c=>exact .rp _ cs n off u a b c
  |agg _ cs vs hl h=>exact .agg _ _ _ hl fun i d u h1 h2=>ih (h i d u h1 h2) (all hb h1)
  |tup _ cs vs hl h=>exact .tup _ _ _ hl fun i d u h1 h2=>ih (h i d u h1 h2) (all hb h1)
  |fn _ f first caps vs us hl hl' h h'=>
   simp only[zdq,zJ] at hb
   exact .fn _ f _ _ _ _ hl hl' (fun i d u h1 h2=>ih (h i d u h1 h2) (all hb.1 h1)) fun i d u h1 h2=>ih (h' i d u h1 h2) (all hb.2 h1)
def BlkBelow (K:Nat):Blk→Prop
 |.live _ es=>∀e∈es,∀d∈e,zdq 4 K d=true
 |.tab _ es=>∀e∈es,zdq 4 K e.2.1=true
 |_=>True
section
variable {P:Program}{b:Frame}{a:Act}{k:List Item}{cs:List Frame}{w:World}
theorem stepR_scope {c:Code}:step P (lone (b.atR a (.code (.scope c)::k)) cs w)=.next (lone (b.atR a (.code c::.inScope c::k)) cs w):=
 step_lone_go (by simp[stepG,stepG.exec,Frame.atR])
theorem stepR_inScope {c:Code}:step P (lone (b.atR a (.inScope c::k)) cs w)=.next (lone (b.atR a k) cs w):=
 step_lone_go (by simp[stepG,stepG.exec,Frame.atR])
end
theorem wpIn_scope {F:Fence}{n:Nat}{P:Program}{Q:Exit→Act→World→Prop}{a:Act}{w:World}{c:Code}(h:c.wpIn F n P (fun e a w=>(∀l,e≠.goto l)∧Q e a w) a w):(Code.scope c).wpIn F n P Q a w:=by
 intro b k cs hro hb hr
 have h0:(lone (b.atR a (.code (.scope c)::k)) cs w).fenced P F:=fenced_calm hb hr rfl
 obtain⟨e,a₁,w₁,⟨hg,hq⟩,harr⟩:=h b (.inScope c::k) cs hro hb hr
 cases e with
 |normal=>exact⟨.normal,a₁,w₁,hq,.head h0 stepR_scope (StepsIn.trans harr (.one (fenced_calm hb hr rfl) stepR_inScope))⟩
 |exit id=>
  have hx:exitTo id (.inScope c::k)=exitTo id k:=by simp[exitTo]
  exact⟨.exit id,a₁,w₁,hq,fun k' hk=>.head h0 stepR_scope (harr.1 k' (by rw[hx];exact hk)),fun hr' hk=>let ⟨k₁,h1,h2⟩:=harr.2 hr' (by rw[hx];exact hk);⟨k₁,h1,.head h0 stepR_scope h2⟩⟩
 |goto l=>exact absurd rfl (hg l)
 |ret=>exact⟨_,a₁,w₁,hq,.of_steps (.one h0 stepR_scope) harr⟩
 |panic ch=>exact⟨_,a₁,w₁,hq,.of_steps (.one h0 stepR_scope) harr⟩
 |outgrown=>exact⟨_,a₁,w₁,hq,.of_steps (.one h0 stepR_scope) harr⟩
theorem Sp_scope {P:Program}{ro:Option Nat}{G:Gh}{c:Code}{st:St}{Q:Exit→St→Prop}(h:Sp P ro G c st fun e s=>(∀l,e≠.goto l)∧Q e s):Sp P ro G (.scope c) st Q:=
 fun a w hr=>wpIn_scope (wpIn_mono (h a w hr) fun e a w ⟨s,⟨h1,h2⟩,h3⟩=>⟨h1,s,h2,h3⟩)
end
end Go.DL
/- Regions that draw their order, once more: what an operation writes is claimed beforehand, and hidden from what is unordered beside it. -/
namespace Go.DL
open Go.RowKit Go.Proofs
noncomputable section
def ups (s:Nat):Eff→List (Nat × Blk)
 |.keep=>[]
 |.put x=>[(s,x)]
 |.upd b x=>[(b,x)]
 |.ren none x=>[(s,x)]
 |.ren (some b) x=>[(b,.dead),(s,x)]
def sets (H:List Blk)(u:List (Nat × Blk)):List Blk:=u.foldl (fun H p=>H.set p.1 p.2) H
theorem app_sets (H:List Blk)(s:Nat)(e:Eff):e.app H s=sets H (ups s e):=by
 cases e with
 |ren o x=>cases o<;>rfl
 |_=>rfl
theorem sets_cons (H:List Blk)(p:Nat × Blk)(u:List (Nat × Blk)):sets H (p::u)=sets (H.set p.1 p.2) u:=rfl
theorem sets_set (a:Nat)(x:Blk):∀(u:List (Nat × Blk)) (H:List Blk),(∀p∈u,p.1≠a)→(sets H u).set a x=sets (H.set a x) u
 |[],H,_=>rfl
 |p::u,H,h=>by
  rw[sets_cons,sets_cons,sets_set a x u _ fun q hq=>h q (zG _ hq),List.set_comm _ _ (h p (zB ..))]
theorem sets_comm:∀(v u:List (Nat × Blk)) (H:List Blk),(∀p∈u,∀q∈v,p.1≠q.1)→sets (sets H u) v=sets (sets H v) u
 |[],u,H,_=>rfl
 |q::v,u,H,h=>by
  rw[sets_cons,sets_cons,sets_set q.1 q.2 u H fun p hp=>h p hp q (zB ..)]
  exact sets_comm v u _ fun p hp q' hq'=>h p hp q' (zG _ hq')
theorem mask_sets {hs:List Nat}:∀{u:List (Nat × Blk)} {H:List Blk},(∀p∈u,p.1∈hs)→zcz 0 hs (sets H u)=zcz 0 hs H
 |[],_,_=>rfl
 |p::u,H,h=>by
  rw[sets_cons,mask_sets fun q hq=>h q (zG _ hq)]
  have:=maskL_set (base:=0) (H:=H) (x:=p.2) (h p (zB ..))
  rw[zQ] at this
  exact this
def CallAt (P:Program)(f:FuncId)(xs:List D)(Hm:List Blk)(s:Nat)(d:D)(x:Blk):Prop:=
 ∀H,Sub Hm H→H[s]? = some .free→CallSp P f xs H fun d' H'=>d'=d∧H'=H.set s x
def isCallV (o:Oper):Bool:=match o.op with
 |.call { callee:=.value _,.. }=>true
 |_=>false
def zdu (o:Oper):Bool:=zfa o||isCallV o
def rankQ (ops:List Oper)(i:Nat):Nat:=((ops.take i).filter zdu).length
def zeb (ops:List Oper):Nat:=(ops.filter zdu).length
def zds (ops:List Oper)(base i:Nat):Nat:=base+(match ops[i]? with|some o=>if zdu o then rankQ ops i else zeb ops|none=>zeb ops)
def unord (an:List (List Nat))(k i:Nat):Bool:=!((an.getD i []).contains k)&&!((an.getD k []).contains i)&&k != i
def hidQ (ops:List Oper)(an:List (List Nat))(wbs:List (Option Nat))(base i:Nat):List Nat:=
 ((List.range ops.length).filterMap fun k=>match ops[k]? with
  |some o=>if zdu o&&!(an.getD i []).contains k then some (base+rankQ ops k) else none
  |none=>none)++
 ((List.range ops.length).filterMap fun k=>if unord an k i then wbs.getD k none else none)
def zfc:Eff→Bool→Option Nat→Bool
 |.keep,_,_=>true
 |.put _,n,_=>n
 |.upd b _,n,w=>n&&w==some b
 |.ren none _,n,_=>n
 |.ren (some b) _,n,w=>n&&w==some b
theorem effOk_keys {e:Eff}{n:Bool}{w:Option Nat}{s:Nat}(h:zfc e n w=true):∀p∈ups s e,(n=true∧p.1=s)∨(n=true∧w=some p.1):=by
 cases e with
 |keep=>intro p hp;cases hp
 |put x=>intro p hp;simp only[ups,zC] at hp;subst hp;exact .inl ⟨h,rfl⟩
 |upd b x=>intro p hp;simp only[ups,zC] at hp;subst hp;simp only[zfc,zJ,beq_iff_eq] at h;exact .inr h
 |ren o x=>
  cases o with
  |none=>intro p hp;simp only[ups,zC] at hp;subst hp;exact .inl ⟨h,rfl⟩
  |some b=>
   intro p hp
   simp only[ups,zH,zai,or_false] at hp
   simp only[zfc,zJ,beq_iff_eq] at h
   rcases hp with rfl|rfl
   ·exact .inr h
   ·exact .inl ⟨h.1,rfl⟩
def gD (ops:List Oper)(t:List D)(j:Nat):Option (Option Bool):=
 match ops[j]? with
 |some o=>match o.dst with
  |some i=>match t[i]? with
   |some (.v (.bool b))=>some (some b)
   |some (.v (.tuple _))=>some none
   |_=>none
  |none=>none
 |none=>none
theorem gD_ok {ops:List Oper}{A:Rd}{w:World}{φ:Nat→Loc}{t:List D}{tmps:Array Value}(ht:TR A w φ t tmps){j:Nat}{r:Option Bool}(h:gD ops t j=some r):yielded ops.toArray tmps j=r:=by
 unfold gD at h
 split at h
 ·rename_i o ho
  split at h
  ·rename_i i hi
   split at h
   ·rename_i b hb
    cases h
    have hlt:i < tmps.size:=by rw[ht.size];exact (za.1 hb).1
    have hv:=(ht.val i _ tmps[i] hb (by simp[hlt])).v_inv
    simp[yielded,ho,hi,hlt,hv]
   ·rename_i vs hb
    cases h
    have hlt:i < tmps.size:=by rw[ht.size];exact (za.1 hb).1
    have hv:=(ht.val i _ tmps[i] hb (by simp[hlt])).v_inv
    simp[yielded,ho,hi,hlt,hv]
   ·cases h
  ·cases h
 ·cases h
theorem gD_setT {ops:List Oper}{o:Oper}{t:List D}{dst:Option Tmp}{d:D}{j:Nat}{want:Bool}(hg:o.guard=some (j,want))(h:∀i,dst=some i→i∉zdk ops o):gD ops (setT t dst d) j=gD ops t j:=by
 unfold gD
 cases hj:ops[j]? with
 |none=>rfl
 |some p=>
  cases hp:p.dst with
  |none=>simp[hp]
  |some k=>
   simp only[hp]
   cases dst with
   |none=>rfl
   |some i=>
    have hne:i≠k:=fun e=>h i rfl (by subst e;simp[zdk,hg,hj,hp])
    simp[setT,hne]
section
variable {P:Program}{G:Gh}
def goQ (P:Program)(o:Oper)(s:Nat)(t:List D)(H:List Blk)(d:D)(e:Eff):Prop:=
 match o.op with
 |.call { callee:=.value f,args,.. }=>match zd0 t f args.toList with
  |some (g,xs)=>(Maps P g (xs.map (snap (fun b=>H[b]?) 5)) d∧zeu 5 d=true∧e=.keep)∨∃x,e=.put x∧CallAt P g xs H s d x
  |none=>False
 |op=>zcp P H s t op=some (d,e)
def ActsQ (P:Program)(ops:List Oper)(o:Oper)(s:Nat)(t:List D)(H:List Blk)(d:D)(e:Eff):Prop:=
 match o.guard with
 |none=>goQ P o s t H d e
 |some (j,want)=>match gD ops t j with
  |some r=>if r=some want then goQ P o s t H d e else d=.v undef∧e=.keep
  |none=>False
theorem ActsQ.setT {ops:List Oper}{o:Oper}{s:Nat}{t:List D}{H:List Blk}{d d':D}{e:Eff}{dst:Option Tmp}(h:∀i,dst=some i→i∉zdk ops o):
  ActsQ P ops o s (DL.setT t dst d') H d e↔ActsQ P ops o s t H d e:=by
 have hev:∀x∈o.op.operands,ev (DL.setT t dst d') x=ev t x:=fun x hx=>ev_setT fun i hi=>reads_op (h i hi) x hx
 have hgo:goQ P o s (DL.setT t dst d') H d e=goQ P o s t H d e:=by
  unfold goQ
  split
  ·rename_i f args tys hop
   have h1:zd0 (DL.setT t dst d') f args.toList=zd0 t f args.toList:=by
    unfold zd0
    have hf:ev (DL.setT t dst d') f=ev t f:=hev f (by rw[hop];simp[Op.operands,Call.operands])
    have ha:args.toList.map (ev (DL.setT t dst d'))=args.toList.map (ev t):=zI fun x hx=>hev x (by rw[hop];simp[Op.operands,Call.operands];exact .inr (by simpa using hx))
    rw[hf,ha]
   rw[h1]
  ·rw[stepD_congr hev]
 unfold ActsQ
 split
 ·rw[hgo]
 ·rename_i j want hg
  rw[gD_setT hg h,hgo]
theorem ActsQ.upd_live {ops:List Oper}{o:Oper}{s:Nat}{t:List D}{H:List Blk}{d:D}{e:Eff}(h:ActsQ P ops o s t H d e):(∀b x,e=.upd b x→∃y,H[b]? = some y∧y≠.free)∧
  (∀b x,e=.ren (some b) x→∃y,H[b]? = some y∧y≠.free):=by
 have go:goQ P o s t H d e→(∀b x,e=.upd b x→∃y,H[b]? = some y∧y≠.free)∧(∀b x,e=.ren (some b) x→∃y,H[b]? = some y∧y≠.free):=fun h=>by
  unfold goQ at h
  split at h
  ·split at h
   ·rcases h with⟨_,_,rfl⟩|⟨_,rfl,_⟩
    ·exact⟨fun _ _ x=>(by cases x),fun _ _ x=>(by cases x)⟩
    ·exact⟨fun _ _ x=>(by cases x),fun _ _ x=>(by cases x)⟩
   ·exact h.elim
  ·exact⟨fun b x he=>stepD_upd (he ▸ h),fun b x he=>stepD_ren (he ▸ h)⟩
 unfold ActsQ at h
 split at h
 ·exact go h
 ·split at h
  ·split at h
   ·exact go h
   ·obtain⟨_,rfl⟩:=h;exact⟨fun _ _ x=>(by cases x),fun _ _ x=>(by cases x)⟩
  ·exact h.elim
def indepQ (ops:List Oper)(an:List (List Nat))(wbs:List (Option Nat))(base j i:Nat):Bool:=
 match ops[j]?,ops[i]? with
 |some p,some o=>
  (match p.dst with|some d=>!(zdk ops o).contains d&&o.dst != some d|none=>true)&&
  (match o.dst with|some d=>!(zdk ops p).contains d|none=>true)&&
  !((an.getD j []).contains i)&&
  (match wbs.getD j none with|some b=>wbs.getD i none != some b&&zds ops base i != b|none=>true)&&
  (match wbs.getD i none with|some b=>zds ops base j != b|none=>true)
 |_,_=>false
def drawQ (ops:List Oper)(wbs:List (Option Nat))(base:Nat):Bool:=
 let an:=ancs ops []
 (List.range ops.length).all fun i=>
  (((ops[i]?).map zdx).getD []).all (fun j=>decide (j < i))&&
  (List.range i).all fun j=>(an.getD i []).contains j||indepQ ops an wbs base j i
def StepQ (P:Program)(ops:List Oper)(an:List (List Nat))(wbs:List (Option Nat))(base i:Nat)(st st':St):Prop:=
 ∃o d e,ops[i]? = some o∧ActsQ P ops o (zds ops base i) st.t (zcz 0 (hidQ ops an wbs base i) st.H) d e∧zfc e (zdu o) (wbs.getD i none)=true∧
  st'={ t:=setT st.t o.dst d,H:=e.app st.H (zds ops base i),ds:=st.ds,g:=st.g }
theorem rankQ_lt {ops:List Oper}{i:Nat}{o:Oper}(ho:ops[i]? = some o)(hn:zdu o=true):rankQ ops i < zeb ops:=by
 have hi:=(za.1 ho).1
 have he:=(za.1 ho).2
 have:zeb ops=((ops.take i++ops.drop i).filter zdu).length:=by rw[za1];rfl
 rw[this,za4,zw,zO hi,he,zba hn]
 simp[rankQ]
theorem rankQ_mono {ops:List Oper}{i j:Nat}{o:Oper}(ho:ops[j]? = some o)(hn:zdu o=true)(h:j < i):rankQ ops j < rankQ ops i:=by
 have h1:(ops.take i)[j]? = some o:=by rw[z5,if_pos h];exact ho
 have:=rankQ_lt h1 hn
 have e:rankQ (ops.take i) j=rankQ ops j:=by simp only[rankQ];rw[List.take_take,zbz (Nat.le_of_lt h)]
 rw[e] at this
 exact this
theorem slotQ_ne {ops:List Oper}{base i j:Nat}{o p:Oper}(ho:ops[i]? = some o)(hp:ops[j]? = some p)(hno:zdu o=true)(hnp:zdu p=true)(h:i≠j):zds ops base i≠zds ops base j:=by
 simp only[zds,ho,hp,hno,hnp,if_true]
 rcases Nat.lt_or_gt_of_ne h with h|h
 ·have:=rankQ_mono ho hno h;omega
 ·have:=rankQ_mono hp hnp h;omega
theorem slotQ_case {ops:List Oper}{base i:Nat}{o:Oper}(ho:ops[i]? = some o):zds ops base i=base+zeb ops∨(zdu o=true∧zds ops base i=base+rankQ ops i∧rankQ ops i < zeb ops):=by
 by_cases hn:zdu o=true
 ·exact .inr ⟨hn,by simp[zds,ho,hn],rankQ_lt ho hn⟩
 ·exact .inl (by simp[zds,ho,hn])
theorem hid_keys {ops:List Oper}{an:List (List Nat)}{wbs:List (Option Nat)}{base i j:Nat}{p:Oper}{e:Eff}(hp:ops[j]? = some p)(he:zfc e (zdu p) (wbs.getD j none)=true)(h1:(an.getD i []).contains j=false)(h2:(an.getD j []).contains i=false)(hne:j≠i):
  ∀q∈ups (zds ops base j) e,q.1∈hidQ ops an wbs base i:=fun q hq=>by
 have hj:=(za.1 hp).1
 simp only[hidQ,zK,zbQ,zP]
 rcases effOk_keys he q hq with⟨hn,h⟩|⟨hn,h⟩
 ·left
  refine⟨j,hj,?_⟩
  simp only[hp,hn,h1,Bool.not_false,Bool.and_true,if_true,h,zds]
 ·right
  refine⟨j,hj,?_⟩
  rw[if_pos (by unfold unord;rw[h1,h2];simp[hne])]
  exact h
theorem StepQ.swap {ops:List Oper}{an:List (List Nat)}{wbs:List (Option Nat)}{base j i:Nat}{st s1 s2:St}(hij:j≠i)(hc:(an.getD i []).contains j=false)(hind:indepQ ops an wbs base j i=true)(h1:StepQ P ops an wbs base j st s1)(h2:StepQ P ops an wbs base i s1 s2):
  ∃s1',StepQ P ops an wbs base i st s1'∧StepQ P ops an wbs base j s1' s2:=by
 obtain⟨p,dp,ep,hp,ap,op,rfl⟩:=h1
 obtain⟨o,d,e,ho,ao,oo,rfl⟩:=h2
 simp only[indepQ,hp,ho,zJ] at hind
 obtain⟨⟨⟨⟨i1,i2⟩,i3⟩,i4⟩,i5⟩:=hind
 have hc':(an.getD j []).contains i=false:=by simpa using i3
 have r1:∀k,p.dst=some k→k∉zdk ops o:=fun k hk=>by rw[hk] at i1;simp at i1;exact i1.1
 have r2:∀k,o.dst=some k→k∉zdk ops p:=fun k hk=>by rw[hk] at i2;simpa using i2
 have r3:∀k,p.dst=some k→o.dst≠some k:=fun k hk=>by rw[hk] at i1;simp at i1;exact i1.2
 have ao':=(ActsQ.setT r1).1 ao
 simp only at ao'
 have m1:zcz 0 (hidQ ops an wbs base i) (ep.app st.H (zds ops base j))=zcz 0 (hidQ ops an wbs base i) st.H:=by
  rw[app_sets];exact mask_sets (hid_keys hp op hc hc' hij)
 have m2:zcz 0 (hidQ ops an wbs base j) (e.app st.H (zds ops base i))=zcz 0 (hidQ ops an wbs base j) st.H:=by
  rw[app_sets];exact mask_sets (hid_keys ho oo hc' hc (Ne.symm hij))
 rw[m1] at ao'
 have hcomm:e.app (ep.app st.H (zds ops base j)) (zds ops base i)=ep.app (e.app st.H (zds ops base i)) (zds ops base j):=by
  rw[app_sets,app_sets,app_sets,app_sets]
  refine sets_comm _ _ _ fun q hq q' hq'=>?_
  rcases effOk_keys op q hq with⟨n1,k1⟩|⟨n1,k1⟩
  ·rcases effOk_keys oo q' hq' with⟨n2,k2⟩|⟨n2,k2⟩
   ·rw[k1,k2];exact slotQ_ne hp ho n1 n2 hij
   ·rw[k2] at i5;rw[k1];simpa using i5
  ·rw[k1] at i4
   simp only[zJ,bne_iff_ne,ne_eq] at i4
   rcases effOk_keys oo q' hq' with⟨n2,k2⟩|⟨n2,k2⟩
   ·rw[k2];exact fun e=>i4.2 e.symm
   ·exact fun e=>i4.1 (by rw[k2,e])
 refine⟨_,⟨o,d,e,ho,ao',oo,rfl⟩,p,dp,ep,hp,(ActsQ.setT r2).2 ?_,op,?_⟩
 ·simp only;rw[m2];exact ap
 ·simp only;rw[setT_comm r3,hcomm]
end
end
end Go.DL
/- The rule for a region that draws its order, with claims. -/
namespace Go.DL
open Go.RowKit Go.Proofs
noncomputable section
def RunQ (P:Program)(ops:List Oper)(an:List (List Nat))(wbs:List (Option Nat))(base:Nat):List Nat→St→St→Prop
 |[],st,st'=>st=st'
 |i::l,st,st'=>∃s1,StepQ P ops an wbs base i st s1∧RunQ P ops an wbs base l s1 st'
section
variable {P:Program}{G:Gh}{ops:List Oper}{an:List (List Nat)}{wbs:List (Option Nat)}{base:Nat}
theorem RunQ.front {i:Nat}:∀{l1 l2:List Nat} {st stf:St},(∀j∈l1,j≠i∧(an.getD i []).contains j=false∧indepQ ops an wbs base j i=true)→RunQ P ops an wbs base (l1++i::l2) st stf→
  ∃s1,StepQ P ops an wbs base i st s1∧RunQ P ops an wbs base (l1++l2) s1 stf
 |[],l2,st,stf,_,h=>h
 |j::l1,l2,st,stf,hj,h=>by
  obtain⟨s1,h1,h2⟩:=h
  obtain⟨s2,h3,h4⟩:=RunQ.front (fun k hk=>hj k (zG _ hk)) h2
  obtain⟨hne,hcn,hi⟩:=hj j (zB ..)
  obtain⟨s3,h5,h6⟩:=h1.swap hne hcn hi h3
  exact⟨s3,h5,s2,h6,h4⟩
structure SlotsQ (ops:List Oper)(base:Nat)(listed:Array Bool)(H:List Blk):Prop where
 slot:∀k,k < ops.length→listed.getD k true=false→H[zds ops base k]? = some .free
 last:H[base+zeb ops]? = some .free
theorem SlotsQ.step {listed:Array Bool}{st st':St}{i:Nat}(hf:SlotsQ ops base listed st.H)(hi:i < ops.length)(hli:listed.getD i true=false)(hls:listed.size=ops.length)
  (h:StepQ P ops an wbs base i st st'):SlotsQ ops base (listed.setIfInBounds i true) st'.H:=by
 obtain⟨o,d,e,ho,ha,hok,rfl⟩:=h
 have live:∀{b:Nat} {y:Blk},(zcz 0 (hidQ ops an wbs base i) st.H)[b]? = some y→y≠.free→∀s:Nat,st.H[s]? = some Blk.free→b≠s:=fun {b y} hb hy s hs e=>by
  subst e;exact hy (maskL_free hb hs)
 have other:∀s:Nat,st.H[s]? = some Blk.free→s≠zds ops base i→(e.app st.H (zds ops base i))[s]? = some Blk.free:=fun s hs hne=>by
  cases e with
  |keep=>exact hs
  |put x=>exact slot_set hs (Ne.symm hne)
  |upd b x=>obtain⟨y,hb,hy⟩:=ha.upd_live.1 b x rfl;exact slot_set hs (live hb hy s hs)
  |ren ob x=>
   refine slot_set ?_ (Ne.symm hne)
   cases ob with
   |none=>exact hs
   |some b=>obtain⟨y,hb,hy⟩:=ha.upd_live.2 b x rfl;exact slot_set hs (live hb hy s hs)
 have keep:zdu o=false→∀s:Nat,st.H[s]? = some Blk.free→(e.app st.H (zds ops base i))[s]? = some Blk.free:=fun hn s hs=>by
  rw[hn] at hok
  cases e with
  |keep=>exact hs
  |put x=>cases hok
  |upd b x=>simp[zfc] at hok
  |ren ob x=>cases ob<;>simp[zfc] at hok
 refine⟨fun k hk hlk=>?_,?_⟩
 ·have hki:k≠i:=fun e=>by subst e;rw[zdY (by omega)] at hlk;simp at hlk
  have hlk':listed.getD k true=false:=by
   rw[zdY (by omega),if_neg (Ne.symm hki)] at hlk;exact hlk
  have hs:=hf.slot k hk hlk'
  by_cases hn:zdu o=true
  ·refine other _ hs fun he=>?_
   obtain⟨p,hp⟩:∃p,ops[k]? = some p:=⟨_,zb hk⟩
   rcases slotQ_case (base:=base) hp with h1|⟨h1,_,_⟩
   ·rcases slotQ_case (base:=base) ho with h2|⟨_,h2,h3⟩
    ·simp[zds,ho,hn] at h2
     have:=rankQ_lt ho hn;omega
    ·omega
   ·exact slotQ_ne hp ho h1 hn hki he
  ·exact keep (by simpa using hn) _ hs
 ·by_cases hn:zdu o=true
  ·refine other _ hf.last ?_
   rcases slotQ_case (base:=base) ho with h2|⟨_,h2,h3⟩
   ·simp[zds,ho,hn] at h2
    have:=rankQ_lt ho hn;omega
   ·omega
  ·exact keep (by simpa using hn) _ hf.last
theorem SlotsQ.at {listed:Array Bool}{H:List Blk}{i:Nat}(hf:SlotsQ ops base listed H)(hi:i < ops.length)(hli:listed.getD i true=false):H[zds ops base i]? = some .free:=hf.slot i hi hli
theorem stepQ_ok (hG:zc6 G)(hY:YOk P G){ro:Option Nat}{st st':St}{a:Act}{w:World}{i:Nat}{Q:Exit→Act→World→Prop}{K:Act→World→Prop}(hr:FR G st a w)(hfree:st.H[zds ops base i]? = some .free)
  (h:StepQ P ops an wbs base i st st') (hK:∀a' w',FR G st' a' w'→K a' w'):wpOpIn (FW ro) 0 P ops.toArray Q i K a w:=by
 obtain⟨o,d,e,ho,ha,_,rfl⟩:=h
 obtain⟨A,φ,hr⟩:=hr
 have hgo:goQ P o (zds ops base i) st.t (zcz 0 (hidQ ops an wbs base i) st.H) d e→o.wpIn (FW ro) 0 P a w K Q:=fun h=>by
  unfold goQ at h
  split at h
  ·rename_i f args tys hop
   split at h
   ·rename_i g xs hc
    rcases h with⟨h1,h2,rfl⟩|⟨x,rfl,hat⟩
    rotate_left
    ·refine execO_ok hG hY (K:=fun s=>s={ t:=setT st.t o.dst d,H:=st.H.set (zds ops base i) x,ds:=st.ds,g:=st.g }) ⟨A,φ,hr⟩ ?_ fun s a' w' e hf=>hK a' w' (by rw[e] at hf;exact hf)
     unfold zfb
     rw[hop]
     simp only[zeM hc,hc]
     exact (hat st.H (maskL_sub _ _ _) hfree).mono fun d' H' ⟨q1,q2⟩=>by subst q1;subst q2;rfl
    refine execO_ok hG hY (K:=fun s=>s={ t:=setT st.t o.dst d,H:=st.H,ds:=st.ds,g:=st.g }) ⟨A,φ,hr⟩ ?_ fun s a' w' e hf=>hK a' w' (by rw[e] at hf;exact hf)
    unfold zfb
    rw[hop]
    simp only[zeM hc,hc]
    exact call_freshL (lk:=fun b=>(zcz 0 (hidQ ops an wbs base i) st.H)[b]?) (fun b sz es hb=>maskL_sub _ _ _ _ _ _ hb) h1 h2 rfl
   ·exact h.elim
  ·rename_i hop
   obtain⟨x,w',A',φ',h1,h2⟩:=stepD_ok hG hr hfree (maskL_sub 0 (hidQ ops an wbs base i) st.H) (maskL_subT 0 (hidQ ops an wbs base i) st.H) h
   have hnd:∀c,o.op≠.defer c:=fun c hc=>by rw[hc] at h;cases h
   refine⟨fun _ _=>trivial,?_⟩
   rw[Oper.semAt_eq _ _ _ hnd]
   rcases h1 with h1|⟨h1,rfl⟩
   ·rw[h1];exact hK _ _ ⟨A',φ',h2⟩
   ·rw[h1];exact hK _ _ ⟨A',φ',h2⟩
 have hget:ops.toArray[i]? = some o:=by simpa using ho
 unfold wpOpIn
 simp only[hget]
 unfold ActsQ at ha
 split at ha
 ·rename_i hg
  rw[if_pos (by simp[Region.wanted,hg])]
  exact hgo ha
 ·rename_i j want hg
  split at ha
  ·rename_i r hb
   have hy:=gD_ok (ops:=ops) hr.tr hb
   have hw:Region.wanted o (yielded ops.toArray a.tmps)=(r==some want):=by simp[Region.wanted,hg,hy]
   rw[hw]
   split at ha
   ·rename_i hbw
    rw[if_pos (by simpa using hbw)]
    exact hgo ha
   ·rename_i hbw
    rw[if_neg (by simpa using hbw)]
    obtain⟨rfl,rfl⟩:=ha
    exact⟨fun _ _=>trivial,hK _ _ ⟨A,φ,hr.value o.dst (.v _ undef)⟩⟩
  ·exact ha.elim
theorem anyQ_ok (hG:zc6 G)(hY:YOk P G){ro:Option Nat}{Q:Exit→Act→World→Prop}{stf:St}(hd:drawQ ops wbs base=true)(han:an=ancs ops [])(hQ:∀a' w',FR G stf a' w'→Q .normal a' w'):
  ∀(fuel:Nat) (listed:Array Bool) (st:St) (a:Act) (w:World),listed.size=ops.length→(zdt ops.length listed).length=fuel→
   (∀k,listed.getD k false=true→∀m∈an.getD k [],listed.getD m false=true)→FR G st a w→SlotsQ ops base listed st.H→RunQ P ops an wbs base (zdt ops.length listed) st stf→
   wpAnyIn (FW ro) 0 P .any ops.toArray Q fuel listed a w:=by
 have hdeps:∀i o,ops[i]? = some o→∀j∈zdx o,j < i:=fun i o ho j hj=>by
  have hi:=(za.1 ho).1
  simp only[drawQ,zh,zP,zJ] at hd
  have:=(hd i hi).1 j (by simp[ho];exact hj)
  simpa using this
 have hind:∀i,i < ops.length→∀j,j < i→(an.getD i []).contains j=true∨indepQ ops an wbs base j i=true:=fun i hi j hj=>by
  simp only[drawQ,zh,zP,zJ] at hd
  have:=(hd i hi).2 j hj
  rw[←han] at this
  simpa using this
 have ready_iff:∀(listed:Array Bool) i,i∈Region.ready .any ops.toArray listed↔i < ops.length∧listed.getD i true=false∧∃o,ops[i]? = some o∧∀j∈zdx o,listed.getD j false=true:=fun listed i=>by
  unfold Region.ready
  simp only[zar,zP,zbo,zJ,zas]
  refine and_congr Iff.rfl (and_congr Iff.rfl ?_)
  cases ho:ops[i]? with
  |none=>simp[ho]
  |some o=>
   simp only[zbj,ho,zq,zao,zn,exists_eq_left']
   simp only[zdx,zt,zar,zbH,zbT,zbm,zas]
   constructor
   ·rintro h j ⟨e,⟨he,hb⟩,rfl⟩
    rcases h e he with h|h
    ·rw[hb] at h;cases h
    ·exact h
   ·intro h e he
    cases hb:Region.binds .any e with
    |false=>exact .inl rfl
    |true=>exact .inr (h e.on ⟨e,⟨he,hb⟩,rfl⟩)
 intro fuel
 induction fuel with
 |zero=>
  intro listed st a w hls hlen hdc hr hf hrun
  have hnil:zdt ops.length listed=[]:=zU hlen
  refine⟨?_,?_⟩
  ·cases hrd:Region.ready .any ops.toArray listed with
   |nil=>rfl
   |cons i l=>
    have:i∈Region.ready .any ops.toArray listed:=by rw[hrd];exact zB ..
    obtain⟨h1,h2,_⟩:=(ready_iff listed i).1 this
    have:i∈zdt ops.length listed:=mem_rem.2 ⟨h1,h2⟩
    rw[hnil] at this;cases this
  ·rw[hnil] at hrun
   have:st=stf:=hrun
   subst this
   exact hQ a w hr
 |succ fuel ih=>
  intro listed st a w hls hlen hdc hr hf hrun
  refine⟨fun hnil=>?_,fun i hi=>?_⟩
  ·
   exfalso
   cases hrem:zdt ops.length listed with
   |nil=>rw[hrem] at hlen;cases hlen
   |cons i l=>
    have himem:i∈zdt ops.length listed:=by rw[hrem];exact zB ..
    obtain⟨h1,h2⟩:=mem_rem.1 himem
    have hready:i∈Region.ready .any ops.toArray listed:=by
     refine (ready_iff listed i).2 ⟨h1,h2,_,zb h1,fun j hj=>?_⟩
     have hji:=hdeps i _ (zb h1) j hj
     have hjl:j < listed.size:=by omega
     cases hjv:listed.getD j true with
     |true=>rw[←getD_ft hjl];exact hjv
     |false=>
      have hjm:j∈zdt ops.length listed:=mem_rem.2 ⟨by omega,hjv⟩
      have hs:(zdt ops.length listed).Pairwise (· < ·):=List.Pairwise.filter _ zbe
      rw[hrem] at hs hjm
      rcases zH.1 hjm with e|hm
      ·omega
      ·have:=(zam.1 hs).1 j hm;omega
    rw[hnil] at hready;cases hready
  ·obtain⟨h1,h2,o,ho,hdep⟩:=(ready_iff listed i).1 hi
   have himem:i∈zdt ops.length listed:=mem_rem.2 ⟨h1,h2⟩
   obtain⟨l1,l2,hl⟩:=List.append_of_mem himem
   have hs:(zdt ops.length listed).Pairwise (· < ·):=List.Pairwise.filter _ zbe
   have hl1:∀j∈l1,j < i:=fun j hj=>by
    rw[hl] at hs
    exact (zau.1 hs).2.2 j hj i (zB ..)
   have hl2:∀j∈l2,i < j:=fun j hj=>by
    rw[hl] at hs
    exact (zam.1 (zau.1 hs).2.1).1 j hj
   have hunl:∀j∈l1,listed.getD j true=false:=fun j hj=>(mem_rem.1 (by rw[hl];exact zaj _ hj)).2
   have hnc:∀j∈l1,(an.getD i []).contains j=false:=fun j hj=>by
    have hji:=hl1 j hj
    cases hc:(an.getD i []).contains j with
    |false=>rfl
    |true=>
     exfalso
     have hm:j∈an.getD i []:=by simpa using hc
     have hspec:=(ancs_spec ops []).2 i o ho j (by rw[←han];simpa using hm)
     rw[←han] at hspec
     have hlisted:listed.getD j false=true:=by
      rcases hspec with h|⟨k,hk,hm'⟩
      ·exact hdep j h
      ·exact hdc k (hdep k hk) j hm'
     have hjl:j < listed.size:=by omega
     have:=hunl j hj
     rw[getD_ft hjl,hlisted] at this;cases this
   have hfront:∀j∈l1,j≠i∧(an.getD i []).contains j=false∧indepQ ops an wbs base j i=true:=fun j hj=>by
    have hji:=hl1 j hj
    refine⟨by omega,hnc j hj,?_⟩
    rcases hind i h1 j hji with hc|hc
    ·rw[hnc j hj] at hc;cases hc
    ·exact hc
   rw[hl] at hrun
   obtain⟨s1,hstep,hrest⟩:=RunQ.front hfront hrun
   have hrem':zdt ops.length (listed.setIfInBounds i true)=l1++l2:=by
    have hcongr:zdt ops.length (listed.setIfInBounds i true)=(zdt ops.length listed).filter fun k=>decide (k≠i):=by
     unfold zdt
     rw[List.filter_filter]
     apply List.filter_congr
     intro k hk
     rw[zdY (by rw[hls];simpa using hk)]
     by_cases hik:i=k
     ·subst hik;simp
     ·simp[hik,Ne.symm hik]
    rw[hcongr,hl,za4,zaR (by simp)]
    congr 1
    ·exact zbd.2 fun j hj=>by have:=hl1 j hj;simp;omega
    ·exact zbd.2 fun j hj=>by have:=hl2 j hj;simp;omega
   refine stepQ_ok hG hY hr (hf.at h1 h2) hstep fun a' w' hr'=>?_
   refine ih _ s1 a' w' (by simpa using hls) ?_ ?_ hr' (hf.step h1 h2 hls hstep) (by rw[hrem'];exact hrest)
   ·rw[hrem']
    rw[hl] at hlen
    simp only[zw,z4] at hlen ⊢
    omega
   ·intro k hk m hm
    rw[getD_set'] at hk ⊢
    split at hk
    ·rename_i hik
     obtain⟨rfl,_⟩:=hik
     have hspec:=(ancs_spec ops []).2 i o ho m (by rw[←han];simpa using hm)
     rw[←han] at hspec
     have:listed.getD m false=true:=by
      rcases hspec with h|⟨k,hk,hm'⟩
      ·exact hdep m h
      ·exact hdc k (hdep k hk) m hm'
     split
     ·rfl
     ·exact this
    ·split
     ·rfl
     ·exact hdc k hk m hm
theorem RunQ.last {an:List (List Nat)}:∀{l:List Nat} {listed:Array Bool} {st stf:St},RunQ P ops an wbs base l st stf→listed.size=ops.length→l.Nodup→(∀i∈l,i < ops.length∧listed.getD i true=false)→
  SlotsQ ops base listed st.H→stf.H.length=st.H.length∧stf.H[base+zeb ops]? = some .free
 |[],_,st,stf,h,_,_,_,hf=>by
  have:st=stf:=h
  subst this;exact⟨rfl,hf.last⟩
 |i::l,listed,st,stf,⟨s1,h1,h2⟩,hs,hn,hl,hf=>by
  obtain⟨q1,q2⟩:=hl i (zB ..)
  have hf':=hf.step q1 q2 hs h1
  have hl':∀j∈l,j < ops.length∧(listed.setIfInBounds i true).getD j true=false:=fun j hj=>by
   obtain⟨r1,r2⟩:=hl j (zG _ hj)
   refine⟨r1,?_⟩
   have hne:i≠j:=fun e=>(zaY.1 hn).1 (e ▸ hj)
   rw[zdY (by omega),if_neg hne]
   exact r2
  obtain⟨k1,k2⟩:=RunQ.last h2 (by simpa using hs) (zaY.1 hn).2 hl' hf'
  obtain⟨o,d,e,_,_,_,rfl⟩:=h1
  exact⟨k1.trans Eff.app_length,k2⟩
theorem Sp_drawQ (hG:zc6 G)(hY:YOk P G){ro:Option Nat}{id:Nat}{st:St}{Q:Exit→St→Prop}(hm:P.follows .mixedOrders=true)(wbs:List (Option Nat))(hd:drawQ ops wbs st.H.length=true)
  {stf:St} (hrun:RunQ P ops (ancs ops []) wbs st.H.length (List.range ops.length) { st with H:=st.H++List.replicate (zeb ops+1) .free } stf) (hq:Q .normal { stf with H:=stf.H.dropLast }):Sp P ro G (.region id ops.toArray true) st Q:=by
 rintro a w ⟨A,φ,hr⟩
 refine wpIn_region_any hm ?_
 have hlen:(st.H++List.replicate (zeb ops+1) Blk.free).length=st.H.length+zeb ops+1:=by simp;omega
 have hfree:∀k,k≤zeb ops→(st.H++List.replicate (zeb ops+1) Blk.free)[st.H.length+k]? = some .free:=fun k hk=>by
  rw[zu (by omega),zY,if_pos (by omega)]
 have hsf:SlotsQ ops st.H.length (Array.replicate ops.length false) (st.H++List.replicate (zeb ops+1) Blk.free):=by
  refine⟨fun k hk _=>?_,hfree _ (zf _)⟩
  rcases slotQ_case (base:=st.H.length) (zb hk) with e|⟨_,e,hlt⟩
  ·rw[e];exact hfree _ (zf _)
  ·rw[e];exact hfree _ (Nat.le_of_lt hlt)
 have hrem:zdt ops.length (Array.replicate ops.length false)=List.range ops.length:=by
  refine zbd.2 fun i hi=>?_
  simp at hi;simp[hi]
 obtain⟨k1,k2⟩:=hrun.last (listed:=Array.replicate ops.length false) (by simp) List.nodup_range (fun i hi=>by simp at hi;exact⟨hi,by simp[hi]⟩) hsf
 have hlast:stf.H=stf.H.dropLast++[.free]:=by
  have hne:stf.H≠[]:=fun e=>by rw[e] at k1;simp at k1
  have h1:=(zbA hne).symm
  have h2:stf.H.getLast hne=.free:=by
   have:=List.getLast_eq_getElem hne
   have h3:stf.H.length-1=st.H.length+zeb ops:=by rw[k1,hlen];rfl
   rw[za] at k2
   obtain⟨hlt,k2⟩:=k2
   rw[this,←k2]
   congr 1
  rw[h2] at h1;exact h1
 have hfr0:FR G st a { w with drawn:=w.drawn+1 }:=
  ⟨A,φ,hr.drew hG⟩
 have hfr1:FR G { st with H:=st.H++List.replicate (zeb ops+1) .free } a { w with drawn:=w.drawn+1 }:=
  let ⟨A,φ,h⟩:=hfr0;⟨A,φ,h.rooms _⟩
 rw[zbo]
 refine anyQ_ok (P:=P) (stf:=stf) hG hY hd rfl (fun a' w' ⟨A',φ',hr'⟩=>⟨_,hq,A',φ',hr'.drop hlast⟩) ops.length _ _ a _ (by simp) (by rw[hrem];simp) (fun k hk=>by
   rw[zac] at hk;simp only[zbu] at hk;split at hk<;>cases hk) hfr1 hsf ?_
 rw[hrem];exact hrun
end
end
end Go.DL
/- A call that leaves one block more, at a place that was free: out of a contract that leaves it at the end. -/
namespace Go.DL
open Go.RowKit Go.Proofs
theorem V.carry {A0 A:Rd}{w0 w:World}{φ0 φ φ':Nat→Loc}(hφ:∀b,φ0 b≠.free→(φ b).le (φ' b)):∀{d:D} {u u0:Value},V A w φ d u→V A0 w0 φ0 d u0→V A w φ' d u:=by
 intro d u u0 h
 have key:∀{A:Rd} {w:World} {φ:Nat→Loc} {d:D} {u:Value},V A w φ d u→(∀b,φ0 b≠.free→(φ b).le (φ' b))→∀u0,V A0 w0 φ0 d u0→V A w φ' d u:=by
  intro A w φ d u h
  induction h with
  |v φ x=>intro _ _ _;exact .v _ _
  |any φ x=>intro _ _ _;exact .any _ _
  |nil φ a=>intro _ _ _;exact .nil _ _
  |agg φ cs vs hl h ih=>
   intro hφ u0 h0
   cases h0 with
   |agg _ _ vs0 hl0 h0=>
    refine .agg _ _ _ hl fun i d u h1 h2=>?_
    have hi:i < vs0.size:=by rw[hl0];exact (za.1 h1).1
    exact ih i d u h1 h2 hφ vs0[i] (h0 i d _ h1 (by simp[hi]))
  |tup φ cs vs hl h ih=>
   intro hφ u0 h0
   cases h0 with
   |tup _ _ vs0 hl0 h0=>
    refine .tup _ _ _ hl fun i d u h1 h2=>?_
    have hi:i < vs0.size:=by rw[hl0];exact (za.1 h1).1
    exact ih i d u h1 h2 hφ vs0[i] (h0 i d _ h1 (by simp[hi]))
  |sl0 φ a cap=>intro _ _ _;exact .sl0 _ _ _
  |sl φ es n off sz cap u ha hcap hsz hcc h ih=>intro _ _ _;exact .sl _ es n off sz cap u ha hcap hsz hcc h
  |fl0 φ a cap=>intro _ _ _;exact .fl0 _ _ _
  |fl φ es n off sz cap u ha hcap hsz hcc h ih=>intro _ _ _;exact .fl _ es n off sz cap u ha hcap hsz hcc h
  |rp φ cs n off u ha hcc h ih=>intro _ _ _;exact .rp _ cs n off u ha hcc h
  |ms φ b off len cap cap' a hlen hcap h=>
   intro hφ u0 h0
   have hb:φ0 b≠.free:=fun e=>by
    cases h0 with
    |ms _ _ _ _ _ cap0 a0 _ _ h0=>rw[e] at h0;exact h0
   refine .ms _ b off len cap cap' a hlen hcap ?_
   rcases hφ b hb with e|e|e
   ·rw[e] at h;exact h.elim
   ·rw[e];trivial
   ·rw[←e];exact h
  |mp φ b i f x h=>
   intro hφ u0 h0
   have hb:φ0 b≠.free:=fun e=>by
    cases h0 with
    |mp _ _ _ _ x0 h0=>rw[e] at h0;exact h0
   refine .mp _ b i f x ?_
   rcases hφ b hb with e|e|e
   ·rw[e] at h;exact h.elim
   ·rw[e];trivial
   ·rw[←e];exact h
  |mm φ b r h=>
   intro hφ u0 h0
   have hb:φ0 b≠.free:=fun e=>by
    cases h0 with
    |mm _ _ x0 h0=>rw[e] at h0;exact h0
   refine .mm _ b r ?_
   rcases hφ b hb with e|e|e
   ·rw[e] at h;exact h.elim
   ·rw[e];trivial
   ·rw[←e];exact h
  |fn φ f first caps vs us hl hl' h h' ih ih'=>
   intro hφ u0 h0
   cases h0 with
   |fn _ _ _ _ vs0 us0 hl0 hl0' h0 h0'=>
    refine .fn _ f _ _ _ _ hl hl' (fun i d u h1 h2=>?_) fun i d u h1 h2=>?_
    ·have hi:i < vs0.size:=by rw[hl0];exact (za.1 h1).1
     exact ih i d u h1 h2 hφ vs0[i] (h0 i d _ h1 (by simp[hi]))
    ·have hi:i < us0.size:=by rw[hl0'];exact (za.1 h1).1
     exact ih' i d u h1 h2 hφ us0[i] (h0' i d _ h1 (by simp[hi]))
 exact key h hφ u0
theorem CallAt.of {P:Program}{f:FuncId}{xs:List D}{Hm:List Blk}{s off len cap sz:Nat}{es:List (List D)}
  (h:∀H,Sub Hm H→CallSp P f xs H fun d' H'=>d'=.ms (H.length+1) off len cap∧H'=H++[.dead,.live sz es]) (hx:BlkBelow 0 (.live sz es)):CallAt P f xs Hm s (.ms s off len cap) (.live sz es):=by
 intro H hsub hfree
 have hs:s < H.length:=(za.1 hfree).1
 refine⟨(h H hsub).1,fun w A φ vs hr hv=>((h H hsub).2 w A φ vs hr hv).mono ?_⟩
 rintro e w' ⟨v,d,H',A',φ',he,⟨hd,hH'⟩,hr',hvd,hev⟩
 subst hd;subst hH'
 let φ2:Nat→Loc:=fun b=>if b=s then φ' (H.length+1) else if b < H.length then φ' b else .free
 have p_s:φ2 s=φ' (H.length+1):=by simp[φ2]
 have p_lt:∀{b},b≠s→b < H.length→φ2 b=φ' b:=fun h1 h2=>by simp[φ2,h1,h2]
 have p_ge:∀{b},H.length≤b→φ2 b=.free:=fun {b} h1=>by
  have h2:¬b < H.length:=by omega
  have h3:b≠s:=by omega
  simp[φ2,h2,h3]
 have f_s:φ s=.free:=hr.free s hfree
 have f'_s:φ' s=.free:=hr'.free s (by rw[zk hs];exact hfree)
 have f_ge:∀b,H.length≤b→φ b=.free:=fun b hb=>hr.out b (zs hb)
 have back:∀{b n base sz room},φ2 b=.loc n base sz room→∃b',φ' b'=.loc n base sz room∧(b'=if b=s then H.length+1 else b)∧b < H.length:=fun {b n base sz room} hb=>by
  by_cases h1:b=s
  ·subst h1;rw[p_s] at hb;exact⟨_,hb,by simp,hs⟩
  ·by_cases h2:b < H.length
   ·rw[p_lt h1 h2] at hb;exact⟨b,hb,by simp[h1],h2⟩
   ·rw[p_ge (by omega)] at hb;cases hb
 have own2:∀{n},own φ2 n→own φ' n:=fun⟨b,base,sz,room,hb⟩=>by
  obtain⟨b',h1,_⟩:=back hb;exact⟨b',base,sz,room,h1⟩
 have mono2:∀b,φ b≠.free→(φ' b).le (φ2 b):=fun b hb=>by
  have h1:b≠s:=fun e=>hb (by rw[e];exact f_s)
  have h2:b < H.length:=by
   rcases zZ b H.length with x|x
   ·exact x
   ·exact absurd (f_ge b x) hb
  rw[p_lt h1 h2];exact Loc.le_refl _
 refine⟨v,_,_,A',φ2,he,⟨rfl,rfl⟩,?_,?_,⟨⟨hev.ext.os,hev.ext.tape,hev.ext.output,hev.ext.drawn,hev.ext.size,hev.ext.same,fun n hn=>hev.ext.own n (own2 hn)⟩,hev.up,hev.new,fun b=>?_,hev.b0⟩⟩
 ·
  have get:∀b x,b≠s→(H.set s (.live sz es))[b]? = some x→b < H.length∧H[b]? = some x∧(H++[.dead,.live sz es])[b]? = some x:=fun b x hb h=>by
   rw[zr (Ne.symm hb)] at h
   have hlt:=(za.1 h).1
   exact⟨hlt,h,by rw[zk hlt];exact h⟩
  refine⟨fun b hb=>?_,fun b hb=>?_,fun b hb=>?_,fun b sz' es' hb=>?_,fun b c' es' hb=>?_,fun b b' n base sz room base' sz' room' h1 h2=>?_,fun n hn=>hr'.dis n (own2 hn),hr'.lt,fun n hn=>hr'.olt n (own2 hn),fun n hn=>hr'.ofr n (own2 hn),hr'.bsz⟩
  ·rw[zaw,zE] at hb
   exact p_ge hb
  ·have hne:b≠s:=fun e=>by subst e;rw[zp hs] at hb;cases hb
   obtain⟨h1,_,h3⟩:=get b _ hne hb
   rw[p_lt hne h1];exact hr'.free b h3
  ·have hne:b≠s:=fun e=>by subst e;rw[zp hs] at hb;cases hb
   obtain⟨h1,_,h3⟩:=get b _ hne hb
   rw[p_lt hne h1];exact hr'.dead b h3
  ·by_cases hne:b=s
   ·subst hne
    rw[zp hs] at hb
    cases hb
    rw[p_s]
    rcases hr'.live (H.length+1) sz es (by simp) with h1|⟨n,base,room,c,ty,h1,h2⟩
    ·exact .inl h1
    ·refine .inr ⟨n,base,room,c,ty,h1,h2.blk,h2.fits,h2.size,h2.len,fun i e j d k1 k2=>?_⟩
     obtain⟨u,k3,k4⟩:=h2.val i e j d k1 k2
     have k5:=k4.cut (K:=0) 4 (hx e (zm k1) d (zm k2))
     exact⟨u,k3,V.mono (fun _ x=>x) (fun _ _=>rfl) (fun b=>.inl (by simp[cutφ])) k5⟩
   ·obtain⟨h1,h2,h3⟩:=get b _ hne hb
    rw[p_lt hne h1]
    rcases hr'.live b sz' es' h3 with h4|⟨n,base,room,c,ty,h4,h5⟩
    ·exact .inl h4
    ·refine .inr ⟨n,base,room,c,ty,h4,h5.blk,h5.fits,h5.size,h5.len,fun i e j d k1 k2=>?_⟩
     obtain⟨u,k3,k4⟩:=h5.val i e j d k1 k2
     rcases hr.live b sz' es' h2 with⟨h6,_⟩|⟨n0,base0,room0,c0,ty0,h6,h7⟩
     ·rw[h6] at k1;simp at k1
     ·obtain⟨u0,_,k5⟩:=h7.val i e j d k1 k2
      exact⟨u,k3,k4.carry mono2 k5⟩
  ·have hne:b≠s:=fun e=>by subst e;rw[zp hs] at hb;cases hb
   obtain⟨h1,h2,h3⟩:=get b _ hne hb
   rw[p_lt hne h1]
   obtain⟨n,ms,h4,h5⟩:=hr'.tab b c' es' h3
   refine⟨n,ms,h4,h5.blk,h5.len,fun i k d q e k1 k2=>?_⟩
   obtain⟨k3,k4,k5⟩:=h5.ent i k d q e k1 k2
   obtain⟨n0,ms0,h6,h7⟩:=hr.tab b c' es' h2
   have hi:i < ms0.size:=by rw[h7.len];exact (za.1 k1).1
   exact⟨k3,k4,k5.carry mono2 (h7.ent i k d q ms0[i] k1 (zaq hi)).2.2⟩
  ·obtain⟨c1,q1,r1,l1⟩:=back h1
   obtain⟨c2,q2,r2,l2⟩:=back h2
   have:=hr'.inj _ _ _ _ _ _ _ _ _ q1 q2
   rw[r1,r2] at this
   by_cases e1:b=s
   ·by_cases e2:b'=s
    ·rw[e1,e2]
    ·simp[e1,e2] at this;omega
   ·by_cases e2:b'=s
    ·simp[e1,e2] at this;omega
    ·simpa[e1,e2] using this
 ·cases hvd with
  |ms _ _ _ _ _ cap' a h1 h2 h3=>exact .ms _ _ _ _ _ _ _ h1 h2 (by rw[p_s];exact h3)
 ·by_cases h1:b=s
  ·subst h1;exact .inl f_s
  ·by_cases h2:b < H.length
   ·rw[p_lt h1 h2];exact hev.le b
   ·exact .inl (f_ge b (by omega))
end Go.DL
