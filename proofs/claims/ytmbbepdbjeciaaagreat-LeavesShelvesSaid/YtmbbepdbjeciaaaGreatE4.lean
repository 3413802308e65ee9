/- An interpreter over abstract values, and that what it says is so. -/
import Derived.Test.YtmbbepdbjeciaaaGreatE3
namespace Go.DL
open Go.RowKit Go.Proofs
noncomputable section
structure Tbl where
 P:Program
 T:FuncId→List D→Option D:=fun _ _=>none
 I:FuncId→List D→List D→Option (List (List D)):=fun _ _ _=>none
 own:FuncId→List Blk→Bool:=fun _ _=>false
 S:FuncId→List D→List Blk→Option (D × List Blk):=fun _ _ _=>none
 A:FuncId→List D→List Blk→Nat→Option (D × Blk):=fun _ _ _ _=>none
structure Tbl.Ok (C:Tbl):Prop where
 map:∀f xs d,C.T f xs=some d→Maps C.P f xs d
 it:∀f a b s,C.I f a b=some s→Iter C.P f a b s
 cat:∀f xs Hm s d x,C.A f xs Hm s=some (d,x)→CallAt C.P f xs Hm s d x
 sp:∀f xs H d H',C.S f xs H=some (d,H')→CallSp C.P f xs H fun d' H''=>d'=d∧H''=H'
 mixed:C.P.follows .mixedOrders=true
 names:(C.P.funcs.toList.all fun fn=>!(fn.name == "runtime.NumGoroutine"))=true
theorem Tbl.Ok.name {C:Tbl}(h:C.Ok){g:FuncId}{fn:Func}(hf:C.P.funcs[g]? = some fn):(fn.name == "runtime.NumGoroutine")=false:=by
 have h1:=zh.1 h.names fn (by rw[zbH];exact Array.mem_of_getElem? hf)
 simpa using h1
abbrev Res:=Option (Exit × List D × List Blk)
structure Fns where
 code:Bool→Code→List D→List Blk→Res
 call:FuncId→List D→List Blk→Option (D × List Blk)
 own:FuncId→List D→Option D
 it:FuncId→List D→List D→Option (List (List D))
section
variable {α:Type}
def fN (n:Nat)(k:Nat→α):α:=match n with
 |0=>k 0
 |m+1=>k (Nat.succ m)
def fI (n:Int)(k:Int→α):α:=match n with
 |.ofNat m=>fN m fun m=>k (.ofNat m)
 |.negSucc m=>fN m fun m=>k (.negSucc m)
def fB (b:Bool)(k:Bool→α):α:=match b with
 |true=>k true
 |false=>k false
theorem fN_eq (n:Nat)(k:Nat→α):fN n k=k n:=by cases n<;>rfl
theorem fI_eq (n:Int)(k:Int→α):fI n k=k n:=by cases n<;>simp[fI,fN_eq]
theorem fB_eq (b:Bool)(k:Bool→α):fB b k=k b:=by cases b<;>rfl
def fO (x:Option Nat)(k:Option Nat→α):α:=match x with
 |none=>k none
 |some b=>fN b fun b=>k (some b)
theorem fO_eq (x:Option Nat)(k:Option Nat→α):fO x k=k x:=by cases x<;>simp[fO,fN_eq]
def fL {β:Type}(f:β→(β→α)→α)(l:List β):(List β→α)→α:=
 List.rec (motive:=fun _=>(List β→α)→α) (fun k=>k []) (fun x _ ih k=>f x fun x=>ih fun xs=>k (x::xs)) l
theorem fL_eq {β:Type}{f:β→(β→α)→α}(hf:∀x k,f x k=k x):∀(l:List β) (k:List β→α),fL f l k=k l
 |[],_=>rfl
 |x::xs,k=>by
  show (f x fun x=>fL f xs fun xs=>k (x::xs))=_
  simp only[hf,fL_eq hf xs]
def fS {β:Type}:List β→(List β→α)→α:=fL fun x k=>k x
theorem fS_eq {β:Type}(l:List β)(k:List β→α):fS l k=k l:=fL_eq (fun _ _=>rfl) l k
def fD:Nat→D→(D→α)→α
 |n+1,d,k=>match d with
  |.v (.int kd x)=>fI x fun x=>k (.v (.int kd x))
  |.v (.bool b)=>fB b fun b=>k (.v (.bool b))
  |.ms b off len cap=>fN b fun b=>fN off fun off=>fN len fun len=>fN cap fun cap=>k (.ms b off len cap)
  |.mp b i f=>fN b fun b=>fN i fun i=>fN f fun f=>k (.mp b i f)
  |.agg cs=>fL (fD n) cs fun cs=>k (.agg cs)
  |.tup cs=>fL (fD n) cs fun cs=>k (.tup cs)
  |.rp cs=>fL (fD n) cs fun cs=>k (.rp cs)
  |.sl es=>fL (fL (fD n)) es fun es=>k (.sl es)
  |.fl es=>fL (fL (fD n)) es fun es=>k (.fl es)
  |.fn f a b=>fL (fD n) a fun a=>fL (fD n) b fun b=>k (.fn f a b)
  |d=>k d
 |0,d,k=>k d
theorem fD_eq:∀(n:Nat) (d:D) (k:D→α),fD n d k=k d
 |0,d,k=>by unfold fD;rfl
 |n+1,d,k=>by
  have h1:∀(l:List D) (k:List D→α),fL (fD n) l k=k l:=fL_eq (fD_eq n)
  have h2:∀(l:List (List D)) (k:List (List D)→α),fL (fL (fD n)) l k=k l:=fL_eq h1
  unfold fD
  split<;>simp only[fI_eq,fB_eq,fN_eq,h1,h2]
def fBk (x:Blk)(k:Blk→α):α:=match x with
 |.live sz es=>fN sz fun sz=>fL (fL (fD 4)) es fun es=>k (.live sz es)
 |.tab c es=>k (.tab c es)
 |.free=>k .free
 |.dead=>k .dead
theorem fBk_eq (x:Blk)(k:Blk→α):fBk x k=k x:=by
 cases x with
 |live sz es=>simp only[fBk,fN_eq,fL_eq (fL_eq (fD_eq 4))]
 |_=>rfl
def fSet {β:Type}(l:List β):Nat→β→(List β→α)→α:=
 List.rec (motive:=fun _=>Nat→β→(List β→α)→α) (fun _ _ k=>k []) (fun x xs ih i d k=>Nat.rec (motive:=fun _=>α) (k (d::xs)) (fun j _=>ih j d fun ys=>k (x::ys)) i) l
theorem fSet_eq {β:Type}:∀(l:List β) (i:Nat) (d:β) (k:List β→α),fSet l i d k=k (l.set i d)
 |[],_,_,_=>rfl
 |_::_,0,_,_=>rfl
 |x::xs,i+1,d,k=>by
  show (fSet xs i d fun ys=>k (x::ys))=_
  rw[fSet_eq xs,List.set_cons_succ]
def fT (t:List D)(dst:Option Tmp)(d:D)(k:List D→α):α:=match dst with
 |none=>k t
 |some i=>fD 4 d fun d=>fSet t i d k
theorem fT_eq (t:List D)(dst:Option Tmp)(d:D)(k:List D→α):fT t dst d k=k (setT t dst d):=by
 cases dst with
 |none=>rfl
 |some i=>simp only[fT,fD_eq,fSet_eq,setT]
def fE (H:List Blk)(e:Eff)(k:List Blk→α):α:=match e with
 |.keep=>k H
 |.upd b x=>fBk x fun x=>fSet H b x k
 |.put x=>fBk x fun x=>fS (H++[x]) k
 |.ren o x=>fBk x fun x=>fS (killO H o++[x]) k
theorem fE_eq (H:List Blk)(e:Eff)(k:List Blk→α):fE H e k=k (e.seq H):=by
 cases e<;>simp only[fE,fBk_eq,fSet_eq,fS_eq,Eff.seq]
def fA (H:List Blk)(s:Nat)(e:Eff)(k:List Blk→α):α:=match e with
 |.keep=>k H
 |.upd b x=>fBk x fun x=>fSet H b x k
 |.put x=>fBk x fun x=>fSet H s x k
 |.ren o x=>fBk x fun x=>fSet (killO H o) s x k
theorem fA_eq (H:List Blk)(s:Nat)(e:Eff)(k:List Blk→α):fA H s e k=k (e.app H s):=by
 cases e<;>simp only[fA,fBk_eq,fSet_eq,Eff.app]
end
section
variable (C:Tbl)(F:Fns)
def opR (op:Op)(t:List D)(H:List Blk):Option (D × List Blk):=
 match op with
 |.call { callee:=.value f,args,.. }=>match zd0 t f args.toList with
  |some (g,xs)=>F.call g xs H
  |none=>none
 |op=>match zcp C.P H H.length t op with
  |some (d,e)=>fE H e fun H=>some (d,H)
  |none=>none
def runO (ops:List Oper):List Oper→List D→List Blk→Option (List D × List Blk)
 |[],t,H=>some (t,H)
 |o::rest,t,H=>match o.guard with
  |none=>match opR C F o.op t H with
   |some (d,H')=>fT t o.dst d fun t=>runO ops rest t H'
   |none=>none
  |some (j,want)=>match guardD ops t j with
   |some b=>if b=want then match opR C F o.op t H with
     |some (d,H')=>fT t o.dst d fun t=>runO ops rest t H'
     |none=>none
    else fT t o.dst .any fun t=>runO ops rest t H
   |none=>none
def actR (o:Oper)(s:Nat)(Hm:List Blk)(t:List D)(H:List Blk):Option (List D × List Blk):=
 match o.op with
 |.call { callee:=.value f,args,.. }=>match zd0 t f args.toList with
  |some (g,xs)=>match F.own g (xs.map (snap (fun b=>Hm[b]?) 5)) with
   |some d=>if zeu 5 d=true then fT t o.dst d fun t=>some (t,H) else none
   |none=>none
  |none=>none
 |op=>match zcp C.P Hm s t op with
  |some (d,e)=>fT t o.dst d fun t=>fA H s e fun H=>some (t,H)
  |none=>none
def actOR (ops:List Oper)(o:Oper)(s:Nat)(Hm:List Blk)(t:List D)(H:List Blk):Option (List D × List Blk):=
 match o.guard with
 |none=>actR C F o s Hm t H
 |some (j,want)=>match guardD ops t j with
  |some b=>if b=want then actR C F o s Hm t H else some (setT t o.dst (.v undef),H)
  |none=>if undefD ops t j=true then some (setT t o.dst (.v undef),H) else none
def planR (ops:List Oper)(base:Nat):List (Nat × List Nat)→List Oper→List D→List Blk→Option (List D × List Blk)
 |(s,hs)::pl,o::l,t,H=>match actOR C F ops o (base+s) (zcz base hs H) t H with
  |some (t,H)=>planR ops base pl l t H
  |none=>none
 |_,_,t,H=>some (t,H)
def actQR (o:Oper)(s:Nat)(Hm:List Blk)(t:List D):Option (D × Eff):=
 match o.op with
 |.call { callee:=.value f,args,.. }=>match zd0 t f args.toList with
  |some (g,xs)=>match C.A g xs Hm s with
   |some (d,x)=>some (d,.put x)
   |none=>match F.own g (xs.map (snap (fun b=>Hm[b]?) 5)) with
    |some d=>if zeu 5 d=true then some (d,.keep) else none
    |none=>none
  |none=>none
 |op=>zcp C.P Hm s t op
def actOQR (ops:List Oper)(o:Oper)(s:Nat)(Hm:List Blk)(t:List D):Option (D × Eff):=
 match o.guard with
 |none=>actQR C F o s Hm t
 |some (j,want)=>match gD ops t j with
  |some r=>if r=some want then actQR C F o s Hm t else some (.v undef,.keep)
  |none=>none
def claimOf:Eff→Option Nat
 |.upd b _=>some b
 |.ren o _=>o
 |_=>none
def claimsR (ops:List Oper)(base:Nat):Nat→List Oper→List D→List Blk→Option (List (Option Nat))
 |_,[],_,_=>some []
 |k,o::l,t,H=>match actOQR C F ops o (zds ops base k) H t with
  |some (d,e)=>fT t o.dst d fun t=>fA H (zds ops base k) e fun H=>match claimsR ops base (k+1) l t H with
   |some ws=>some (claimOf e::ws)
   |none=>none
  |none=>none
def planQR (ops:List Oper)(an:List (List Nat))(wbs:List (Option Nat))(base:Nat):Nat→List Oper→List D→List Blk→Option (List D × List Blk)
 |_,[],t,H=>some (t,H)
 |k,o::l,t,H=>match actOQR C F ops o (zds ops base k) (zcz 0 (hidQ ops an wbs base k) H) t with
  |some (d,e)=>if zfc e (zdu o) (wbs.getD k none)=true then fT t o.dst d fun t=>fA H (zds ops base k) e fun H=>planQR ops an wbs base (k+1) l t H else none
  |none=>none
def drawQR (ops:List Oper)(t:List D)(H:List Blk):Option (List D × List Blk):=
 match claimsR C F ops H.length 0 ops t (H++List.replicate (zeb ops+1) .free) with
 |some wbs=>fL fO wbs fun wbs=>fN H.length fun base=>if drawQ ops wbs base=true then match planQR C F ops (ancs ops []) wbs base 0 ops t (H++List.replicate (zeb ops+1) .free) with
   |some (t,H)=>fS H.dropLast fun H=>some (t,H)
   |none=>none
  else none
 |none=>none
def blksH (H:List Blk):Nat→D→List Nat
 |0,_=>[]
 |k+1,.ms b _ _ _=>b::(match H[b]? with
  |some (.live _ es)=>es.flatMap fun e=>e.flatMap (blksH H k)
  |_=>[])
 |k+1,.mp b _ _=>b::(match H[b]? with
  |some (.live _ es)=>es.flatMap fun e=>e.flatMap (blksH H k)
  |_=>[])
 |k+1,.agg cs=>cs.flatMap (blksH H k)
 |k+1,.tup cs=>cs.flatMap (blksH H k)
 |k+1,.fn _ a b=>a.flatMap (blksH H k)++b.flatMap (blksH H k)
 |_,_=>[]
def roundsR (asg body:Code)(t0:List D)(ps:List Tmp):List (List D)→List Blk→Option (Exit × List Blk)
 |[],H=>some (.normal,H)
 |a::more,H=>match F.code false asg (setPs t0 (ps.zip a)) H with
  |some (.normal,t1,H1)=>match F.code false body t1 H1 with
   |some (.normal,_,H2)=>roundsR asg body t0 ps more H2
   |some (.ret,_,H2)=>some (.ret,H2)
   |some (.exit id,_,H2)=>some (.exit id,H2)
   |_=>none
  |_=>none
def rangeR (g:Operand)(ps:List Tmp)(asg body:Code)(t:List D)(H:List Blk):Res:=
 match ev t g with
 |.fn (.func f) first caps=>
  let ks:=first.flatMap (blksH H 4)++caps.flatMap (blksH H 4)
  match F.it f (first.map (snap (sel ks H) 5)) (caps.map (snap (sel ks H) 5)) with
  |some seq=>if ks.all (fun b=>decide (b < H.length))=true∧seq.all (fun a=>decide (a.length=ps.length)&&a.all (still 3))=true then
    match roundsR F asg body t ps seq (killL H ks) with
    |some (e,H')=>some (e,t,H')
    |none=>none
   else none
  |none=>none
 |_=>none
def codeR (top:Bool)(c:Code)(t:List D)(H:List Blk):Res:=
 match c with
 |.skip=>some (.normal,t,H)
 |.region _ ops false=>match runO C F ops.toList ops.toList t H with
  |some (t,H)=>some (.normal,t,H)
  |none=>none
 |.region _ ops true=>if drawOk ops.toList=true then match planR C F ops.toList H.length (mkPlan ops.toList) ops.toList t (H++List.replicate (slots ops.toList+1) .free) with
   |some (t,H)=>fS H.dropLast fun H=>some (.normal,t,H)
   |none=>none
  else match drawQR C F ops.toList t H with
   |some (t,H)=>some (.normal,t,H)
   |none=>none
 |.label _=>some (.normal,t,H)
 |.scope c=>match F.code top c t H with
  |some (.goto _,_,_)=>none
  |r=>r
 |.seq x y=>match F.code top x t H with
  |some (.normal,t,H)=>F.code top y t H
  |r=>r
 |.cond c x y=>match ev t c with
  |.v (.bool true)=>F.code top x t H
  |.v (.bool false)=>F.code top y t H
  |_=>none
 |.block id c=>match F.code top c t H with
  |some (.exit id',t,H)=>if id'=id then some (.normal,t,H) else some (.exit id',t,H)
  |r=>r
 |.exit id=>some (.exit id,t,H)
 |.ret=>some (.ret,t,H)
 |.loop c=>match F.code top c t H with
  |some (.normal,t,H)=>F.code top (.loop c) t H
  |r=>r
 |.rangeFunc g ps asg body=>if top then rangeR F g ps.toList asg body t H else none
 |_=>none
def bodyR (g:FuncId)(xs:List D)(H:List Blk):Option (D × List Blk):=
 match C.P.funcs[g]? with
 |some fn=>match fn.body with
  |some c=>match (fL (fD 4) xs fun xs=>fS (xs++List.replicate (fn.ntmps-xs.length) .any) fun t=>F.code true c t H) with
    |some (.normal,t,H)=>match resD C.P fn.results.toList { t:=t,H:=H } with
     |some d=>some (d,H)
     |none=>none
    |some (.ret,t,H)=>match resD C.P fn.results.toList { t:=t,H:=H } with
     |some d=>some (d,H)
     |none=>none
    |_=>none
  |none=>none
 |none=>none
def ownR (g:FuncId)(xs:List D):Option D:=
 match C.T g xs with
 |some d=>some d
 |none=>match bodyR C F g xs [] with
  |some (d,H)=>fD 4 (snapR (fun b=>H[b]?) 5 d) some
  |none=>none
abbrev IK:=Exit→List D→List Blk→Bool→Option (List (List D))
def isMark:D→Bool
 |.fn (.yield 0) [] []=>true
 |_=>false
def itOps (ops:List Oper):List Oper→List D→List Blk→Bool→(List D→List Blk→Bool→Option (List (List D)))→Option (List (List D))
 |[],t,H,b,K=>K t H b
 |o::rest,t,H,b,K=>match o.guard with
  |some _=>none
  |none=>match o.op with
   |.move x=>itOps ops rest (setT t o.dst (ev t x)) H b K
   |.call { callee:=.value f,args,.. }=>if args.toList.all (fun x=>!isMark (ev t x))=true then
     if isMark (ev t f)=true then
      if b then none else match itOps ops rest (setT t o.dst (.v (.bool true))) H false K,itOps ops rest (setT t o.dst (.v (.bool false))) H true K with
       |some l,some []=>some (args.toList.map (ev t)::l)
       |_,_=>none
     else match zd0 t f args.toList with
      |some (g,xs)=>match F.call g xs H with
       |some (d,H')=>if isMark d then none else itOps ops rest (setT t o.dst d) H' b K
       |none=>none
      |none=>none
    else none
   |op=>if op.operands.all (fun x=>!isMark (ev t x))=true then match zcp C.P H H.length t op with
     |some (d,e)=>if isMark d then none else itOps ops rest (setT t o.dst d) (e.seq H) b K
     |none=>none
    else none
def itCode:Nat→Code→List D→List Blk→Bool→IK→Option (List (List D))
 |0,_,_,_,_,_=>none
 |n+1,c,t,H,b,K=>match c with
  |.skip=>K .normal t H b
  |.region _ ops false=>itOps C F ops.toList ops.toList t H b fun t H b=>K .normal t H b
  |.seq x y=>itCode n x t H b fun e t H b=>match e with
   |.normal=>itCode n y t H b K
   |e=>K e t H b
  |.cond c x y=>match ev t c with
   |.v (.bool true)=>itCode n x t H b K
   |.v (.bool false)=>itCode n y t H b K
   |_=>none
  |.block id c=>itCode n c t H b fun e t H b=>match e with
   |.exit id'=>if id'=id then K .normal t H b else K (.exit id') t H b
   |e=>K e t H b
  |.exit id=>K (.exit id) t H b
  |.ret=>K .ret t H b
  |.loop c=>itCode n c t H b fun e t H b=>match e with
   |.normal=>itCode n (.loop c) t H b K
   |e=>K e t H b
  |_=>none
def itR (n:Nat)(f:FuncId)(first caps:List D):Option (List (List D)):=
 match C.I f first caps with
 |some s=>some s
 |none=>match C.P.funcs[f]? with
  |some fn=>match fn.body with
   |some c=>if fn.results.toList.isEmpty=true∧(first++caps).all (fun d=>!isMark d)=true then
     itCode C F n c ((first++([.fn (.yield 0) [] []]++caps))++List.replicate (fn.ntmps-(first++([D.fn (.yield 0) [] []]++caps)).length) .any) [] false fun e _ _ _=>match e with
      |.normal=>some []
      |.ret=>some []
      |_=>none
    else none
   |none=>none
  |none=>none
def callR (g:FuncId)(xs:List D)(H:List Blk):Option (D × List Blk):=
 match C.S g xs H with
 |some r=>some r
 |none=>if C.own g H then match F.own g (xs.map (snap (fun b=>H[b]?) 5)) with
  |some d=>if zeu 5 d=true then some (d,H) else none
  |none=>none
 else bodyR C F g xs H
end
def run (C:Tbl):Nat→Fns
 |0=>⟨fun _ _ _ _=>none,fun _ _ _=>none,fun _ _=>none,fun _ _ _=>none⟩
 |n+1=>⟨codeR C (run C n),callR C (run C n),ownR C (run C n),itR C (run C n) n⟩
def Ends (e:Exit)(t:List D)(H:List Blk)(g:Gst)(e':Exit)(s:St):Prop:=e'=e∧s.t=t∧s.H=H∧s.g=g
structure Fns.Ok (C:Tbl)(F:Fns):Prop where
 code:∀{top c t H e t' H'},F.code top c t H=some (e,t',H')→∀{ro:Option Nat} {G:Gh},(top=true→ro=none)→zc6 G→YOk C.P G→∀ds g,Sp C.P ro G c { t:=t,H:=H,ds:=ds,g:=g } (Ends e t' H' g)
 call:∀{g xs H d H'},F.call g xs H=some (d,H')→CallSp C.P g xs H fun d' H''=>d'=d∧H''=H'
 own:∀{g xs d},F.own g xs=some d→Maps C.P g xs d
 it:∀{f a b s},F.it f a b=some s→Iter C.P f a b s
section
variable {C:Tbl}{F:Fns}(hF:Fns.Ok C F)
theorem opR_ok (hF:Fns.Ok C F){o:Oper}{t:List D}{H H':List Blk}{d:D}(h:opR C F o.op t H=some (d,H')){G:Gh}{ds:List Nat}{g:Gst}{K:St→Prop}(hK:K { t:=setT t o.dst d,H:=H',ds:=ds,g:=g }):
  zfb C.P G o { t:=t,H:=H,ds:=ds,g:=g } K:=by
 unfold opR at h
 unfold zfb
 split at h
 ·rename_i f args tys hop
  split at h
  ·rename_i g' xs hc
   rw[hop]
   simp only[zeM hc,hc]
   exact (hF.call h).mono fun d' H'' ⟨h1,h2⟩=>by subst h1;subst h2;exact hK
  ·cases h
 ·rename_i hop
  split at h
  ·rename_i d' e hs
   rw[fE_eq] at h
   cases h
   split
   ·rename_i f args tys ho;exact absurd ho (hop _ _ _)
   ·simp only[hs];exact hK
  ·cases h
theorem runO_ok (hF:Fns.Ok C F){ops:List Oper}{G:Gh}{ds:List Nat}{g:Gst}{K:St→Prop}:∀(l:List Oper) {t t':List D} {H H':List Blk},runO C F ops l t H=some (t',H')→
  K { t:=t',H:=H',ds:=ds,g:=g }→runOps C.P G ops l { t:=t,H:=H,ds:=ds,g:=g } K
 |[],t,t',H,H',h,hK=>by
  simp only[runO,zn,zz] at h
  obtain⟨rfl,rfl⟩:=h
  exact hK
 |o::l,t,t',H,H',h,hK=>by
  unfold runO at h
  simp only[fT_eq] at h
  unfold runOps
  split at h
  ·rename_i hg
   simp only[hg]
   split at h
   ·rename_i d H1 h1
    exact opR_ok hF h1 (K:=fun st'=>runOps C.P G ops l st' K) (runO_ok hF l h hK)
   ·cases h
  ·rename_i j want hg
   simp only[hg]
   split at h
   ·rename_i b hb
    simp only[hb]
    split at h
    ·rename_i hbw
     rw[if_pos hbw]
     split at h
     ·rename_i d H1 h1
      exact opR_ok hF h1 (K:=fun st'=>runOps C.P G ops l st' K) (runO_ok hF l h hK)
     ·cases h
    ·rename_i hbw
     rw[if_neg hbw]
     exact runO_ok hF l h hK
   ·cases h
theorem actR_ok (hF:Fns.Ok C F){o:Oper}{s:Nat}{Hm:List Blk}{t t':List D}{H H':List Blk}(h:actR C F o s Hm t H=some (t',H')){ds:List Nat}{g:Gst}{K:St→Prop}(hK:K { t:=t',H:=H',ds:=ds,g:=g }):
  actGo C.P o s Hm { t:=t,H:=H,ds:=ds,g:=g } K:=by
 unfold actR at h
 simp only[fT_eq,fA_eq] at h
 unfold actGo
 split at h
 ·rename_i f args tys hop
  split at h
  ·rename_i g' xs hc
   rw[hop]
   simp only[hc]
   split at h
   ·rename_i d hd
    split at h
    ·rename_i hf
     cases h
     exact⟨d,hF.own hd,hf,hK⟩
    ·cases h
   ·cases h
  ·cases h
 ·rename_i hop
  split at h
  ·rename_i d' e hs
   cases h
   split
   ·rename_i f args tys ho;exact absurd ho (hop _ _ _)
   ·simp only[hs];exact hK
  ·cases h
theorem planR_ok (hF:Fns.Ok C F){ops:List Oper}{base:Nat}{ds:List Nat}{g:Gst}{K:St→Prop}:∀(pl:List (Nat × List Nat)) (l:List Oper) {t t':List D} {H H':List Blk},planR C F ops base pl l t H=some (t',H')→
  K { t:=t',H:=H',ds:=ds,g:=g }→zeY C.P ops base pl l { t:=t,H:=H,ds:=ds,g:=g } K
 |(s,hs)::pl,o::l,t,t',H,H',h,hK=>by
  unfold planR at h
  unfold zeY
  split at h
  ·rename_i t1 H1 h1
   have ih:=planR_ok hF pl l h hK
   unfold actOR at h1
   unfold actO
   split at h1
   ·rename_i hg
    simp only[hg];exact actR_ok hF h1 (K:=fun st'=>zeY C.P ops base pl l st' K) ih
   ·rename_i j want hg
    simp only[hg]
    split at h1
    ·rename_i b hb
     simp only[hb]
     split at h1
     ·rename_i hbw
      rw[if_pos hbw];exact actR_ok hF h1 (K:=fun st'=>zeY C.P ops base pl l st' K) ih
     ·rename_i hbw
      rw[if_neg hbw];cases h1;exact ih
    ·rename_i hb
     simp only[hb]
     split at h1
     ·rename_i hu;cases h1;exact⟨hu,ih⟩
     ·cases h1
  ·cases h
 |[],l,t,t',H,H',h,hK=>by
  simp only[planR,zn,zz] at h
  obtain⟨rfl,rfl⟩:=h
  simpa[zeY] using hK
 |_::_,[],t,t',H,H',h,hK=>by
  simp only[planR,zn,zz] at h
  obtain⟨rfl,rfl⟩:=h
  simpa[zeY] using hK
theorem rangeR_ok (hF:Fns.Ok C F){g:Operand}{ps:Array Tmp}{asg body:Code}{t t':List D}{H H':List Blk}{e:Exit}(h:rangeR F g ps.toList asg body t H=some (e,t',H')){G:Gh}(hG:zc6 G)(ds:List Nat)(g0:Gst):
  Sp C.P none G (.rangeFunc g ps asg body) { t:=t,H:=H,ds:=ds,g:=g0 } (Ends e t' H' g0):=by
 unfold rangeR at h
 split at h
 ·rename_i f first caps hf
  simp only at h
  generalize hks:first.flatMap (blksH H 4)++caps.flatMap (blksH H 4)=ks at h
  split at h
  ·rename_i seq hs
   split at h
   ·rename_i hcond
    obtain⟨hk,hseq⟩:=hcond
    simp only[zh,decide_eq_true_eq,zJ] at hk hseq
    split at h
    ·rename_i e1 H1 hr
     simp only[zn,zz] at h
     obtain⟨rfl,rfl,rfl⟩:=h
     refine Sp_range hG (st:={ t:=t,H:=H,ds:=ds,g:=g0 }) ks hf hk (hF.it hs)
      (fun i args hi=>by
       obtain⟨h1,h2⟩:=hseq args (zm hi)
       exact⟨by simpa using h1,by simpa using h2⟩)
      (fun i H'=>roundsR F asg body t ps.toList (seq.drop i) H'=some (e1,H1)) (by simpa using hr) ?_ ?_
     ·intro i args H' hi hJ l Gb hGb hYb hN
      have hd:seq.drop i=args::seq.drop (i+1):=by
       obtain⟨hlt,he⟩:=za.1 hi
       rw[zO hlt,he]
      rw[hd] at hJ
      unfold roundsR at hJ
      split at hJ
      ·rename_i t1 H2 h1
       refine (hF.code h1 (fun hh=>by cases hh) hGb hYb _ _).mono ?_
       rintro e' s ⟨rfl,h2,h3,h4⟩
       refine⟨rfl,fun Gb' hGb' hYb' hN'=>?_⟩
       obtain⟨st,sH,sds,sg⟩:=s
       simp only at h2 h3 h4
       subst h2;subst h3;subst h4
       split at hJ
       ·rename_i t2 H3 h5
        refine (hF.code h5 (fun hh=>by cases hh) hGb' hYb' _ _).mono ?_
        rintro e' s ⟨rfl,k2,k3,k4⟩
        simp only[k3];exact hJ
       ·rename_i t2 H3 h5
        cases hJ
        refine (hF.code h5 (fun hh=>by cases hh) hGb' hYb' _ _).mono ?_
        rintro e' s ⟨rfl,k2,k3,k4⟩
        intro ds'
        exact⟨rfl,rfl,k3,rfl⟩
       ·rename_i id t2 H3 h5
        cases hJ
        refine (hF.code h5 (fun hh=>by cases hh) hGb' hYb' _ _).mono ?_
        rintro e' s ⟨rfl,k2,k3,k4⟩
        intro ds'
        exact⟨rfl,rfl,k3,rfl⟩
       ·cases hJ
      ·cases hJ
     ·intro H' ds' hJ
      rw[List.drop_length] at hJ
      simp only[roundsR,zn,zz] at hJ
      exact⟨hJ.1,rfl,hJ.2,rfl⟩
    ·cases h
   ·cases h
  ·cases h
 ·cases h
theorem bodyR_ok (hF:Fns.Ok C F)(hC:C.Ok){g:FuncId}{xs:List D}{H H':List Blk}{d:D}(h:bodyR C F g xs H=some (d,H')):
  ∃fn c,C.P.funcs[g]? = some fn∧fn.body=some c∧(fn.name == "runtime.NumGoroutine")=false∧∀G,zc6 G→YOk C.P G→
   Sp C.P none G c { t:=xs++List.replicate (fn.ntmps-xs.length) .any,H:=H,ds:=[],g:=(0,false) } (PostE C.P fn.results.toList fun d' s=>d'=d∧s.H=H'):=by
 unfold bodyR at h
 simp only[fL_eq (fD_eq 4),fS_eq] at h
 split at h
 ·rename_i fn hfn
  split at h
  ·rename_i c hc
   refine⟨fn,c,hfn,hc,hC.name hfn,fun G hG hY=>?_⟩
   have res:∀{t:List D} {H1:List Blk} {s:St},(match resD C.P fn.results.toList { t:=t,H:=H1 } with|some d=>some (d,H1)|none=>none)=some (d,H')→s.t=t→s.H=H1→
     ∃d',resD C.P fn.results.toList s=some d'∧d'=d∧s.H=H':=fun {t H1 s} hh h1 h2=>by
    have hloc:∀(r:ResultVar),resOne C.P s r=resOne C.P { t:=t,H:=H1 } r:=fun r=>by cases r<;>simp only[resOne,h1,h2]
    have hL:∀rs,resL C.P s rs=resL C.P { t:=t,H:=H1 } rs:=fun rs=>by
     induction rs with
     |nil=>rfl
     |cons r rs ih=>simp only[resL,ih,hloc]
    have hD:resD C.P fn.results.toList s=resD C.P fn.results.toList { t:=t,H:=H1 }:=by unfold resD;rw[hL]
    rw[hD]
    split at hh
    ·rename_i d0 h0
     simp only[zn,zz] at hh
     exact⟨d0,h0,hh.1,h2.trans hh.2⟩
    ·cases hh
   split at h
   ·rename_i t1 H1 h1
    refine (hF.code h1 (fun _=>rfl) hG hY _ _).mono ?_
    rintro e s ⟨rfl,k1,k2,k3⟩
    exact res h k1 k2
   ·rename_i t1 H1 h1
    refine (hF.code h1 (fun _=>rfl) hG hY _ _).mono ?_
    rintro e s ⟨rfl,k1,k2,k3⟩
    exact res h k1 k2
   ·cases h
  ·cases h
 ·cases h
def ren (l:Nat)(d:D):D:=if isMark d=true then .fn (.yield l) [] [] else d
theorem ev_ren {l:Nat}{t:List D}{x:Operand}(h:isMark (ev t x)=false):ev (t.map (ren l)) x=ev t x:=by
 cases x with
 |tmp i=>
  simp only[ev,lkF_eq,List.getD,zl] at h ⊢
  cases ht:t[i]? with
  |none=>rfl
  |some d=>
   rw[ht] at h
   simp only[zq,zao] at h ⊢
   simp[ren,h]
 |_=>rfl
theorem ev_ren_mark {l:Nat}{t:List D}{x:Operand}(h:isMark (ev t x)=true):ev (t.map (ren l)) x=.fn (.yield l) [] []:=by
 cases x with
 |tmp i=>
  simp only[ev,lkF_eq,List.getD,zl] at h ⊢
  cases ht:t[i]? with
  |none=>rw[ht] at h;cases h
  |some d=>
   rw[ht] at h
   simp only[zq,zao] at h ⊢
   simp[ren,h]
 |const x=>
  exfalso
  simp only[ev,ofV] at h
  split at h<;>cases h
 |global x=>cases h
 |func x=>cases h
theorem setT_ren {l:Nat}{t:List D}{dst:Option Tmp}{d:D}:(setT t dst d).map (ren l)=setT (t.map (ren l)) dst (ren l d):=by
 cases dst<;>simp[setT,zaB]
def left (seq:List (List D))(g:Gst):List (List D):=if g.2 then [] else seq.drop g.1
theorem itOps_ok (hF:Fns.Ok C F){l:Nat}{seq:List (List D)}{ops:List Oper}{G:Gh}(hYY:∀i args K,seq[i]? = some args→K true (i+1,false)→K false (i,true)→G.Y l (i,false) args K){K:List D→List Blk→Bool→Option (List (List D))}{ds:List Nat}:
  ∀(r:List Oper) (t:List D) (H:List Blk) (g:Gst),g.1≤seq.length→itOps C F ops r t H g.2 K=some (left seq g)→
   runOps C.P G ops r { t:=t.map (ren l),H:=H,ds:=ds,g:=g } fun s=>∃t',s.t=t'.map (ren l)∧s.g.1≤seq.length∧K t' s.H s.g.2=some (left seq s.g)
 |[],t,H,g,hg,h=>⟨t,rfl,hg,h⟩
 |o::r,t,H,g,hg,h=>by
  unfold itOps at h
  unfold runOps
  split at h
  ·cases h
  ·rename_i hgd
   simp only[hgd]
   have fin:∀{d:D} {H':List Blk},isMark d=false→itOps C F ops r (setT t o.dst d) H' g.2 K=some (left seq g)→
     runOps C.P G ops r { t:=setT (t.map (ren l)) o.dst d,H:=H',ds:=ds,g:=g } fun s=>∃t',s.t=t'.map (ren l)∧s.g.1≤seq.length∧K t' s.H s.g.2=some (left seq s.g):=fun {d H'} hd h=>by
    have:=itOps_ok (ds:=ds) hF hYY r (setT t o.dst d) H' g hg h
    rw[setT_ren] at this
    simpa[ren,hd] using this
   split at h
   ·
    rename_i x hop
    have:=itOps_ok (ds:=ds) hF hYY r (setT t o.dst (ev t x)) H g hg h
    rw[setT_ren] at this
    unfold zfb
    simp only[hop,zcp]
    simp only[Eff.seq]
    have hx:ev (t.map (ren l)) x=ren l (ev t x):=by
     cases hm:isMark (ev t x) with
     |true=>rw[ev_ren_mark hm];simp[ren,hm]
     |false=>rw[ev_ren hm];simp[ren,hm]
    rw[hx];exact this
   ·
    rename_i f args tys hop
    split at h
    ·rename_i hargs
     have hargs':args.toList.map (ev (t.map (ren l)))=args.toList.map (ev t):=zI fun x hx=>ev_ren (by simpa using zh.1 hargs x hx)
     split at h
     ·rename_i hmark
      split at h
      ·cases h
      ·rename_i hb
       split at h
       ·rename_i l1 l2 h1 h2
        obtain⟨i,b⟩:=g
        obtain rfl:b=false:=by simpa using hb
        simp only[left,zn,zah,if_false] at h
        have hi:i < seq.length:=by
         rcases zZ i seq.length with hi|hi
         ·exact hi
         ·rw[zab hi] at h;cases h
        rw[zO hi] at h
        injection h with h3 h4
        have k1:=itOps_ok (ds:=ds) hF hYY r (setT t o.dst (.v (.bool true))) H (i+1,false) hi (by simpa[left,h4] using h1)
        have k2:=itOps_ok (ds:=ds) hF hYY r (setT t o.dst (.v (.bool false))) H (i,true) (by simp;omega) (by simpa[left] using h2)
        rw[setT_ren] at k1 k2
        unfold zfb
        simp only[hop,yieldD,ev_ren_mark hmark,hargs']
        exact hYY i _ _ (by rw[zb hi,h3]) k1 k2
       ·cases h
     ·rename_i hmark
      split at h
      ·rename_i g' xs hc
       split at h
       ·rename_i d H' hd
        split at h
        ·cases h
        ·rename_i hm
         have hc':zd0 (t.map (ren l)) f args.toList=some (g',xs):=by
          rw[←hc];unfold zd0
          rw[ev_ren (by simpa using hmark),hargs']
         unfold zfb
         simp only[hop,zeM hc',hc']
         exact (hF.call hd).mono fun d' H'' ⟨h1,h2⟩=>by subst h1;subst h2;exact fin (by simpa using hm) h
       ·cases h
      ·cases h
    ·cases h
   ·rename_i hop1 hop2
    split at h
    ·rename_i hargs
     split at h
     ·rename_i d e hd
      split at h
      ·cases h
      ·rename_i hm
       have hd':zcp C.P H H.length (t.map (ren l)) o.op=some (d,e):=by
        rw[←hd];exact stepD_congr fun x hx=>ev_ren (by simpa using Array.all_eq_true'.1 hargs x hx)
       unfold zfb
       split
       ·rename_i f args tys ho;exact absurd ho (hop2 _ _ _)
       ·simp only[hd'];exact fin (by simpa using hm) h
     ·cases h
    ·cases h
theorem itCode_ok (hF:Fns.Ok C F){l:Nat}{seq:List (List D)}{G:Gh}(hG:zc6 G)(hY:YOk C.P G)(hYY:∀i args K,seq[i]? = some args→K true (i+1,false)→K false (i,true)→G.Y l (i,false) args K):∀(n:Nat) (c:Code) (K:IK)
  (t:List D) (H:List Blk) (g:Gst) (ds:List Nat),g.1≤seq.length→itCode C F n c t H g.2 K=some (left seq g)→
   Sp C.P none G c { t:=t.map (ren l),H:=H,ds:=ds,g:=g } fun e s=>∃t',s.t=t'.map (ren l)∧s.g.1≤seq.length∧K e t' s.H s.g.2=some (left seq s.g):=fun n=>by
 induction n using Nat.strongRecOn with
 |_ n ih=>
 intro c K t H g ds hg h
 cases n with
 |zero=>cases h
 |succ n=>
 have ihn:=ih n (by omega)
 cases c with
 |skip=>exact fun _ _ hr=>wpIn_skip ⟨{ t:=t.map (ren l),H:=H,ds:=ds,g:=g },⟨t,rfl,hg,h⟩,hr⟩
 |exit id=>exact fun _ _ hr=>wpIn_exit ⟨{ t:=t.map (ren l),H:=H,ds:=ds,g:=g },⟨t,rfl,hg,h⟩,hr⟩
 |ret=>exact fun _ _ hr=>wpIn_ret ⟨{ t:=t.map (ren l),H:=H,ds:=ds,g:=g },⟨t,rfl,hg,h⟩,hr⟩
 |region id ops draw=>
  obtain⟨ops,rfl⟩:∃l:List Oper,l.toArray=ops:=⟨ops.toList,by simp⟩
  cases draw with
  |false=>exact Sp_region hG hY (itOps_ok hF (K:=fun t H b=>K .normal t H b) hYY ops t H g hg h)
  |true=>cases h
 |seq x y=>
  refine Sp_seq ((ihn x _ t H g ds hg h).mono ?_)
  rintro e ⟨t1,H1,ds1,g1⟩ ⟨t',rfl,h1,h2⟩
  cases e with
  |normal=>exact ihn y K t' H1 g1 ds1 h1 h2
  |_=>exact⟨t',rfl,h1,h2⟩
 |cond c x y=>
  simp only[itCode] at h
  split at h
  ·rename_i hc
   refine Sp_cond (b:=true) ?_ (fun _=>ihn x K t H g ds hg h) fun hh=>by cases hh
   rw[ev_ren (by rw[hc];rfl),hc]
  ·rename_i hc
   refine Sp_cond (b:=false) ?_ (fun hh=>by cases hh) fun _=>ihn y K t H g ds hg h
   rw[ev_ren (by rw[hc];rfl),hc]
  ·cases h
 |block id c=>
  refine Sp_block ((ihn c _ t H g ds hg h).mono ?_)
  rintro e ⟨t1,H1,ds1,g1⟩ ⟨t',rfl,h1,h2⟩
  cases e with
  |exit id'=>
   simp only[QBlock]
   simp only at h2
   split
   ·rename_i hid;rw[if_pos hid] at h2;exact⟨t',rfl,h1,h2⟩
   ·rename_i hid;rw[if_neg hid] at h2;exact⟨t',rfl,h1,h2⟩
  |_=>exact⟨t',rfl,h1,h2⟩
 |loop c=>
  refine Sp_loop (fun j s=>j≤n+1∧∃t',s.t=t'.map (ren l)∧s.g.1≤seq.length∧itCode C F j (.loop c) t' s.H s.g.2 K=some (left seq s.g)) ⟨n+1,zf _,t,rfl,hg,h⟩ ?_
  rintro j ⟨t1,H1,ds1,g1⟩ ⟨hj,t',ht,h1,h2⟩
  simp only at ht;subst ht
  cases j with
  |zero=>cases h2
  |succ j=>
   refine (ih j (by omega) c _ t' H1 g1 ds1 h1 h2).mono ?_
   rintro e ⟨t2,H2,ds2,g2⟩ ⟨t'',rfl,h3,h4⟩
   cases e with
   |normal=>exact⟨j,by omega,by omega,t'',rfl,h3,h4⟩
   |_=>exact⟨t'',rfl,h3,h4⟩
 |rangeFunc f ps asg body=>cases h
 |scope _=>cases h
 |label _=>cases h
 |goto _=>cases h
 |refuse _=>cases h
theorem map_ren_id {l:Nat}:∀{t:List D},(∀d∈t,isMark d=false)→t.map (ren l)=t
 |[],_=>rfl
 |d::t,h=>by
  rw[zy,map_ren_id fun x hx=>h x (zG _ hx)]
  simp[ren,h d (zB ..)]
theorem itR_ok (hF:Fns.Ok C F)(hC:C.Ok){n:Nat}{f:FuncId}{first caps:List D}{s:List (List D)}(h:itR C F n f first caps=some s):Iter C.P f first caps s:=by
 unfold itR at h
 split at h
 ·rename_i s' hs;cases h;exact hC.it _ _ _ _ hs
 ·split at h
  ·rename_i fn hfn
   split at h
   ·rename_i c hc
    split at h
    ·rename_i hn
     obtain⟨hres,hm1⟩:=hn
     refine Iter.ofS hfn hc (hC.name hfn) fun G l hG hY hN hYY=>?_
     have:=itCode_ok hF (G:=G) (l:=l) (seq:=s) hG hY hYY n c _ _ [] (0,false) [] (by simp) (h.trans (by simp[left]))
     have hm2:∀d∈first++caps,isMark d=false:=fun d hd=>by simpa using zh.1 hm1 d hd
     rw[zW,zW,zW,map_ren_id fun d hd=>hm2 d (zaj _ hd),map_ren_id (t:=caps) fun d hd=>hm2 d (zbi _ hd),zaN] at this
     simp only[zy,z8] at this
     have e1:ren l (.fn (.yield 0) [] [])=.fn (.yield l) [] []:=rfl
     have e2:ren l .any=.any:=rfl
     rw[e1,e2] at this
     have hlen:(first++([D.fn (.yield l) [] []]++caps)).length=(first++([D.fn (.yield 0) [] []]++caps)).length:=by simp
     rw[hlen]
     have hrs:fn.results.toList=[]:=by simpa using hres
     have fin:∀s':St,left s s'.g=[]→s'.g.1≤s.length→s'.g=(s.length,false)∨s'.g.2=true:=fun s' h1 h2=>by
      obtain⟨t1,H1,ds1,i,b⟩:=s'
      cases b with
      |true=>exact .inr rfl
      |false=>
       left
       simp only[left,zah,if_false,List.drop_eq_nil_iff] at h1
       simp only at h2
       simp;omega
     refine this.mono ?_
     rintro e s' ⟨t',_,h1,h2⟩
     rw[hrs]
     cases e with
     |normal=>exact⟨.tup [],rfl,fin s' (by simpa using h2.symm) h1⟩
     |ret=>exact⟨.tup [],rfl,fin s' (by simpa using h2.symm) h1⟩
     |_=>cases h2
    ·cases h
   ·cases h
  ·cases h
theorem ownR_ok (hF:Fns.Ok C F)(hC:C.Ok){g:FuncId}{xs:List D}{d:D}(h:ownR C F g xs=some d):Maps C.P g xs d:=by
 unfold ownR at h
 split at h
 ·rename_i d' hd;cases h;exact hC.map _ _ _ hd
 ·split at h
  ·rename_i d0 H0 hb
   rw[fD_eq] at h
   cases h
   obtain⟨fn,c,h1,h2,h3,h4⟩:=bodyR_ok hF hC hb
   refine Maps.ofS h1 h2 h3 fun G hG hY _=>(h4 G hG hY).mono fun e s q=>?_
   cases e<;>simp only[PostE,Post] at q ⊢
   ·obtain⟨d',q1,rfl,q2⟩:=q;rw[q1,q2];rfl
   ·obtain⟨d',q1,rfl,q2⟩:=q;rw[q1,q2];rfl
  ·cases h
theorem callR_ok (hF:Fns.Ok C F)(hC:C.Ok){g:FuncId}{xs:List D}{H H':List Blk}{d:D}(h:callR C F g xs H=some (d,H')):CallSp C.P g xs H fun d' H''=>d'=d∧H''=H':=by
 unfold callR at h
 split at h
 ·rename_i r hs;cases h;exact hC.sp _ _ _ _ _ hs
 split at h
 ·split at h
  ·rename_i d0 hd
   split at h
   ·rename_i hf
    simp only[zn,zz] at h
    obtain⟨rfl,rfl⟩:=h
    exact call_fresh (hF.own hd) hf ⟨rfl,rfl⟩
   ·cases h
  ·cases h
 ·obtain⟨fn,c,h1,h2,h3,h4⟩:=bodyR_ok hF hC h
  exact CallSp.ofS h1 h2 h3 fun G hG hY _=>h4 G hG hY
end
section
variable {C:Tbl}
theorem actOQR_ok {F:Fns}(hF:Fns.Ok C F)(hC:C.Ok){ops:List Oper}{o:Oper}{s:Nat}{Hm:List Blk}{t:List D}{d:D}{e:Eff}(h:actOQR C F ops o s Hm t=some (d,e)):ActsQ C.P ops o s t Hm d e:=by
 have go:actQR C F o s Hm t=some (d,e)→goQ C.P o s t Hm d e:=fun h=>by
  unfold actQR at h
  unfold goQ
  split at h
  ·rename_i f args tys hop
   rw[hop]
   simp only
   split at h
   ·rename_i g xs hc
    rw[hc]
    simp only
    split at h
    ·rename_i d' x ha
     cases h
     exact .inr ⟨x,rfl,hC.cat _ _ _ _ _ _ ha⟩
    ·split at h
     ·rename_i d' ho
      split at h
      ·rename_i hf
       cases h
       exact .inl ⟨hF.own ho,hf,rfl⟩
      ·cases h
     ·cases h
   ·cases h
  ·rename_i hop
   split
   ·rename_i f args tys ho;exact absurd ho (hop _ _ _)
   ·exact h
 unfold actOQR at h
 unfold ActsQ
 split at h
 ·rename_i hg;rw[hg];exact go h
 ·rename_i j want hg
  rw[hg]
  simp only
  split at h
  ·rename_i r hr
   rw[hr]
   simp only
   split at h
   ·rename_i hw;rw[if_pos hw];exact go h
   ·rename_i hw;rw[if_neg hw];cases h;exact⟨rfl,rfl⟩
  ·cases h
theorem planQR_ok {F:Fns}(hF:Fns.Ok C F)(hC:C.Ok){ops:List Oper}{wbs:List (Option Nat)}{base:Nat}{ds:List Nat}{g:Gst}:∀(l:List Oper) (k:Nat) (t:List D) (H:List Blk) {t':List D} {H':List Blk},ops.drop k=l→planQR C F ops (ancs ops []) wbs base k l t H=some (t',H')→
  RunQ C.P ops (ancs ops []) wbs base (List.range' k l.length) { t:=t,H:=H,ds:=ds,g:=g } { t:=t',H:=H',ds:=ds,g:=g }
 |[],k,t,H,t',H',_,h=>by cases h;rfl
 |o::l,k,t,H,t',H',hd,h=>by
  have hk:k < ops.length:=by
   rcases zZ k ops.length with x|x
   ·exact x
   ·rw[zab x] at hd;cases hd
  rw[zO hk] at hd
  obtain⟨ho,hd⟩:=List.cons.inj hd
  unfold planQR at h
  split at h
  ·rename_i d e ha
   split at h
   ·rename_i hok
    rw[fT_eq,fA_eq] at h
    exact⟨_,⟨o,d,e,by rw[zb hk,ho],actOQR_ok hF hC ha,hok,rfl⟩,planQR_ok hF hC l (k+1) _ _ hd h⟩
   ·cases h
  ·cases h
theorem drawQR_ok {F:Fns}(hF:Fns.Ok C F)(hC:C.Ok){ops:List Oper}{id:Nat}{t t':List D}{H H':List Blk}(h:drawQR C F ops t H=some (t',H')){ro:Option Nat}{G:Gh}(hG:zc6 G)(hY:YOk C.P G)(ds:List Nat)(g:Gst):
  Sp C.P ro G (.region id ops.toArray true) { t:=t,H:=H,ds:=ds,g:=g } fun e s=>e=.normal∧s.t=t'∧s.H=H'∧s.g=g:=by
 unfold drawQR at h
 split at h
 ·rename_i wbs _
  rw[fL_eq fO_eq,fN_eq] at h
  split at h
  ·rename_i hd
   split at h
   ·rename_i t1 H1 h1
    rw[fS_eq] at h
    cases h
    have hrun:=planQR_ok hF hC (ds:=ds) (g:=g) ops 0 t _ (by simp) h1
    rw[←za7] at hrun
    exact Sp_drawQ hG hY hC.mixed wbs hd hrun ⟨rfl,rfl,rfl,rfl⟩
   ·cases h
  ·cases h
 ·cases h
theorem Ends.normal {e:Exit}{t:List D}{H:List Blk}{g:Gst}{s:St}(h:Ends .normal t H g e s):e=.normal:=h.1
theorem codeR_ok (hC:C.Ok){n:Nat}(ih:∀m,m≤n→Fns.Ok C (run C m)){top:Bool}{c:Code}{t t':List D}{H H':List Blk}{e:Exit}(h:codeR C (run C n) top c t H=some (e,t',H'))
  {ro:Option Nat} {G:Gh} (hro:top=true→ro=none) (hG:zc6 G) (hY:YOk C.P G) (ds:List Nat) (g:Gst):Sp C.P ro G c { t:=t,H:=H,ds:=ds,g:=g } (Ends e t' H' g):=by
 have hF:=ih n (zf _)
 cases c with
 |skip=>simp only[codeR,zn,zz] at h;obtain⟨rfl,rfl,rfl⟩:=h;exact fun _ _ hr=>wpIn_skip ⟨_,⟨rfl,rfl,rfl,rfl⟩,hr⟩
 |exit id=>simp only[codeR,zn,zz] at h;obtain⟨rfl,rfl,rfl⟩:=h;exact fun _ _ hr=>wpIn_exit ⟨_,⟨rfl,rfl,rfl,rfl⟩,hr⟩
 |ret=>simp only[codeR,zn,zz] at h;obtain⟨rfl,rfl,rfl⟩:=h;exact fun _ _ hr=>wpIn_ret ⟨_,⟨rfl,rfl,rfl,rfl⟩,hr⟩
 |region id ops draw=>
  obtain⟨ops,rfl⟩:∃l:List Oper,l.toArray=ops:=⟨ops.toList,by simp⟩
  cases draw with
  |false=>
   simp only[codeR] at h
   split at h
   ·rename_i t1 H1 h1
    simp only[zn,zz] at h
    obtain⟨rfl,rfl,rfl⟩:=h
    refine Sp_region hG hY ?_
    exact runO_ok hF ops h1 ⟨rfl,rfl,rfl,rfl⟩
   ·cases h
  |true=>
   simp only[codeR] at h
   split at h
   ·rename_i hd
    split at h
    ·rename_i t1 H1 h1
     rw[fS_eq] at h
     simp only[zn,zz] at h
     obtain⟨rfl,rfl,rfl⟩:=h
     refine Sp_draw hG hY hC.mixed hd rfl ?_
     exact planR_ok hF _ _ h1 ⟨rfl,rfl,rfl,rfl⟩
    ·cases h
   ·split at h
    ·rename_i t1 H1 h1
     simp only[zn,zz] at h
     obtain⟨rfl,rfl,rfl⟩:=h
     refine (drawQR_ok hF hC h1 hG hY ds g).mono ?_
     rintro e s ⟨q1,q2,q3,q4⟩
     exact⟨q1,q2,q3,q4⟩
    ·cases h
 |seq x y=>
  simp only[codeR] at h
  split at h
  ·rename_i t1 H1 h1
   refine Sp_seq ((hF.code h1 hro hG hY ds g).mono ?_)
   rintro e1 ⟨t2,H2,ds2,g2⟩ ⟨rfl,q1,q2,q3⟩
   simp only at q1 q2 q3;subst q1;subst q2;subst q3
   exact hF.code h hro hG hY ds2 g2
  ·rename_i r hne
   refine Sp_seq ((hF.code h hro hG hY ds g).mono ?_)
   rintro e1 s ⟨rfl,q⟩
   cases e1 with
   |normal=>exact absurd h (hne _ _)
   |_=>exact⟨rfl,q⟩
 |cond c x y=>
  simp only[codeR] at h
  split at h
  ·rename_i hc
   exact Sp_cond (b:=true) hc (fun _=>hF.code h hro hG hY ds g) fun hh=>by cases hh
  ·rename_i hc
   exact Sp_cond (b:=false) hc (fun hh=>by cases hh) fun _=>hF.code h hro hG hY ds g
  ·cases h
 |block id c=>
  simp only[codeR] at h
  split at h
  ·rename_i id' t1 H1 h1
   refine Sp_block ((hF.code h1 hro hG hY ds g).mono ?_)
   rintro e1 s ⟨rfl,q1,q2,q3⟩
   simp only[QBlock]
   split at h
   ·rename_i hid
    simp only[zn,zz] at h
    obtain⟨rfl,rfl,rfl⟩:=h
    rw[if_pos hid];exact⟨rfl,q1,q2,q3⟩
   ·rename_i hid
    simp only[zn,zz] at h
    obtain⟨rfl,rfl,rfl⟩:=h
    rw[if_neg hid];exact⟨rfl,q1,q2,q3⟩
  ·rename_i r hne
   refine Sp_block ((hF.code h hro hG hY ds g).mono ?_)
   rintro e1 s ⟨rfl,q⟩
   cases e1 with
   |exit id=>exact absurd h (hne _ _ _)
   |_=>exact⟨rfl,q⟩
 |loop c=>
  refine Sp_loop (fun j s=>j≤n+1∧s.g=g∧(run C j).code top (.loop c) s.t s.H=some (e,t',H')) ⟨n+1,zf _,rfl,h⟩ ?_
  rintro j ⟨t1,H1,ds1,g1⟩ ⟨hj,hg,h⟩
  simp only at hg h;subst hg
  cases j with
  |zero=>cases h
  |succ j=>
   have hFj:=ih j (by omega)
   simp only[run,codeR] at h
   split at h
   ·rename_i t2 H2 h2
    refine (hFj.code h2 hro hG hY ds1 g1).mono ?_
    rintro e1 ⟨t3,H3,ds3,g3⟩ ⟨rfl,q1,q2,q3⟩
    simp only at q1 q2 q3;subst q1;subst q2;subst q3
    exact⟨j,by omega,by omega,rfl,h⟩
   ·rename_i r hne
    refine (hFj.code h hro hG hY ds1 g1).mono ?_
    rintro e1 s ⟨rfl,q⟩
    cases e1 with
    |normal=>exact absurd h (hne _ _)
    |_=>exact⟨rfl,q⟩
 |rangeFunc f ps asg body=>
  simp only[codeR] at h
  split at h
  ·rename_i ht
   rw[hro ht]
   exact rangeR_ok hF h hG ds g
  ·cases h
 |label _=>simp only[codeR,zn,zz] at h;obtain⟨rfl,rfl,rfl⟩:=h;exact fun _ _ hr=>wpIn_label ⟨_,⟨rfl,rfl,rfl,rfl⟩,hr⟩
 |scope c=>
  simp only[codeR] at h
  split at h
  ·cases h
  ·rename_i r hne
   refine Sp_scope ((hF.code h hro hG hY ds g).mono ?_)
   rintro e1 s ⟨rfl,q⟩
   exact⟨fun l hl=>hne l _ _ (by rw[←hl];exact h),rfl,q⟩
 |goto _=>cases h
 |refuse _=>cases h
theorem run_ok (hC:C.Ok):∀n,Fns.Ok C (run C n):=fun n=>by
 induction n using Nat.strongRecOn with
 |_ n ih=>
  cases n with
  |zero=>exact⟨fun h=>(by cases h),fun h=>(by cases h),fun h=>(by cases h),fun h=>(by cases h)⟩
  |succ n=>
   have ih':∀m,m≤n→Fns.Ok C (run C m):=fun m hm=>ih m (by omega)
   exact⟨fun h ro G hro hG hY ds g=>codeR_ok hC ih' h hro hG hY ds g,fun h=>callR_ok (ih' n (zf _)) hC h,fun h=>ownR_ok (ih' n (zf _)) hC h,fun h=>itR_ok (ih' n (zf _)) hC h⟩
end
end
end Go.DL
/- Operations of a region that draws its order, over temporaries and own blocks alone; what is known of a program as a whole. -/
namespace Go.DL
open Go.RowKit Go.Proofs
noncomputable section
abbrev TH:=List D→List Blk→Prop
def actT (P:Program)(o:Oper)(s:Nat)(Hm:List Blk)(t:List D)(H:List Blk)(K:TH):Prop:=
 match o.op with
 |.call { callee:=.value f,args,.. }=>match zd0 t f args.toList with
  |some (g,xs)=>∃d,Maps P g (xs.map (snap (fun b=>Hm[b]?) 5)) d∧zeu 5 d=true∧K (setT t o.dst d) H
  |none=>False
 |op=>match zcp P Hm s t op with
  |some (d,e)=>K (setT t o.dst d) (e.app H s)
  |none=>False
def actOT (P:Program)(ops:List Oper)(o:Oper)(s:Nat)(Hm:List Blk)(t:List D)(H:List Blk)(K:TH):Prop:=
 match o.guard with
 |none=>actT P o s Hm t H K
 |some (j,want)=>match guardD ops t j with
  |some b=>(b=want→actT P o s Hm t H K)∧(b≠want→K (setT t o.dst (.v undef)) H)
  |none=>undefD ops t j=true∧K (setT t o.dst (.v undef)) H
def planT (P:Program)(ops:List Oper)(base:Nat):List (Nat × List Nat)→List Oper→List D→List Blk→TH→Prop
 |(s,hs)::pl,o::l,t,H,K=>actOT P ops o (base+s) (zcz base hs H) t H fun t H=>planT P ops base pl l t H K
 |_,_,t,H,K=>K t H
section
variable {P:Program}
theorem actT_ok {o:Oper}{s:Nat}{Hm:List Blk}{t:List D}{H:List Blk}{K:TH}{ds:List Nat}{g:Gst}{K':St→Prop}(h:actT P o s Hm t H K)(hk:∀t H,K t H→K' { t:=t,H:=H,ds:=ds,g:=g }):
  actGo P o s Hm { t:=t,H:=H,ds:=ds,g:=g } K':=by
 unfold actT at h
 unfold actGo
 split at h
 ·rename_i f args tys hop
  split at h
  ·rename_i g' xs hc
   simp only[hop,hc]
   obtain⟨d,h1,h2,h3⟩:=h
   exact⟨d,h1,h2,hk _ _ h3⟩
  ·exact h.elim
 ·rename_i hop
  split at h
  ·rename_i d e hs
   split
   ·rename_i f args tys ho;exact absurd ho (hop _ _ _)
   ·simp only[hs];exact hk _ _ h
  ·exact h.elim
theorem planT_ok {ops:List Oper}{base:Nat}{K:TH}{ds:List Nat}{g:Gst}{K':St→Prop}(hk:∀t H,K t H→K' { t:=t,H:=H,ds:=ds,g:=g }):∀(pl:List (Nat × List Nat)) (l:List Oper) (t:List D) (H:List Blk),planT P ops base pl l t H K→zeY P ops base pl l { t:=t,H:=H,ds:=ds,g:=g } K'
 |[],[],t,H,h=>hk _ _ h
 |[],_::_,t,H,h=>hk _ _ h
 |_::_,[],t,H,h=>hk _ _ h
 |(s,hs)::pl,o::l,t,H,h=>by
  unfold planT actOT at h
  unfold zeY actO
  split at h
  ·rename_i hg
   simp only[hg]
   exact actT_ok h fun t H h=>planT_ok hk pl l t H h
  ·rename_i j want hg
   simp only[hg]
   split at h
   ·rename_i b hb
    simp only[hb]
    split
    ·rename_i e;exact actT_ok (h.1 e) fun t H h=>planT_ok hk pl l t H h
    ·rename_i e;exact planT_ok hk pl l _ _ (h.2 e)
   ·rename_i hb
    simp only[hb]
    exact⟨h.1,planT_ok hk pl l _ _ h.2⟩
end
structure POk (P:Program):Prop where
 mixed:P.follows .mixedOrders=true
 names:(P.funcs.toList.all fun fn=>!(fn.name == "runtime.NumGoroutine"))=true
theorem POk.name {P:Program}(h:POk P){g:FuncId}{fn:Func}(hf:P.funcs[g]? = some fn):(fn.name == "runtime.NumGoroutine")=false:=by
 have h1:=zh.1 h.names fn (by rw[zbH];exact Array.mem_of_getElem? hf)
 simpa using h1
end
end Go.DL
/- Code over abstract values, said over short lists of the temporaries that matter: judgements for operations and for code, and the rules. -/
namespace Go.DL
open Go.RowKit Go.Proofs
noncomputable section
abbrev AL:=List (Nat × D)
def lk:AL→Nat→D
 |[],_=>.any
 |(k,d)::r,i=>bif Nat.beq k i then d else lk r i
def lkN (n:Nat)(a:AL)(i:Nat):D:=bif Nat.blt i n then lk a i else .any
def T (n:Nat)(a:AL):List D:=(List.range n).map (lk a)
def evA (n:Nat)(a:AL):Operand→D
 |.tmp i=>lkN n a i
 |.const x=>ofV x
 |.global _=>.any
 |.func f=>.fn (.func f) [] []
def setA (dst:Option Tmp)(d:D)(a:AL):AL:=match dst with
 |none=>a
 |some i=>(i,d)::a
theorem T_length (n:Nat)(a:AL):(T n a).length=n:=by simp[T]
theorem ze8 (n:Nat)(a:AL)(i:Nat):(T n a)[i]? = if i < n then some (lk a i) else none:=by
 simp only[T,zl]
 by_cases h:i < n
 ·rw[if_pos h,zbN h];rfl
 ·rw[if_neg h,zs (by simp;omega)];rfl
theorem T_getD (n:Nat)(a:AL)(i:Nat):(T n a).getD i .any=lkN n a i:=by
 rw[zc,ze8,lkN]
 by_cases h:i < n
 ·rw[if_pos h];have:Nat.blt i n=true:=by simpa[zaA] using h
  simp[this]
 ·rw[if_neg h];have:Nat.blt i n=false:=by
   cases hb:Nat.blt i n with
   |false=>rfl
   |true=>exact absurd (by simpa[zaA] using hb) h
  simp[this]
theorem zc7 (n:Nat)(a:AL)(x:Operand):ev (T n a) x=evA n a x:=by
 cases x with
 |tmp i=>exact (lkF_eq _ _).trans (T_getD n a i)
 |_=>rfl
theorem T_set (n:Nat)(a:AL)(i:Nat)(d:D):(T n a).set i d=T n ((i,d)::a):=by
 refine zae fun j=>?_
 rw[zX,T_length,ze8,ze8]
 by_cases hij:i=j
 ·subst hij
  by_cases h:i < n
  ·simp[h,lk]
  ·simp[h]
 ·rw[if_neg hij]
  have:Nat.beq i j=false:=by
   cases hb:Nat.beq i j with
   |false=>rfl
   |true=>exact absurd (za0 hb) hij
  simp[lk,this]
theorem zej (n:Nat)(a:AL)(dst:Option Tmp)(d:D):setT (T n a) dst d=T n (setA dst d a):=by
 cases dst with
 |none=>rfl
 |some i=>exact T_set n a i d
theorem map_ev_T (n:Nat)(a:AL):ev (T n a)=evA n a:=funext fun x=>zc7 n a x
def callA (n:Nat)(a:AL)(f:Operand)(args:List Operand):Option (FuncId × List D):=
 match evA n a f with
 |.fn (.func g) first caps=>some (g,first++(args.map (evA n a)++caps))
 |_=>none
theorem callD_T {n:Nat}{a:AL}{f:Operand}{args:List Operand}:zd0 (T n a) f args=callA n a f args:=by
 simp only[zd0,callA,map_ev_T];rfl
def guardI (ops:List Oper)(j:Nat):Option Nat:=match ops[j]? with
 |some o=>o.dst
 |none=>none
def guardA (ops:List Oper)(n:Nat)(a:AL)(j:Nat):Option Bool:=
 match guardI ops j with
 |some i=>match lkN n a i with
  |.v (.bool b)=>some b
  |_=>none
 |none=>none
theorem guardD_T {ops:List Oper}{n:Nat}{a:AL}{j:Nat}{b:Bool}(h:guardA ops n a j=some b):guardD ops (T n a) j=some b:=by
 unfold guardA guardI at h
 unfold guardD
 cases ho:ops[j]? with
 |none=>rw[ho] at h;cases h
 |some o=>
  rw[ho] at h
  simp only at h ⊢
  cases hd:o.dst with
  |none=>rw[hd] at h;cases h
  |some i=>
   rw[hd] at h
   simp only[ze8,lkN] at h ⊢
   by_cases hi:i < n
   ·rw[if_pos hi]
    have:Nat.blt i n=true:=by simpa[zaA] using hi
    rw[this] at h
    simp only[cond_true] at h
    split at h
    ·rename_i hl;cases h;simp only[hl]
    ·cases h
   ·have:Nat.blt i n=false:=by
     cases hb:Nat.blt i n with
     |false=>rfl
     |true=>exact absurd (by simpa[zaA] using hb) hi
    rw[this] at h
    cases h
theorem run_equal_slice {P:Program}{w:World}{t te:TypeId}(h:P.underlying t=some (.slice te))(p q:Option Addr)(m c m' c':Nat)(hn:p=none∨q=none):∃b:Bool,(Op.equal t (.slice p m c) (.slice q m' c')).run P w=.ok b w∧(b=true↔p=q):=by
 have key:∀d:Nat,∃b:Bool,(Op.equalIn (d+1) t (.slice p m c) (.slice q m' c')).run P w=.ok b w∧(b=true↔p=q):=fun d=>by
  unfold Op.equalIn
  simp only[Sem.run_bind,run_underlying h,Result.andThen]
  cases p with
  |none=>exact⟨q.isNone,rfl,by cases q<;>simp⟩
  |some p=>cases q with
   |none=>exact⟨false,rfl,by simp⟩
   |some q=>simp at hn
 exact key 9999
theorem run_sliceEq {P:Program}{w:World}{t te:TypeId}(h:P.underlying t=some (.slice te))(xo yo:Operand)(p q:Option Addr)(m c m' c':Nat)(hn:p=none∨q=none):
  ∃b:Bool,(do eqGuard .eql t xo yo (.slice p m c) (.slice q m' c');binOp .eql t (.slice p m c) (.slice q m' c'):Sem Value).run P w=.ok (.bool b) w∧(b=true↔p=q):=by
 obtain⟨b,h1,h2⟩:=run_equal_slice (w:=w) h p q m c m' c' hn
 exact⟨b,by simp[eqGuard,binOp,h1],h2⟩
structure Ev where
 P:Program
 N:Nat:=0
 top:Bool:=true
 Y:Nat→Gst→List D→(Bool→Gst→Prop)→Prop:=fun _ _ _ _=>False
structure Ev.ok (E:Ev)(ro:Option Nat)(G:Gh):Prop where
 ro:E.top=true→ro=none
 st:zc6 G
 yk:YOk E.P G
 le:G.N≤E.N
 y:∀l g args K,E.Y l g args K→∀K':Bool→Gst→Prop,(∀b g',K b g'→K' b g')→G.Y l g args K'
abbrev KA:=AL→List Blk→Gst→Prop
abbrev KX:=Exit→AL→List Blk→Gst→Prop
structure RT (E:Ev)(ops l:List Oper)(n:Nat)(a:AL)(H:List Blk)(g:Gst)(K:KA):Prop where
 out:∀ro G,E.ok ro G→∀ds (Q:Exit→Act→World→Prop),(∀a' H' g' ac w,K a' H' g'→FR G { t:=T n a',H:=H',ds:=ds,g:=g' } ac w→Q .normal ac w)→
  ∀ac w,FR G { t:=T n a,H:=H,ds:=ds,g:=g } ac w→wpListIn (FW ro) 0 E.P ops.toArray Q l ac w
structure VT (E:Ev)(c:Code)(n:Nat)(a:AL)(H:List Blk)(g:Gst)(Q:KX):Prop where
 out:∀ro G,E.ok ro G→∀ds,Sp E.P ro G c { t:=T n a,H:=H,ds:=ds,g:=g } fun e s=>∃a',s.t=T n a'∧Q e a' s.H s.g
section
variable {E:Ev}{ops r:List Oper}{n:Nat}{a:AL}{H:List Blk}{g:Gst}{K:KA}
theorem zbW (h:K a H g):RT E ops [] n a H g K:=⟨fun _ _ _ _ _ hQ ac w hr=>hQ _ _ _ ac w h hr⟩
theorem RT.stepG {o:Oper}{d:D}{e:Eff}(hg:o.guard=none)(hs:zcp E.P H H.length (T n a) o.op=some (d,e))(h:RT E ops r n (setA o.dst d a) (e.seq H) g K):RT E ops (o::r) n a H g K:=by
 refine⟨fun ro G hE ds Q hQ ac w hr=>?_⟩
 unfold wpListIn
 rw[if_pos (by simp[Region.wanted,hg])]
 refine execO_ok hE.st hE.yk hr (K:=fun s=>s={ t:=T n (setA o.dst d a),H:=e.seq H,ds:=ds,g:=g }) ?_ ?_
 ·unfold zfb
  split
  ·rename_i f args tys hop;rw[hop] at hs;cases hs
  ·simp only[hs,zej]
 ·rintro _ a' w' rfl hr'
  exact h.out ro G hE ds Q hQ a' w' hr'
theorem zdL {dst:Option Tmp}{f:Operand}{args:List Operand}{tys:Array TypeId}{ty:TypeId}{pos:String}{aft:Array Edge}{f':FuncId}{xs:List D}(hc:callA n a f args=some (f',xs))
  (h:CallSp E.P f' xs H fun d H'=>RT E ops r n (setA dst d a) H' g K):RT E ops (⟨dst,.call { callee:=.value f,args:=args.toArray,argTypes:=tys },ty,pos,aft,none⟩::r) n a H g K:=by
 refine⟨fun ro G hE ds Q hQ ac w hr=>?_⟩
 unfold wpListIn
 rw[if_pos (by simp[Region.wanted])]
 refine execO_ok hE.st hE.yk hr (K:=fun s=>∃d H',s={ t:=T n (setA dst d a),H:=H',ds:=ds,g:=g }∧RT E ops r n (setA dst d a) H' g K) ?_ ?_
 ·unfold zfb
  have hc':zd0 (T n a) f args=some (f',xs):=callD_T.trans hc
  simp only[zeM hc',hc',zej]
  exact h.mono fun d H' q=>⟨d,H',rfl,q⟩
 ·rintro _ a' w' ⟨d,H',rfl,q⟩ hr'
  exact q.out ro G hE ds Q hQ a' w' hr'
theorem RT.yield {dst:Option Tmp}{f:Operand}{args:List Operand}{tys:Array TypeId}{ty:TypeId}{pos:String}{aft:Array Edge}{l:Nat}(hf:evA n a f=.fn (.yield l) [] [])
  (h:E.Y l g (args.map (evA n a)) fun b g'=>RT E ops r n (setA dst (.v (.bool b)) a) H g' K):RT E ops (⟨dst,.call { callee:=.value f,args:=args.toArray,argTypes:=tys },ty,pos,aft,none⟩::r) n a H g K:=by
 refine⟨fun ro G hE ds Q hQ ac w hr=>?_⟩
 unfold wpListIn
 rw[if_pos (by simp[Region.wanted])]
 refine execO_ok hE.st hE.yk hr (K:=fun s=>∃b g',s={ t:=T n (setA dst (.v (.bool b)) a),H:=H,ds:=ds,g:=g' }∧RT E ops r n (setA dst (.v (.bool b)) a) H g' K) ?_ ?_
 ·unfold zfb
  have hy:yieldD (T n a) f=some l:=by unfold yieldD;rw[zc7,hf]
  simp only[hy]
  rw[map_ev_T]
  exact hE.y _ _ _ _ h _ fun b g' q=>⟨b,g',by rw[zej],q⟩
 ·rintro _ a' w' ⟨b,g',rfl,q⟩ hr'
  exact q.out ro G hE ds Q hQ a' w' hr'
theorem zcS {dst:Option Tmp}{op:Op}{ty:TypeId}{pos:String}{aft:Array Edge}{j:Nat}{w:Bool}(hj:guardA ops n a j=some w)(h:RT E ops (⟨dst,op,ty,pos,aft,none⟩::r) n a H g K):
  RT E ops (⟨dst,op,ty,pos,aft,some (j,w)⟩::r) n a H g K:=by
 refine⟨fun ro G hE ds Q hQ ac w' hr=>?_⟩
 have h1:=h.out ro G hE ds Q hQ ac w' hr
 unfold wpListIn at h1 ⊢
 rw[if_pos (by simp[Region.wanted])] at h1
 obtain⟨A,φ,hr'⟩:=hr
 have hy:=guard_ok (ops:=ops) hr'.tr (guardD_T hj)
 rw[if_pos (by simp[Region.wanted,hy])]
 exact h1
theorem zdI {dst:Option Tmp}{op:Op}{ty:TypeId}{pos:String}{aft:Array Edge}{j:Nat}{w b:Bool}(hj:guardA ops n a j=some b)(hb:(b==w)=false)(h:RT E ops r n (setA dst (.v undef) a) H g K):
  RT E ops (⟨dst,op,ty,pos,aft,some (j,w)⟩::r) n a H g K:=by
 refine⟨fun ro G hE ds Q hQ ac w' hr=>?_⟩
 unfold wpListIn
 obtain⟨A,φ,hr'⟩:=hr
 have hy:=guard_ok (ops:=ops) hr'.tr (guardD_T hj)
 rw[if_neg (by simp[Region.wanted,hy,hb])]
 refine⟨fun _ _=>trivial,h.out ro G hE ds Q hQ _ _ ⟨A,φ,?_⟩⟩
 have:=hr'.value dst (d:=.v undef) (.v _ undef)
 rw[zej] at this
 exact this
def guardU (ops:List Oper)(n:Nat)(a:AL)(j:Nat):Bool:=
 match guardI ops j with
 |some i=>match lkN n a i with
  |.v (.tuple _)=>true
  |_=>false
 |none=>false
theorem RT.gu {dst:Option Tmp}{op:Op}{ty:TypeId}{pos:String}{aft:Array Edge}{j:Nat}{w:Bool}(hj:guardU ops n a j=true)(h:RT E ops r n (setA dst (.v undef) a) H g K):
  RT E ops (⟨dst,op,ty,pos,aft,some (j,w)⟩::r) n a H g K:=by
 refine⟨fun ro G hE ds Q hQ ac w' hr=>?_⟩
 unfold wpListIn
 obtain⟨A,φ,hr'⟩:=hr
 have hy:yielded ops.toArray ac.tmps j=none:=by
  unfold guardU guardI at hj
  cases ho:ops[j]? with
  |none=>rw[ho] at hj;cases hj
  |some o=>
   rw[ho] at hj
   simp only at hj
   cases hd:o.dst with
   |none=>rw[hd] at hj;cases hj
   |some i=>
    rw[hd] at hj
    simp only at hj
    have hv:=hr'.tr.ev (.tmp i)
    rw[zc7] at hv
    simp only[evA] at hv
    split at hj
    ·rename_i hl
     rw[hl] at hv
     have hu:=hv.v_inv
     simp only[Act.eval] at hu
     simp only[yielded,zbj,ho,Option.bind_some,hd]
     by_cases hi:i < ac.tmps.size
     ·simp only[Array.getD,hi,dif_pos] at hu
      rw[zaq hi]
      simp at hu
      rw[hu]
     ·rw[Array.getElem?_eq_none (zbI hi)]
    ·cases hj
 rw[if_neg (by simp[Region.wanted,hy])]
 refine⟨fun _ _=>trivial,h.out ro G hE ds Q hQ _ _ ⟨A,φ,?_⟩⟩
 have:=hr'.value dst (d:=.v undef) (.v _ undef)
 rw[zej] at this
 exact this
end
section
variable {E:Ev}{ops r:List Oper}{n:Nat}{a:AL}{H:List Blk}{g:Gst}{K:KA}
theorem RT.case {b:Bool}{l:List Oper}{i:Nat}(he:lkN n a i=.v (.bool b))(h1:b=true→RT E ops l n ((i,.v (.bool true))::a) H g K)(h2:b=false→RT E ops l n ((i,.v (.bool false))::a) H g K):RT E ops l n a H g K:=by
 have same:∀d,lkN n a i=d→T n ((i,d)::a)=T n a:=fun d hd=>by
  rw[←T_set]
  refine zae fun j=>?_
  rw[zX,T_length]
  by_cases hij:i=j
  ·subst hij
   rw[if_pos rfl,ze8]
   by_cases hi:i < n
   ·rw[if_pos hi,if_pos hi]
    rw[←hd,lkN]
    have:Nat.blt i n=true:=by simpa[zaA] using hi
    simp[this]
   ·rw[if_neg hi,if_neg hi]
  ·rw[if_neg hij]
 have go:∀d,lkN n a i=d→RT E ops l n ((i,d)::a) H g K→RT E ops l n a H g K:=fun d hd h=>⟨fun ro G hE ds Q hQ ac w hr=>
  h.out ro G hE ds Q hQ ac w (by rw[same d hd];exact hr)⟩
 cases b with
 |true=>exact go _ he (h1 rfl)
 |false=>exact go _ he (h2 rfl)
theorem RT.nilEq {x:Operand}{i:Tmp}{ty te ty' tr:TypeId}{pos:String}{aft:Array Edge}(hu:E.P.underlying ty=some (.slice te))(hx:evA n a x=.nil∨(∃es,evA n a x=.sl es)∨(∃es,evA n a x=.fl es)∨∃b o m c,evA n a x=.ms b o m c)
  (h:∀b:Bool,(b=true→∀es,zcF H (evA n a x)=some es→es=[])→RT E ops r n ((i,.v (.bool b))::a) H g K):RT E ops (⟨some i,.binOp .eql ty x (.const (.slice none 0 0)) ty',tr,pos,aft,none⟩::r) n a H g K:=by
 refine⟨fun ro G hE ds Q hQ ac w hr=>?_⟩
 unfold wpListIn
 rw[if_pos (by simp[Region.wanted])]
 obtain⟨A,φ,hr'⟩:=hr
 have hv:=hr'.tr.ev x
 rw[zc7] at hv
 have hs:∃p m c,ac.eval x=.slice p m c:=by
  generalize ac.eval x=u at hv
  rcases hx with e|⟨es,e⟩|⟨es,e⟩|⟨b,o,m,c,e⟩
  all_goals (rw[e] at hv;cases hv<;>exact⟨_,_,_,rfl⟩)
 obtain⟨p,m,c,hs⟩:=hs
 have hrun:∃b:Bool,(b=true→p=none)∧(execOp ac.eval ⟨some i,.binOp .eql ty x (.const (.slice none 0 0)) ty',tr,pos,aft,none⟩).run E.P w=.ok (.value (.bool b)) w:=by
  obtain⟨b,h1,hbp⟩:=run_sliceEq (w:=w) hu x (.const (.slice none 0 0)) p none m c 0 0 (.inr rfl)
  refine⟨b,hbp.1,?_⟩
  have h2:execOp ac.eval ⟨some i,.binOp .eql ty x (.const (.slice none 0 0)) ty',tr,pos,aft,none⟩=(do pure (.value (←(do eqGuard .eql ty x (.const (.slice none 0 0)) (ac.eval x) (.slice none 0 0);binOp .eql ty (ac.eval x) (.slice none 0 0):Sem Value)))):=by simp only[execOp];rfl
  rw[h2,hs,Sem.run_bind,h1];rfl
 obtain⟨b,hbp,hrun⟩:=hrun
 refine⟨fun _ _=>trivial,?_⟩
 rw[Oper.semAt_eq _ _ _ (by simp),hrun]
 have hbe:b=true→∀es,zcF H (evA n a x)=some es→es=[]:=fun hb es he=>by
  have hp:=hbp hb
  subst hp
  rw[hs] at hv
  rcases hx with e|⟨es',e⟩|⟨es',e⟩|⟨k,o,m',c',e⟩
  ·rw[e] at he;simp only[zcF,zn] at he;exact he.symm
  ·rw[e] at he hv
   cases hv with
   |sl0=>simp only[zcF,zn] at he;simpa using he.symm
  ·rw[e] at he hv
   cases hv with
   |fl0=>simp only[zcF,zn] at he;simpa using he.symm
  ·rw[e] at he hv
   cases hv with
   |ms _ _ _ _ _ cap' a' h1 h2 h3=>
    simp only[zcF] at he
    split at he
    ·rename_i sz fs hf
     have h0:m=0:=by
      rcases hr'.rh.live k sz fs hf with⟨_,h4⟩|⟨q,base,room,cc,ty,h4,_⟩
      ·rw[h4] at h3;simp only[Loc.msOk] at h3;omega
      ·rw[h4] at h3
       simp only[Loc.msOk] at h3
       rcases h3.2 with h5|h5
       ·omega
       ·cases h5
     subst h0
     split at he
     ·cases he;simp
     ·cases he
    ·cases he
 refine (h b hbe).out ro G hE ds Q hQ _ _ ⟨A,φ,?_⟩
 have:=hr'.value (some i) (d:=.v (.bool b)) (.v _ (.bool b))
 rw[zej] at this
 exact this
end
def DLe (d d':D):Prop:=d'=.any∨d'=d∨∃es,d=.fl es∧d'=.sl es
theorem DLe.v {d d':D}(h:DLe d d'){A:Rd}{w:World}{φ:Nat→Loc}{u:Value}(hv:V A w φ d u):V A w φ d' u:=by
 rcases h with e|e|⟨es,e,e'⟩
 ·subst e;exact .any _ _
 ·subst e;exact hv
 ·subst e;subst e';exact hv.of_fl
def Hd (n:Nat)(a:AL):AL→Prop
 |[]=>True
 |(i,d)::r=>DLe (lkN n a i) d∧Hd n a r
theorem Hd.lk {n:Nat}{a:AL}:∀{a':AL},Hd n a a'→∀i,DLe (lkN n a i) (lkN n a' i)
 |[],_,i=>.inl (by simp[lkN,DL.lk])
 |(k,d)::r,h,i=>by
  have ih:=h.2.lk i
  unfold lkN at ih ⊢
  cases hb:Nat.blt i n with
  |false=>exact .inl rfl
  |true=>
   simp only[hb,cond_true,DL.lk] at ih ⊢
   cases hk:Nat.beq k i with
   |true=>
    have:=za0 hk
    subst this
    have h1:=h.1
    simpa[lkN,hb] using h1
   |false=>simpa using ih
structure Fg (N n:Nat)(a:AL)(H:List Blk)(a':AL)(H':List Blk):Prop where
 hd:Hd n a a'
 pre:H.take H'.length=H'
 le:N≤H'.length
 ab:(a'.all fun p=>zdq 4 H'.length p.2)=true
 hb:∀b∈H',BlkBelow H'.length b
theorem lk_lowB {K:Nat}:∀{a:AL},(a.all fun p=>zdq 4 K p.2)=true→∀i,zdq 4 K (lk a i)=true
 |[],_,i=>rfl
 |(k,d)::r,h,i=>by
  simp only[List.all_cons,zJ] at h
  simp only[lk]
  cases Nat.beq k i with
  |true=>exact h.1
  |false=>exact lk_lowB h.2 i
theorem Fg.fr {N n:Nat}{a a':AL}{H H':List Blk}(h:Fg N n a H a' H'){G:Gh}(hG:zc6 G)(hN:G.N≤N){ds:List Nat}{g:Gst}{ac:Act}{w:World}
  (hr:FR G { t:=T n a,H:=H,ds:=ds,g:=g } ac w):FR G { t:=T n a',H:=H',ds:=ds,g:=g } ac w:=by
 obtain⟨A,φ,hr⟩:=hr
 have hown:∀{m},own (cutφ H'.length φ) m→own φ m:=fun {m} ⟨b,base,sz,room,e⟩=>by
  unfold cutφ at e
  split at e
  ·exact⟨b,base,sz,room,e⟩
  ·cases e
 have hget:∀b x,H'[b]? = some x→b < H'.length∧H[b]? = some x:=fun b x hx=>by
  have hlt:b < H'.length:=(za.1 hx).1
  refine⟨hlt,?_⟩
  rw[←h.pre,z5] at hx
  rw[if_pos hlt] at hx;exact hx
 have hloc:∀{b n base sz room},cutφ H'.length φ b=.loc n base sz room→φ b=.loc n base sz room:=fun {b n base sz room} e=>by
  unfold cutφ at e
  split at e
  ·exact e
  ·cases e
 refine⟨A,cutφ H'.length φ,⟨fun b hb=>?_,fun b hb=>?_,fun b hb=>?_,fun b sz es hb=>?_,fun b clk es hb=>?_,fun b b' n base sz room base' sz' room' h1 h2=>hr.rh.inj b b' n _ _ _ _ _ _ (hloc h1) (hloc h2),fun m hm=>hr.rh.dis m (hown hm),hr.rh.lt,fun m hm=>hr.rh.olt m (hown hm),fun m hm=>hr.rh.ofr m (hown hm),hr.rh.bsz⟩,⟨by simpa[T_length] using hr.tr.size,fun i d u h1 h2=>?_⟩,?_,hr.df,fun r hm=>?_,hr.nd⟩
 ·unfold cutφ
  rw[if_neg]
  intro hlt
  have hb:H'[b]? = none:=hb
  rw[zaw] at hb;omega
 ·obtain⟨h1,h2⟩:=hget b _ hb
  rw[cutφ_lt h1];exact hr.rh.free b h2
 ·obtain⟨h1,h2⟩:=hget b _ hb
  rw[cutφ_lt h1];exact hr.rh.dead b h2
 ·obtain⟨h1,h2⟩:=hget b _ hb
  rw[cutφ_lt h1]
  rcases hr.rh.live b sz es h2 with h3|⟨m,base,room,c,ty,h3,h4⟩
  ·exact .inl h3
  ·refine .inr ⟨m,base,room,c,ty,h3,h4.blk,h4.fits,h4.size,h4.len,fun i e j d k1 k2=>?_⟩
   obtain⟨u,k3,k4⟩:=h4.val i e j d k1 k2
   exact⟨u,k3,k4.cut 4 (h.hb _ (zm hb) e (zm k1) d (zm k2))⟩
 ·obtain⟨h1,h2⟩:=hget b _ hb
  rw[cutφ_lt h1]
  obtain⟨m,ms,h3,h4⟩:=hr.rh.tab b clk es h2
  refine⟨m,ms,h3,h4.blk,h4.len,fun i k d q e k1 k2=>?_⟩
  obtain⟨k3,k4,k5⟩:=h4.ent i k d q e k1 k2
  exact⟨k3,k4,k5.cut 4 (h.hb _ (zm hb) _ (zm k1))⟩
 ·rw[ze8] at h1
  split at h1
  ·rename_i hi
   cases h1
   have h3:=hr.tr.val i (lk a i) u (by rw[ze8,if_pos hi]) h2
   have h4:=h.hd.lk i
   have hb:Nat.blt i n=true:=by simpa[zaA] using hi
   simp only[lkN,hb,cond_true] at h4
   exact (h4.v h3).cut 4 (lk_lowB h.ab i)
  ·cases h1
 ·refine hG _ _ _ _ _ hr.gh ⟨⟨rfl,rfl,rfl,zf _,zf _,fun _ _ _=>rfl,fun m hm=>.inl (hm.imp hown id)⟩,fun _ x=>x,fun _ x=>.inl x,fun b hb=>?_,rfl⟩
  have:b < H'.length:=zaf hb (zR hN h.le)
  show (φ b).le (cutφ H'.length φ b)
  rw[cutφ_lt this];exact Loc.le_refl _
 ·obtain⟨h1,h2,h3⟩:=hr.dk r hm
  exact⟨h1,h2,fun x=>h3 (hown x)⟩
structure Wk (N n:Nat)(a:AL)(H:List Blk)(a':AL)(H':List Blk):Prop where
 out:∀{G:Gh},zc6 G→G.N≤N→∀{ds:List Nat} {g:Gst} {ac:Act} {w:World},FR G { t:=T n a,H:=H,ds:=ds,g:=g } ac w→FR G { t:=T n a',H:=H',ds:=ds,g:=g } ac w
theorem zeP {N n:Nat}{a a':AL}{H H':List Blk}(h:Fg N n a H a' H'):Wk N n a H a' H':=⟨fun {_} hG hN {_ _ _ _} hr=>h.fr hG hN hr⟩
theorem Wk.trans {N n:Nat}{a a' a'':AL}{H H' H'':List Blk}(h:Wk N n a H a' H')(k:Wk N n a' H' a'' H''):Wk N n a H a'' H'':=⟨fun {_} hG hN {_ _ _ _} hr=>k.out hG hN (h.out hG hN hr)⟩
def noB:Nat→Nat→Nat→D→Bool
 |_,k,s,.ms b _ _ _=>!(Nat.beq b k)&&!(Nat.beq b s)
 |_,k,s,.mp b _ _=>!(Nat.beq b k)&&!(Nat.beq b s)
 |_,k,s,.mm b=>!(Nat.beq b k)&&!(Nat.beq b s)
 |f+1,k,s,.agg cs=>cs.all (noB f k s)
 |f+1,k,s,.tup cs=>cs.all (noB f k s)
 |f+1,k,s,.fn _ a b=>a.all (noB f k s)&&b.all (noB f k s)
 |_,_,_,.v _=>true
 |_,_,_,.any=>true
 |_,_,_,.nil=>true
 |_,_,_,.sl _=>true
 |_,_,_,.fl _=>true
 |_,_,_,.rp _=>true
 |0,_,_,_=>false
theorem V.noB {A:Rd}{w:World}{φ φ':Nat→Loc}{k s:Nat}(hφ:∀b,b≠k→b≠s→φ' b=φ b):∀(f:Nat) {d:D} {u:Value},V A w φ d u→DL.noB f k s d=true→V A w φ' d u:=by
 have bne:∀{b:Nat},(!(Nat.beq b k)&&!(Nat.beq b s))=true→φ' b=φ b:=fun {b} h=>by
  simp only[zJ,zas] at h
  exact hφ b (fun e=>by rw[e] at h;simp at h) (fun e=>by rw[e] at h;simp at h)
 intro f
 induction f with
 |zero=>
  intro d u h hb
  cases h with
  |ms _ b off len cap cap' a h1 h2 h3=>exact .ms _ _ _ _ _ _ _ h1 h2 (by rw[bne hb];exact h3)
  |mp _ b i f x h1=>exact .mp _ _ _ _ _ (by rw[bne hb];exact h1)
  |mm _ b r h1=>exact .mm _ _ _ (by rw[bne hb];exact h1)
  |v=>exact .v _ _
  |any=>exact .any _ _
  |nil=>exact .nil _ _
  |sl0=>exact .sl0 _ _ _
  |sl _ es n off sz cap u a b c d e=>exact .sl _ es n off sz cap u a b c d e
  |fl0=>exact .fl0 _ _ _
  |fl _ es n off sz cap u a b c d e=>exact .fl _ es n off sz cap u a b c d e
  |rp _ cs n off u a b c=>exact .rp _ cs n off u a b c
  |agg=>simp[DL.noB] at hb
  |tup=>simp[DL.noB] at hb
  |fn=>simp[DL.noB] at hb
 |succ f ih=>
  intro d u h hb
  have all:∀{cs:List D} {i:Nat} {d:D},cs.all (DL.noB f k s)=true→cs[i]? = some d→DL.noB f k s d=true:=fun h1 h2=>zh.1 h1 _ (zm h2)
  cases h with
  |ms _ b off len cap cap' a h1 h2 h3=>exact .ms _ _ _ _ _ _ _ h1 h2 (by rw[bne hb];exact h3)
  |mp _ b i f x h1=>exact .mp _ _ _ _ _ (by rw[bne hb];exact h1)
  |mm _ b r h1=>exact .mm _ _ _ (by rw[bne hb];exact h1)
  |v=>exact .v _ _
  |any=>exact .any _ _
  |nil=>exact .nil _ _
  |sl0=>exact .sl0 _ _ _
  |sl _ es n off sz cap u a b c d e=>exact .sl _ es n off sz cap u a b c d e
  |fl0=>exact .fl0 _ _ _
  |fl _ es n off sz cap u a b c d e=>exact .fl _ es n off sz cap u a b c d e
  |rp _ cs n off u a b c=>exact .rp _ cs n off u a b c
  |agg _ cs vs hl h=>exact .agg _ _ _ hl fun i d u h1 h2=>ih (h i d u h1 h2) (all hb h1)
  |tup _ cs vs hl h=>exact .tup _ _ _ hl fun i d u h1 h2=>ih (h i d u h1 h2) (all hb h1)
  |fn _ f' first caps vs us hl hl' h h'=>
   simp only[DL.noB,zJ] at hb
   exact .fn _ f' _ _ _ _ hl hl' (fun i d u h1 h2=>ih (h i d u h1 h2) (all hb.1 h1)) fun i d u h1 h2=>ih (h' i d u h1 h2) (all hb.2 h1)
def DMv (k s:Nat)(d d':D):Prop:=d'=.any∨(noB 4 k s d=true∧d'=d)∨(∃o l c,d=.ms k o l c∧d'=.ms s o l c)∨∃i f,d=.mp k i f∧d'=.mp s i f
def Mv (k s n:Nat)(a:AL):AL→Prop
 |[]=>True
 |(i,d)::r=>DMv k s (lkN n a i) d∧Mv k s n a r
theorem Mv.lk {k s n:Nat}{a:AL}:∀{a':AL},Mv k s n a a'→∀i,DMv k s (lkN n a i) (lkN n a' i)
 |[],_,i=>.inl (by simp[lkN,DL.lk])
 |(j,d)::r,h,i=>by
  have ih:=h.2.lk i
  unfold lkN at ih ⊢
  cases hb:Nat.blt i n with
  |false=>exact .inl rfl
  |true=>
   simp only[hb,cond_true,DL.lk] at ih ⊢
   cases hk:Nat.beq j i with
   |true=>
    have:=za0 hk
    subst this
    have h1:=h.1
    simpa[lkN,hb] using h1
   |false=>simpa using ih
def BlkNo (k s:Nat):Blk→Prop
 |.live _ es=>∀e∈es,∀d∈e,noB 4 k s d=true
 |.tab _ es=>∀e∈es,noB 4 k s e.2.1=true
 |_=>True
theorem Wk.mv {N n k s:Nat}{a a':AL}{H H':List Blk}(hs:H[s]? = some .dead)(hk:Nat.blt k H.length=true)(hks:Nat.beq k s=false)(hN:N≤s)(hNk:N≤k)(ha:Mv k s n a a')(hb:∀b∈H,BlkNo k s b)(hH:(H.set s (H.getD k .dead)).set k .dead=H'):Wk N n a H a' H':=by
 subst hH
 refine⟨fun {G} hG hGN {ds g ac w} ⟨A,φ,hr⟩=>?_⟩
 have hkl:k < H.length:=by simpa[zaA] using hk
 have hne:k≠s:=fun e=>by subst e;simp at hks
 have hsl:s < H.length:=(za.1 hs).1
 let φ2:Nat→Loc:=fun b=>if b=s then φ k else if b=k then .dead else φ b
 have p_s:φ2 s=φ k:=by simp[φ2]
 have p_k:φ2 k=.dead:=by simp[φ2,hne]
 have p_o:∀b,b≠k→b≠s→φ2 b=φ b:=fun b h1 h2=>by simp[φ2,h1,h2]
 have back:∀{b n base sz room},φ2 b=.loc n base sz room→∃b',φ b'=.loc n base sz room∧b'=(if b=s then k else b)∧b≠k:=fun {b n base sz room} h=>by
  by_cases h1:b=s
  ·subst h1;rw[p_s] at h;exact⟨k,h,by simp,Ne.symm hne⟩
  ·by_cases h2:b=k
   ·subst h2;rw[p_k] at h;cases h
   ·rw[p_o b h2 h1] at h;exact⟨b,h,by simp[h1],h2⟩
 have own2:∀{m},own φ2 m→own φ m:=fun⟨b,base,sz,room,h⟩=>let ⟨b',h1,_⟩:=back h;⟨b',base,sz,room,h1⟩
 have hget:H.getD k .dead=H[k]:=by simp[hkl]
 have mv:∀{d d':D} {u:Value},DMv k s d d'→V A w φ d u→V A w φ2 d' u:=fun {d d' u} h hv=>by
  rcases h with e|⟨h1,e⟩|⟨o,l,c,e,e'⟩|⟨i,f,e,e'⟩
  ·subst e;exact .any _ _
  ·subst e;exact hv.noB p_o 4 h1
  ·subst e;subst e'
   cases hv with
   |ms _ _ _ _ _ cap' a h1 h2 h3=>exact .ms _ _ _ _ _ _ _ h1 h2 (by rw[p_s];exact h3)
  ·subst e;subst e'
   cases hv with
   |mp _ _ _ _ x h1=>exact .mp _ _ _ _ _ (by rw[p_s];exact h1)
 have live:∀{b sz es},H[b]? = some (Blk.live sz es)→∀{n base room c ty},LiveAt A w φ n base room sz c ty es→LiveAt A w φ2 n base room sz c ty es:=fun {b sz es} hb' {n base room c ty} h=>
  ⟨h.blk,h.fits,h.size,h.len,fun i e j d k1 k2=>let ⟨u,k3,k4⟩:=h.val i e j d k1 k2;⟨u,k3,k4.noB p_o 4 (hb _ (zm hb') e (zm k1) d (zm k2))⟩⟩
 have tab:∀{b clk es},H[b]? = some (Blk.tab clk es)→∀{n ms},TabAt A w φ n clk es ms→TabAt A w φ2 n clk es ms:=fun {b clk es} hb' {n ms} h=>
  ⟨h.blk,h.len,fun i q d b' e k1 k2=>let ⟨k3,k4,k5⟩:=h.ent i q d b' e k1 k2;⟨k3,k4,k5.noB p_o 4 (hb _ (zm hb') _ (zm k1))⟩⟩
 have g_s:((H.set s (H.getD k .dead)).set k .dead)[s]? = H[k]? := by
  rw[zr hne,zp hsl,hget,zb hkl]
 have g_k:((H.set s (H.getD k .dead)).set k .dead)[k]? = some .dead:=zp (by simpa using hkl)
 have g_o:∀b,b≠k→b≠s→((H.set s (H.getD k .dead)).set k .dead)[b]? = H[b]? := fun b h1 h2=>by
  rw[zr (Ne.symm h1),zr (Ne.symm h2)]
 refine⟨A,φ2,⟨fun b hb'=>?_,fun b hb'=>?_,fun b hb'=>?_,fun b sz es hb'=>?_,fun b clk es hb'=>?_,fun b b' n base sz room base' sz' room' h1 h2=>?_,fun m hm=>hr.rh.dis m (own2 hm),hr.rh.lt,fun m hm=>hr.rh.olt m (own2 hm),fun m hm=>hr.rh.ofr m (own2 hm),hr.rh.bsz⟩,⟨by simpa[T_length] using hr.tr.size,fun i d u h1 h2=>?_⟩,?_,hr.df,fun r hm=>?_,hr.nd⟩
 ·have hb2:((H.set s (H.getD k .dead)).set k .dead)[b]? = none:=hb'
  rw[zaw,zE,zE] at hb2
  rw[p_o b (by omega) (by omega)]
  exact hr.rh.out b (zs hb2)
 ·by_cases h1:b=k
  ·subst h1;rw[g_k] at hb';cases hb'
  ·by_cases h2:b=s
   ·subst h2;rw[g_s] at hb';rw[p_s];exact hr.rh.free k hb'
   ·rw[g_o b h1 h2] at hb';rw[p_o b h1 h2];exact hr.rh.free b hb'
 ·by_cases h1:b=k
  ·subst h1;exact p_k
  ·by_cases h2:b=s
   ·subst h2;rw[g_s] at hb';rw[p_s];exact hr.rh.dead k hb'
   ·rw[g_o b h1 h2] at hb';rw[p_o b h1 h2];exact hr.rh.dead b hb'
 ·by_cases h1:b=k
  ·subst h1;rw[g_k] at hb';cases hb'
  ·by_cases h2:b=s
   ·subst h2
    rw[g_s] at hb'
    rw[p_s]
    rcases hr.rh.live k sz es hb' with h3|⟨n,base,room,c,ty,h3,h4⟩
    ·exact .inl h3
    ·exact .inr ⟨n,base,room,c,ty,h3,live hb' h4⟩
   ·rw[g_o b h1 h2] at hb'
    rw[p_o b h1 h2]
    rcases hr.rh.live b sz es hb' with h3|⟨n,base,room,c,ty,h3,h4⟩
    ·exact .inl h3
    ·exact .inr ⟨n,base,room,c,ty,h3,live hb' h4⟩
 ·by_cases h1:b=k
  ·subst h1;rw[g_k] at hb';cases hb'
  ·by_cases h2:b=s
   ·subst h2
    rw[g_s] at hb'
    rw[p_s]
    obtain⟨n,ms,h3,h4⟩:=hr.rh.tab k clk es hb'
    exact⟨n,ms,h3,tab hb' h4⟩
   ·rw[g_o b h1 h2] at hb'
    rw[p_o b h1 h2]
    obtain⟨n,ms,h3,h4⟩:=hr.rh.tab b clk es hb'
    exact⟨n,ms,h3,tab hb' h4⟩
 ·obtain⟨c1,q1,r1,l1⟩:=back h1
  obtain⟨c2,q2,r2,l2⟩:=back h2
  have:=hr.rh.inj _ _ _ _ _ _ _ _ _ q1 q2
  rw[r1,r2] at this
  by_cases e1:b=s
  ·by_cases e2:b'=s
   ·rw[e1,e2]
   ·simp[e1,e2] at this;exact absurd this.symm l2
  ·by_cases e2:b'=s
   ·simp[e1,e2] at this;exact absurd this l1
   ·simpa[e1,e2] using this
 ·rw[ze8] at h1
  split at h1
  ·rename_i hi
   cases h1
   have h3:=hr.tr.val i (lk a i) u (by rw[ze8,if_pos hi]) h2
   have h4:=ha.lk i
   have hb2:Nat.blt i n=true:=by simpa[zaA] using hi
   simp only[lkN,hb2,cond_true] at h4
   exact mv h4 h3
  ·cases h1
 ·refine hG _ _ _ _ _ hr.gh ⟨⟨rfl,rfl,rfl,zf _,zf _,fun _ _ _=>rfl,fun m hm=>.inl (hm.imp own2 id)⟩,fun _ x=>x,fun _ x=>.inl x,fun b hb'=>?_,rfl⟩
  show (φ b).le (φ2 b)
  rw[p_o b (by omega) (by omega)];exact Loc.le_refl _
 ·obtain⟨h1,h2,h3⟩:=hr.dk r hm
  exact⟨h1,h2,fun x=>h3 (own2 x)⟩
section
variable {E:Ev}{ops l:List Oper}{n:Nat}{a a':AL}{H H':List Blk}{g:Gst}{K:KA}{c:Code}{Q:KX}
theorem RT.forget (a':AL)(H':List Blk)(hf:Wk E.N n a H a' H')(h:RT E ops l n a' H' g K):RT E ops l n a H g K:=
 ⟨fun ro G hE ds Q hQ ac w hr=>h.out ro G hE ds Q hQ ac w (hf.out hE.st hE.le hr)⟩
theorem VT.forget (a':AL)(H':List Blk)(hf:Wk E.N n a H a' H')(h:VT E c n a' H' g Q):VT E c n a H g Q:=
 ⟨fun ro G hE ds ac w hr=>h.out ro G hE ds ac w (hf.out hE.st hE.le hr)⟩
theorem VT.mono {Q':KX}(h:VT E c n a H g Q)(k:∀e a H g,Q e a H g→Q' e a H g):VT E c n a H g Q':=
 ⟨fun ro G hE ds=>(h.out ro G hE ds).mono fun _ _ ⟨a',h1,h2⟩=>⟨a',h1,k _ _ _ _ h2⟩⟩
def cL:Code→Code
 |.seq a _=>a
 |.cond _ a _=>a
 |.block _ c=>c
 |.loop c=>c
 |.scope c=>c
 |.rangeFunc _ _ a _=>a
 |c=>c
def cR:Code→Code
 |.seq _ b=>b
 |.cond _ _ b=>b
 |.rangeFunc _ _ _ b=>b
 |c=>c
def isSeqC:Code→Bool
 |.seq _ _=>true
 |_=>false
def isLoopC:Code→Bool
 |.loop _=>true
 |_=>false
def isRetC:Code→Bool
 |.ret=>true
 |_=>false
def isSkipC:Code→Bool
 |.skip=>true
 |_=>false
def exitC:Code→Option Nat
 |.exit id=>some id
 |_=>none
def blockC:Code→Option Nat
 |.block id _=>some id
 |_=>none
def condC:Code→Option Operand
 |.cond x _ _=>some x
 |_=>none
def regC:Code→Option (Bool × Array Oper)
 |.region _ ops d=>some (d,ops)
 |_=>none
def rangeC:Code→Option (Operand × Array Tmp)
 |.rangeFunc g ps _ _=>some (g,ps)
 |_=>none
def kSeq (E:Ev)(n:Nat)(y:Code)(Q:KX):KX
 |.normal,a,H,g=>VT E y n a H g Q
 |e,a,H,g=>Q e a H g
def kBlk (id:Nat)(Q:KX):KX
 |.exit id',a,H,g=>if id'=id then Q .normal a H g else Q (.exit id') a H g
 |e,a,H,g=>Q e a H g
abbrev LI:=Nat→AL→List Blk→Gst→Prop
def Again (N n:Nat)(I:LI)(j:Nat)(a:AL)(H:List Blk)(g:Gst):Prop:=∃j',j' < j∧∃a' H',I j' a' H' g∧Wk N n a H a' H'
def kLoop (E:Ev)(n:Nat)(I:LI)(j:Nat)(Q:KX):KX
 |.normal,a,H,g=>Again E.N n I j a H g
 |e,a,H,g=>Q e a H g
theorem zbY (hc:isSeqC c=true)(h:VT E (cL c) n a H g (kSeq E n (cR c) Q)):VT E c n a H g Q:=by
 cases c with
 |seq x y=>
  refine⟨fun ro G hE ds=>?_⟩
  refine Sp_seq ((h.out ro G hE ds).mono ?_)
  rintro e ⟨t1,H1,ds1,g1⟩ ⟨a',h1,h2⟩
  simp only at h1;subst h1
  cases e with
  |normal=>exact h2.out ro G hE ds1
  |_=>exact⟨a',rfl,h2⟩
 |_=>cases hc
theorem zb7 (hc:isRetC c=true)(h:Q .ret a H g):VT E c n a H g Q:=by
 cases c with
 |ret=>exact⟨fun ro G hE ds _ _ hr=>wpIn_ret ⟨_,⟨a,rfl,h⟩,hr⟩⟩
 |_=>cases hc
theorem zb5 (hc:isSkipC c=true)(h:Q .normal a H g):VT E c n a H g Q:=by
 cases c with
 |skip=>exact⟨fun ro G hE ds _ _ hr=>wpIn_skip ⟨_,⟨a,rfl,h⟩,hr⟩⟩
 |_=>cases hc
def isScopeC:Code→Bool
 |.scope _=>true
 |_=>false
def kScope (Q:KX):KX
 |.goto _,_,_,_=>False
 |e,a,H,g=>Q e a H g
theorem VT.scope (hc:isScopeC c=true)(h:VT E (cL c) n a H g (kScope Q)):VT E c n a H g Q:=by
 cases c with
 |scope c=>
  refine⟨fun ro G hE ds=>Sp_scope ((h.out ro G hE ds).mono ?_)⟩
  rintro e s ⟨a',h1,h2⟩
  cases e with
  |goto l=>exact h2.elim
  |_=>exact⟨fun _=>by simp,a',h1,h2⟩
 |_=>cases hc
def isLabelC:Code→Bool
 |.label _=>true
 |_=>false
theorem VT.label (hc:isLabelC c=true)(h:Q .normal a H g):VT E c n a H g Q:=by
 cases c with
 |label _=>exact⟨fun ro G hE ds _ _ hr=>wpIn_label ⟨_,⟨a,rfl,h⟩,hr⟩⟩
 |_=>cases hc
theorem zci {id:Nat}(hc:exitC c=some id)(h:Q (.exit id) a H g):VT E c n a H g Q:=by
 cases c with
 |exit id=>cases hc;exact⟨fun ro G hE ds _ _ hr=>wpIn_exit ⟨_,⟨a,rfl,h⟩,hr⟩⟩
 |_=>cases hc
theorem zb3 {id:Nat}(hc:blockC c=some id)(h:VT E (cL c) n a H g (kBlk id Q)):VT E c n a H g Q:=by
 cases c with
 |block id c=>
  cases hc
  refine⟨fun ro G hE ds=>?_⟩
  refine Sp_block ((h.out ro G hE ds).mono ?_)
  rintro e s ⟨a',h1,h2⟩
  cases e with
  |exit id'=>
   simp only[kBlk,QBlock] at h2 ⊢
   split at h2
   ·rename_i hid;rw[if_pos hid];exact⟨a',h1,h2⟩
   ·rename_i hid;rw[if_neg hid];exact⟨a',h1,h2⟩
  |_=>exact⟨a',h1,h2⟩
 |_=>cases hc
theorem zbX {l:List Oper}(hc:regC c=some (false,l.toArray))(h:RT E l l n a H g (Q .normal)):VT E c n a H g Q:=by
 cases c with
 |region id ops d=>
  cases hc
  refine⟨fun ro G hE ds ac w hr=>?_⟩
  exact wpIn_region_lit (h.out ro G hE ds _ (fun a' H' g' ac w q r=>⟨_,⟨a',rfl,q⟩,r⟩) ac w hr)
 |_=>cases hc
theorem VT.cond {x:Operand}{b:Bool}(hc:condC c=some x)(hx:evA n a x=.v (.bool b))(h1:b=true→VT E (cL c) n a H g Q)(h2:b=false→VT E (cR c) n a H g Q):VT E c n a H g Q:=by
 cases c with
 |cond y l r=>
  cases hc
  refine⟨fun ro G hE ds=>?_⟩
  exact Sp_cond (b:=b) (by rw[zc7];exact hx) (fun e=>(h1 e).out ro G hE ds) fun e=>(h2 e).out ro G hE ds
 |_=>cases hc
theorem zch {x:Operand}(hc:condC c=some x)(hx:evA n a x=.v (.bool true))(h1:VT E (cL c) n a H g Q):VT E c n a H g Q:=VT.cond hc hx (fun _=>h1) fun e=>by cases e
theorem zcb {x:Operand}(hc:condC c=some x)(hx:evA n a x=.v (.bool false))(h1:VT E (cR c) n a H g Q):VT E c n a H g Q:=VT.cond hc hx (fun e=>by cases e) fun _=>h1
theorem VT.condD {x:Operand}{p:Prop}[Decidable p](hc:condC c=some x)(hx:evA n a x=.v (.bool (decide p)))(h1:p→VT E (cL c) n a H g Q)(h2:¬p→VT E (cR c) n a H g Q):VT E c n a H g Q:=
 VT.cond hc hx (fun e=>h1 (of_decide_eq_true e)) fun e=>h2 (of_decide_eq_false e)
theorem zb6 {x:Operand}{p:Prop}[Decidable p](hc:condC c=some x)(hx:evA n a x=.v (.bool (decide p)))(hp:p)(h1:VT E (cL c) n a H g Q):VT E c n a H g Q:=
 VT.condD hc hx (fun _=>h1) fun e=>absurd hp e
theorem zca {x:Operand}{p:Prop}[Decidable p](hc:condC c=some x)(hx:evA n a x=.v (.bool (decide p)))(hp:¬p)(h1:VT E (cR c) n a H g Q):VT E c n a H g Q:=
 VT.condD hc hx (fun e=>absurd e hp) fun _=>h1
theorem zcl (I:LI)(hc:isLoopC c=true)(h0:∃j a' H',I j a' H' g∧Wk E.N n a H a' H')(h:∀j a H g,I j a H g→VT E (cL c) n a H g (kLoop E n I j Q)):VT E c n a H g Q:=by
 cases c with
 |loop c=>
  obtain⟨j,a',H',hI,hf⟩:=h0
  refine⟨fun ro G hE ds=>?_⟩
  refine Sp_loop (fun j s=>∃a1 a2 H2,s.t=T n a1∧Wk E.N n a1 s.H a2 H2∧I j a2 H2 s.g) ⟨j,a,a',H',rfl,hf,hI⟩ ?_
  rintro j ⟨t1,H1,ds1,g1⟩ ⟨a1,a2,H2,ht,hf,hI⟩
  simp only at ht hf hI;subst ht
  refine ((VT.forget a2 H2 hf (h j a2 H2 g1 hI)).out ro G hE ds1).mono ?_
  rintro e s ⟨a3,h1,h2⟩
  cases e with
  |normal=>obtain⟨j',h3,a4,H4,h5,h4⟩:=h2;exact⟨j',h3,a3,a4,H4,h1,h4,h5⟩
  |_=>exact⟨a3,h1,h2⟩
 |_=>cases hc
end
end
end Go.DL
/- Regions that draw their order, ranges over functions, and the ends of functions, over short lists of temporaries. -/
namespace Go.DL
open Go.RowKit Go.Proofs
noncomputable section
abbrev KP:=AL→List Blk→Prop
structure PT (E:Ev)(ops:List Oper)(base:Nat)(pl:List (Nat × List Nat))(l:List Oper)(n:Nat)(a:AL)(H:List Blk)(K:KP):Prop where
 out:planT E.P ops base pl l (T n a) H fun t H=>∃a',t=T n a'∧K a' H
section
variable {E:Ev}{ops r:List Oper}{base s:Nat}{hs:List Nat}{pl:List (Nat × List Nat)}{n:Nat}{a:AL}{H:List Blk}{K:KP}
theorem PT.nil (h:K a H):PT E ops base pl [] n a H K:=by
 refine⟨?_⟩
 cases pl with
 |nil=>exact⟨a,rfl,h⟩
 |cons x pl=>exact⟨a,rfl,h⟩
theorem PT.stepG {o:Oper}{d:D}{e:Eff}(hg:o.guard=none)(hs':zcp E.P (zcz base hs H) (base+s) (T n a) o.op=some (d,e))(h:PT E ops base pl r n (setA o.dst d a) (e.app H (base+s)) K):PT E ops base ((s,hs)::pl) (o::r) n a H K:=by
 refine⟨?_⟩
 unfold planT actOT
 simp only[hg]
 unfold actT
 split
 ·rename_i f args tys hop;rw[hop] at hs';cases hs'
 ·simp only[hs',zej];exact h.out
theorem zcT {dst:Option Tmp}{f:Operand}{args:List Operand}{tys:Array TypeId}{ty:TypeId}{pos:String}{aft:Array Edge}{f':FuncId}{xs ys:List D}{d:D}(hc:callA n a f args=some (f',xs))
  (hm:Maps E.P f' ys d) (hy:xs.map (snap (fun b=>(zcz base hs H)[b]?) 5)=ys) (hd:zeu 5 d=true) (h:PT E ops base pl r n (setA dst d a) H K):
  PT E ops base ((s,hs)::pl) (⟨dst,.call { callee:=.value f,args:=args.toArray,argTypes:=tys },ty,pos,aft,none⟩::r) n a H K:=by
 refine⟨?_⟩
 unfold planT actOT
 simp only
 unfold actT
 have hc':zd0 (T n a) f args=some (f',xs):=callD_T.trans hc
 subst hy
 simp only[hc']
 exact⟨d,hm,hd,by rw[zej];exact h.out⟩
theorem PT.gy {dst:Option Tmp}{op:Op}{ty:TypeId}{pos:String}{aft:Array Edge}{j:Nat}{w:Bool}(hj:guardA ops n a j=some w)(h:PT E ops base ((s,hs)::pl) (⟨dst,op,ty,pos,aft,none⟩::r) n a H K):
  PT E ops base ((s,hs)::pl) (⟨dst,op,ty,pos,aft,some (j,w)⟩::r) n a H K:=by
 replace h:=h.out
 refine⟨?_⟩
 unfold planT actOT at h ⊢
 simp only[guardD_T hj] at h ⊢
 exact⟨fun _=>h,fun hh=>absurd rfl hh⟩
theorem PT.gn {dst:Option Tmp}{op:Op}{ty:TypeId}{pos:String}{aft:Array Edge}{j:Nat}{w b:Bool}(hj:guardA ops n a j=some b)(hb:(b==w)=false)(h:PT E ops base pl r n (setA dst (.v undef) a) H K):
  PT E ops base ((s,hs)::pl) (⟨dst,op,ty,pos,aft,some (j,w)⟩::r) n a H K:=by
 refine⟨?_⟩
 unfold planT actOT
 simp only[guardD_T hj,zej]
 exact⟨fun hh=>by subst hh;simp at hb,fun _=>h.out⟩
theorem undefD_T {j:Nat}(hj:guardU ops n a j=true):guardD ops (T n a) j=none∧undefD ops (T n a) j=true:=by
 unfold guardU guardI at hj
 unfold guardD undefD
 cases ho:ops[j]? with
 |none=>rw[ho] at hj;cases hj
 |some o=>
  rw[ho] at hj
  simp only at hj ⊢
  cases hd:o.dst with
  |none=>rw[hd] at hj;cases hj
  |some i=>
   rw[hd] at hj
   simp only at hj ⊢
   rw[ze8]
   have hlk:lkN n a i=(if i < n then lk a i else .any):=by
    simp only[lkN]
    by_cases h:i < n
    ·rw[if_pos h,show Nat.blt i n=true from by simpa[zaA] using h];rfl
    ·rw[if_neg h,show Nat.blt i n=false from by cases hh:Nat.blt i n with|false=>rfl|true=>exact absurd (by simpa[zaA] using hh) h];rfl
   by_cases h:i < n
   ·rw[hlk,if_pos h] at hj
    rw[if_pos h]
    split at hj
    ·rename_i hl;simp[hl]
    ·cases hj
   ·rw[hlk,if_neg h] at hj
    cases hj
theorem PT.gu {dst:Option Tmp}{op:Op}{ty:TypeId}{pos:String}{aft:Array Edge}{j:Nat}{w:Bool}(hj:guardU ops n a j=true)(h:PT E ops base pl r n (setA dst (.v undef) a) H K):
  PT E ops base ((s,hs)::pl) (⟨dst,op,ty,pos,aft,some (j,w)⟩::r) n a H K:=by
 refine⟨?_⟩
 unfold planT actOT
 have h1:=undefD_T hj
 simp only[h1.1,h1.2,zej]
 exact⟨trivial,h.out⟩
end
section
variable {E:Ev}{n:Nat}{a:AL}{H:List Blk}{g:Gst}{c:Code}{Q:KX}
def KD (Q:KX)(g:Gst):KP:=fun a H=>Q .normal a H.dropLast g
theorem zcy {ops:List Oper}{base:Nat}{pl:List (Nat × List Nat)}{H':List Blk}(hH:H.dropLast=H')(h:Q .normal a H' g):PT E ops base pl [] n a H (KD Q g):=by
 subst hH;exact PT.nil h
theorem zcu (pl:List (Nat × List Nat))(k:Nat){l:List Oper}{base:Nat}{H1:List Blk}(hm:E.P.follows .mixedOrders=true)(hc:regC c=some (true,l.toArray))(hd:drawOk l=true)(hp:mkPlan l=pl)(hk:slots l+1=k)(hb:H.length=base)
  (hH:H++List.replicate k .free=H1) (h:PT E l base pl l n a H1 (KD Q g)):VT E c n a H g Q:=by
 subst hk;subst hb;subst hH
 cases c with
 |region id ops d=>
  cases hc
  refine⟨fun ro G hE ds=>?_⟩
  exact Sp_draw hE.st hE.yk hm hd hp (planT_ok (K:=fun t H'=>∃a',t=T n a'∧Q .normal a' H'.dropLast g) (fun t H ⟨a',h1,h2⟩=>⟨a',h1,h2⟩) pl l _ _ h.out)
 |_=>cases hc
theorem setPs_T:∀(ps:List (Tmp × D)) (n:Nat) (a:AL),setPs (T n a) ps=T n (ps.foldl (fun a p=>p::a) a)
 |[],n,a=>rfl
 |(i,d)::r,n,a=>by rw[setPs,T_set,setPs_T r];rfl
def Ev.body (E:Ev)(N:Nat):Ev:={ P:=E.P,N:=N,top:=false }
theorem Ev.body_ok {E:Ev}{N l:Nat}{G:Gh}(h1:zc6 G)(h2:YOk E.P G)(h3:G.N=N):(E.body N).ok (some l) G:=⟨fun e=>by simp[Ev.body] at e,h1,h2,zaF h3,fun _ _ _ _ h=>h.elim⟩
theorem VT.range {x:Operand}{ps:List Tmp}{f:FuncId}{first caps fs cs:List D}(seq:List (List D))(ks:List Nat)(J:Nat→List Blk→Prop)(htop:E.top=true)(hc:rangeC c=some (x,ps.toArray))(hx:evA n a x=.fn (.func f) first caps)
  (hk:(ks.all fun b=>Nat.blt b H.length)=true) (hf1:first.map (snap (sel ks H) 5)=fs) (hf2:caps.map (snap (sel ks H) 5)=cs) (hI:Iter E.P f fs cs seq)
  (hs:∀(i:Nat) args,seq[i]? = some args→args.length=ps.length∧args.all (still 3)=true) (h0:J 0 (killL H ks))
  (hB:∀(i:Nat) args H',seq[i]? = some args→J i H'→VT (E.body H'.length) (cL c) n ((ps.zip args).foldl (fun a p=>p::a) a) H' (0,false) fun e a1 H1 g1=>e=.normal∧VT (E.body H'.length) (cR c) n a1 H1 g1 fun e' _ H2 _=>match e' with
   |.normal=>J (i+1) H2
   |.ret=>Q .ret a H2 g
   |.exit id=>Q (.exit id) a H2 g
   |_=>False)
  (hQ:∀H',J seq.length H'→Q .normal a H' g):VT E c n a H g Q:=by
 subst hf1;subst hf2
 cases c with
 |rangeFunc x' ps' asg body=>
  cases hc
  refine⟨fun ro G hE ds=>?_⟩
  rw[hE.ro htop]
  refine Sp_range hE.st ks (by rw[zc7];exact hx) (fun b hb=>by have:=zh.1 hk b hb;simpa[zaA] using this) hI (fun i args h=>by simpa using hs i args h) J h0 ?_ fun H' ds' hJ=>⟨a,rfl,hQ H' hJ⟩
  intro i args H' hsq hJ l Gb hGb hYb hN
  simp only[List.toList_toArray]
  rw[setPs_T]
  refine ((hB i args H' hsq hJ).out (some l) Gb (Ev.body_ok hGb hYb hN) []).mono ?_
  rintro e ⟨t1,H1,ds1,g1⟩ ⟨a1,h1,h2,h3⟩
  simp only at h1;subst h1
  refine⟨h2,fun Gb' hGb' hYb' hN'=>?_⟩
  refine (h3.out (some l) Gb' (Ev.body_ok hGb' hYb' hN') ds1).mono ?_
  rintro e' s ⟨a2,q1,q2⟩
  cases e' with
  |normal=>exact q2
  |ret=>exact fun ds'=>⟨a,rfl,q2⟩
  |exit id=>exact fun ds'=>⟨a,rfl,q2⟩
  |_=>exact q2
 |_=>cases hc
def resA1 (P:Program)(n:Nat)(a:AL)(H:List Blk):ResultVar→Option D
 |.tmp t=>some (lkN n a t)
 |.cell b t=>zeO P H t (lkN n a b)
def resAL (P:Program)(n:Nat)(a:AL)(H:List Blk):List ResultVar→Option (List D)
 |[]=>some []
 |r::rs=>match resA1 P n a H r,resAL P n a H rs with
  |some d,some ds=>some (d::ds)
  |_,_=>none
def resA (P:Program)(rs:List ResultVar)(n:Nat)(a:AL)(H:List Blk):Option D:=
 match resAL P n a H rs with
 |some [d]=>some d
 |some ds=>some (.tup ds)
 |none=>none
theorem resD_T {P:Program}{rs:List ResultVar}{n:Nat}{a:AL}{H:List Blk}{ds:List Nat}{g:Gst}:resD P rs { t:=T n a,H:=H,ds:=ds,g:=g }=resA P rs n a H:=by
 have h1:∀r,resOne P { t:=T n a,H:=H,ds:=ds,g:=g } r=resA1 P n a H r:=fun r=>by cases r<;>simp only[resOne,resA1,T_getD]
 have h2:∀rs,resL P { t:=T n a,H:=H,ds:=ds,g:=g } rs=resAL P n a H rs:=fun rs=>by
  induction rs with
  |nil=>rfl
  |cons r rs ih=>simp only[resL,resAL,h1,ih];rfl
 unfold resD resA;rw[h2];rfl
def kEnd (P:Program)(rs:List ResultVar)(n:Nat)(R:D→List Blk→Gst→Prop):KX
 |.normal,a,H,g=>∃d,resA P rs n a H=some d∧R d H g
 |.ret,a,H,g=>∃d,resA P rs n a H=some d∧R d H g
 |_,_,_,_=>False
theorem AL_args (args:List D)(n:Nat)(h:args.length≤n):args++List.replicate (n-args.length) .any=T n (args.zipIdx.map fun p=>(p.2,p.1)):=by
 have key:∀(l:List D) (k i:Nat),lk ((l.zipIdx k).map fun p=>(p.2,p.1)) (k+i)=l.getD i .any:=fun l=>by
  induction l with
  |nil=>intro k i;simp[lk]
  |cons d l ih=>
   intro k i
   simp only[List.zipIdx_cons,zy,lk]
   cases i with
   |zero=>simp
   |succ i=>
    have hb:Nat.beq k (k+(i+1))=false:=by
     cases hb:Nat.beq k (k+(i+1)) with
     |false=>rfl
     |true=>have:=za0 hb;omega
    simp only[hb,cond_false]
    have:=ih (k+1) i
    rw[show k+(i+1)=k+1+i by omega,this];simp
 refine zae fun j=>?_
 rw[ze8]
 have:=key args 0 j
 rw[zQ] at this
 rw[this]
 by_cases hj:j < args.length
 ·rw[zk hj,if_pos (by omega),zc,zb hj];rfl
 ·rw[zu (by omega),zY,zc,zs (by omega)]
  by_cases hn:j < n
  ·rw[if_pos (by omega),if_pos hn];rfl
  ·rw[if_neg (by omega),if_neg hn]
def bodyC (fn:Func):Code:=fn.body.getD .skip
def hasBody (fn:Func):Bool:=match fn.body with
 |some _=>true
 |none=>false
theorem bodyC_of {fn:Func}(h:hasBody fn=true):fn.body=some (bodyC fn):=by
 unfold hasBody at h;unfold bodyC
 split at h
 ·rename_i c hc;rw[hc];rfl
 ·cases h
theorem Maps.vt {P:Program}(hP:POk P){f:FuncId}(fn:Func){args:List D}{al:AL}{d:D}{n:Nat}{rs:List ResultVar}(hf:P.funcs[f]? = some fn)(hb:hasBody fn=true)(hn:fn.ntmps=n)(hrs:fn.results=rs.toArray)
  (ha:(args.zipIdx.map fun p=>(p.2,p.1))=al) (hl:Nat.ble args.length n=true) (h:∀g,VT { P:=P } (bodyC fn) n al [] g (kEnd P rs n fun d' H _=>snapR (fun b=>H[b]?) 5 d'=d)):Maps P f args d:=by
 subst hn;subst ha
 refine Maps.ofS hf (bodyC_of hb) (hP.name hf) fun G hG hY hN=>?_
 rw[AL_args _ _ (by simpa using hl)]
 refine ((h (0,false)).out none G ⟨fun _=>rfl,hG,hY,zaF hN,fun _ _ _ _ h=>h.elim⟩ []).mono ?_
 rintro e ⟨t,H,ds,g⟩ ⟨a',h1,q⟩
 simp only at h1;subst h1
 rw[hrs]
 simp only[List.toList_toArray]
 cases e with
 |normal=>obtain⟨d',q1,q2⟩:=q;simp only[Post,resD_T,q1,zq,q2]
 |ret=>obtain⟨d',q1,q2⟩:=q;simp only[Post,resD_T,q1,zq,q2]
 |_=>exact q.elim
theorem CallSp.vt {P:Program}(hP:POk P){f:FuncId}(fn:Func){args:List D}{al:AL}{H:List Blk}{Q:D→List Blk→Prop}{n N:Nat}{rs:List ResultVar}(hf:P.funcs[f]? = some fn)(hb:hasBody fn=true)(hn:fn.ntmps=n)(hrs:fn.results=rs.toArray)
  (ha:(args.zipIdx.map fun p=>(p.2,p.1))=al) (hl:Nat.ble args.length n=true) (hN:H.length=N) (h:∀g,VT { P:=P,N:=N } (bodyC fn) n al H g (kEnd P rs n fun d' H _=>Q d' H)):CallSp P f args H Q:=by
 subst hn;subst ha;subst hN
 refine CallSp.ofS hf (bodyC_of hb) (hP.name hf) fun G hG hY hN=>?_
 rw[AL_args _ _ (by simpa using hl)]
 refine ((h (0,false)).out none G ⟨fun _=>rfl,hG,hY,zaF hN,fun _ _ _ _ h=>h.elim⟩ []).mono ?_
 rintro e ⟨t,H,ds,g⟩ ⟨a',h1,q⟩
 simp only at h1;subst h1
 rw[hrs]
 simp only[List.toList_toArray]
 cases e with
 |normal=>obtain⟨d',q1,q2⟩:=q;exact⟨d',by rw[resD_T,q1],q2⟩
 |ret=>obtain⟨d',q1,q2⟩:=q;exact⟨d',by rw[resD_T,q1],q2⟩
 |_=>exact q.elim
def Yit (l:Nat)(seq:List (List D)):Nat→Gst→List D→(Bool→Gst→Prop)→Prop:=fun l' g args K=>l'=l∧∃i,g=(i,false)∧seq[i]? = some args∧K true (i+1,false)∧K false (i,true)
theorem Iter.vt {P:Program}(hP:POk P){f:FuncId}(fn:Func){first caps:List D}{al:Nat→AL}{seq:List (List D)}{n:Nat}(hf:P.funcs[f]? = some fn)(hb:hasBody fn=true)(hn:fn.ntmps=n)(hrs:fn.results=#[])
  (ha:∀l,((first++([D.fn (.yield l) [] []]++caps)).zipIdx.map fun p=>(p.2,p.1))=al l) (hl:Nat.ble (first.length+1+caps.length) n=true)
  (h:∀l,VT { P:=P,Y:=Yit l seq } (bodyC fn) n (al l) [] (0,false) (kEnd P [] n fun _ _ g=>g=(seq.length,false)∨g.2=true)):Iter P f first caps seq:=by
 subst hn
 refine Iter.ofS hf (bodyC_of hb) (hP.name hf) fun G l hG hY hN hYY=>?_
 have hl':(first++([D.fn (.yield l) [] []]++caps)).length≤fn.ntmps:=by
  have:first.length+1+caps.length≤fn.ntmps:=by simpa using hl
  simp;omega
 rw[AL_args _ _ hl',ha]
 refine ((h l).out none G ⟨fun _=>rfl,hG,hY,zaF hN,?_⟩ []).mono ?_
 ·rintro l' g args K ⟨rfl,i,rfl,h1,h2,h3⟩ K' hK
  exact hYY i args K' h1 (hK _ _ h2) (hK _ _ h3)
 rintro e ⟨t,H,ds,g⟩ ⟨a',h1,q⟩
 simp only at h1;subst h1
 rw[hrs]
 cases e with
 |normal=>obtain⟨d',q1,q2⟩:=q;exact⟨d',by rw[resD_T];exact q1,q2⟩
 |ret=>obtain⟨d',q1,q2⟩:=q;exact⟨d',by rw[resD_T];exact q1,q2⟩
 |_=>exact q.elim
theorem kSn {y:Code}(h:VT E y n a H g Q):kSeq E n y Q .normal a H g:=h
theorem kSe {y:Code}{id:Nat}(h:Q (.exit id) a H g):kSeq E n y Q (.exit id) a H g:=h
theorem kSr {y:Code}(h:Q .ret a H g):kSeq E n y Q .ret a H g:=h
theorem kCn (h:Q .normal a H g):kScope Q .normal a H g:=h
theorem kCr (h:Q .ret a H g):kScope Q .ret a H g:=h
theorem kCe {id:Nat}(h:Q (.exit id) a H g):kScope Q (.exit id) a H g:=h
theorem kBn {id:Nat}(h:Q .normal a H g):kBlk id Q .normal a H g:=h
theorem kBr {id:Nat}(h:Q .ret a H g):kBlk id Q .ret a H g:=h
theorem kBe {id:Nat}(h:Q .normal a H g):kBlk id Q (.exit id) a H g:=by simp only[kBlk,if_pos];exact h
theorem kBx {id id':Nat}(hn:(id'==id)=false)(h:Q (.exit id') a H g):kBlk id Q (.exit id') a H g:=by
 simp only[kBlk]
 rw[if_neg (by simpa using hn)];exact h
theorem kLn {I:LI}{j:Nat}(h:Again E.N n I j a H g):kLoop E n I j Q .normal a H g:=h
theorem kLr {I:LI}{j:Nat}(h:Q .ret a H g):kLoop E n I j Q .ret a H g:=h
theorem kLe {I:LI}{j id:Nat}(h:Q (.exit id) a H g):kLoop E n I j Q (.exit id) a H g:=h
theorem kEr {P:Program}{rs:List ResultVar}{R:D→List Blk→Gst→Prop}{d:D}(hd:resA P rs n a H=some d)(h:R d H g):kEnd P rs n R .ret a H g:=⟨d,hd,h⟩
theorem kEn {P:Program}{rs:List ResultVar}{R:D→List Blk→Gst→Prop}{d:D}(hd:resA P rs n a H=some d)(h:R d H g):kEnd P rs n R .normal a H g:=⟨d,hd,h⟩
end
end
end Go.DL
/- What single operations come to, over short lists of temporaries: one fact an operation. -/
namespace Go.DL
open Go.RowKit Go.Proofs
noncomputable section
abbrev wI (a:Int):D:=.v (.int .i64 a)
abbrev wB (b:Bool):D:=.v (.bool b)
def isSliceT (P:Program)(t:TypeId):Bool:=match P.underlying t with
 |some (.slice _)=>true
 |_=>false
def fldT (P:Program)(t:TypeId)(f:Nat):Option (Nat × Nat × Bool):=match P.underlying t with
 |some (.struct fs)=>match fs[f]? with
  |some x=>match tsz P x.type,zdT P x.type with
   |some n,some b=>some (x.offset,n,b)
   |_,_=>none
  |none=>none
 |_=>none
theorem castR (n:Nat):(n:Int)=(n:Int):=rfl
theorem castS (n:Nat):(n:Int)+1=((n+1:Nat):Int):=rfl
theorem wrap64 {a:Int}(h1:-9223372036854775808≤a)(h2:a≤9223372036854775807):IntKind.wrap .i64 a=a:=by
 rw[IntKind.wrap_i64];omega
section
variable {P:Program}{n s:Nat}{al:AL}{H:List Blk}{x y z:Operand}{tx ty':TypeId}{a b:Int}
structure Val (P:Program)(H:List Blk)(s n:Nat)(al:AL)(op:Op)(d:D):Prop where
 out:zcp P H s (T n al) op=some (d,.keep)
theorem f_mv {d:D}(he:evA n al x=d):Val P H s n al (.move x) d:=by refine⟨?_⟩;subst he;simp only[zcp,zc7]
theorem f_as {d:D}(he:evA n al x=d):Val P H s n al (.assign x) d:=by refine⟨?_⟩;subst he;simp only[zcp,zc7]
theorem f_mvV {v:Value}(he:evA n al x=.v v):Val P H s n al (.move x) (.v v):=f_mv he
theorem f_mvS {es:List (List D)}(he:evA n al x=.sl es):Val P H s n al (.move x) (.sl es):=f_mv he
theorem f_mvF {es:List (List D)}(he:evA n al x=.fl es):Val P H s n al (.move x) (.fl es):=f_mv he
theorem f_mvO {b o m c:Nat}(he:evA n al x=.ms b o m c):Val P H s n al (.move x) (.ms b o m c):=f_mv he
theorem f_mvP {b k f:Nat}(he:evA n al x=.mp b k f):Val P H s n al (.move x) (.mp b k f):=f_mv he
theorem f_mvR {cs:List D}(he:evA n al x=.rp cs):Val P H s n al (.move x) (.rp cs):=f_mv he
theorem f_mvA {cs:List D}(he:evA n al x=.agg cs):Val P H s n al (.move x) (.agg cs):=f_mv he
theorem f_mvT {cs:List D}(he:evA n al x=.tup cs):Val P H s n al (.move x) (.tup cs):=f_mv he
theorem f_mvN  (he:evA n al x=.nil):Val P H s n al (.move x) (.nil):=f_mv he
theorem f_mvU {f:Fn}{ds es:List D}(he:evA n al x=.fn f ds es):Val P H s n al (.move x) (.fn f ds es):=f_mv he
theorem f_mvX  (he:evA n al x=.any):Val P H s n al (.move x) (.any):=f_mv he
theorem f_asV {v:Value}(he:evA n al x=.v v):Val P H s n al (.assign x) (.v v):=f_as he
theorem f_asS {es:List (List D)}(he:evA n al x=.sl es):Val P H s n al (.assign x) (.sl es):=f_as he
theorem f_asF {es:List (List D)}(he:evA n al x=.fl es):Val P H s n al (.assign x) (.fl es):=f_as he
theorem f_asO {b o m c:Nat}(he:evA n al x=.ms b o m c):Val P H s n al (.assign x) (.ms b o m c):=f_as he
theorem f_asP {b k f:Nat}(he:evA n al x=.mp b k f):Val P H s n al (.assign x) (.mp b k f):=f_as he
theorem f_asR {cs:List D}(he:evA n al x=.rp cs):Val P H s n al (.assign x) (.rp cs):=f_as he
theorem f_asA {cs:List D}(he:evA n al x=.agg cs):Val P H s n al (.assign x) (.agg cs):=f_as he
theorem f_asT {cs:List D}(he:evA n al x=.tup cs):Val P H s n al (.assign x) (.tup cs):=f_as he
theorem f_asN  (he:evA n al x=.nil):Val P H s n al (.assign x) (.nil):=f_as he
theorem f_asU {f:Fn}{ds es:List D}(he:evA n al x=.fn f ds es):Val P H s n al (.assign x) (.fn f ds es):=f_as he
theorem f_asX  (he:evA n al x=.any):Val P H s n al (.assign x) (.any):=f_as he
theorem f_add (hx:evA n al x=wI a)(hy:evA n al y=wI b)(h1:-9223372036854775808≤a+b)(h2:a+b≤9223372036854775807):Val P H s n al (.binOp .add tx x y ty') (wI (a+b)):=by
 refine⟨?_⟩;simp only[zcp,zc7,hx,hy,binD,intBin,if_true,wrap64 h1 h2,zq,zcQ]
theorem f_sub (hx:evA n al x=wI a)(hy:evA n al y=wI b)(h1:-9223372036854775808≤a-b)(h2:a-b≤9223372036854775807):Val P H s n al (.binOp .sub tx x y ty') (wI (a-b)):=by
 refine⟨?_⟩;simp only[zcp,zc7,hx,hy,binD,intBin,if_true,wrap64 h1 h2,zq,zcQ]
theorem f_mul (hx:evA n al x=wI a)(hy:evA n al y=wI b)(h1:-9223372036854775808≤a*b)(h2:a*b≤9223372036854775807):Val P H s n al (.binOp .mul tx x y ty') (wI (a*b)):=by
 refine⟨?_⟩;simp only[zcp,zc7,hx,hy,binD,intBin,if_true,wrap64 h1 h2,zq,zcQ]
theorem f_neg (hx:evA n al x=wI a)(h1:-9223372036854775808≤-a)(h2:-a≤9223372036854775807):Val P H s n al (.unOp .neg tx x) (wI (-a)):=by
 refine⟨?_⟩;simp only[zcp,zc7,hx,unD,Int.zero_sub,wrap64 h1 h2,zq,zcQ]
theorem f_quo (hx:evA n al x=wI a)(hy:evA n al y=wI b)(h0:0≤a)(h1:0 < b)(h2:a≤9223372036854775807):Val P H s n al (.binOp .quo tx x y ty') (wI (a / b)):=by
 have e:a.tdiv b=a / b:=Int.tdiv_eq_ediv_of_nonneg h0
 have h3:0≤a / b:=Int.ediv_nonneg h0 (Int.le_of_lt h1)
 have h4:a / b≤a:=Int.ediv_le_self b h0
 have hb:b≠0:=by omega
 refine⟨?_⟩;simp only[zcp,zc7,hx,hy,binD,intBin,if_true,hb,if_false,e,wrap64 (show -9223372036854775808≤a / b by omega) (show a / b≤9223372036854775807 by omega),zq,zcQ]
theorem f_rem (hx:evA n al x=wI a)(hy:evA n al y=wI b)(h0:0≤a)(h1:b≠0):Val P H s n al (.binOp .rem tx x y ty') (wI (a%b)):=by
 refine⟨?_⟩;simp only[zcp,zc7,hx,hy,binD,intBin,if_true,h1,if_false,Int.tmod_eq_emod_of_nonneg h0,zq,zcQ]
theorem f_remG (hx:evA n al x=wI a)(hy:evA n al y=wI b)(h1:b≠0):Val P H s n al (.binOp .rem tx x y ty') (wI (a.tmod b)):=by
 refine⟨?_⟩;simp only[zcp,zc7,hx,hy,binD,intBin,if_true,h1,if_false,zq,zcQ]
theorem f_lss (hx:evA n al x=wI a)(hy:evA n al y=wI b):Val P H s n al (.binOp .lss tx x y ty') (wB (decide (a < b))):=by
 refine⟨?_⟩;simp only[zcp,zc7,hx,hy,binD,intBin,if_true,zq,zcQ]
theorem f_leq (hx:evA n al x=wI a)(hy:evA n al y=wI b):Val P H s n al (.binOp .leq tx x y ty') (wB (decide (a≤b))):=by
 refine⟨?_⟩;simp only[zcp,zc7,hx,hy,binD,intBin,if_true,zq,zcQ]
theorem f_gtr (hx:evA n al x=wI a)(hy:evA n al y=wI b):Val P H s n al (.binOp .gtr tx x y ty') (wB (decide (b < a))):=by
 refine⟨?_⟩;simp only[zcp,zc7,hx,hy,binD,intBin,if_true,zq,zcQ]
theorem f_geq (hx:evA n al x=wI a)(hy:evA n al y=wI b):Val P H s n al (.binOp .geq tx x y ty') (wB (decide (b≤a))):=by
 refine⟨?_⟩;simp only[zcp,zc7,hx,hy,binD,intBin,if_true,zq,zcQ]
theorem f_eql (hx:evA n al x=wI a)(hy:evA n al y=wI b):Val P H s n al (.binOp .eql tx x y ty') (wB (decide (a=b))):=by
 refine⟨?_⟩;simp only[zcp,zc7,hx,hy,binD,intBin,if_true,zq,zcQ];rfl
theorem f_neq (hx:evA n al x=wI a)(hy:evA n al y=wI b):Val P H s n al (.binOp .neq tx x y ty') (wB (decide (a≠b))):=by
 have e:(a != b)=decide (a≠b):=by simp[bne,BEq.beq]
 refine⟨?_⟩;simp only[zcp,zc7,hx,hy,binD,intBin,if_true,zq,zcQ,e]
theorem f_notD {p:Prop}[Decidable p](hx:evA n al x=wB (decide p)):Val P H s n al (.unOp .not tx x) (wB (decide (¬p))):=by
 have e:(!decide p)=decide (¬p):=by by_cases h:p<;>simp[h]
 refine⟨?_⟩;simp only[zcp,zc7,hx,unD,zcQ,e];rfl
theorem f_not {b:Bool}(hx:evA n al x=wB b):Val P H s n al (.unOp .not tx x) (wB (!b)):=by
 refine⟨?_⟩;simp only[zcp,zc7,hx,unD,zcQ];rfl
theorem f_notT (hx:evA n al x=wB true):Val P H s n al (.unOp .not tx x) (wB false):=by
 refine⟨?_⟩;simp only[zcp,zc7,hx,unD,zcQ];rfl
theorem f_notF (hx:evA n al x=wB false):Val P H s n al (.unOp .not tx x) (wB true):=by
 refine⟨?_⟩;simp only[zcp,zc7,hx,unD,zcQ];rfl
theorem f_pickT {d:D}(hx:evA n al x=wB true)(hy:evA n al y=d):Val P H s n al (.pick x y z) d:=by
 subst hy;refine⟨?_⟩;simp only[zcp,zc7,hx,pickD,zcQ];rfl
theorem f_pickF {d:D}(hx:evA n al x=wB false)(hz:evA n al z=d):Val P H s n al (.pick x y z) d:=by
 subst hz;refine⟨?_⟩;simp only[zcp,zc7,hx,pickD,zcQ];rfl
theorem f_pickTV {v:Value}(hx:evA n al x=wB true)(hy:evA n al y=.v v):Val P H s n al (.pick x y z) (.v v):=f_pickT hx hy
theorem f_pickFV {v:Value}(hx:evA n al x=wB false)(hz:evA n al z=.v v):Val P H s n al (.pick x y z) (.v v):=f_pickF hx hz
theorem f_ext {ds:List D}{k:Nat}{d:D}(hx:evA n al x=.tup ds)(hd:ds[k]? = some d):Val P H s n al (.extract x k) d:=by
 refine⟨?_⟩;simp only[zcp,zc7,hx,extractD,hd,zcQ];rfl
theorem f_max (hx:evA n al x=wI a)(hy:evA n al y=wI b){tys:Array TypeId}:Val P H s n al (.call { callee:=.builtin .max,args:=#[x,y],argTypes:=tys }) (wI (max a b)):=by
 have e:max a b=if b > a then b else a:=by omega
 refine⟨?_⟩;simp only[zcp,zy,z8,zc7,hx,hy,zdW,maxD,if_true,zq,e]
theorem f_min (hx:evA n al x=wI a)(hy:evA n al y=wI b){tys:Array TypeId}:Val P H s n al (.call { callee:=.builtin .min,args:=#[x,y],argTypes:=tys }) (wI (min a b)):=by
 have e:min a b=if b < a then b else a:=by omega
 refine⟨?_⟩;simp only[zcp,zy,z8,zc7,hx,hy,zdW,maxD,if_true,zq,e]
theorem f_len {d:D}{m:Int}(hx:evA n al x=d)(hl:lenD d=some m)(ht:isSliceT P tx=true):Val P H s n al (.call { callee:=.builtin .len,args:=#[x],argTypes:=#[tx] }) (wI m):=by
 subst hx
 refine⟨?_⟩
 unfold isSliceT at ht
 split at ht
 ·rename_i e he
  simp only[zcp,zy,z8,zc7,zdW,he,hl,zq]
 ·cases ht
theorem f_lenM {α:Type}{f:α→List D}{l:List α}(hx:evA n al x=.sl (l.map f))(ht:isSliceT P tx=true):Val P H s n al (.call { callee:=.builtin .len,args:=#[x],argTypes:=#[tx] }) (wI l.length):=f_len hx (by simp[lenD]) ht
theorem f_lenF {α:Type}{f:α→List D}{l:List α}(hx:evA n al x=.fl (l.map f))(ht:isSliceT P tx=true):Val P H s n al (.call { callee:=.builtin .len,args:=#[x],argTypes:=#[tx] }) (wI l.length):=f_len hx (by simp[lenD]) ht
theorem f_lenO {bk off m cap:Nat}(hx:evA n al x=.ms bk off m cap)(ht:isSliceT P tx=true):Val P H s n al (.call { callee:=.builtin .len,args:=#[x],argTypes:=#[tx] }) (wI m):=f_len hx rfl ht
theorem f_lenN (hx:evA n al x=.nil)(ht:isSliceT P tx=true):Val P H s n al (.call { callee:=.builtin .len,args:=#[x],argTypes:=#[tx] }) (wI 0):=f_len hx rfl ht
theorem f_ix {α:Type}{f:α→List D}{l:List α}{k:Nat}{w:α}{sz:Nat}(hx:unfl (evA n al x)=.sl (l.map f))(hy:evA n al y=wI a)(hn:a=k)(hk:l[k]? = some w)(hs:(zc3 P tx).map (·.2)=some sz)(hf:(f w).length=sz):
  Val P H s n al (.indexAddr tx x y) (.rp (f w)):=by
 subst hn
 refine⟨?_⟩
 have hlt:k < l.length:=(za.1 hk).1
 simp only[zd] at hs
 obtain⟨⟨e,s'⟩,he,hs'⟩:=hs
 simp only at hs';subst hs'
 simp only[zcp,zc7,indexAddrD,hx,hy,intD,he,ze]
 rw[if_pos ⟨by omega,by omega⟩]
 simp only[zM,zl,hk,zq,if_pos hf,zcQ]
theorem zeq {α:Type}{f:α→List D}{l:List α}{k:Nat}{sz:Nat}(hx:unfl (evA n al x)=.sl (l.map f))(hy:evA n al y=wI a)(hn:a=k)(hk:k < l.length)(hs:(zc3 P tx).map (·.2)=some sz)(hf:(f l[k]).length=sz):
  Val P H s n al (.indexAddr tx x y) (.rp (f l[k])):=f_ix hx hy hn (zb hk) hs hf
theorem f_slHi {α:Type}{f:α→List D}{l:List α}{k sz:Nat}{te:TypeId}(hx:unfl (evA n al x)=.sl (l.map f))(hy:evA n al y=wI a)(hn:a=k)(hk:k≤l.length)(he:zc3 P tx=some (te,sz)):Val P H s n al (.slice tx x none (some y) none) (.sl ((l.take k).map f)):=by
 subst hn
 refine⟨?_⟩
 simp only[zcp,zc7,sliceD,he,hx,zbc,zq,hy,bndD,intD,ze,za3,zah,false_and,if_false]
 rw[if_pos ⟨by omega,by omega,by omega,by simp⟩]
 simp[zcQ,zbs]
theorem f_slLo {α:Type}{f:α→List D}{l:List α}{k sz:Nat}{te:TypeId}(hx:unfl (evA n al x)=.sl (l.map f))(hy:evA n al y=wI a)(hn:a=k)(hk:k≤l.length)(he:zc3 P tx=some (te,sz))(hf:∀w,(f w).length=sz):Val P H s n al (.slice tx x (some y) none none) (.sl ((l.drop k).map f)):=by
 subst hn
 refine⟨?_⟩
 simp only[zcp,zc7,sliceD,he,hx,zbc,zq,hy,bndD,intD,ze,za3,zah,false_and,if_false]
 rw[if_pos ⟨by omega,by omega,by omega,.inr (by simp[hf])⟩]
 simp[zcQ,zbf,zg]
theorem f_ixO {bk off len cap sz:Nat}{es:List (List D)}{k:Nat}(hx:evA n al x=.ms bk off len cap)(hy:evA n al y=wI a)(hn:a=k)(hb:H[bk]? = some (.live sz es))(hs:(zc3 P tx).map (·.2)=some sz)(hk:k < len):Val P H s n al (.indexAddr tx x y) (.mp bk (off+k) 0):=by
 subst hn
 refine⟨?_⟩
 simp only[zd] at hs
 obtain⟨⟨e,s'⟩,he,hs'⟩:=hs
 simp only at hs';subst hs'
 simp only[zcp,zc7,indexAddrD,hx,unfl,hy,intD,he,hb,zcZ]
 rw[if_pos ⟨by simp,by omega,by omega⟩]
 simp[zcQ]
theorem zct {bk len cap sz:Nat}{es:List (List D)}{k:Nat}(hx:evA n al x=.ms bk 0 len cap)(hy:evA n al y=wI a)(hn:a=k)(hb:H[bk]? = some (.live sz es))(hs:(zc3 P tx).map (·.2)=some sz)(hk:k < len):Val P H s n al (.indexAddr tx x y) (.mp bk k 0):=by
 have:=f_ixO (s:=s) (P:=P) hx hy hn hb hs hk
 rwa [zQ] at this
theorem f_ldV {v:Value}{cs:List D}(hx:evA n al x=.rp (.v v::cs))(ht:zdT P tx=some false):Val P H s n al (.load tx x) (.v v):=by
 refine⟨?_⟩;simp[zcp,zc7,hx,zeO,peek,zeT,ht,lowD,flat,flat1,zcQ]
theorem f_ldS {es:List (List D)}{cs:List D}(hx:evA n al x=.rp (.sl es::cs))(ht:zdT P tx=some false):Val P H s n al (.load tx x) (.sl es):=by
 refine⟨?_⟩;simp[zcp,zc7,hx,zeO,peek,zeT,ht,lowD,flat,flat1,zcQ]
theorem f_ldFl {es:List (List D)}{cs:List D}(hx:evA n al x=.rp (.fl es::cs))(ht:zdT P tx=some false):Val P H s n al (.load tx x) (.sl es):=by
 refine⟨?_⟩;simp[zcp,zc7,hx,zeO,peek,zeT,ht,lowD,zcQ]
theorem f_ldG {d:D}{cs:List D}(hx:evA n al x=.rp (d::cs))(ht:zdT P tx=some false)(hf:flat d=true):Val P H s n al (.load tx x) d:=by
 have:lowD d=d:=by unfold lowD;cases d<;>first|rfl|(simp_all [flat,flat1];done)|(simp only[hf,if_true])
 refine⟨?_⟩;simp[zcp,zc7,hx,zeO,peek,zeT,ht,this,zcQ]
theorem f_ldA {cs ds:List D}{m:Nat}(hx:evA n al x=.rp cs)(ht:zdT P tx=some true)(hs:tsz P tx=some m)(hn:cs.length=m)(hd:cs.map lowD=ds):Val P H s n al (.load tx x) (.agg ds):=by
 subst hd
 refine⟨?_⟩
 simp only[zcp,zc7,hx,zeO,peek,zeT,ht,hs,ze,hn,zf,if_true,zcQ,zq]
 rw[zg (by simp[hn])]
theorem zcB {bk k f sz:Nat}{es:List (List D)}{e rest:List D}{d:D}(hx:evA n al x=.mp bk k f)(hb:H[bk]? = some (.live sz es))(hk:es[k]? = some e)(hd:e.drop f=d::rest)(ht:zdT P tx=some false):Val P H s n al (.load tx x) d:=by
 refine⟨?_⟩;simp[zcp,zc7,hx,zeO,peek,zeT,ht,zcQ,hb,hk,hd]
theorem f_ldOA {bk k f sz m:Nat}{es:List (List D)}{e:List D}(hx:evA n al x=.mp bk k f)(hb:H[bk]? = some (.live sz es))(hk:es[k]? = some e)(ht:zdT P tx=some true)(hs:tsz P tx=some m)(hn:f+m≤e.length):Val P H s n al (.load tx x) (.agg ((e.drop f).take m)):=by
 refine⟨?_⟩
 simp only[zcp,zc7,hx,zeO,peek,hb,hk,zeT,ht,hs,z6]
 rw[if_pos (by omega)];rfl
theorem zev {bk k sz m:Nat}{es:List (List D)}{e:List D}(hx:evA n al x=.mp bk k 0)(hb:H[bk]? = some (.live sz es))(hk:es[k]? = some e)(ht:zdT P tx=some true)(hs:tsz P tx=some m)(hn:e.length=m):Val P H s n al (.load tx x) (.agg e):=by
 have:=f_ldOA (s:=s) (P:=P) hx hb hk ht hs (by omega)
 rwa [zS,zg (by omega)] at this
theorem fieldOff_of {f o m:Nat}{g:Bool}(ht:fldT P tx f=some (o,m,g))(hn:m≠0):fieldOff P tx f=some o:=by
 unfold fldT at ht;unfold fieldOff
 split at ht
 ·rename_i fs hfs
  simp only[hfs]
  split at ht
  ·rename_i x hx
   simp only[hx]
   split at ht
   ·rename_i n' b' h1 h2
    cases ht
    simp only[h1,if_neg hn]
   ·cases ht
  ·cases ht
 ·cases ht
theorem f_fa {cs ds:List D}{f o m:Nat}{g:Bool}(hx:evA n al x=.rp cs)(ht:fldT P tx f=some (o,m,g))(hn:m≠0)(hd:cs.drop o=ds):Val P H s n al (.fieldAddr tx x f) (.rp ds):=by
 subst hd;refine⟨?_⟩
 simp only[zcp,zc7,hx,fieldAddrD,fieldOff_of ht hn,zq,zcQ]
theorem f_fa0 {cs:List D}{f m:Nat}{g:Bool}(hx:evA n al x=.rp cs)(ht:fldT P tx f=some (0,m,g))(hn:m≠0):Val P H s n al (.fieldAddr tx x f) (.rp cs):=f_fa hx ht hn rfl
theorem f_fa1 {d1:D}{cs:List D}{f m:Nat}{g:Bool}(hx:evA n al x=.rp (d1::cs))(ht:fldT P tx f=some (1,m,g))(hn:m≠0):Val P H s n al (.fieldAddr tx x f) (.rp cs):=f_fa hx ht hn rfl
theorem f_fa2 {d1 d2:D}{cs:List D}{f m:Nat}{g:Bool}(hx:evA n al x=.rp (d1::d2::cs))(ht:fldT P tx f=some (2,m,g))(hn:m≠0):Val P H s n al (.fieldAddr tx x f) (.rp cs):=f_fa hx ht hn rfl
theorem f_fa3 {d1 d2 d3:D}{cs:List D}{f m:Nat}{g:Bool}(hx:evA n al x=.rp (d1::d2::d3::cs))(ht:fldT P tx f=some (3,m,g))(hn:m≠0):Val P H s n al (.fieldAddr tx x f) (.rp cs):=f_fa hx ht hn rfl
theorem f_faO {bk k c f o m:Nat}{g:Bool}(hx:evA n al x=.mp bk k c)(ht:fldT P tx f=some (o,m,g))(hn:m≠0):Val P H s n al (.fieldAddr tx x f) (.mp bk k (c+o)):=by
 refine⟨?_⟩
 simp only[zcp,zc7,hx,fieldAddrD,fieldOff_of ht hn,zq,zcQ]
theorem f_faO0 {bk k f o m:Nat}{g:Bool}(hx:evA n al x=.mp bk k 0)(ht:fldT P tx f=some (o,m,g))(hn:m≠0):Val P H s n al (.fieldAddr tx x f) (.mp bk k o):=by
 have:=f_faO (s:=s) (H:=H) hx ht hn
 rwa [zQ] at this
theorem fieldD_of {cs:List D}{f o m:Nat}{g:Bool}(ht:fldT P tx f=some (o,m,g)):fieldD P tx f (.agg cs)=if g then (if m≤(cs.drop o).length then some (.agg ((cs.drop o).take m)) else none) else (cs.drop o).head? := by
 unfold fldT at ht;unfold fieldD
 split at ht
 ·rename_i fs hfs
  simp only[hfs]
  split at ht
  ·rename_i x hx
   simp only[hx]
   split at ht
   ·rename_i n' b' h1 h2
    cases ht
    cases g<;>simp[zeT,h1,h2]
   ·cases ht
  ·cases ht
 ·cases ht
theorem f_fd {cs rest:List D}{f o m:Nat}{d:D}(hx:evA n al x=.agg cs)(ht:fldT P tx f=some (o,m,false))(hd:cs.drop o=d::rest):Val P H s n al (.field tx x f) d:=by
 refine⟨?_⟩;simp[zcp,zc7,hx,fieldD_of ht,hd,zcQ]
theorem f_mkf {f:Fn}{as' bs':List Operand}{ds es:List D}(h1:as'.map (evA n al)=ds)(h2:bs'.map (evA n al)=es):Val P H s n al (.makeFunc f as'.toArray bs'.toArray) (.fn f ds es):=by
 subst h1;subst h2;refine⟨?_⟩;simp only[zcp,map_ev_T]
theorem zdm {ps:List (Nat × Operand)}{d:D}(h:buildD P tx (ps.map fun p=>(p.1,evA n al p.2))=some d):Val P H s n al (.build tx ps.toArray) d:=by
 refine⟨?_⟩;simp only[zcp,zc7,h,zcQ];rfl
structure Mk (P:Program)(H:List Blk)(s n:Nat)(al:AL)(op:Op)(d:D)(k:Blk):Prop where
 out:zcp P H s (T n al) op=some (d,.put k)
theorem f_alloc {z:List D}(hz:zdC P tx=some z):Mk P H s n al (.alloc tx) (.mp s 0 0) (.live z.length [z]):=by
 refine⟨?_⟩;simp only[zcp,hz,zq]
theorem zcL {z:List D}{m:Nat}(hz:zdC P tx=some z)(hm:z.length=m):Mk P H s n al (.alloc tx) (.mp s 0 0) (.live m [z]):=by
 subst hm;exact f_alloc hz
theorem f_boxV {v:Value}(hx:evA n al x=.v v)(hc:(zcY (.v v))=[.v v])(hc':isCell (.v v)=true):Mk P H s n al (.box tx x) (.mp s 0 0) (.live 1 [[.v v]]):=by
 refine⟨?_⟩;simp only[zcp,zc7,hx,hc,List.all_cons,hc',List.all_nil,Bool.and_true,if_true];rfl
theorem f_box {d:D}{cs:List D}{m:Nat}(hx:evA n al x=d)(hcs:zcY d=cs)(hc:cs.all isCell=true)(hm:cs.length=m):Mk P H s n al (.box tx x) (.mp s 0 0) (.live m [cs]):=by
 subst hx;subst hcs;subst hm;refine⟨?_⟩;simp only[zcp,zc7,hc,if_true]
theorem f_boxS {es:List (List D)}(hx:evA n al x=.sl es):Mk P H s n al (.box tx x) (.mp s 0 0) (.live 1 [[.sl es]]):=f_box hx rfl rfl rfl
theorem f_boxF {es:List (List D)}(hx:evA n al x=.fl es):Mk P H s n al (.box tx x) (.mp s 0 0) (.live 1 [[.fl es]]):=f_box hx rfl rfl rfl
theorem f_boxO {b o m c:Nat}(hx:evA n al x=.ms b o m c):Mk P H s n al (.box tx x) (.mp s 0 0) (.live 1 [[.ms b o m c]]):=f_box hx rfl rfl rfl
theorem f_boxP {b k f:Nat}(hx:evA n al x=.mp b k f):Mk P H s n al (.box tx x) (.mp s 0 0) (.live 1 [[.mp b k f]]):=f_box hx rfl rfl rfl
theorem f_boxR {cs:List D}(hx:evA n al x=.rp cs):Mk P H s n al (.box tx x) (.mp s 0 0) (.live 1 [[.rp cs]]):=f_box hx rfl rfl rfl
theorem f_boxN  (hx:evA n al x=.nil):Mk P H s n al (.box tx x) (.mp s 0 0) (.live 1 [[.nil]]):=f_box hx rfl rfl rfl
theorem f_boxU {f:Fn}{ds es:List D}(hx:evA n al x=.fn f ds es):Mk P H s n al (.box tx x) (.mp s 0 0) (.live 1 [[.fn f ds es]]):=f_box hx rfl rfl rfl
theorem f_boxA {cs:List D}{m:Nat}(hx:evA n al x=.agg cs)(hc:cs.all isCell=true)(hm:cs.length=m):Mk P H s n al (.box tx x) (.mp s 0 0) (.live m [cs]):=f_box hx rfl hc hm
theorem f_bsl {ps:List (Nat × Operand)}{len sz:Nat}{es:List (List D)}(h:zes P tx len (ps.map fun p=>(p.1,evA n al p.2))=some (sz,es)):Mk P H s n al (.buildSlice tx len ps.toArray) (.ms s 0 len len) (.live sz es):=by
 refine⟨?_⟩;simp only[zcp,zc7,h,zq]
theorem ze3 {te:TypeId}{z:List D}{m sz by':Nat}(hx:evA n al x=wI a)(hy:evA n al y=wI a)(he:zc3 P tx=some (te,sz))(hz:zdC P te=some z)(hl:z.length=sz)(h0:0 < sz)(hby:P.bytesOf te=by')(hm:a=m)(hb:by'*m≤281474976710656)(hb2:m≤9223372036854775807):
  Mk P H s n al (.makeSlice tx x y) (.ms s 0 m m) (.live sz (List.replicate m z)):=by
 subst hm;subst hl
 refine⟨?_⟩
 have hc:(0:Int)≤m∧(m:Int)≤m∧(P.bytesOf te:Int)*(m:Int)≤281474976710656∧(m:Int)≤9223372036854775807∧0 < z.length∧True:=
  ⟨by omega,Int.le_refl _,by rw[hby];have h:=Int.ofNat_le.2 hb;rw[zay] at h;omega,by omega,h0,trivial⟩
 have e:makeSliceD P tx (wI m) (wI m)=some (m,m,z.length,List.replicate m z):=by
  unfold makeSliceD
  simp only[intD,he,hz]
  exact if_pos hc
 simp only[zcp,zc7,hx,hy,e,zq]
theorem f_makeC {te:TypeId}{z:List D}{k m sz by':Nat}(hx:evA n al x=wI a)(hy:evA n al y=wI b)(he:zc3 P tx=some (te,sz))(hz:zdC P te=some z)(hl:z.length=sz)(h0:0 < sz)(hby:P.bytesOf te=by')(hk:a=k)(hm:b=m)(hkm:k≤m)(hb:by'*m≤281474976710656)(hb2:m≤9223372036854775807):
  Mk P H s n al (.makeSlice tx x y) (.ms s 0 k m) (.live sz (List.replicate m z)):=by
 subst hm;subst hl;subst hk
 refine⟨?_⟩
 have hc:(0:Int)≤k∧(k:Int)≤m∧(P.bytesOf te:Int)*(m:Int)≤281474976710656∧(m:Int)≤9223372036854775807∧0 < z.length∧True:=
  ⟨by omega,by omega,by rw[hby];have h:=Int.ofNat_le.2 hb;rw[zay] at h;omega,by omega,h0,trivial⟩
 have e:makeSliceD P tx (wI k) (wI m)=some (k,m,z.length,List.replicate m z):=by
  unfold makeSliceD
  simp only[intD,he,hz]
  exact if_pos hc
 simp only[zcp,zc7,hx,hy,e,zq]
structure Wr (P:Program)(H:List Blk)(s n:Nat)(al:AL)(op:Op)(b:Nat)(k:Blk):Prop where
 out:zcp P H s (T n al) op=some (.any,.upd b k)
theorem f_st {bk k f sz m:Nat}{es:List (List D)}{e cs e':List D}{d:D}(hx:evA n al x=.mp bk k f)(hb:H[bk]? = some (.live sz es))(hk:es[k]? = some e)(hd:evA n al y=d)(hcs:zcY d=cs)(hc:cs.all isCell=true)(hs:tsz P tx=some m)(hm:cs.length=m)
  (hl:f+m≤e.length) (he':splice e f cs=e'):Wr P H s n al (.store tx x y) bk (.live sz (es.set k e')):=by
 subst hd;subst hcs;subst hm;subst he'
 refine⟨?_⟩
 simp only[zcp,zc7,hx,storeD,hb,hk]
 rw[if_pos ⟨hc,hs,hl⟩];rfl
theorem zdR {bk k f sz m:Nat}{es:List (List D)}{e cs e':List D}(hx:evA n al x=.mp bk k f)(hb:H[bk]? = some (.live sz es))(hk:es[k]? = some e)(hd:evA n al y=.agg cs)(hc:cs.all isCell=true)(hs:tsz P tx=some m)(hm:cs.length=m)
  (hl:f+m≤e.length) (he':splice e f cs=e'):Wr P H s n al (.store tx x y) bk (.live sz (es.set k e')):=f_st hx hb hk hd rfl hc hs hm hl he'
theorem f_stV {bk k sz:Nat}{es:List (List D)}{d0 d:D}(hx:evA n al x=.mp bk k 0)(hb:H[bk]? = some (.live sz es))(hk:es[k]? = some [d0])(hd:evA n al y=d)(hc:zcY d=[d])(hc':isCell d=true)(hs:tsz P tx=some 1):
  Wr P H s n al (.store tx x y) bk (.live sz (es.set k [d])):=
 f_st hx hb hk hd hc (by simp[hc']) hs rfl (by simp) (by simp[splice])
structure Ap (P:Program)(H:List Blk)(s n:Nat)(al:AL)(op:Op)(m:Nat)(o:Option Nat)(k:Blk):Prop where
 out:zcp P H s (T n al) op=some (.ms s 0 m m,.ren o k)
theorem f_app {t t':TypeId}{d d':D}{o:Option Nat}{sz m:Nat}{es:List (List D)}(hx:evA n al x=d)(hy:evA n al y=d')(h:zew P H t t' d d'=some (o,sz,es))(hm:es.length=m)(hsb:sameB d d'=false):
  Ap P H s n al (.call { callee:=.builtin .append,args:=#[x,y],argTypes:=#[t,t'] }) m o (.live sz es):=by
 subst hx;subst hy;subst hm
 refine⟨?_⟩
 simp only[zcp,zy,z8,zc7,zdW,hsb,h,zq];rfl
structure ApC (P:Program)(H:List Blk)(s n:Nat)(al:AL)(op:Op)(m c b:Nat)(k:Blk):Prop where
 out:zcp P H s (T n al) op=some (.ms s 0 m c,.ren (some b) k)
theorem f_apC {t t':TypeId}{d d':D}{b sz m c:Nat}{es:List (List D)}(hx:evA n al x=d)(hy:evA n al y=d')(hsb:sameB d d'=true)(h:appendC P H t t' d d'=some (b,sz,m,c,es)):
  ApC P H s n al (.call { callee:=.builtin .append,args:=#[x,y],argTypes:=#[t,t'] }) m c b (.live sz es):=by
 subst hx;subst hy
 refine⟨?_⟩
 simp only[zcp,zy,z8,zc7,zdW,hsb,h,zq];rfl
end
section
variable {E:Ev}{ops r:List Oper}{n:Nat}{a:AL}{H H':List Blk}{g:Gst}{K:KA}{i:Tmp}{op:Op}{ty:TypeId}{pos:String}{aft:Array Edge}{d:D}
theorem zb9 (hv:Val E.P H H.length n a op d)(h:RT E ops r n ((i,d)::a) H g K):RT E ops (⟨some i,op,ty,pos,aft,none⟩::r) n a H g K:=RT.stepG (e:=.keep) rfl hv.out h
theorem zcI {s:Nat}{k:Blk}(hs:H.length=s)(hv:Mk E.P H s n a op d k)(hH:H++[k]=H')(h:RT E ops r n ((i,d)::a) H' g K):RT E ops (⟨some i,op,ty,pos,aft,none⟩::r) n a H g K:=by
 subst hs;subst hH;exact RT.stepG (e:=.put k) rfl hv.out h
theorem zdo {b:Nat}{k:Blk}(hv:Wr E.P H H.length n a op b k)(hH:H.set b k=H')(h:RT E ops r n a H' g K):RT E ops (⟨none,op,ty,pos,aft,none⟩::r) n a H g K:=by
 subst hH;exact RT.stepG (e:=.upd b k) rfl hv.out h
theorem zeH {s m:Nat}{o:Option Nat}{k:Blk}(hs:H.length=s)(hv:Ap E.P H s n a op m o k)(hH:killO H o++[k]=H')(h:RT E ops r n ((i,.ms s 0 m m)::a) H' g K):RT E ops (⟨some i,op,ty,pos,aft,none⟩::r) n a H g K:=by
 subst hs;subst hH;exact RT.stepG (e:=.ren o k) rfl hv.out h
theorem RT.apC {s m c b:Nat}{k:Blk}(hs:H.length=s)(hv:ApC E.P H s n a op m c b k)(hH:killO H (some b)++[k]=H')(h:RT E ops r n ((i,.ms s 0 m c)::a) H' g K):RT E ops (⟨some i,op,ty,pos,aft,none⟩::r) n a H g K:=by
 subst hs;subst hH;exact RT.stepG (e:=.ren (some b) k) rfl hv.out h
theorem RT.gc {l:List Oper}{o:Oper}{j:Nat}{w:Bool}{i:Nat}{p:Prop}[Decidable p](hg:o.guard=some (j,w))(hi:guardI ops j=some i)(he:lkN n a i=wB (decide p))(h1:p→RT E ops (o::l) n ((i,wB true)::a) H g K)(h2:¬p→RT E ops (o::l) n ((i,wB false)::a) H g K):RT E ops (o::l) n a H g K:=
 RT.case he (fun e=>h1 (of_decide_eq_true e)) fun e=>h2 (of_decide_eq_false e)
theorem RT.gb {l:List Oper}{o:Oper}{j:Nat}{w:Bool}{i:Nat}{b:Bool}(hg:o.guard=some (j,w))(hi:guardI ops j=some i)(he:lkN n a i=wB b)(h1:b=true→RT E ops (o::l) n ((i,wB true)::a) H g K)(h2:b=false→RT E ops (o::l) n ((i,wB false)::a) H g K):RT E ops (o::l) n a H g K:=
 RT.case he h1 h2
theorem zex {l:List Oper}{o:Oper}{j:Nat}{w:Bool}{i:Nat}{p:Prop}[Decidable p](hg:o.guard=some (j,w))(hi:guardI ops j=some i)(he:lkN n a i=wB (decide p))(hp:p)(h1:RT E ops (o::l) n ((i,wB true)::a) H g K):RT E ops (o::l) n a H g K:=
 RT.gc hg hi he (fun _=>h1) fun e=>absurd hp e
theorem zel {l:List Oper}{o:Oper}{j:Nat}{w:Bool}{i:Nat}{p:Prop}[Decidable p](hg:o.guard=some (j,w))(hi:guardI ops j=some i)(he:lkN n a i=wB (decide p))(hp:¬p)(h1:RT E ops (o::l) n ((i,wB false)::a) H g K):RT E ops (o::l) n a H g K:=
 RT.gc hg hi he (fun e=>absurd e hp) fun _=>h1
theorem zb4 {f:Operand}{args:List Operand}{tys:Array TypeId}{f':FuncId}{xs ys:List D}(hc:callA n a f args=some (f',xs))(hm:Maps E.P f' ys d)(hy:xs.map (snap (fun b=>H[b]?) 5)=ys)(hd:zeu 5 d=true)(h:RT E ops r n ((i,d)::a) H g K):
  RT E ops (⟨some i,.call { callee:=.value f,args:=args.toArray,argTypes:=tys },ty,pos,aft,none⟩::r) n a H g K:=by
 subst hy;exact zdL hc (call_fresh hm hd h)
end
section
variable {E:Ev}{ops r:List Oper}{base s:Nat}{hs:List Nat}{pl:List (Nat × List Nat)}{n:Nat}{a:AL}{H H':List Blk}{K:KP}{i:Tmp}{op:Op}{ty:TypeId}{pos:String}{aft:Array Edge}{d:D}
theorem zdi (hv:Val E.P (zcz base hs H) (base+s) n a op d)(h:PT E ops base pl r n ((i,d)::a) H K):PT E ops base ((s,hs)::pl) (⟨some i,op,ty,pos,aft,none⟩::r) n a H K:=PT.stepG (e:=.keep) rfl hv.out h
theorem PT.new {k:Blk}{s':Nat}(hs':base+s=s')(hv:Mk E.P (zcz base hs H) s' n a op d k)(hH:H.set s' k=H')(h:PT E ops base pl r n ((i,d)::a) H' K):PT E ops base ((s,hs)::pl) (⟨some i,op,ty,pos,aft,none⟩::r) n a H K:=by
 subst hs';subst hH;exact PT.stepG (e:=.put k) rfl hv.out h
theorem PT.wr {b:Nat}{k:Blk}(hv:Wr E.P (zcz base hs H) (base+s) n a op b k)(hH:H.set b k=H')(h:PT E ops base pl r n a H' K):PT E ops base ((s,hs)::pl) (⟨none,op,ty,pos,aft,none⟩::r) n a H K:=by
 subst hH;exact PT.stepG (e:=.upd b k) rfl hv.out h
theorem PT.ap {s' m:Nat}{o:Option Nat}{k:Blk}(hs':base+s=s')(hv:Ap E.P (zcz base hs H) s' n a op m o k)(hH:(killO H o).set s' k=H')(h:PT E ops base pl r n ((i,.ms s' 0 m m)::a) H' K):PT E ops base ((s,hs)::pl) (⟨some i,op,ty,pos,aft,none⟩::r) n a H K:=by
 subst hs';subst hH;exact PT.stepG (e:=.ren o k) rfl hv.out h
end
theorem zeg {d:D}{a b:Int}(hd:d=wI a)(h:b=a):DLe d (wI b):=by subst hd;subst h;exact .inr (.inl rfl)
theorem tX10 {p:Prop}(h:p:=by (repeat first|exact True.intro|refine And.intro ?_ ?_|exact Or.inr (Or.inl rfl)|exact Or.inl rfl|(refine zeg rfl ?_;omega)|(refine zeg rfl ?_;simp;done))):p:=h
theorem kpX {p:Prop}(h:p:=by exact tX10):p:=h
theorem DLe.b {d:D}{a b:Bool}(hd:d=wB a)(h:b=a):DLe d (wB b):=by subst hd;subst h;exact .inr (.inl rfl)
theorem DLe.e {d d':D}(h:d'=d):DLe d d':=.inr (.inl h)
end
end Go.DL
/- Which goal, which operation: each of these changes nothing; it goes through where its form fits. -/
namespace Go.DL
open Go.RowKit Go.Proofs
noncomputable section
section
variable {E:Ev}{ops l r:List Oper}{n:Nat}{a:AL}{H:List Blk}{g:Gst}{K:KA}{c:Code}{Q:KX}{dst:Option Tmp}{i:Tmp}{op:Op}{x y z:Operand}{tx ty ty':TypeId}{pos:String}{aft:Array Edge}{j:Nat × Bool}{f:Nat}{bo:BinOp}{uo:UnOp}
theorem zce {rs:List ResultVar}{R:D→List Blk→Gst→Prop}{P:Program}(h:kEnd P rs n R .ret a H g):kEnd P rs n R .ret a H g:=h
theorem d_kEn {rs:List ResultVar}{R:D→List Blk→Gst→Prop}{P:Program}(h:kEnd P rs n R .normal a H g):kEnd P rs n R .normal a H g:=h
theorem zck (h:VT E c n a H g Q):VT E c n a H g Q:=h
theorem zcj (h:RT E ops l n a H g K):RT E ops l n a H g K:=h
theorem d_g (h:RT E ops (⟨dst,op,ty,pos,aft,some j⟩::r) n a H g K):RT E ops (⟨dst,op,ty,pos,aft,some j⟩::r) n a H g K:=h
theorem zcw {cl:Call}(h:RT E ops (⟨dst,.call cl,ty,pos,aft,none⟩::r) n a H g K):RT E ops (⟨dst,.call cl,ty,pos,aft,none⟩::r) n a H g K:=h
theorem d_bld {ps:Array (Nat × Operand)}(h:RT E ops (⟨dst,.build tx ps,ty,pos,aft,none⟩::r) n a H g K):RT E ops (⟨dst,.build tx ps,ty,pos,aft,none⟩::r) n a H g K:=h
end
section
variable {E:Ev}{ops l r:List Oper}{base:Nat}{pl:List (Nat × List Nat)}{n:Nat}{a:AL}{H:List Blk}{K:KP}{dst:Option Tmp}{i:Tmp}{op:Op}{x y z:Operand}{tx ty ty':TypeId}{pos:String}{aft:Array Edge}{j:Nat × Bool}{f:Nat}{bo:BinOp}{uo:UnOp}
theorem zd3 (h:PT E ops base pl l n a H K):PT E ops base pl l n a H K:=h
theorem p_g (h:PT E ops base pl (⟨dst,op,ty,pos,aft,some j⟩::r) n a H K):PT E ops base pl (⟨dst,op,ty,pos,aft,some j⟩::r) n a H K:=h
theorem p_call {cl:Call}(h:PT E ops base pl (⟨dst,.call cl,ty,pos,aft,none⟩::r) n a H K):PT E ops base pl (⟨dst,.call cl,ty,pos,aft,none⟩::r) n a H K:=h
end
theorem nrm:(∀(α:Type) (x:α) (l m:List α),x::l++m=x::(l++m))∧(∀(α:Type) (l:List α),[]++l=l)∧(∀(α:Type) (l:List α),l++[]=l)∧(∀(α:Type) (x y:α) (l:List α),(x::l).set 0 y=y::l)∧
  (∀(α:Type) (x y:α) (l:List α) (n:Nat),(x::l).set (n+1) y=x::l.set n y)∧(∀(α:Type) (x:α) (l:List α),(x::l).length=l.length+1)∧(∀(α:Type),([]:List α).length=0)∧
  (∀(α β:Type) (f:α→β) (x:α) (l:List α),(x::l).map f=f x::l.map f)∧(∀(α β:Type) (f:α→β),[].map f=[])∧(∀(α:Type) (x y:α) (l:List α),(x::y::l).dropLast=x::(y::l).dropLast)∧(∀(α:Type) (x:α),[x].dropLast=[])∧
  (∀(H:List Blk),killO H none=H)∧(∀(H:List Blk) (b:Nat),killO H (some b)=H.set b .dead)∧(∀(α:Type) (x:α) (l:List α) (n:Nat),(x::l).take (n+1)=x::l.take n)∧(∀(α:Type) (l:List α),l.take 0=[])∧
  (∀(α:Type) (x:α) (l:List α) (n:Nat),(x::l).drop (n+1)=l.drop n)∧(∀(α:Type) (l:List α),l.drop 0=l)∧(∀(e ds:List D) (f:Nat),splice e f ds=e.take f++ds++e.drop (f+ds.length))∧
  (∀v,lowD (.v v)=.v v)∧(∀es,lowD (.sl es)=.sl es)∧(∀es,lowD (.fl es)=.sl es)∧(∀(α:Type) (n:Nat) (x:α),List.replicate (n+1) x=x::List.replicate n x)∧(∀(α:Type) (x:α),List.replicate 0 x=[])∧
  (∀(α:Type) (n:Nat),([]:List α).take n=[])∧(∀(α:Type) (n:Nat),([]:List α).drop n=[]):=
 ⟨fun _ _ _ _=>rfl,fun _ _=>rfl,fun _ _=>zN _,fun _ _ _ _=>rfl,fun _ _ _ _ _=>rfl,fun _ _ _=>rfl,fun _=>rfl,fun _ _ _ _ _=>rfl,fun _ _ _=>rfl,fun _ _ _ _=>rfl,fun _ _=>rfl,fun _=>rfl,fun _ _=>rfl,fun _ _ _ _=>rfl,fun _ _=>rfl,fun _ _ _ _=>rfl,fun _ _=>rfl,fun _ _ _=>rfl,fun _=>rfl,fun _=>rfl,fun _=>rfl,fun _ _ _=>rfl,fun _ _=>rfl,fun _ _=>List.take_nil,fun _ _=>List.drop_nil⟩
theorem tX19 {p:Prop}(h:p:=by first|(simp only[nrm];rfl)|(simp only[nrm,Nat.reduceAdd,zQ];rfl)|rfl):p:=h
theorem nrX {p:Prop}(h:p:=by exact tX19):p:=h
theorem zdZ {E:Ev}{ops r:List Oper}{n:Nat}{a:AL}{H:List Blk}{g:Gst}{K:KA}{i:Tmp}{f:Operand}{args:List Operand}{tys:Array TypeId}{ty:TypeId}{pos:String}{aft:Array Edge}{f':FuncId}{xs ys:List D}{d d2:D}{H1 H2:List Blk}
  (hc:callA n a f args=some (f',xs)) (hs:CallSp E.P f' ys H fun d' H'=>d'=d∧H'=H1) (hy:xs=ys) (hd:d=d2) (hH:H1=H2) (h:RT E ops r n ((i,d2)::a) H2 g K):
  RT E ops (⟨some i,.call { callee:=.value f,args:=args.toArray,argTypes:=tys },ty,pos,aft,none⟩::r) n a H g K:=by
 subst hy;subst hd;subst hH
 exact zdL hc (hs.mono fun d' H' ⟨h1,h2⟩=>by subst h1;subst h2;exact h)
def stab1:D→Bool
 |.v _|.sl _|.rp _|.any=>true
 |.fn _ [] []=>true
 |_=>false
theorem stab1_snap {d:D}(h:stab1 d=true)(lk:Nat→Option Blk)(k:Nat):snap lk k d=d:=by
 unfold stab1 at h
 split at h<;>first|(cases k<;>rfl)|cases h
theorem stab1_low {d:D}(h:stab1 d=true)(k K:Nat):zdq (k+1) K d=true:=by
 unfold stab1 at h
 split at h<;>first|rfl|cases h
theorem zei {cs:List D}(h:cs.all stab1=true)(lk:Nat→Option Blk)(k:Nat):cs.map (snap lk k)=cs:=by
 rw[zh] at h
 conv=>rhs;rw[←List.map_id cs]
 exact zI fun d hd=>stab1_snap (h d hd) lk k
theorem stab_low {cs:List D}(h:cs.all stab1=true)(k K:Nat):cs.all (zdq (k+1) K)=true:=by
 rw[zh] at h ⊢
 exact fun d hd=>stab1_low (h d hd) k K
theorem flat_fn {f:Fn}{cs:List D}(h:cs.all stab1=true):flat (.fn f [] cs)=true:=by
 simp only[flat,List.all_nil,zaS]
 rw[zh] at h ⊢
 intro d hd
 have:=h d hd
 unfold stab1 at this
 split at this<;>first|rfl|cases this
end
end Go.DL
/- Lists of words in blocks of one's own; an own block that becomes read-only. -/
namespace Go.DL
open Go.RowKit Go.Proofs
noncomputable section
def eI (x:Int):List D:=[wI x]
theorem eI_all (o:List Int)(p:D→Bool)(h:∀x,p (wI x)=true):(o.map eI).all (fun e=>e.all p)=true:=by
 simp[eI,h]
theorem eI_map (o:List Int)(f:D→D)(h:∀x,f (wI x)=wI x):(o.map eI).map (List.map f)=o.map eI:=by
 rw[zaa];refine zI fun x _=>?_
 simp[eI,h]
theorem snapW {lk:Nat→Option Blk}{b m cap k:Nat}{o:List Int}(h:lk b=some (.live 1 (o.map eI)))(hm:m=o.length):snap lk (k+1) (.ms b 0 m cap)=.sl (o.map eI):=by
 subst hm
 simp only[snap,h,zQ,ze,zf,if_true,zS]
 rw[zg (by simp),eI_map _ _ fun x=>by cases k<;>rfl]
theorem snapRW {lk:Nat→Option Blk}{b m cap k:Nat}{o:List Int}(h:lk b=some (.live 1 (o.map eI)))(hm:m=o.length):snapR lk (k+1) (.ms b 0 m cap)=.fl (o.map eI):=by
 subst hm
 simp only[snapR,h,zQ,ze,zf,if_true,zS]
 rw[if_pos (eI_all _ _ fun x=>by cases k<;>rfl),zg (by simp),eI_map _ _ fun x=>by cases k<;>rfl]
theorem zd2 (o:List Int)(K:Nat):BlkBelow K (.live 1 (o.map eI)):=by
 intro e he d hd
 simp only[zt] at he
 obtain⟨x,_,rfl⟩:=he
 simp only[eI,zC] at hd
 subst hd;rfl
section
variable {P:Program}{n s:Nat}{al:AL}{H:List Blk}{x y z:Operand}{tx ty':TypeId}{a b:Int}
theorem f_ldW {bk k:Nat}{o:List Int}(hx:evA n al x=.mp bk k 0)(hb:H[bk]? = some (.live 1 (o.map eI)))(hk:k < o.length)(ht:zdT P tx=some false):Val P H s n al (.load tx x) (wI o[k]):=
 zcB hx hb (e:=eI o[k]) (by simp[hk]) rfl ht
theorem zeB {bk k:Nat}{o:List Int}(hx:evA n al x=.mp bk k 0)(hb:H[bk]? = some (.live 1 (o.map eI)))(hk:k < o.length)(hy:evA n al y=wI a)(hs:tsz P tx=some 1):Wr P H s n al (.store tx x y) bk (.live 1 ((o.set k a).map eI)):=by
 have h:=f_stV (s:=s) (P:=P) (tx:=tx) (sz:=1) (d0:=wI o[k]) hx hb (by simp[hk,eI]) hy rfl rfl hs
 rw[zaB];exact h
theorem f_makeW {te:TypeId}{m:Nat}(hx:evA n al x=wI a)(hy:evA n al y=wI a)(he:zc3 P tx=some (te,1))(hz:zdC P te=some [wI 0])(hby:P.bytesOf te=8)(hm:a=m)(hb:m≤35184372088832):
  Mk P H s n al (.makeSlice tx x y) (.ms s 0 m m) (.live 1 ((List.replicate m 0).map eI)):=by
 rw[zaN]
 exact ze3 hx hy he hz rfl (by decide) hby hm (by omega) (by omega)
theorem ze1 {te:TypeId}(hx:evA n al x=wI a)(he:zc3 P tx=some (te,1))(hz:zdC P te=some [wI 0]):Mk P H s n al (.buildSlice tx 1 #[(0,x)]) (.ms s 0 1 1) (.live 1 ([a].map eI)):=
 f_bsl (ps:=[(0,x)]) (by simp[zes,he,hz,rowsD,hx,zcY,isCell,eI,List.replicate];rfl)
theorem tX18 {p:Prop}(h:p:=by first|rfl|exact sameB_full (zf _)|exact sameB_full (by omega)|exact sameB_ne (by omega)):p:=h
theorem f_appW {te:TypeId}{m c m' c' b1 b2:Nat}{o v:List Int}(hx:evA n al x=.ms b1 0 m c)(hy:evA n al y=.ms b2 0 m' c')(hb1:H[b1]? = some (.live 1 (o.map eI)))(hb2:H[b2]? = some (.live 1 (v.map eI)))(hm:m=o.length)(hm':m'=v.length)
  (he:zc3 P tx=some (te,1)) (hz:zdC P te=some [wI 0]) (hby:P.bytesOf te=8) (hl:o.length+v.length≤17592186044416) (hsb:sameB (.ms b1 0 m c) (.ms b2 0 m' c')=false:=by exact tX18):
  Ap P H s n al (.call { callee:=.builtin .append,args:=#[x,y],argTypes:=#[tx,tx] }) (o++v).length (some b1) (.live 1 ((o++v).map eI)):=by
 subst hm;subst hm'
 have hu:P.underlying tx=some (.slice te):=by
  unfold zc3 at he
  split at he
  ·rename_i e hu;simp only[zd] at he;obtain⟨_,_,h⟩:=he;cases h;exact hu
  ·cases he
 refine f_app hx hy ?_ (by simp) hsb
 have e1:zcF H (.ms b1 0 o.length c)=some (o.map eI):=by
  simp only[zcF,hb1,zQ,ze,zf,if_true,zS]
  rw[zg (by simp)]
 have e2:zcF H (.ms b2 0 v.length c')=some (v.map eI):=by
  simp only[zcF,hb2,zQ,ze,zf,if_true,zS]
  rw[zg (by simp)]
 simp only[zew,addedD,he,hu,e1,e2]
 rw[if_pos]
 ·simp only[hb1,zcZ];simp
 ·refine⟨by decide,by rw[hz];rfl,by simp[eI],by simp[eI],eI_all _ _ fun x=>rfl,?_,?_⟩
  ·rw[hby,ze,ze];omega
  ·rw[ze,ze];omega
theorem f_appZ {te ti:TypeId}{ki:IntKind}{m c b1:Nat}{o:List Int}{k:Int}(hx:evA n al x=.ms b1 0 m c)(hy:evA n al y=wI k)(hb1:H[b1]? = some (.live 1 (o.map eI)))(hm:m=o.length)(hk:0≤k)
  (he:zc3 P tx=some (te,1)) (hti:P.underlying ti=some (.int ki)) (hz:zdC P te=some [wI 0]) (hby:P.bytesOf te=8) (hl:(o.length:Int)+k≤17592186044416):
  Ap P H s n al (.call { callee:=.builtin .append,args:=#[x,y],argTypes:=#[tx,ti] }) (o++List.replicate k.toNat 0).length (some b1) (.live 1 ((o++List.replicate k.toNat 0).map eI)):=by
 subst hm
 refine f_app hx hy ?_ (by simp) rfl
 have e1:zcF H (.ms b1 0 o.length c)=some (o.map eI):=by
  simp only[zcF,hb1,zQ,ze,zf,if_true,zS]
  rw[zg (by simp)]
 have e2:addedD P H te ti (wI k)=some (List.replicate k.toNat [wI 0]):=by
  simp only[addedD,hti,wI,hk,if_true,hz,zq]
 have e3:(o++List.replicate k.toNat 0).map eI=o.map eI++List.replicate k.toNat [wI 0]:=by
  rw[zW,zaN];rfl
 rw[e3]
 simp only[zew,he,e1,e2]
 rw[if_pos]
 ·simp only[hb1,zcZ];simp
 ·refine⟨by decide,by rw[hz];rfl,by simp[eI],by simp,?_,?_,?_⟩
  ·rw[zh];intro x hx;rw[zaL hx];rfl
  ·rw[hby,ze,z7];omega
  ·rw[ze,z7];omega
end
theorem T_map (n:Nat)(a:AL)(f:D→D)(hf:f .any=.any):(T n a).map f=T n (a.map fun p=>(p.1,f p.2)):=by
 unfold T
 rw[zaa]
 refine zI fun i _=>?_
 simp only[Function.comp]
 induction a with
 |nil=>exact hf
 |cons p a ih=>
  obtain⟨k,d⟩:=p
  simp only[zy,lk]
  cases Nat.beq k i with
  |true=>rfl
  |false=>exact ih
def Sl (n:Nat)(a:AL)(b:Nat)(es:List (List D)):AL→Prop
 |[]=>True
 |(i,d)::r=>(d=.any∨d=sealD b es (lkN n a i))∧Sl n a b es r
theorem Sl.hd {n:Nat}{a:AL}{b:Nat}{es:List (List D)}:∀{a':AL},Sl n a b es a'→Hd n (a.map fun p=>(p.1,sealD b es p.2)) a'
 |[],_=>trivial
 |(i,d)::r,h=>by
  refine⟨?_,h.2.hd⟩
  rcases h.1 with e|e
  ·exact .inl e
  ·refine .inr (.inl ?_)
   rw[e]
   unfold lkN
   cases Nat.blt i n with
   |false=>rfl
   |true=>
    simp only[cond_true]
    clear h e
    induction a with
    |nil=>rfl
    |cons p a ih=>
     obtain⟨k,d⟩:=p
     simp only[zy,lk]
     cases Nat.beq k i with
     |true=>rfl
     |false=>exact ih
theorem VT.sealUp {E:Ev}{n:Nat}{a:AL}{H H':List Blk}{g:Gst}{c:Code}{Q:KX}(b:Nat)(a':AL){sz:Nat}{es:List (List D)}(hb:H[b]? = some (.live sz es))(hf:(es.all fun e=>e.all pur)=true)(hN:E.N≤b)(hA:Sl n a b es a')
  (hH:(H.map (sealB b es)).set b .dead=H') (hl:(a'.all fun p=>zdq 4 H'.length p.2)=true) (hbb:∀b∈H',BlkBelow H'.length b) (h:VT E c n a' H' g Q):VT E c n a H g Q:=by
 subst hH
 refine⟨fun ro G hE ds ac w ⟨A,φ,hr⟩=>?_⟩
 have h1:=hr.sealUp hE.st hb (fun i e j d h1 h2=>zh.1 (zh.1 hf e (zm h1)) d (zm h2))
 rw[T_map _ _ _ rfl] at h1
 have hlt:b < H.length:=(za.1 hb).1
 refine h.out ro G hE ds ac w (Fg.fr (N:=E.N) ⟨hA.hd,?_,?_,hl,hbb⟩ hE.st hE.le ⟨_,_,h1⟩)
 ·rw[zg (by simp)]
 ·simp;omega
theorem sealW {b m cap:Nat}{o:List Int}(hm:m=o.length):DL.sealD b (o.map eI) (.ms b 0 m cap)=.fl (o.map eI):=by
 subst hm
 simp only[sealD,if_true,sealS,zQ,ze,zf,zS]
 rw[if_pos (eI_all _ _ fun x=>rfl),zg (by simp),eI_map _ _ fun x=>rfl]
theorem sealBW {b:Nat}{es:List (List D)}{o:List Int}:DL.sealB b es (.live 1 (o.map eI))=.live 1 (o.map eI):=by
 simp only[sealB];rw[eI_map _ _ fun x=>rfl]
theorem purW (o:List Int):((o.map eI).all fun e=>e.all pur)=true:=eI_all _ _ fun x=>rfl
theorem zdN {K:Nat}:∀b,b∈([]:List Blk)→BlkBelow K b:=fun _ h=>by cases h
theorem zcJ {K:Nat}{x:Blk}{l:List Blk}(h:BlkBelow K x)(hs:∀b,b∈l→BlkBelow K b):∀b,b∈x::l→BlkBelow K b:=fun b hb=>by
 rcases zH.1 hb with e|e
 ·rw[e];exact h
 ·exact hs b e
theorem bb_dead {K:Nat}:BlkBelow K .dead:=trivial
theorem bb_free {K:Nat}:BlkBelow K .free:=trivial
theorem zdg {K sz:Nat}{es:List (List D)}(h:(es.all fun e=>e.all (zdq 4 K))=true):BlkBelow K (.live sz es):=fun e he d hd=>
 zh.1 (zh.1 h e he) d hd
theorem bn_nil {k s:Nat}:∀b,b∈([]:List Blk)→BlkNo k s b:=fun _ h=>by cases h
theorem bn_cons {k s:Nat}{x:Blk}{l:List Blk}(h:BlkNo k s x)(hs:∀b,b∈l→BlkNo k s b):∀b,b∈x::l→BlkNo k s b:=fun b hb=>by
 rcases zH.1 hb with e|e
 ·rw[e];exact h
 ·exact hs b e
theorem bn_dead {k s:Nat}:BlkNo k s .dead:=trivial
theorem bn_free {k s:Nat}:BlkNo k s .free:=trivial
theorem bn_lit {k s sz:Nat}{es:List (List D)}(h:(es.all fun e=>e.all (noB 4 k s))=true):BlkNo k s (.live sz es):=fun e he d hd=>
 zh.1 (zh.1 h e he) d hd
theorem eI_no (o:List Int)(k s:Nat):BlkNo k s (.live 1 (o.map eI)):=by
 intro e he d hd
 simp only[zt] at he
 obtain⟨x,_,rfl⟩:=he
 simp only[eI,zC] at hd
 subst hd;rfl
end
end Go.DL
