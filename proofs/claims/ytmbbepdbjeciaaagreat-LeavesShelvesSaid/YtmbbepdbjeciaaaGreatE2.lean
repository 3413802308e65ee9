/- Append over abstract values: the old block is given up, a new one holds the old elements and the new ones. -/
import Derived.Test.YtmbbepdbjeciaaaGreatE1
import Derived.Laws.AppendOwn
import Derived.Shelf.Abstract
import Derived.TacticsIn
import Derived.RangeFuncRecord
namespace Go.DL
open Go.RowKit
noncomputable section
section
variable {A:Rd}{w:World}{φ:Nat→Loc}{P:Program}{H Hm:List Blk}
theorem cell_heap {w W:World}(h:W.heap=w.heap)(a:Addr):W.cell? a=w.cell? a:=by simp[World.cell?,h]
theorem cells_ok {n off s:Nat}{es:List (List D)}(hlen:∀(i:Nat) (e:List D),es[i]? = some e→e.length=s)
  (hc:∀(i:Nat) (e:List D) (j:Nat) (d:D),es[i]? = some e→e[j]? = some d→∃y,w.cell? ⟨n,off+i*s+j,none⟩=some y∧V A w φ d y):
  ∃vs,RR A w φ s es vs∧∀W:World,W.heap=w.heap→(loadCells ⟨n,off,none⟩ (es.length*s)).run P W=.ok vs W:=by
 refine⟨((List.range (es.length*s)).map fun k=>(w.cell? ⟨n,off+k,none⟩).getD default).toArray,⟨by simp,hlen,fun i e j d he hd=>?_⟩,fun W hW=>?_⟩
 ·obtain⟨y,hy,hv⟩:=hc i e j d he hd
  refine⟨y,?_,hv⟩
  have hi:i < es.length:=(za.1 he).1
  have hj:j < s:=by rw[←hlen i e he];exact (za.1 hd).1
  have hlt:i*s+j < es.length*s:=by
   have:i*s+s≤es.length*s:=by rw[←zax];exact zL _ hi
   omega
  simp only[zbj,zl,zbN hlt,zq]
  rw[←zaD,hy];rfl
 ·refine run_loadCells W ⟨n,off,none⟩ (es.length*s) _ fun k hk=>?_
  rw[add_none,cell_heap hW]
  have hs:0 < s:=by
   rcases zag s with h|h
   ·subst h;simp at hk
   ·exact h
  have hi:k / s < es.length:=by rw[Nat.div_lt_iff_lt_mul hs];exact hk
  have hj:k%s < s:=zbq _ hs
  have he:=zb hi
  have hj':k%s < (es[k / s]).length:=by rw[hlen _ _ he];exact hj
  obtain⟨y,hy,_⟩:=hc (k / s) _ (k%s) _ he (zb hj')
  rw[zaD,zbn,zbP] at hy
  rw[hy];rfl
theorem elems_ok (hr:RH A φ w H)(hsub:Sub Hm H){d:D}{u:Value}{es:List (List D)}{s:Nat}(h:V A w φ d u)(he:zcF Hm d=some es)
  (hlen:∀(i:Nat) (e:List D),es[i]? = some e→e.length=s):
  ∃a cap vs,u=.slice a es.length cap∧RR A w φ s es vs∧∀W:World,W.heap=w.heap→(Builtin.firstCells s es.length u).run P W=.ok vs W:=by
 have empty:∀{a:Option Addr} {cap:Nat},es=[]→u=.slice a 0 cap→∃a cap vs,u=.slice a es.length cap∧RR A w φ s es vs∧
   ∀W:World,W.heap=w.heap→(Builtin.firstCells s es.length u).run P W=.ok vs W:=fun {a cap} h1 h2=>by
  subst h1;subst h2
  refine⟨a,cap,#[],rfl,⟨by simp,by simp,by simp⟩,fun W _=>?_⟩
  cases a with
  |none=>simp[Builtin.firstCells]
  |some a=>simp[Builtin.firstCells,loadCells,loadCellsFrom]
 have hfl:∀{fs:List (List D)},d=.fl fs→V A w φ (.sl fs) u:=fun {fs} e=>by subst e;exact h.of_fl
 have hsl:∀{fs:List (List D)},fs.map (List.map lowD)=es→V A w φ (.sl fs) u→∃a cap vs,u=.slice a es.length cap∧RR A w φ s es vs∧
   ∀W:World,W.heap=w.heap→(Builtin.firstCells s es.length u).run P W=.ok vs W:=fun {fs} e h=>by
  cases h with
  |sl0 _ a cap=>exact empty (by simpa using e.symm) rfl
  |sl _ fs n off sz cap v ha hcap hsz hc hh=>
   have hlf:es.length=fs.length:=by rw[←e];simp
   rcases zag fs.length with hz|hz
   ·have hn:fs=[]:=zU hz
    exact empty (by subst hn;simpa using e.symm) (by rw[hn];rfl)
   ·have hsz':sz=s:=by
     have h0:=zb hz
     have h1:es[0]? = some (fs[0].map lowD):=by rw[←e];simp[hz]
     have:=hlen 0 _ h1
     rw[←hsz 0 _ h0,←this];simp
    subst hsz'
    obtain⟨vs,h1,h2⟩:=cells_ok (P:=P) (A:=A) (w:=w) (φ:=φ) (n:=n) (off:=off) hlen fun i e' j d he hd=>by
     rw[←e] at he
     simp only[zl,zd] at he
     obtain⟨e0,he,rfl⟩:=he
     simp only[zl,zd] at hd
     obtain⟨d0,hd,rfl⟩:=hd
     exact⟨_,hc i e0 j d0 he hd,(hh i e0 j d0 he hd).low⟩
    rw[hlf] at h2 ⊢
    exact⟨_,_,vs,rfl,h1,h2⟩
 unfold zcF at he
 split at he
 ·cases he;exact hsl rfl h
 ·cases he;exact hsl rfl (hfl rfl)
 ·cases he
  cases h with
  |nil _ a=>exact empty rfl rfl
 ·rename_i b off len cap0
  split at he
  ·rename_i sz fs hb
   split at he
   ·rename_i hol
    cases he
    have hl:((fs.take (off+len)).drop off).length=len:=by simp;omega
    cases h with
    |ms _ _ _ _ _ cap' a h1 h2 h3=>
     rcases hr.live b sz fs (hsub _ _ _ hb) with⟨rfl,hp⟩|⟨n,base,room,c,ty,hp,hlive⟩
     ·simp at hol;obtain⟨rfl,rfl⟩:=hol
      exact empty (by simp) rfl
     ·rw[hp] at h3
      obtain⟨h4,h5⟩:=h3
      rcases zag len with hz|hz
      ·subst hz
       exact empty (zU hl) rfl
      ·have ha:a=some ⟨n,base+off*sz,none⟩:=h5.resolve_left (by omega)
       subst ha
       have hget:∀(i:Nat) (e:List D),((fs.take (off+len)).drop off)[i]? = some e→fs[off+i]? = some e:=fun i e he=>by
        rw[zV,z5] at he
        split at he
        ·exact he
        ·cases he
       have hsz':sz=s:=by
        have h0:0 < ((fs.take (off+len)).drop off).length:=by omega
        have h6:=zb h0
        rw[←hlive.len _ _ (hget 0 _ h6),hlen 0 _ h6]
       subst hsz'
       obtain⟨vs,k1,k2⟩:=cells_ok (P:=P) (A:=A) (φ:=φ) (w:=w) (n:=n) (off:=base+off*sz) hlen fun i e j d he hd=>by
        obtain⟨y,hy,hv⟩:=hlive.val _ _ _ _ (hget i e he) hd
        refine⟨y,?_,hv⟩
        rw[zer hlive.blk,show base+off*sz+i*sz+j=base+(off+i)*sz+j by rw[zad];omega]
        exact hy
       rw[hl] at k2 ⊢
       exact⟨_,_,vs,rfl,k1,k2⟩
   ·cases he
  ·cases he
 ·cases he
theorem zeroCells_zero (z:Array Value):Builtin.zeroCells z 0=#[]:=by simp[Builtin.zeroCells]
theorem wrap0:IntKind.i64.wrap 0=0:=by decide
inductive Added (P:Program)(t':TypeId)(i:TypeInfo)(zv:Value)(m:Nat)(v:Value)(vs:Array Value)(w:World):Prop
 |sl {e':TypeId} {vb:Option Addr} {vcap:Nat} (hu:P.underlying t'=some (.slice e')) (hv:v=.slice vb m vcap) (h:∀W:World,W.heap=w.heap→(Builtin.firstCells i.size m v).run P W=.ok vs W)
 |mk {k:IntKind} (hu:P.underlying t'=some (.int k)) (hv:v=.int .i64 m) (h:vs=Builtin.zeroCells zv.cells m)
section
variable {t t' ty e:TypeId}{i:TypeInfo}{zv v:Value}{ub:Option Addr}{n m ucap:Nat}{us vs:Array Value}
 (ht:P.underlying t=some (.slice e)) (hi:P.info? e=some i) (hzv:i.zero=some zv) (ha:Added P t' i zv m v vs w)
theorem app_fit (ht:P.underlying t=some (.slice e))(hi:P.info? e=some i)(hzv:i.zero=some zv)(ha:Added P t' i zv m v vs w)(hroom:n+m≤ucap)(hs:0 < i.size)(h63:n+m≤9223372036854775807)(hby:(n+m)*i.bytes≤140737488355328):
  (Builtin.append_ #[t,t'] ty #[.slice ub n ucap,v]).run P w=
   match ub with
   |some a=>((storeCells (a.add (n*i.size)) vs.toList).run P w).andThen fun _ w'=>.ok (.slice ub (n+m) ucap) w'
   |none=>.ok (.slice ub (n+m) ucap) w:=by
 cases ha with
 |sl hu hv h=>
  subst hv
  have hvl:=h w rfl
  cases ub<;>simp[Builtin.append_,run_underlying ht,run_underlying hu,sizeOf,typeInfo,hi,Builtin.lenOf,hroom,hvl]
 |mk hu hv h=>
  subst hv;subst h
  have h1:IntKind.i64.wrap (m:Int)=m:=by rw[IntKind.wrap_i64];omega
  have h2:¬((m:Int) < 0):=by omega
  have h3:¬((281474976710656:Int) < (m:Int)*(i.bytes:Int)):=by
   have:m*i.bytes≤(n+m)*i.bytes:=zL _ (by omega)
   have h4:(m:Int)*(i.bytes:Int)=((m*i.bytes:Nat):Int):=by simp
   rw[h4];omega
  rcases zag m with rfl|hm
  ·have hroom':n≤ucap:=hroom
   cases ub<;>simp[Builtin.append_,run_underlying ht,run_underlying hu,sizeOf,typeInfo,hi,asInt,asIntOf,wrap0,h1,hroom',zeroValue,hzv,zeroCells_zero]
  ·have h5:¬(m*i.size=0):=Nat.ne_of_gt (Nat.mul_pos hm hs)
   cases ub<;>simp[Builtin.append_,run_underlying ht,run_underlying hu,sizeOf,typeInfo,hi,asInt,asIntOf,wrap0,h1,h2,h3,h5,hroom,zeroValue,hzv]
theorem app_grow (ht:P.underlying t=some (.slice e))(hi:P.info? e=some i)(hzv:i.zero=some zv)(ha:Added P t' i zv m v vs w)(hg:ucap < n+m)(hs:0 < i.size)(h63:n+m≤9223372036854775807)(hby:(n+m)*i.bytes≤140737488355328)
  (hul:(Builtin.firstCells i.size n (.slice ub n ucap)).run P w.drew=.ok us w.drew):
  (Builtin.append_ #[t,t'] ty #[.slice ub n ucap,v]).run P w=
   .ok (.slice (some ⟨w.heap.size,0,none⟩) (n+m) (grownCap w (n+m) ucap e))
    (w.drew.alloc (.cells (us++vs++Builtin.zeroCells zv.cells (grownCap w (n+m) ucap e-(n+m))) e)):=by
 have hn:¬(n+m≤ucap):=by omega
 have h63':¬(9223372036854775807 < ((n:Int)+(m:Int))):=by omega
 have hfit:=growslice_fits hg hby
 have h48':¬(281474976710656 < Builtin.nextslicecap (n+m) ucap*i.bytes):=by omega
 cases ha with
 |sl hu hv h=>
  subst hv
  have hvl:=h w.drew rfl
  simp[Builtin.append_,run_underlying ht,run_underlying hu,sizeOf,typeInfo,zeroValue,hi,hzv,Builtin.lenOf,hn,h63',h48',Question.forced,hvl,hul,newRow,grownCap]
 |mk hu hv h=>
  subst hv;subst h
  have h1:IntKind.i64.wrap (m:Int)=m:=by rw[IntKind.wrap_i64];omega
  have h2:¬((m:Int) < 0):=by omega
  have h3:¬((281474976710656:Int) < (m:Int)*(i.bytes:Int)):=by
   have:m*i.bytes≤(n+m)*i.bytes:=zL _ (by omega)
   have h4:(m:Int)*(i.bytes:Int)=((m*i.bytes:Nat):Int):=by simp
   rw[h4];omega
  rcases zag m with rfl|hm
  ·simp only[za6] at*
   have h6:¬(9223372036854775807 < (n:Int)):=by omega
   simp[Builtin.append_,run_underlying ht,run_underlying hu,sizeOf,typeInfo,zeroValue,hi,hzv,asInt,asIntOf,wrap0,h1,h6,hn,h63',h48',Question.forced,hul,newRow,grownCap,zeroCells_zero]
  ·have h5:¬(m*i.size=0):=Nat.ne_of_gt (Nat.mul_pos hm hs)
   simp[Builtin.append_,run_underlying ht,run_underlying hu,sizeOf,typeInfo,zeroValue,hi,hzv,asInt,asIntOf,wrap0,h1,h2,h3,h5,hn,h63',h48',Question.forced,hul,newRow,grownCap]
end
theorem RR.append {sz:Nat}{es xs:List (List D)}{us vs:Array Value}(h:RR A w φ sz es us)(k:RR A w φ sz xs vs):RR A w φ sz (es++xs) (us++vs):=by
 refine⟨by simp[h.size,k.size,zad],fun i e he=>?_,fun i e j d he hd=>?_⟩
 ·rw[zan] at he
  split at he
  ·exact h.len i e he
  ·exact k.len _ e he
 ·rw[zan] at he
  split at he
  ·rename_i hi
   obtain⟨y,hy,hv⟩:=h.val i e j d he hd
   have hj:j < sz:=by rw[←h.len i e he];exact (za.1 hd).1
   have:i*sz+j < us.size:=(z3.1 hy).1
   exact⟨y,by rw[zaV this];exact hy,hv⟩
  ·rename_i hi
   obtain⟨y,hy,hv⟩:=k.val _ e j d he hd
   refine⟨y,?_,hv⟩
   have hmul:(i-es.length)*sz+es.length*sz=i*sz:=by rw[←zad];congr 1;omega
   rw[Array.getElem?_append_right (by rw[h.size];omega),h.size,←hy]
   congr 1;omega
theorem RR.one {sz:Nat}{xs:List (List D)}{vs:Array Value}(h:RR A w φ sz xs vs)(hsz:0 < sz)(hc:xs.all (fun e=>e.all isCell)=true):∀y∈vs.toList,y.oneCell'=true:=fun y hy=>by
 obtain⟨k,hk,rfl⟩:=zav.1 hy
 simp only[zaI,h.size] at hk
 have hi:k / sz < xs.length:=by rw[Nat.div_lt_iff_lt_mul hsz];exact hk
 have hg:=zb hi
 have hj:k%sz < (xs[k / sz]).length:=by rw[h.len _ _ hg];exact zbq _ hsz
 have hd:=zb hj
 obtain⟨y,hy1,hy2⟩:=h.val _ _ _ _ hg hd
 rw[zbn,zbP] at hy1
 rw[zh] at hc
 have hcell:=hc _ (zi hi)
 rw[zh] at hcell
 have:=hy2.isCell (hcell _ (zi hj))
 have hk':k < vs.size:=by rw[h.size];exact hk
 rw[zaq hk',zn] at hy1
 simpa[hy1] using this
theorem RR.nil {sz:Nat}{vs:Array Value}(h:RR A w φ sz [] vs):vs=#[]:=by
 apply za5;rw[h.size];simp
def addedD (P:Program)(H:List Blk)(e t':TypeId)(x:D):Option (List (List D)):=
 match P.underlying t' with
 |some (.slice _)=>zcF H x
 |some (.int _)=>match x with
  |.v (.int .i64 m)=>if 0≤m then (zdC P e).map fun z=>List.replicate m.toNat z else none
  |_=>none
 |_=>none
def zew (P:Program)(H:List Blk)(t t':TypeId)(s x:D):Option (Option Nat × Nat × List (List D)):=
 match zc3 P t,zcF H s with
 |some (e,sz),some es=>
  match addedD P H e t' x with
  |some xs=>
   if 0 < sz∧(zdC P e).map List.length=some sz∧es.all (fun e=>e.length==sz)=true∧xs.all (fun e=>e.length==sz)=true∧xs.all (fun e=>e.all isCell)=true∧
    (es.length+xs.length)*P.bytesOf e≤140737488355328∧es.length+xs.length≤9223372036854775807 then
    match s with
    |.nil=>some (none,sz,xs)
    |.ms b _ _ _=>if zcZ sz H[b]? = true then some (some b,sz,es++xs) else none
    |_=>none
   else none
  |none=>none
 |_,_=>none
def sameB:D→D→Bool
 |.ms b _ l c,.ms b' _ _ _=>if Nat.beq b b'=true then Nat.blt l c else false
 |_,_=>false
theorem sameB_ne {b b' o l c o' l' c':Nat}(h:b≠b'):sameB (.ms b o l c) (.ms b' o' l' c')=false:=by
 have hh:¬Nat.beq b b'=true:=fun hh=>h (za0 hh)
 show (if Nat.beq b b'=true then _ else _)=_
 rw[if_neg hh]
theorem sameB_full {b o l c:Nat}{d:D}(h:c≤l):sameB (.ms b o l c) d=false:=by
 cases d with
 |ms b' o' l' c'=>
  show (if Nat.beq b b'=true then Nat.blt l c else _)=_
  split
  ·cases hh:Nat.blt l c with
   |false=>rfl
   |true=>
    have:l+1≤c:=Nat.le_of_ble_eq_true hh
    omega
  ·rfl
 |_=>rfl
def appendC (P:Program)(H:List Blk)(t t':TypeId)(s x:D):Option (Nat × Nat × Nat × Nat × List (List D)):=
 match zc3 P t,P.underlying t',s with
 |some (e,sz),some (.slice _),.ms b off len cap=>
  match zcF H s,zcF H x,H[b]? with
  |some es,some xs,some (.live sz' fs)=>
   if sz'=sz∧0 < sz∧(zdC P e).map List.length=some sz∧es.all (fun e=>e.length==sz)=true∧xs.all (fun e=>e.length==sz)=true∧xs.all (fun e=>e.all isCell)=true∧
    (es.length+xs.length)*P.bytesOf e≤140737488355328∧es.length+xs.length≤9223372036854775807∧es.length+xs.length≤cap∧0 < cap then
    some (b,sz,es.length+xs.length,cap,es++xs++(fs.take (off+cap)).drop (off+(es.length+xs.length)))
   else none
  |_,_,_=>none
 |_,_,_=>none
def killO (H:List Blk):Option Nat→List Blk
 |some b=>H.set b .dead
 |none=>H
theorem killO_free (H:List Blk){s:Nat}{o:Option Nat}(hs:H[s]? = some .free)(ho:∀b,o=some b→b≠s):(DL.killO H o)[s]? = some .free:=by
 cases o with
 |none=>exact hs
 |some b=>rw[DL.killO,zX,if_neg (ho b rfl)];exact hs
section
variable {G:Gh}(hG:zc6 G){st:St}{a:Act}{s:Nat}
theorem FRc.phantom (hG:zc6 G)(h:FRc G st a w A φ)(hs:st.H[s]? = some .free)(sz:Nat):FRc G { st with H:=st.H.set s (.live sz []) } a w A (upd φ s .ph):=by
 have hlt:s < st.H.length:=(za.1 hs).1
 have hf:φ s=.free:=h.rh.free s hs
 exact h.step hG (h.rh.lay hlt (l:=.ph) (.inl hf) (fun _ _=>rfl) (fun _ x=>x) (fun _ x=>.inl x) (fun _ _ _ _ _ _ _=>rfl) (zf _)
   ⟨by simp,by simp,fun sz' es' e=>by cases e;exact .inl ⟨rfl,rfl⟩⟩ (fun _ _ e=>by cases e) (fun _ _ _ _ e=>by cases e))
  ⟨rfl,rfl,rfl,zf _,zf _,fun _ _ _=>rfl,fun n hn=>by
   rcases zeZ hn with⟨_,_,_,e⟩|⟨b,_,_,_,_,e⟩
   ·cases e
   ·exact .inl ⟨b,_,_,_,e⟩⟩ (fun _ x=>x) (fun _ x=>.inl x) (upd_le (.inl hf))
theorem FRc.killO (hG:zc6 G)(h:FRc G st a w A φ){o:Option Nat}(ho:∀b,o=some b→b < st.H.length):
  ∃φ',FRc G { st with H:=DL.killO st.H o } a w A φ'∧∀b,(φ b).le (φ' b):=by
 cases o with
 |none=>exact⟨φ,h,fun _=>Loc.le_refl _⟩
 |some b=>exact⟨_,h.kill hG (ho b rfl),upd_le (.inr (.inl rfl))⟩
theorem grow_ok (hG:zc6 G)(hr:FRc G st a w A φ)(hs:st.H[s]? = some .free){t t' ty e:TypeId}{i:TypeInfo}{zv v:Value}{ub:Option Addr}{ucap sz:Nat}{us vs:Array Value}{es xs:List (List D)}
  (ht:P.underlying t=some (.slice e)) (hi:P.info? e=some i) (hzv:i.zero=some zv) (hisz:i.size=sz) (hzs:zv.cells.size=sz) (hsz:0 < sz)
  (hus:RR A w φ sz es us) (hvs:RR A w φ sz xs vs)
  (hul:∀W:World,W.heap=w.heap→(Builtin.firstCells sz es.length (.slice ub es.length ucap)).run P W=.ok us W)
  (ha:Added P t' i zv xs.length v vs w)
  (hby:(es.length+xs.length)*i.bytes≤140737488355328) (h63:es.length+xs.length≤9223372036854775807)
  {o:Option Nat} (ho:∀b,o=some b→b < st.H.length∧b≠s) (hg:ucap < es.length+xs.length):
  ∃r w' φ',(Builtin.append_ #[t,t'] ty #[.slice ub es.length ucap,v]).run P w=.ok r w'∧V A w' φ' (.ms s 0 (es++xs).length (es++xs).length) r∧
   FRc G { st with H:=(DL.killO st.H o).set s (.live sz (es++xs)) } a w' A φ':=by
 have hge:=grownCap_ge w (es.length+xs.length) ucap e
 obtain⟨φ1,hk,hle⟩:=hr.killO hG (o:=o) fun b hb=>(ho b hb).1
 have hk':=hk.drew hG
 have hfree:(DL.killO st.H o)[s]? = some .free:=killO_free st.H hs fun b hb=>(ho b hb).2
 have hrr:=hus.append hvs
 have hfo:=hul w.drew rfl
 rw[←hisz] at hfo
 have hrun:=app_grow (P:=P) (w:=w) (ty:=ty) ht hi hzv ha hg (by omega) h63 hby hfo
 have hnew:=hk'.newR hG (s:=s) hfree (us++vs++Builtin.zeroCells zv.cells (grownCap w (es.length+xs.length) ucap e-(es.length+xs.length))) e sz (es++xs)
  (grownCap w (es.length+xs.length) ucap e) (by simpa using hge)
  (by
   rw[Array.size_append,hrr.size,size_zeroCells,hzs,←zad]
   refine zL _ ?_
   rw[zw];omega) hrr.len (fun i e j d he hd=>by
   obtain⟨y,hy,hv⟩:=hrr.val i e j d he hd
   refine⟨y,?_,V.mono (w:=w) (fun _ x=>x) (fun _ _=>rfl) hle hv⟩
   rw[zaV (z3.1 hy).1];exact hy)
 refine⟨_,_,_,hrun,?_,hnew⟩
 rw[zw]
 refine .ms _ _ _ _ _ _ _ (zf _) hge ?_
 rw[zde]
 exact⟨by omega,.inr (by simp)⟩
theorem none_ok (hG:zc6 G)(hr:FRc G st a w A φ)(hs:st.H[s]? = some .free){t t' ty e:TypeId}{i:TypeInfo}{zv v:Value}{ub:Option Addr}{sz:Nat}{vs:Array Value}
  (ht:P.underlying t=some (.slice e)) (hi:P.info? e=some i) (hzv:i.zero=some zv) (hisz:i.size=sz) (hsz:0 < sz) (hvs:RR A w φ sz [] vs)
  (ha:Added P t' i zv 0 v vs w)
  {o:Option Nat} (ho:∀b,o=some b→b < st.H.length∧b≠s):
  ∃r w' φ',(Builtin.append_ #[t,t'] ty #[.slice ub 0 0,v]).run P w=.ok r w'∧V A w' φ' (.ms s 0 0 0) r∧
   FRc G { st with H:=(DL.killO st.H o).set s (.live sz []) } a w' A φ':=by
 obtain⟨φ1,hk,hle⟩:=hr.killO hG (o:=o) fun b hb=>(ho b hb).1
 have hfree:(DL.killO st.H o)[s]? = some .free:=killO_free st.H hs fun b hb=>(ho b hb).2
 have hv0:=hvs.nil
 subst hv0
 refine⟨.slice ub 0 0,w,_,?_,?_,hk.phantom hG (s:=s) hfree sz⟩
 ·rw[app_fit (P:=P) (w:=w) (ty:=ty) (ucap:=0) (n:=0) (m:=0) ht hi hzv ha (zf _) (by omega) (by omega) (by simp)]
  cases ub<;>simp[storeCells]
 ·refine .ms _ _ _ _ _ _ _ (zf _) (zf _) ?_
  rw[zde];rfl
theorem fit_ok (hG:zc6 G)(hr:FRc G st a w A φ)(hs:st.H[s]? = some .free){t t' ty e:TypeId}{i:TypeInfo}{zv v:Value}{ucap sz:Nat}{vs:Array Value}{es fs xs:List (List D)}
  (ht:P.underlying t=some (.slice e)) (hi:P.info? e=some i) (hzv:i.zero=some zv) (hisz:i.size=sz) (hsz:0 < sz)
  (hvs:RR A w φ sz xs vs) (hone:∀y∈vs.toList,y.oneCell'=true)
  (ha:Added P t' i zv xs.length v vs w) (h63:es.length+xs.length≤9223372036854775807) (hby:(es.length+xs.length)*i.bytes≤140737488355328)
  {b off n base room:Nat} {c:Array Value} {tyc:TypeId} (hp:φ b=.loc n base sz room) (hlive:LiveAt A w φ n base room sz c tyc fs)
  (hget:∀(i:Nat) (e:List D),es[i]? = some e→fs[off+i]? = some e) (h4:off+ucap≤room) (hroom:es.length+xs.length≤ucap):
  ∃r w' φ',(Builtin.append_ #[t,t'] ty #[.slice (some ⟨n,base+off*sz,none⟩) es.length ucap,v]).run P w=.ok r w'∧V A w' φ' (.ms s 0 (es++xs).length (es++xs).length) r∧
   FRc G { st with H:=(DL.killO st.H (some b)).set s (.live sz (es++xs)) } a w' A φ':=by
 have hm1:off*sz+es.length*sz+xs.length*sz≤room*sz:=by
  rw[←zad,←zad];exact zL _ (by omega)
 have hcs:=hlive.size
 have hvz:=hvs.size
 obtain⟨w',c',k1,k2,k3⟩:=run_storeCells (P:=P) (n:=n) (ty:=tyc) vs.toList w c (base+off*sz+es.length*sz) 0 hlive.blk
  (by simp only[zaI];omega) hone
 have l1:∀(i:Nat) (e:List D),es[i]? = some e→e.length=sz:=fun i e he=>hlive.len _ _ (hget i e he)
 refine⟨.slice (some ⟨n,base+off*sz,none⟩) (es.length+xs.length) ucap,w',_,?_,?_,hr.renew hG hp hs k2 (base+off*sz) ucap (es++xs) (by simpa using hroom) ?_ ?_ ?_⟩
 ·rw[app_fit (P:=P) (w:=w) (ty:=ty) ht hi hzv ha hroom (by omega) h63 hby]
  simp only[add_none,hisz,k1,Result.andThen]
 ·rw[zw]
  refine .ms _ _ _ _ _ _ _ (zf _) hroom ?_
  rw[zde]
  exact⟨by omega,.inr (by simp)⟩
 ·rw[k3.size]
  have:off*sz+ucap*sz≤room*sz:=by rw[←zad];exact zL _ h4
  omega
 ·intro i e he
  rw[zan] at he
  split at he
  ·exact l1 i e he
  ·exact hvs.len _ e he
 ·intro i e j d he hd
  rw[zan] at he
  split at he
  ·rename_i hi'
   obtain⟨y,hy,hv⟩:=hlive.val _ _ _ _ (hget i e he) hd
   refine⟨y,?_,hv⟩
   have hj:j < sz:=by rw[←l1 i e he];exact (za.1 hd).1
   have hm2:i*sz+sz≤es.length*sz:=by rw[←zax];exact zL _ hi'
   rw[k3.old _ (by omega),←hy,zad]
   congr 1;omega
  ·rename_i hi'
   obtain⟨y,hy,hv⟩:=hvs.val _ e j d he hd
   refine⟨y,?_,hv⟩
   have hm3:(i-es.length)*sz+es.length*sz=i*sz:=by rw[←zad];congr 1;omega
   have hlt:(i-es.length)*sz+j < vs.toList.length:=by simpa using (z3.1 hy).1
   have:=k3.new _ hlt
   rw[show base+off*sz+es.length*sz+0+((i-es.length)*sz+j)=base+off*sz+i*sz+j by omega] at this
   rw[this];simpa using hy
theorem run_appendD (hG:zc6 G)(hr:FRc G st a w A φ)(hs:st.H[s]? = some .free)(hsub:Sub Hm st.H){t t' ty:TypeId}{x y:D}{u v:Value}(hx:V A w φ x u)(hy:V A w φ y v)
  {o:Option Nat} {sz:Nat} {es:List (List D)} (h:zew P Hm t t' x y=some (o,sz,es)):
  ∃r w' φ',(Builtin.append_ #[t,t'] ty #[u,v]).run P w=.ok r w'∧V A w' φ' (.ms s 0 es.length es.length) r∧
   FRc G { st with H:=(DL.killO st.H o).set s (.live sz es) } a w' A φ':=by
 unfold zew at h
 split at h
 ·rename_i e sz' es0 he hes
  obtain⟨ht,hts⟩:=elemT_ok he
  split at h
  ·rename_i xs hxs
   split at h
   rotate_left
   ·cases h
   rename_i hc
   obtain⟨c1,c2,c3,c4,c5,c6,c7⟩:=hc
   obtain⟨z,hz,hzl⟩:∃z,zdC P e=some z∧z.length=sz':=by
    cases hz:zdC P e with
    |none=>rw[hz] at c2;cases c2
    |some z=>rw[hz] at c2;simp at c2;exact⟨z,rfl,c2⟩
   simp only[zdC,zd,za8] at hz
   obtain⟨zv,⟨i,hi,hzv⟩,rfl⟩:=hz
   have hisz:i.size=sz':=by simp only[tsz,hi,zq,zn] at hts;exact hts
   have hby:P.bytesOf e=i.bytes:=by simp[Program.bytesOf,hi]
   have hzs:zv.cells.size=sz':=by simpa using hzl
   rw[hby] at c6
   have l1:∀(i:Nat) (e:List D),es0[i]? = some e→e.length=sz':=fun i e he=>by
    rw[zh] at c3;simpa using c3 e (zm he)
   have l2:∀(i:Nat) (e:List D),xs[i]? = some e→e.length=sz':=fun i e he=>by
    rw[zh] at c4;simpa using c4 e (zm he)
   obtain⟨ub,ucap,us,hu,hus,hul⟩:=elems_ok (P:=P) hr.rh hsub hx hes l1
   obtain⟨vs,hvs,ha⟩:∃vs,RR A w φ sz' xs vs∧Added P t' i zv xs.length v vs w:=by
    unfold addedD at hxs
    split at hxs
    ·rename_i hu'
     obtain⟨vb,vcap,vs,hv,hvs,hvl⟩:=elems_ok (P:=P) hr.rh hsub hy hxs l2
     exact⟨vs,hvs,.sl hu' hv (by rw[hisz];exact hvl)⟩
    ·rename_i hu'
     split at hxs
     ·rename_i m
      split at hxs
      ·rename_i hm
       simp only[zdC,hi,hzv,Option.bind_some,zq,zn] at hxs
       subst hxs
       have hzr:=zero_rows (A:=A) (w:=w) (φ:=φ) (z:=zv.cells.toList.map ofV) (x:=zv) (by simp) (fun j d hd=>by
        simp only[zl,zd] at hd
        obtain⟨y,hy,rfl⟩:=hd
        exact⟨y,by simpa using hy,.ofV y⟩) m.toNat
       refine⟨_,by simpa[hzs] using hzr,.mk hu' (by rw[hy.v_inv];simp;omega) ?_⟩
       simp[Builtin.zeroCells,hzs]
      ·cases hxs
     ·cases hxs
    ·cases hxs
   have hone:=hvs.one c1 c5
   clear c3 c4 c5
   split at h
   ·simp only[zn,zz] at h
    obtain⟨rfl,rfl,rfl⟩:=h
    have he0:es0=[]:=by simpa[zcF] using hes.symm
    subst he0
    have hu0:ucap=0:=by
     cases hx with
     |nil _ a=>simp only[Value.slice.injEq] at hu;exact hu.2.2.symm
    subst hu0
    subst hu
    rcases zag xs.length with hz|hz
    ·have hx0:xs=[]:=zU hz
     subst hx0
     exact none_ok hG hr hs ht hi hzv hisz c1 hvs ha (o:=none) fun b hb=>by cases hb
    ·exact grow_ok hG hr hs ht hi hzv hisz hzs c1 hus hvs hul ha c6 c7 (o:=none) (fun b hb=>by cases hb) (by simpa using hz)
   ·rename_i b off len cap
    split at h
    ·rename_i hsz
     simp only[zn,zz] at h
     obtain⟨rfl,rfl,rfl⟩:=h
     obtain⟨fs,hbm⟩:∃fs,Hm[b]? = some (.live sz' fs):=by
      unfold zcZ at hsz
      split at hsz
      ·rename_i sz0 fs hb;simp only[beq_iff_eq] at hsz;subst hsz;exact⟨fs,hb⟩
      ·cases hsz
     have hbH:=hsub _ _ _ hbm
     have hbl:b < st.H.length:=(za.1 hbH).1
     have hbs:b≠s:=fun e=>by subst e;rw[hbH] at hs;cases hs
     have ho:∀b',some b=some b'→b' < st.H.length∧b'≠s:=fun b' hb'=>by cases hb';exact⟨hbl,hbs⟩
     simp only[zcF,hbm] at hes
     split at hes
     ·have hes':(fs.take (off+len)).drop off=es0:=by simpa using hes
      have hget:∀(i:Nat) (e:List D),es0[i]? = some e→fs[off+i]? = some e:=fun i e he=>by
       rw[←hes',zV,z5] at he
       split at he
       ·exact he
       ·cases he
      have h3:(φ b).msOk off ucap ub:=by
       cases hx with
       |ms _ _ _ _ _ cap' a' h1 h2 h3=>
        simp only[Value.slice.injEq] at hu
        obtain⟨rfl,_,rfl⟩:=hu
        exact h3
      subst hu
      rcases zZ ucap (es0.length+xs.length) with hg|hroom
      ·exact grow_ok hG hr hs ht hi hzv hisz hzs c1 hus hvs hul ha c6 c7 ho hg
      ·rcases zag ucap with hz|hz
       ·have hx0:xs=[]:=zU (by omega)
        have he0:es0=[]:=zU (by omega)
        subst hx0;subst he0;subst hz
        exact none_ok hG hr hs ht hi hzv hisz c1 hvs ha ho
       ·rcases hr.rh.live b sz' fs hbH with⟨rfl,hp⟩|⟨n,base,room,c,tyc,hp,hlive⟩
        ·rw[hp] at h3;exact absurd (show ucap=0 from h3) (by omega)
        ·rw[hp] at h3
         obtain⟨h4,h5⟩:=h3
         have hub:ub=some ⟨n,base+off*sz',none⟩:=h5.resolve_left (by omega)
         subst hub
         exact fit_ok hG hr hs ht hi hzv hisz c1 hvs hone ha c7 c6 hp hlive hget h4 hroom
     ·cases hes
    ·cases h
   ·cases h
  ·cases h
 ·cases h
theorem fitC_ok (hG:zc6 G)(hr:FRc G st a w A φ)(hs:st.H[s]? = some .free){t t' ty e:TypeId}{i:TypeInfo}{zv v:Value}{ucap sz cap:Nat}{vs:Array Value}{es fs xs ys:List (List D)}
  (ht:P.underlying t=some (.slice e)) (hi:P.info? e=some i) (hzv:i.zero=some zv) (hisz:i.size=sz) (hsz:0 < sz)
  (hvs:RR A w φ sz xs vs) (hone:∀y∈vs.toList,y.oneCell'=true)
  (ha:Added P t' i zv xs.length v vs w) (h63:es.length+xs.length≤9223372036854775807) (hby:(es.length+xs.length)*i.bytes≤140737488355328)
  {b off n base room:Nat} {c:Array Value} {tyc:TypeId} (hp:φ b=.loc n base sz room) (hlive:LiveAt A w φ n base room sz c tyc fs)
  (hget:∀(i:Nat) (e:List D),es[i]? = some e→fs[off+i]? = some e) (h4:off+ucap≤room) (hroom:es.length+xs.length≤cap) (hcap:cap≤ucap)
  (hys:∀(i:Nat) (e:List D),ys[i]? = some e→fs[off+(es.length+xs.length)+i]? = some e) (hyl:es.length+xs.length+ys.length≤cap):
  ∃r w' φ',(Builtin.append_ #[t,t'] ty #[.slice (some ⟨n,base+off*sz,none⟩) es.length ucap,v]).run P w=.ok r w'∧V A w' φ' (.ms s 0 (es.length+xs.length) cap) r∧
   FRc G { st with H:=(DL.killO st.H (some b)).set s (.live sz (es++xs++ys)) } a w' A φ':=by
 have hm1:off*sz+es.length*sz+xs.length*sz≤room*sz:=by
  rw[←zad,←zad];exact zL _ (by omega)
 have hcs:=hlive.size
 have hvz:=hvs.size
 obtain⟨w',c',k1,k2,k3⟩:=run_storeCells (P:=P) (n:=n) (ty:=tyc) vs.toList w c (base+off*sz+es.length*sz) 0 hlive.blk
  (by simp only[zaI];omega) hone
 have l1:∀(i:Nat) (e:List D),es[i]? = some e→e.length=sz:=fun i e he=>hlive.len _ _ (hget i e he)
 refine⟨.slice (some ⟨n,base+off*sz,none⟩) (es.length+xs.length) ucap,w',_,?_,?_,hr.renew hG hp hs k2 (base+off*sz) ucap (es++xs++ys) (by simp only[zw];omega) ?_ ?_ ?_⟩
 ·rw[app_fit (P:=P) (w:=w) (ty:=ty) ht hi hzv ha (by omega) (by omega) h63 hby]
  simp only[add_none,hisz,k1,Result.andThen]
 ·refine .ms _ _ _ _ _ _ _ hroom hcap ?_
  rw[zde]
  exact⟨by omega,.inr (by simp)⟩
 ·rw[k3.size]
  have:off*sz+ucap*sz≤room*sz:=by rw[←zad];exact zL _ h4
  omega
 ·intro i e he
  rw[zan] at he
  split at he
  ·rw[zan] at he
   split at he
   ·exact l1 i e he
   ·exact hvs.len _ e he
  ·exact hlive.len _ _ (hys _ e he)
 ·intro i e j d he hd
  rw[zan] at he
  split at he
  ·rw[zan] at he
   split at he
   ·rename_i hi'
    obtain⟨y,hy,hv⟩:=hlive.val _ _ _ _ (hget i e he) hd
    refine⟨y,?_,hv⟩
    have hj:j < sz:=by rw[←l1 i e he];exact (za.1 hd).1
    have hm2:i*sz+sz≤es.length*sz:=by rw[←zax];exact zL _ hi'
    rw[k3.old _ (by omega),←hy,zad]
    congr 1;omega
   ·rename_i hi'
    obtain⟨y,hy,hv⟩:=hvs.val _ e j d he hd
    refine⟨y,?_,hv⟩
    have hm3:(i-es.length)*sz+es.length*sz=i*sz:=by rw[←zad];congr 1;omega
    have hlt:(i-es.length)*sz+j < vs.toList.length:=by simpa using (z3.1 hy).1
    have:=k3.new _ hlt
    rw[show base+off*sz+es.length*sz+0+((i-es.length)*sz+j)=base+off*sz+i*sz+j by omega] at this
    rw[this];simpa using hy
  ·rename_i hi'
   simp only[zw] at hi' he
   have hyi:=hys _ e he
   obtain⟨y,hy,hv⟩:=hlive.val _ _ _ _ hyi hd
   refine⟨y,?_,hv⟩
   have e1:off+(es.length+xs.length)+(i-(es.length+xs.length))=off+i:=by omega
   rw[e1] at hy
   have hm4:es.length*sz+xs.length*sz≤i*sz:=by rw[←zad];exact zL _ (by omega)
   rw[k3.old _ (.inr (by simp only[zaI];omega)),←hy,zad]
   congr 1;omega
theorem run_appendC (hG:zc6 G)(hr:FRc G st a w A φ)(hs:st.H[s]? = some .free)(hsub:Sub Hm st.H){t t' ty:TypeId}{x y:D}{u v:Value}(hx:V A w φ x u)(hy:V A w φ y v)
  {b sz m cap:Nat} {es:List (List D)} (h:appendC P Hm t t' x y=some (b,sz,m,cap,es)):
  ∃r w' φ',(Builtin.append_ #[t,t'] ty #[u,v]).run P w=.ok r w'∧V A w' φ' (.ms s 0 m cap) r∧
   FRc G { st with H:=(DL.killO st.H (some b)).set s (.live sz es) } a w' A φ':=by
 unfold appendC at h
 split at h
 rotate_left
 ·cases h
 rename_i e sz' e' b' off len cap' he hu'
 obtain⟨ht,hts⟩:=elemT_ok he
 split at h
 rotate_left
 ·cases h
 rename_i es0 xs szb fs hes hxs hbm
 split at h
 rotate_left
 ·cases h
 rename_i hc
 obtain⟨c0,c1,c2,c3,c4,c5,c6,c7,c8,c9⟩:=hc
 simp only[zn,zz] at h
 obtain⟨rfl,rfl,rfl,rfl,rfl⟩:=h
 subst c0
 obtain⟨z,hz,hzl⟩:∃z,zdC P e=some z∧z.length=szb:=by
  cases hz:zdC P e with
  |none=>rw[hz] at c2;cases c2
  |some z=>rw[hz] at c2;simp at c2;exact⟨z,rfl,c2⟩
 simp only[zdC,zd,za8] at hz
 obtain⟨zv,⟨i,hi,hzv⟩,rfl⟩:=hz
 have hisz:i.size=szb:=by simp only[tsz,hi,zq,zn] at hts;exact hts
 have hby:P.bytesOf e=i.bytes:=by simp[Program.bytesOf,hi]
 rw[hby] at c6
 have l1:∀(i:Nat) (e:List D),es0[i]? = some e→e.length=szb:=fun i e he=>by
  rw[zh] at c3;simpa using c3 e (zm he)
 have l2:∀(i:Nat) (e:List D),xs[i]? = some e→e.length=szb:=fun i e he=>by
  rw[zh] at c4;simpa using c4 e (zm he)
 obtain⟨ub,ucap,us,hu,hus,hul⟩:=elems_ok (P:=P) hr.rh hsub hx hes l1
 obtain⟨vb,vcap,vs,hv,hvs,hvl⟩:=elems_ok (P:=P) hr.rh hsub hy hxs l2
 have ha:Added P t' i zv xs.length v vs w:=.sl hu' hv (by rw[hisz];exact hvl)
 have hone:=hvs.one c1 c5
 have hbH:=hsub _ _ _ hbm
 simp only[zcF,hbm] at hes
 split at hes
 rotate_left
 ·cases hes
 have hes':(fs.take (off+len)).drop off=es0:=by simpa using hes
 have hget:∀(i:Nat) (e:List D),es0[i]? = some e→fs[off+i]? = some e:=fun i e he=>by
  rw[←hes',zV,z5] at he
  split at he
  ·exact he
  ·cases he
 have h3:(φ b').msOk off ucap ub∧cap'≤ucap:=by
  cases hx with
  |ms _ _ _ _ _ cap' a' h1 h2 h3=>
   simp only[Value.slice.injEq] at hu
   obtain⟨rfl,_,rfl⟩:=hu
   exact⟨h3,h2⟩
 subst hu
 obtain⟨h3,hcc⟩:=h3
 rcases hr.rh.live b' szb fs hbH with⟨rfl,hp⟩|⟨n,base,room,c,tyc,hp,hlive⟩
 ·rw[hp] at h3;exact absurd (show ucap=0 from h3) (by omega)
 ·rw[hp] at h3
  obtain⟨h4,h5⟩:=h3
  have hub:ub=some ⟨n,base+off*szb,none⟩:=h5.resolve_left (by omega)
  subst hub
  exact fitC_ok hG hr hs ht hi hzv hisz c1 hvs hone ha c7 c6 hp hlive hget h4 c8 hcc (fun i e he=>by
   rw[zV,z5] at he
   split at he
   ·exact he
   ·cases he) (by simp only[z6,zA];omega)
end
end
end
end Go.DL
/- Maps of one's own: a look, a write, an entry, at the level of what own blocks hold. -/
namespace Go.DL
open Go.RowKit
noncomputable section
def keyKind:TypeDesc→Bool
 |.int _=>true
 |.string=>true
 |.bool=>true
 |_=>false
def mapT (P:Program)(t:TypeId):Option (TypeDesc × TypeId):=match P.underlying t with
 |some (.map k e)=>match P.underlying k with
  |some q=>if keyKind q=true then some (q,e) else none
  |none=>none
 |_=>none
def tabFind (q:TypeDesc)(k:Value):List (Value × D × Nat)→Nat→Option (Option (Nat × D))
 |[],_=>some none
 |e::es,i=>match Instr.sameNow q k e.1 with
  |some true=>some (some (i,e.2.1))
  |some false=>tabFind q k es (i+1)
  |none=>none
def ofVA:Value→D
 |.agg vs=>.agg (vs.toList.map ofV)
 |x=>ofV x
def zvD (P:Program)(e:TypeId):Option D:=((P.info? e).bind (·.zero)).map ofVA
def lookupD (P:Program)(H:List Blk)(t:TypeId)(x i:D)(ok:Bool):Option D:=match mapT P t,x,i with
 |some (q,e),.mm b,.v k=>match H[b]? with
  |some (.tab _ es)=>match tabFind q k es 0 with
   |some (some (_,d))=>some (bif ok then .tup [d,.v (.bool true)] else d)
   |some none=>(zvD P e).map fun z=>bif ok then .tup [z,.v (.bool false)] else z
   |none=>none
  |_=>none
 |_,_,_=>none
def mapUpdD (P:Program)(H:List Blk)(t:TypeId)(m k v:D):Option (Nat × Blk):=match mapT P t,m,k with
 |some (q,_),.mm b,.v k=>match H[b]? with
  |some (.tab c es)=>match tabFind q k es 0 with
   |some (some (i,_))=>some (b,.tab c (es.modify i fun e=>(k,v,e.2.2)))
   |some none=>some (b,.tab (c+1) (es++[(k,v,c)]))
   |none=>none
  |_=>none
 |_,_,_=>none
def mapEntD (P:Program)(H:List Blk)(t:TypeId)(m k:D):Option (D × Nat × Blk):=match mapT P t,m,k with
 |some (q,e),.mm b,.v k=>match H[b]? with
  |some (.tab c es)=>match tabFind q k es 0 with
   |some (some (i,d))=>some (.tup [d,.v (.int .i64 (((es[i]?).map (·.2.2)).getD 0))],b,.tab c (es.modify i fun e=>(k,e.2)))
   |some none=>(zvD P e).map fun z=>(.tup [z,.v (.int .i64 c)],b,.tab (c+1) (es++[(k,z,c)]))
   |none=>none
  |_=>none
 |_,_,_=>none
def entStD (H:List Blk)(m s v:D):Option (Nat × Blk):=match m,s with
 |.mm b,.v (.int _ n)=>match H[b]? with
  |some (.tab c es)=>match es.findIdx? (fun e=>((e.2.2:Nat):Int)==n) with
   |some i=>some (b,.tab c (es.modify i fun e=>(e.1,v,e.2.2)))
   |none=>none
  |_=>none
 |_,_=>none
section
variable {P:Program}{A:Rd}{w:World}{φ:Nat→Loc}{H Hm:List Blk}
def SubT (Hm H:List Blk):Prop:=∀(b c:Nat) (es:List (Value × D × Nat)),Hm[b]? = some (.tab c es)→H[b]? = some (.tab c es)
theorem SubT.refl (H:List Blk):SubT H H:=fun _ _ _ h=>h
theorem V.ofVA (x:Value):V A w φ (ofVA x) x:=by
 cases x with
 |agg vs=>
  refine .agg _ _ _ (by simp) fun i d u h1 h2=>?_
  simp only[zl,zd] at h1
  obtain⟨y,h1,rfl⟩:=h1
  have:y=u:=by
   have h3:vs[i]? = some y:=by simpa using h1
   rw[h3] at h2;exact zbl h2
  subst this;exact .ofV y
 |_=>unfold DL.ofVA;exact .ofV _
theorem run_zvD {e:TypeId}{z:D}(h:zvD P e=some z):∃x,(∀w:World,(zeroValue e).run P w=.ok x w)∧V A w φ z x:=by
 simp only[zvD,zd,za8] at h
 obtain⟨x,⟨i,hi,hx⟩,rfl⟩:=h
 exact⟨x,fun w=>by simp[zeroValue,run_typeInfo hi,hx],.ofVA x⟩
theorem mapT_ok {t:TypeId}{q:TypeDesc}{e:TypeId}(h:mapT P t=some (q,e)):∃k,P.underlying t=some (.map k e)∧P.underlying k=some q∧keyKind q=true:=by
 unfold mapT at h
 split at h
 ·rename_i k e' hu
  split at h
  ·rename_i q' hq
   split at h
   ·rename_i hk;cases h;exact⟨k,hu,hq,hk⟩
   ·cases h
  ·cases h
 ·cases h
theorem run_checkKey {b:Bool}{n:Nat}{k:TypeId}{q:TypeDesc}(h:P.underlying k=some q)(hq:keyKind q=true)(v:Value):(Instr.checkKey b (n+1) k v).run P w=.ok () w:=by
 unfold Instr.checkKey
 cases q<;>simp only[keyKind,zah] at hq<;>simp[run_underlying h]
theorem find_ok {n clk:Nat}{es:List (Value × D × Nat)}{ms:Array MapEntry}(hT:TabAt A w φ n clk es ms){q:TypeDesc}{k:Value}:
  ∀(m i:Nat) (r:Option (Nat × D)),i+m=es.length→tabFind q k (es.drop i) i=some r→
   (r=none∧Instr.findNow q k (ms.toList.drop i) i=some none)∨
   (∃j d e k' b,r=some (j,d)∧es[j]? = some (k',d,b)∧ms[j]? = some e∧Instr.sameNow q k e.key=some true∧Instr.findNow q k (ms.toList.drop i) i=some (some (j,e.val))):=by
 intro m
 induction m with
 |zero=>
  intro i r hi h
  rw[zab (by omega)] at h
  cases h
  rw[zab (by simp[hT.len];omega)]
  exact .inl ⟨rfl,rfl⟩
 |succ m ih=>
  intro i r hi h
  have hlt:i < es.length:=by omega
  have hlt':i < ms.size:=by rw[hT.len];exact hlt
  rw[zO hlt] at h
  have e2:ms.toList.drop i=ms[i]::ms.toList.drop (i+1):=by
   rw[zO (by simpa using hlt')];simp
  obtain⟨h1,h2,h3⟩:=hT.ent i es[i].1 es[i].2.1 es[i].2.2 ms[i] (zb hlt) (zaq hlt')
  rw[e2]
  unfold tabFind at h
  unfold Instr.findNow
  rw[h1]
  cases hs:Instr.sameNow q k es[i].1 with
  |none=>rw[hs] at h;cases h
  |some x=>
   rw[hs] at h
   cases x with
   |true=>
    cases h
    exact .inr ⟨i,es[i].2.1,ms[i],es[i].1,es[i].2.2,rfl,zb hlt,zaq hlt',by rw[h1];exact hs,rfl⟩
   |false=>exact ih (i+1) r (by omega) h
theorem run_findKey {n clk:Nat}{es:List (Value × D × Nat)}{ms:Array MapEntry}(hT:TabAt A w φ n clk es ms){kt:TypeId}{q:TypeDesc}(hu:P.underlying kt=some q){k:Value}{r:Option (Nat × D)}
  (h:tabFind q k es 0=some r):
  (r=none∧(Instr.findKey kt k ms.toList).run P w=.ok none w)∨
  (∃j d e k' b,r=some (j,d)∧es[j]? = some (k',d,b)∧ms[j]? = some e∧Instr.sameNow q k e.key=some true∧(Instr.findKey kt k ms.toList).run P w=.ok (some (j,e.val)) w):=by
 rcases find_ok hT es.length 0 r (by omega) (by simpa using h) with⟨h1,h2⟩|⟨j,d,e,k',b,h1,h2,h3,h4,h5⟩
 ·refine .inl ⟨h1,?_⟩
  simp only[zS] at h2
  simp[Instr.findKey,run_underlying hu,h2]
 ·refine .inr ⟨j,d,e,k',b,h1,h2,h3,h4,?_⟩
  simp only[zS] at h5
  simp[Instr.findKey,run_underlying hu,h5]
theorem mm_at (hr:RH A φ w H){b r c:Nat}{es:List (Value × D × Nat)}(h:(φ b).mmOk r)(hb:H[b]? = some (.tab c es)):∃ms,φ b=.loc r 0 0 0∧TabAt A w φ r c es ms:=by
 obtain⟨n,ms,h1,h2⟩:=hr.tab b c es hb
 rw[h1] at h
 cases h
 exact⟨ms,h1,h2⟩
theorem getObj_tab {r c:Nat}{ms:Array MapEntry}(h:w.heap[r]? = some (.map ms c)):(getObj r).run P w=.ok (.map ms c) w:=by simp[getObj,Sem.run,h]
theorem run_lookupD (hr:RH A φ w H)(hs:SubT Hm H){t:TypeId}{x i d:D}{u v:Value}{ok:Bool}(hx:V A w φ x u)(hi:V A w φ i v)(h:lookupD P Hm t x i ok=some d):
  ∃r,(Instr.lookup t u v ok).run P w=.ok r w∧V A w φ d r:=by
 unfold lookupD at h
 split at h
 ·rename_i q e b k hq
  obtain⟨kt,hu,hk,hkk⟩:=mapT_ok hq
  have hv:=hi.v_inv
  subst hv
  cases hx with
  |mm _ _ r hφ=>
   split at h
   ·rename_i c es hb
    obtain⟨ms,h1,hT⟩:=mm_at hr hφ (hs _ _ _ hb)
    have g:=getObj_tab (P:=P) hT.blk
    split at h
    ·rename_i j d' hf
     cases h
     rcases run_findKey (P:=P) hT hk hf with⟨h2,_⟩|⟨j',d2,e2,k',b',h2,h3,h4,_,h5⟩
     ·cases h2
     ·cases h2
      have hv:=(hT.ent _ _ _ _ _ h3 h4).2.2
      refine⟨bif ok then .tuple #[e2.val,.bool true] else e2.val,?_,?_⟩
      ·simp only[Instr.lookup,Sem.run_bind,run_underlying hu,Result.andThen,g,Sem.run_pure,run_checkKey hk hkk,h5]
       cases ok<;>simp
      ·cases ok
       ·exact hv
       ·refine .tup _ _ _ rfl fun i d u g1 g2=>?_
        match i,g1,g2 with
        |0,g1,g2=>cases g1;cases g2;exact hv
        |1,g1,g2=>cases g1;cases g2;exact .v _ _
    ·rename_i hf
     simp only[zd] at h
     obtain⟨z,hz,rfl⟩:=h
     obtain⟨x,hx1,hx2⟩:=run_zvD (A:=A) (w:=w) (φ:=φ) hz
     rcases run_findKey (P:=P) hT hk hf with⟨_,h5⟩|⟨j',d2,e2,k',b',h2,_⟩
     ·refine⟨bif ok then .tuple #[x,.bool false] else x,?_,?_⟩
      ·simp only[Instr.lookup,Sem.run_bind,run_underlying hu,Result.andThen,g,Sem.run_pure,run_checkKey hk hkk,h5,hx1]
       cases ok<;>simp
      ·cases ok
       ·exact hx2
       ·refine .tup _ _ _ rfl fun i d u g1 g2=>?_
        match i,g1,g2 with
        |0,g1,g2=>cases g1;cases g2;exact hx2
        |1,g1,g2=>cases g1;cases g2;exact .v _ _
     ·cases h2
    ·cases h
   ·cases h
 ·cases h
theorem ba_eq {a b:ByteArray}(h:(a==b)=true):a=b:=by
 have h1:a.data==b.data:=h
 cases a;cases b
 simp at h1
 rw[h1]
theorem same_bits {q:TypeDesc}{k k':Value}(h:Instr.sameNow q k k'=some true)(n:Nat):Instr.sameBits n k' k=true:=by
 unfold Instr.sameNow at h
 split at h
 ·split at h
  ·rename_i hk
   simp only[zn,beq_iff_eq] at h
   subst hk;subst h
   cases n<;>simp[Instr.sameBits]
  ·cases h
 ·rename_i a b
  have e:a=b:=ba_eq (zbl h)
  subst e
  cases n<;>exact zbl h
 all_goals first|(cases h;done)|(simp only[zn,beq_iff_eq] at h;subst h;cases n<;>simp[Instr.sameBits])
end
section
variable {P:Program}{G:Gh}(hG:zc6 G){st:St}{a:Act}{w w':World}{A:Rd}{φ:Nat→Loc}{Hm:List Blk}
def putO (w:World)(r:Nat)(o:Obj):World:={ w with heap:=w.heap.setIfInBounds r o }
theorem FRc.newT (hG:zc6 G)(h:FRc G st a w A φ){s:Nat}(hs:st.H[s]? = some .free):
  FRc G { st with H:=st.H.set s (.tab 0 []) } a (w.alloc (.map #[] 0)) A (upd φ s (.loc w.heap.size 0 0 0)):=by
 have hlt:s < st.H.length:=(za.1 hs).1
 have hf:φ s=.free:=h.rh.free s hs
 have hle:(φ s).le (.loc w.heap.size 0 0 0):=.inl hf
 have hsame:∀m,A m→(w.alloc (.map #[] 0)).heap[m]? = w.heap[m]? := fun m hm=>zed w _ (h.rh.lt m hm)
 refine h.step hG (h.rh.lay hlt (l:=.loc w.heap.size 0 0 0) hle hsame (fun _ x=>x) (fun _ x=>.inl x)
  (fun b n base sz' room' _ e=>zed w _ (h.rh.olt n ⟨b,_,_,_,e⟩)) (by simp) ⟨by simp,by simp,fun _ _ e=>by cases e⟩ ?_ ?_) ?_ (fun _ x=>x) (fun _ x=>.inl x) (upd_le hle)
 ·intro clk es e
  cases e
  exact⟨_,#[],rfl,heap_alloc_new w _,rfl,fun i k d b e h1 _=>by simp at h1⟩
 ·intro n base sz' room' e
  cases e
  exact⟨by simp,fun x=>zbr _ (h.rh.lt _ x),fun b base sz' room' _ e=>zbr _ (h.rh.olt _ ⟨b,_,_,_,e⟩),h.rh.bsz⟩
 ·refine ext_alloc w _ _ fun n hn=>?_
  rcases zeZ hn with⟨_,_,_,e⟩|⟨b,base,sz',room',_,e⟩
  ·cases e;exact .inr rfl
  ·exact .inl ⟨b,_,_,_,e⟩
theorem FRc.retab (hG:zc6 G)(h:FRc G st a w A φ){b n:Nat}(hb:φ b=.loc n 0 0 0)(hlt:b < st.H.length){ms':Array MapEntry}{c':Nat}(es':List (Value × D × Nat))(hl:ms'.size=es'.length)
  (hv:∀(i:Nat) (k:Value) (d:D) (b:Nat) (e:MapEntry),es'[i]? = some (k,d,b)→ms'[i]? = some e→e.key=k∧e.born=b∧V A w φ d e.val):
  FRc G { st with H:=st.H.set b (.tab c' es') } a (putO w n (.map ms' c')) A φ:=by
 have hown:own φ n:=⟨b,_,_,_,hb⟩
 have hn:n < w.heap.size:=h.rh.olt n hown
 have hne:∀m,m≠n→(putO w n (.map ms' c')).heap[m]? = w.heap[m]? := fun m hm=>by
  simp only[putO,zak]
  rw[if_neg (Ne.symm hm)]
 have hsz:(putO w n (.map ms' c')).heap.size=w.heap.size:=by simp[putO]
 have hat:(putO w n (.map ms' c')).heap[n]? = some (.map ms' c'):=by
  simp[putO,hn]
 have hsame:∀m,A m→(putO w n (.map ms' c')).heap[m]? = w.heap[m]? := fun m hm=>hne m fun e=>h.rh.dis n hown (e ▸ hm)
 have hup:upd φ b (.loc n 0 0 0)=φ:=by funext x;by_cases e:x=b<;>simp[upd,e,hb]
 have hlay:=h.rh.lay (A':=A) (w':=putO w n (.map ms' c')) hlt (l:=.loc n 0 0 0) (x:=.tab c' es') (by rw[hb];exact Loc.le_refl _) hsame (fun _ x=>x) (fun _ x=>.inl x)
  (fun b' m base' sz' room' hne' e=>hne m fun e'=>hne' (h.rh.inj b' b n base' sz' room' 0 0 0 (e' ▸ e) hb)) (by rw[hsz];exact zf _)
  ⟨by simp,by simp,fun _ _ e=>by cases e⟩
  (fun clk es e=>by
   cases e
   exact⟨n,ms',rfl,hat,hl,fun i k d q e h1 h2=>let ⟨k1,k2,k3⟩:=hv i k d q e h1 h2;⟨k1,k2,k3.mono (fun _ x=>x) hsame (by rw[hup];exact fun _=>Loc.le_refl _)⟩⟩)
  (fun m base' sz' room' e=>by
   cases e
   exact⟨by rw[hsz];exact hn,h.rh.dis n hown,fun b' base' sz' room' hne' e=>hne' (h.rh.inj b' b n base' sz' room' 0 0 0 e hb),h.rh.ofr n hown⟩)
 rw[hup] at hlay
 exact h.step hG hlay ⟨rfl,rfl,rfl,zf _,by rw[hsz];exact zf _,fun m _ hm=>hne m fun e=>hm (e ▸ hown),fun m hm=>.inl hm⟩ (fun _ x=>x) (fun _ x=>.inl x) fun _=>Loc.le_refl _
theorem setObj_tab {r c c':Nat}{ms ms':Array MapEntry}(h:w.heap[r]? = some (.map ms c)):(setObj r (.map ms' c')).run P w=.ok () (putO w r (.map ms' c')):=by
 simp[setObj,Sem.run,h,putO]
theorem ent_modify {n clk:Nat}{es:List (Value × D × Nat)}{ms:Array MapEntry}(hT:TabAt A w φ n clk es ms){j:Nat}{f:Value × D × Nat→Value × D × Nat}{g:MapEntry→MapEntry}
  (hfg:∀x e,es[j]? = some x→ms[j]? = some e→(g e).key=(f x).1∧(g e).born=(f x).2.2∧V A w φ (f x).2.1 (g e).val):
  (ms.modify j g).size=(es.modify j f).length∧∀(i:Nat) (k:Value) (d:D) (b:Nat) (e:MapEntry),(es.modify j f)[i]? = some (k,d,b)→(ms.modify j g)[i]? = some e→e.key=k∧e.born=b∧V A w φ d e.val:=by
 refine⟨by simp[hT.len],fun i k d b e h1 h2=>?_⟩
 rw[List.getElem?_modify] at h1
 rw[zbk] at h2
 by_cases hj:j=i
 ·subst hj
  simp only[if_true,Option.map_eq_map,zd] at h1 h2
  obtain⟨x,h1,hx⟩:=h1
  obtain⟨e0,h2,rfl⟩:=h2
  have:=hfg x e0 h1 h2
  rw[hx] at this
  exact this
 ·simp only[hj,if_false,Option.map_eq_map,Option.map_id_fun',id] at h1 h2
  have h1':es[i]? = some (k,d,b):=by simpa using h1
  have h2':ms[i]? = some e:=by simpa using h2
  exact hT.ent i k d b e h1' h2'
theorem ent_push {n clk:Nat}{es:List (Value × D × Nat)}{ms:Array MapEntry}(hT:TabAt A w φ n clk es ms){k:Value}{d:D}{v:Value}(hv:V A w φ d v):
  (ms.push { key:=k,val:=v,born:=clk }).size=(es++[(k,d,clk)]).length∧∀(i:Nat) (k':Value) (d':D) (b:Nat) (e:MapEntry),(es++[(k,d,clk)])[i]? = some (k',d',b)→(ms.push { key:=k,val:=v,born:=clk })[i]? = some e→e.key=k'∧e.born=b∧V A w φ d' e.val:=by
 refine⟨by simp[hT.len],fun i k' d' b e h1 h2=>?_⟩
 rcases zbD i es.length with hi|hi|hi
 ·rw[zk hi] at h1
  rw[Array.getElem?_push,if_neg (by rw[hT.len];omega)] at h2
  exact hT.ent i k' d' b e h1 h2
 ·subst hi
  rw[zu (zf _)] at h1
  rw[Array.getElem?_push,if_pos hT.len.symm] at h2
  simp at h1
  obtain⟨rfl,rfl,rfl⟩:=h1
  cases h2
  exact⟨rfl,rfl,hv⟩
 ·rw[zs (by simp;omega)] at h1;cases h1
theorem run_keyStays {old new:Value}(h:Instr.sameBits 10000 old new=true):(Instr.keyThatStays old new).run P w=.ok new w:=by
 simp[Instr.keyThatStays,h]
theorem run_mapUpdD (hG:zc6 G)(hr:FRc G st a w A φ)(hs:SubT Hm st.H){t:TypeId}{m k v:D}{um uk uv:Value}{b:Nat}{x:Blk}(hm:V A w φ m um)(hk:V A w φ k uk)(hv:V A w φ v uv)(h:mapUpdD P Hm t m k v=some (b,x)):
  ∃w',(Instr.mapUpdate t um uk uv).run P w=.ok () w'∧FRc G { st with H:=st.H.set b x } a w' A φ:=by
 unfold mapUpdD at h
 split at h
 ·rename_i q e b' k' hq
  obtain⟨kt,hu,hkt,hkk⟩:=mapT_ok hq
  have hv1:=hk.v_inv
  subst hv1
  cases hm with
  |mm _ _ r hφ=>
   split at h
   ·rename_i c es hb
    have hb':=hs _ _ _ hb
    have hlt:b' < st.H.length:=(za.1 hb').1
    obtain⟨ms,h1,hT⟩:=mm_at hr.rh hφ hb'
    have g:=getObj_tab (P:=P) hT.blk
    split at h
    ·rename_i j d' hf
     cases h
     rcases run_findKey (P:=P) hT hkt hf with⟨h2,_⟩|⟨j',d2,e2,k2,b2,h2,h3,h4,h6,h5⟩
     ·cases h2
     ·cases h2
      obtain⟨q1,q2⟩:=ent_modify hT (j:=j) (f:=fun e=>(uk,v,e.2.2)) (g:=fun e=>{ e with key:=uk,val:=uv }) fun x e hx he=>by
       obtain⟨x1,x2,x3⟩:=x
       exact⟨rfl,(hT.ent _ _ _ _ _ hx he).2.1,hv⟩
      refine⟨_,?_,hr.retab hG h1 hlt _ q1 q2⟩
      simp only[Instr.mapUpdate,Sem.run_bind,run_underlying hu,Result.andThen,g,run_checkKey hkt hkk,h5,h4,zq,zao,run_keyStays (same_bits h6 10000),setObj_tab hT.blk]
    ·rename_i hf
     cases h
     rcases run_findKey (P:=P) hT hkt hf with⟨_,h5⟩|⟨j',d2,e2,k2,b2,h2,_⟩
     ·obtain⟨q1,q2⟩:=ent_push hT (k:=uk) hv
      refine⟨_,?_,hr.retab hG h1 hlt _ q1 q2⟩
      simp only[Instr.mapUpdate,Sem.run_bind,run_underlying hu,Result.andThen,g,run_checkKey hkt hkk,h5,setObj_tab hT.blk]
     ·cases h2
    ·cases h
   ·cases h
 ·cases h
theorem run_mapEntD (hG:zc6 G)(hr:FRc G st a w A φ)(hs:SubT Hm st.H){t:TypeId}{m k d:D}{um uk:Value}{b:Nat}{x:Blk}(hm:V A w φ m um)(hk:V A w φ k uk)(h:mapEntD P Hm t m k=some (d,b,x)):
  ∃r w',(Instr.mapEntry t um uk).run P w=.ok r w'∧V A w' φ d r∧FRc G { st with H:=st.H.set b x } a w' A φ:=by
 unfold mapEntD at h
 split at h
 ·rename_i q e b' k' hq
  obtain⟨kt,hu,hkt,hkk⟩:=mapT_ok hq
  have hv1:=hk.v_inv
  subst hv1
  cases hm with
  |mm _ _ r hφ=>
   split at h
   ·rename_i c es hb
    have hb':=hs _ _ _ hb
    have hlt:b' < st.H.length:=(za.1 hb').1
    obtain⟨ms,h1,hT⟩:=mm_at hr.rh hφ hb'
    have g:=getObj_tab (P:=P) hT.blk
    have hn:∀{ms' c'} m,A m→(putO w r (.map ms' c')).heap[m]? = w.heap[m]? := fun {ms' c'} m hm=>by
     have hne:m≠r:=fun e=>hr.rh.dis r ⟨b',_,_,_,h1⟩ (e ▸ hm)
     simp only[putO,zak]
     rw[if_neg (Ne.symm hne)]
    have pair:∀{w':World} {y:D} {u:Value} {n:Int},V A w' φ y u→V A w' φ (.tup [y,.v (.int .i64 n)]) (.tuple #[u,.int .i64 n]):=fun {w' y u n} hy=>by
     refine .tup _ _ _ rfl fun i d u g1 g2=>?_
     match i,g1,g2 with
     |0,g1,g2=>cases g1;cases g2;exact hy
     |1,g1,g2=>cases g1;cases g2;exact .v _ _
    split at h
    ·rename_i j d' hf
     cases h
     rcases run_findKey (P:=P) hT hkt hf with⟨h2,_⟩|⟨j',d2,e2,k2,b2,h2,h3,h4,h6,h5⟩
     ·cases h2
     ·cases h2
      obtain⟨q1,q2⟩:=ent_modify hT (j:=j) (f:=fun e=>(uk,e.2)) (g:=fun e=>{ e with key:=uk }) fun x e hx he=>by
       obtain⟨x1,x2,x3⟩:=x
       have:=hT.ent _ _ _ _ _ hx he
       exact⟨rfl,this.2.1,this.2.2⟩
      refine⟨.tuple #[e2.val,.int .i64 (e2.born:Nat)],_,?_,?_,hr.retab hG h1 hlt _ q1 q2⟩
      ·simp only[Instr.mapEntry,Sem.run_bind,run_underlying hu,Result.andThen,g,run_checkKey hkt hkk,h5,h4,zq,zao,run_keyStays (same_bits h6 10000),setObj_tab hT.blk,Sem.run_pure,goInt]
      ·have h7:=hT.ent _ _ _ _ _ h3 h4
       rw[h3,h7.2.1]
       exact pair (h7.2.2.mono (fun _ x=>x) hn fun _=>Loc.le_refl _)
    ·rename_i hf
     simp only[zd,zz] at h
     obtain⟨z,hz,rfl,rfl,rfl⟩:=h
     obtain⟨zx,hx1,hx2⟩:=run_zvD (A:=A) (w:=w) (φ:=φ) hz
     rcases run_findKey (P:=P) hT hkt hf with⟨_,h5⟩|⟨j',d2,e2,k2,b2,h2,_⟩
     ·obtain⟨q1,q2⟩:=ent_push hT (k:=uk) hx2
      refine⟨.tuple #[zx,.int .i64 (c:Nat)],_,?_,?_,hr.retab hG h1 hlt _ q1 q2⟩
      ·simp only[Instr.mapEntry,Sem.run_bind,run_underlying hu,Result.andThen,g,run_checkKey hkt hkk,h5,hx1,setObj_tab hT.blk,Sem.run_pure,goInt]
      ·exact pair (hx2.mono (fun _ x=>x) hn fun _=>Loc.le_refl _)
     ·cases h2
    ·cases h
   ·cases h
 ·cases h
theorem run_entStD (hG:zc6 G)(hr:FRc G st a w A φ)(hs:SubT Hm st.H){t:TypeId}{m s v:D}{um us uv:Value}{b:Nat}{x:Blk}(hm:V A w φ m um)(hsv:V A w φ s us)(hv:V A w φ v uv)(h:entStD Hm m s v=some (b,x)):
  ∃w',(Instr.entryStore t um us uv).run P w=.ok () w'∧FRc G { st with H:=st.H.set b x } a w' A φ:=by
 unfold entStD at h
 split at h
 ·rename_i b' kd n
  have hv1:=hsv.v_inv
  subst hv1
  cases hm with
  |mm _ _ r hφ=>
   split at h
   ·rename_i c es hb
    have hb':=hs _ _ _ hb
    have hlt:b' < st.H.length:=(za.1 hb').1
    obtain⟨ms,h1,hT⟩:=mm_at hr.rh hφ hb'
    have g:=getObj_tab (P:=P) hT.blk
    split at h
    ·rename_i i hf
     cases h
     have hf':ms.findIdx? (fun e=>((e.born:Nat):Int)==n)=some i:=by
      obtain⟨hi,h2,h3⟩:=List.findIdx?_eq_some_iff_getElem.1 hf
      have hborn:∀j (hj:j < es.length),(ms[j]'(by rw[hT.len];exact hj)).born=es[j].2.2:=fun j hj=>
       (hT.ent j es[j].1 es[j].2.1 es[j].2.2 _ (zb hj) (zaq (by rw[hT.len];exact hj))).2.1
      refine Array.findIdx?_eq_some_iff_getElem.2 ⟨by rw[hT.len];exact hi,?_,fun j hj=>?_⟩
      ·rw[hborn i hi];exact h2
      ·have:=h3 j hj
       rw[hborn j (Nat.lt_trans hj hi)];exact this
     obtain⟨q1,q2⟩:=ent_modify hT (j:=i) (f:=fun e=>(e.1,v,e.2.2)) (g:=fun e=>{ e with val:=uv }) fun x e hx he=>by
      obtain⟨x1,x2,x3⟩:=x
      have:=hT.ent _ _ _ _ _ hx he
      exact⟨this.1,this.2.1,hv⟩
     refine⟨_,?_,hr.retab hG h1 hlt _ q1 q2⟩
     simp only[Instr.entryStore,Sem.run_bind,g,Result.andThen,asInt,asIntOf,Sem.run_pure,hf',setObj_tab hT.blk]
    ·cases h
   ·cases h
 ·cases h
theorem run_lenTab (hr:FRc G st a w A φ){t kt et tx:TypeId}(hu:P.underlying t=some (.map kt et)){b c:Nat}{es:List (Value × D × Nat)}{u:Value}(hm:V A w φ (.mm b) u)(hb:st.H[b]? = some (.tab c es)):
  (Builtin.len_ #[t] tx #[u]).run P w=.ok (.int .i64 es.length) w:=by
 cases hm with
 |mm _ _ r hφ=>
  obtain⟨ms,h1,hT⟩:=mm_at hr.rh hφ hb
  simp[Builtin.len_,run_underlying hu,goInt,getObj_tab (P:=P) hT.blk,hT.len]
end
end
end Go.DL
/- One operation that is no call of a function, over abstract values. -/
namespace Go.DL
open Go.RowKit
noncomputable section
inductive Eff where
 |keep
 |put (x:Blk)
 |upd (b:Nat) (x:Blk)
 |ren (o:Option Nat) (x:Blk)
def Eff.app (H:List Blk)(s:Nat):Eff→List Blk
 |.keep=>H
 |.put x=>H.set s x
 |.upd b x=>H.set b x
 |.ren o x=>(killO H o).set s x
def Eff.seq (H:List Blk):Eff→List Blk
 |.keep=>H
 |.put x=>H++[x]
 |.upd b x=>H.set b x
 |.ren o x=>killO H o++[x]
def maxD (op:BinOp)(x y:D):Option D:=
 match x,y with
 |.v (.int k a),.v (.int k' b)=>if k=k' then match op with
   |.gtr=>some (.v (.int k (if b > a then b else a)))
   |.lss=>some (.v (.int k (if b < a then b else a)))
   |_=>none
  else none
 |_,_=>none
def zdW (P:Program)(H:List Blk)(s:Nat)(b:Builtin)(args:List D)(tys:List TypeId):Option (D × Eff):=
 match b,args,tys with
 |.len,[x],[t]=>match P.underlying t with
  |some (.slice _)=>(lenD x).map fun n=>(.v (.int .i64 n),.keep)
  |_=>none
 |.append,[x,y],[t,t']=>if sameB x y=true then (appendC P H t t' x y).map fun (b,sz,m,cap,es)=>(.ms s 0 m cap,.ren (some b) (.live sz es))
  else (zew P H t t' x y).map fun (o,sz,es)=>(.ms s 0 es.length es.length,.ren o (.live sz es))
 |.max,[x,y],_=>(maxD .gtr x y).map fun d=>(d,.keep)
 |.min,[x,y],_=>(maxD .lss x y).map fun d=>(d,.keep)
 |_,_,_=>none
def zcQ (d:Option D):Option (D × Eff):=d.map fun d=>(d,.keep)
def zcp (P:Program)(H:List Blk)(s:Nat)(t:List D):Op→Option (D × Eff)
 |.move x=>some (ev t x,.keep)
 |.assign x=>some (ev t x,.keep)
 |.pick c a b=>zcQ (pickD (ev t c) (ev t a) (ev t b))
 |.binOp op ty x y _=>zcQ (binD P op ty (ev t x) (ev t y))
 |.unOp op _ x=>zcQ (unD op (ev t x))
 |.convert src dst x=>zcQ (convD P src dst (ev t x))
 |.extract x i=>zcQ (extractD (ev t x) i)
 |.field ty x f=>zcQ (fieldD P ty f (ev t x))
 |.index ty x i=>zcQ (indexD P ty (ev t x) (ev t i))
 |.fieldAddr ty x f=>zcQ (fieldAddrD P ty f (ev t x))
 |.indexAddr ty x i=>zcQ (indexAddrD P H ty (ev t x) (ev t i))
 |.slice ty x lo hi mx=>if mx.isSome=true∧hi.isSome=false then none else zcQ (sliceD P H ty (ev t x) (lo.map (ev t)) (hi.map (ev t)) (mx.map (ev t)))
 |.load ty p=>zcQ (zeO P H ty (ev t p))
 |.nilCheck x=>zcQ (nilCheckD (ev t x))
 |.sliceToArrayPointer ty x=>zcQ (arrPtrD P ty (ev t x))
 |.makeFunc f a b=>some (.fn f (a.toList.map (ev t)) (b.toList.map (ev t)),.keep)
 |.build ty ps=>zcQ (buildD P ty (ps.toList.map fun p=>(p.1,ev t p.2)))
 |.buildSlice ty len ps=>(zes P ty len (ps.toList.map fun p=>(p.1,ev t p.2))).map fun (sz,es)=>(.ms s 0 len len,.put (.live sz es))
 |.makeSlice ty l c=>(makeSliceD P ty (ev t l) (ev t c)).map fun (ln,cn,sz,es)=>(.ms s 0 ln cn,.put (.live sz es))
 |.alloc ty=>(zdC P ty).map fun z=>(.mp s 0 0,.put (.live z.length [z]))
 |.box _ x=>if (zcY (ev t x)).all isCell=true then some (.mp s 0 0,.put (.live (zcY (ev t x)).length [zcY (ev t x)])) else none
 |.store ty p x=>(storeD P H ty (ev t p) (ev t x)).map fun (b,k)=>(.any,.upd b k)
 |.makeMap _ none=>some (.mm s,.put (.tab 0 []))
 |.lookup ty x i ok=>zcQ (lookupD P H ty (ev t x) (ev t i) ok)
 |.mapUpdate ty m k x=>(mapUpdD P H ty (ev t m) (ev t k) (ev t x)).map fun (b,k)=>(.any,.upd b k)
 |.mapEntry ty m k=>(mapEntD P H ty (ev t m) (ev t k)).map fun (d,b,k)=>(d,.upd b k)
 |.entryStore _ m k x=>(entStD H (ev t m) (ev t k) (ev t x)).map fun (b,k)=>(.any,.upd b k)
 |.call { callee:=.builtin b,args,argTypes }=>zdW P H s b (args.toList.map (ev t)) argTypes.toList
 |_=>none
def Ran (P:Program)(a:Act)(o:Oper)(w:World)(x:Value)(w':World):Prop:=
 (execOp a.eval o).run P w=.ok (.value x) w'∨((execOp a.eval o).run P w=.ok .skip w'∧x=undef)
section
variable {P:Program}{G:Gh}(hG:zc6 G){st:St}{a:Act}{w:World}{A:Rd}{φ:Nat→Loc}
theorem run_maxD {x y d:D}{u v:Value}(hx:V A w φ x u)(hy:V A w φ y v):
  (maxD .gtr x y=some d→∃r,(Builtin.max_ #[] 0 #[u,v]).run P w=.ok r w∧V A w φ d r)∧
  (maxD .lss x y=some d→∃r,(Builtin.min_ #[] 0 #[u,v]).run P w=.ok r w∧V A w φ d r):=by
 constructor
 all_goals
  intro h
  unfold maxD at h
  split at h
  ·have:=hx.v_inv;subst this
   have:=hy.v_inv;subst this
   split at h
   ·rename_i hk;subst hk
    simp only[zn] at h
    subst h
    exact⟨_,rfl,.v _ _⟩
   ·cases h
  ·cases h
theorem stepD_ok (hG:zc6 G)(hr:FRc G st a w A φ){s:Nat}(hs:st.H[s]? = some .free){Hm:List Blk}(hsub:Sub Hm st.H)(hsubT:SubT Hm st.H){o:Oper}{d:D}{e:Eff}(h:zcp P Hm s st.t o.op=some (d,e)):
  ∃x w' A' φ',Ran P a o w x w'∧FRc G { t:=setT st.t o.dst d,H:=e.app st.H s,ds:=st.ds,g:=st.g } (a.put o.dst x) w' A' φ':=by
 have ve:=hr.tr.ev
 have fin:∀{m:Sem Value} {r:Value} {d:D},execOp a.eval o=(do pure (.value (←m)))→m.run P w=.ok r w→V A w φ d r→
   ∃x w' A' φ',Ran P a o w x w'∧FRc G { t:=setT st.t o.dst d,H:=st.H,ds:=st.ds,g:=st.g } (a.put o.dst x) w' A' φ':=fun {m r d} h1 h2 h3=>
  ⟨r,w,A,φ,.inl (by rw[h1];simp[h2]),hr.value o.dst h3⟩
 have finP:∀{m:Sem Value} {r:Value} {w':World} {φ':Nat→Loc} {d:D} {H':List Blk},execOp a.eval o=(do pure (.value (←m)))→m.run P w=.ok r w'→V A w' φ' d r→
   FRc G { st with H:=H' } a w' A φ'→∃x w' A' φ',Ran P a o w x w'∧FRc G { t:=setT st.t o.dst d,H:=H',ds:=st.ds,g:=st.g } (a.put o.dst x) w' A' φ':=fun {m r w' φ' d H'} h1 h2 h3 h4=>
  ⟨r,w',A,φ',.inl (by rw[h1];simp[h2]),h4.value o.dst h3⟩
 have kd:∀{q:Option D} {d:D} {e:Eff},zcQ q=some (d,e)→q=some d∧e=.keep:=fun {q d e} h=>by
  simp only[zcQ,zd,zz] at h
  obtain⟨_,h1,rfl,rfl⟩:=h;exact⟨h1,rfl⟩
 cases ho:o.op with
 |move x=>
  rw[ho] at h;simp only[zcp,zn,zz] at h;obtain⟨rfl,rfl⟩:=h
  exact⟨_,w,A,φ,.inl (by simp only[execOp,ho];rfl),hr.value o.dst (ve x)⟩
 |assign x=>
  rw[ho] at h;simp only[zcp,zn,zz] at h;obtain⟨rfl,rfl⟩:=h
  exact⟨_,w,A,φ,.inl (by simp only[execOp,ho];rfl),hr.value o.dst (ve x)⟩
 |pick c x y=>
  rw[ho] at h;obtain⟨h1,rfl⟩:=kd h
  have hc:=ve c
  unfold pickD at h1
  split at h1
  ·rename_i b hb
   rw[hb] at hc
   have hcv:=hc.v_inv
   cases h1
   refine⟨if b then a.eval x else a.eval y,w,A,φ,.inl (by simp[execOp,ho,hcv,asBool]),hr.value o.dst ?_⟩
   cases b<;>simp only[zah,if_false,if_true]
   ·exact ve y
   ·exact ve x
  ·cases h1
 |binOp op ty x y ty'=>
  rw[ho] at h;obtain⟨h1,rfl⟩:=kd h
  obtain⟨r,h2,h3⟩:=run_binD (P:=P) x y (ve x) (ve y) h1
  exact fin (by simp only[execOp,ho]) h2 h3
 |unOp op ty x=>
  rw[ho] at h;obtain⟨h1,rfl⟩:=kd h
  obtain⟨r,h2,h3⟩:=run_unD (P:=P) (ve x) h1
  exact fin (by simp only[execOp,ho]) h2 h3
 |convert src dst x=>
  rw[ho] at h;obtain⟨h1,rfl⟩:=kd h
  obtain⟨r,h2,h3⟩:=run_convD (P:=P) (ve x) h1
  exact fin (by simp only[execOp,ho]) h2 h3
 |extract x i=>
  rw[ho] at h;obtain⟨h1,rfl⟩:=kd h
  obtain⟨r,h2,h3⟩:=run_extractD (P:=P) (ve x) h1
  exact fin (by simp only[execOp,ho]) h2 h3
 |field ty x f=>
  rw[ho] at h;obtain⟨h1,rfl⟩:=kd h
  obtain⟨r,h2,h3⟩:=run_fieldD (P:=P) (ve x) h1
  exact fin (by simp only[execOp,ho]) h2 h3
 |index ty x i=>
  rw[ho] at h;obtain⟨h1,rfl⟩:=kd h
  obtain⟨r,h2,h3⟩:=run_indexD (P:=P) (ve x) (ve i) h1
  exact fin (by simp only[execOp,ho]) h2 h3
 |fieldAddr ty x f=>
  rw[ho] at h;obtain⟨h1,rfl⟩:=kd h
  obtain⟨r,h2,h3⟩:=run_fieldAddrD (P:=P) (ve x) h1
  exact fin (by simp only[execOp,ho]) h2 h3
 |indexAddr ty x i=>
  rw[ho] at h;obtain⟨h1,rfl⟩:=kd h
  obtain⟨r,h2,h3⟩:=run_indexAddrD (P:=P) (H:=Hm) (fun b sz es hb=>(hr.rh.live b sz es (hsub _ _ _ hb)).imp (·.2) fun⟨n,base,room,_,_,h,_⟩=>⟨n,base,room,h⟩) (ve x) (ve i) h1
  exact fin (by simp only[execOp,ho]) h2 h3
 |slice ty x lo hi mx=>
  rw[ho] at h
  simp only[zcp] at h
  split at h
  ·cases h
  ·rename_i hc
   obtain⟨h1,rfl⟩:=kd h
   obtain⟨r,h2,h3⟩:=run_sliceD (P:=P) hr.rh hsub hr.tr x lo hi mx h1 (fun hm=>by
    cases hi with
    |some _=>rfl
    |none=>exact absurd ⟨hm,rfl⟩ hc)
   exact fin (by simp only[execOp,ho]) h2 h3
 |load ty p=>
  rw[ho] at h;obtain⟨h1,rfl⟩:=kd h
  obtain⟨r,h2,h3⟩:=run_loadD (P:=P) hr.rh hsub (ve p) h1
  exact fin (by simp only[execOp,ho]) h2 h3
 |sliceToArrayPointer ty x=>
  rw[ho] at h;obtain⟨h1,rfl⟩:=kd h
  obtain⟨r,h2,h3⟩:=run_arrPtrD (P:=P) (ve x) h1
  exact fin (by simp only[execOp,ho]) h2 h3
 |nilCheck x=>
  rw[ho] at h;obtain⟨h1,rfl⟩:=kd h
  have hx:=ve x
  unfold nilCheckD at h1
  split at h1
  ·rename_i cs hcs
   cases h1
   rw[hcs] at hx
   generalize hu:a.eval x=u at hx
   refine⟨u,w,A,φ,.inl ?_,hr.value o.dst hx⟩
   cases hx with
   |rp _ _ n off v ha hc hh=>simp only[execOp,ho,hu];rfl
  ·rename_i b i f hcs
   cases h1
   rw[hcs] at hx
   generalize hu:a.eval x=u at hx
   refine⟨u,w,A,φ,.inl ?_,hr.value o.dst hx⟩
   cases hx with
   |mp _ _ _ _ y hh=>simp only[execOp,ho,hu];rfl
  ·rename_i f p q hcs
   cases h1
   rw[hcs] at hx
   generalize hu:a.eval x=u at hx
   refine⟨u,w,A,φ,.inl ?_,hr.value o.dst hx⟩
   cases hx with
   |fn _ _ _ _ vs us hl hl' hh hh'=>simp only[execOp,ho,hu];rfl
  ·cases h1
 |makeFunc f p q=>
  rw[ho] at h;simp only[zcp,zn,zz] at h;obtain⟨rfl,rfl⟩:=h
  have key:∀(p:Array Operand),(∀(i:Nat) (d:D) (u:Value),(p.toList.map (ev st.t))[i]? = some d→(p.map a.eval)[i]? = some u→V A w φ d u):=fun p i d u h1 h2=>by
   simp only[zl,zd,Array.getElem?_map,Array.getElem?_toList] at h1 h2
   obtain⟨x,h1,rfl⟩:=h1
   obtain⟨y,h2,rfl⟩:=h2
   rw[h1] at h2;cases h2;exact ve x
  exact⟨.func f (p.map a.eval) (q.map a.eval),w,A,φ,.inl (by simp[execOp,ho,Instr.makeFunc]),hr.value o.dst (.fn _ _ _ _ _ _ (by simp) (by simp) (key p) (key q))⟩
 |build ty ps=>
  rw[ho] at h;obtain⟨h1,rfl⟩:=kd h
  obtain⟨r,h2,h3⟩:=run_buildD (P:=P) hr.tr ps h1
  exact fin (by simp only[execOp,ho]) h2 h3
 |buildSlice ty len ps=>
  rw[ho] at h
  simp only[zcp,zd,zz,zaX] at h
  obtain⟨sz,es,h1,rfl,rfl⟩:=h
  obtain⟨r,w',φ',h2,h3,h4⟩:=run_buildSliceD (P:=P) hG hr hs ps h1
  exact finP (by simp only[execOp,ho]) h2 h3 h4
 |makeSlice ty l c=>
  rw[ho] at h
  simp only[zcp,zd,zz,zaX] at h
  obtain⟨ln,cn,sz,es,h1,rfl,rfl⟩:=h
  obtain⟨r,w',φ',h2,h3,h4⟩:=run_makeSliceD (P:=P) hG hr hs (ve l) (ve c) h1
  exact finP (by simp only[execOp,ho]) h2 h3 h4
 |alloc ty=>
  rw[ho] at h
  simp only[zcp,zd,zz] at h
  obtain⟨z,h1,rfl,rfl⟩:=h
  obtain⟨r,w',φ',h2,h3,h4⟩:=run_allocD (P:=P) hG hr hs h1
  exact finP (by simp only[execOp,ho]) h2 h3 h4
 |box ty x=>
  rw[ho] at h
  simp only[zcp] at h
  split at h
  ·rename_i hc
   simp only[zn,zz] at h;obtain⟨rfl,rfl⟩:=h
   obtain⟨r,w',φ',h2,h3,h4⟩:=run_box (P:=P) hG hr hs (t:=ty) (ve x) hc
   exact finP (by simp only[execOp,ho]) h2 h3 h4
  ·cases h
 |store ty p x=>
  rw[ho] at h
  simp only[zcp,zd,zz,zaX] at h
  obtain⟨b,k,h1,rfl,rfl⟩:=h
  obtain⟨w',h2,h3⟩:=run_storeD (P:=P) hG hr hsub (ve p) (ve x) h1
  exact⟨undef,w',A,φ,.inr ⟨by simp[execOp,ho,h2],rfl⟩,h3.value o.dst (.any _ _)⟩
 |makeMap ty r=>
  rw[ho] at h
  cases r with
  |some _=>cases h
  |none=>
   simp only[zcp,zn,zz] at h;obtain⟨rfl,rfl⟩:=h
   refine finP (m:=Instr.makeMap ty none) (r:=.map (some w.heap.size)) (by simp only[execOp,ho];rfl) ?_ (.mm _ _ _ (by rw[zde];rfl)) (hr.newT hG hs)
   simp[Instr.makeMap,newObj,Sem.run]
 |lookup ty x i ok=>
  rw[ho] at h;obtain⟨h1,rfl⟩:=kd h
  obtain⟨r,h2,h3⟩:=run_lookupD (P:=P) hr.rh hsubT (ve x) (ve i) h1
  exact fin (by simp only[execOp,ho]) h2 h3
 |mapUpdate ty m k x=>
  rw[ho] at h
  simp only[zcp,zd,zz,zaX] at h
  obtain⟨b,y,h1,rfl,rfl⟩:=h
  obtain⟨w',h2,h3⟩:=run_mapUpdD (P:=P) hG hr hsubT (ve m) (ve k) (ve x) h1
  exact⟨undef,w',A,φ,.inr ⟨by simp[execOp,ho,h2],rfl⟩,h3.value o.dst (.any _ _)⟩
 |mapEntry ty m k=>
  rw[ho] at h
  simp only[zcp,zd,zz,zaX] at h
  obtain⟨d',b,y,h1,rfl,rfl⟩:=h
  obtain⟨r,w',h2,h3,h4⟩:=run_mapEntD (P:=P) hG hr hsubT (ve m) (ve k) h1
  exact finP (by simp only[execOp,ho]) h2 h3 h4
 |entryStore ty m k x=>
  rw[ho] at h
  simp only[zcp,zd,zz,zaX] at h
  obtain⟨b,y,h1,rfl,rfl⟩:=h
  obtain⟨w',h2,h3⟩:=run_entStD (P:=P) (t:=ty) hG hr hsubT (ve m) (ve k) (ve x) h1
  exact⟨undef,w',A,φ,.inr ⟨by simp[execOp,ho,h2],rfl⟩,h3.value o.dst (.any _ _)⟩
 |call c=>
  obtain⟨cal,args,tys⟩:=c
  cases cal with
  |builtin b=>
   rw[ho] at h
   simp only[zcp] at h
   have hex:∀(m:Array Value→Sem Value),(∀q,builtin b tys o.type q (args.map a.eval)=(do pure (.value (←m (args.map a.eval)))))→
     execOp a.eval o=(do pure (.value (←m (args.map a.eval)))):=fun m hm=>by
    simp only[execOp,ho,resolve,invoke]
    exact hm _
   obtain⟨args,rfl⟩:∃l:List Operand,l.toArray=args:=⟨args.toList,by simp⟩
   obtain⟨tys,rfl⟩:∃l:List TypeId,l.toArray=tys:=⟨tys.toList,by simp⟩
   simp only at h
   unfold zdW at h
   split at h
   ·rename_i x t ha
    obtain⟨x',rfl,rfl⟩:∃x',args=[x']∧ev st.t x'=x:=by
     cases args with
     |nil=>simp at ha
     |cons y r=>cases r with
      |nil=>simp at ha;exact⟨y,rfl,ha⟩
      |cons _ _=>simp at ha
    split at h
    ·rename_i et hu
     simp only[zd,zz] at h
     obtain⟨n,h1,rfl,rfl⟩:=h
     obtain⟨u,m,c,h2,h3⟩:=(ve x').lenD h1
     refine fin (m:=Builtin.len_ #[t] o.type #[a.eval x']) (by simpa using hex (fun v=>Builtin.len_ #[t] o.type v) fun q=>by simp[builtin]) (r:=.int .i64 n) ?_ (.v _ _)
     rw[h2]
     simp[Builtin.len_,run_underlying hu,goInt,h3]
    ·cases h
   ·rename_i x y t t' ha
    obtain⟨x',y',rfl,rfl,rfl⟩:∃x' y',args=[x',y']∧ev st.t x'=x∧ev st.t y'=y:=by
     match args,ha with
     |[p,q],ha=>simp at ha;exact⟨p,q,rfl,ha⟩
    split at h
    ·simp only[zd,zz,zaX] at h
     obtain⟨ob,sz,m,cap,es,h1,rfl,rfl⟩:=h
     obtain⟨r,w',φ',h2,h3,h4⟩:=run_appendC (P:=P) hG hr hs hsub (ty:=o.type) (ve x') (ve y') h1
     exact finP (m:=Builtin.append_ #[t,t'] o.type #[a.eval x',a.eval y']) (by simpa using hex (fun v=>Builtin.append_ #[t,t'] o.type v) fun q=>by simp[builtin]) h2 h3 h4
    ·simp only[zd,zz,zaX] at h
     obtain⟨ob,sz,es,h1,rfl,rfl⟩:=h
     obtain⟨r,w',φ',h2,h3,h4⟩:=run_appendD (P:=P) hG hr hs hsub (ty:=o.type) (ve x') (ve y') h1
     exact finP (m:=Builtin.append_ #[t,t'] o.type #[a.eval x',a.eval y']) (by simpa using hex (fun v=>Builtin.append_ #[t,t'] o.type v) fun q=>by simp[builtin]) h2 h3 h4
   ·rename_i x y ha
    obtain⟨x',y',rfl,rfl,rfl⟩:∃x' y',args=[x',y']∧ev st.t x'=x∧ev st.t y'=y:=by
     match args,ha with
     |[p,q],ha=>simp at ha;exact⟨p,q,rfl,ha⟩
    simp only[zd,zz] at h
    obtain⟨d',h1,rfl,rfl⟩:=h
    obtain⟨r,h2,h3⟩:=(run_maxD (P:=P) (ve x') (ve y')).1 h1
    exact fin (m:=Builtin.max_ #[] 0 #[a.eval x',a.eval y']) (by simpa using hex (fun v=>Builtin.max_ #[] 0 v) fun q=>by simp[builtin];rfl) h2 h3
   ·rename_i x y ha
    obtain⟨x',y',rfl,rfl,rfl⟩:∃x' y',args=[x',y']∧ev st.t x'=x∧ev st.t y'=y:=by
     match args,ha with
     |[p,q],ha=>simp at ha;exact⟨p,q,rfl,ha⟩
    simp only[zd,zz] at h
    obtain⟨d',h1,rfl,rfl⟩:=h
    obtain⟨r,h2,h3⟩:=(run_maxD (P:=P) (ve x') (ve y')).2 h1
    exact fin (m:=Builtin.min_ #[] 0 #[a.eval x',a.eval y']) (by simpa using hex (fun v=>Builtin.min_ #[] 0 v) fun q=>by simp[builtin];rfl) h2 h3
   ·cases h
  |value f=>rw[ho] at h;cases h
  |invoke r m=>rw[ho] at h;cases h
 |_=>rw[ho] at h;cases h
end
end
end Go.DL
/- Calls, regions, and code, over abstract values. -/
namespace Go.DL
open Go.RowKit Go.Proofs
noncomputable section
def FW (ro:Option Nat):Fence:={ Fence.wide with round:=ro }
structure VS (A:Rd)(w:World)(φ:Nat→Loc)(ds:List D)(vs:Array Value):Prop where
 size:vs.size=ds.length
 val:∀(i:Nat) (d:D) (u:Value),ds[i]? = some d→vs[i]? = some u→V A w φ d u
def Maps (P:Program)(f:FuncId)(args:List D)(d:D):Prop:=
 Enters P f∧∀(w:World) (A:Nat→Prop) (vs:Array Value),(∀n,A n→n < w.heap.size)→VS ⟨A,w.heap.size⟩ w zcM args vs→
  CallsIn Fence.wide 0 P f vs w fun e w'=>∃(v:Value) (A':Nat→Prop),e=.returned v∧V ⟨A',w.heap.size⟩ w' zcM d v∧(∀m,A m→A' m)∧(∀m,A' m→A m∨w.heap.size≤m)∧
   (∀m,A' m→m < w'.heap.size)∧Ext w (fun _=>False) w' (fun _=>False)
structure Evo (w:World)(A:Rd)(φ:Nat→Loc)(w':World)(A':Rd)(φ':Nat→Loc):Prop where
 ext:Ext w (own φ) w' (own φ')
 up:∀m,A m→A' m
 new:∀m,A' m→A m∨own φ m∨w.heap.size≤m
 le:∀b,(φ b).le (φ' b)
 b0:A'.b0=A.b0
def CallSp (P:Program)(f:FuncId)(args:List D)(H:List Blk)(Q:D→List Blk→Prop):Prop:=
 Enters P f∧∀(w:World) (A:Rd) (φ:Nat→Loc) (vs:Array Value),RH A φ w H→VS A w φ args vs→
  CallsIn Fence.wide 0 P f vs w fun e w'=>∃(v:Value) (d:D) (H':List Blk) (A':Rd) (φ':Nat→Loc),e=.returned v∧Q d H'∧RH A' φ' w' H'∧V A' w' φ' d v∧Evo w A φ w' A' φ'
theorem CallSp.mono {P:Program}{f:FuncId}{args:List D}{H:List Blk}{Q Q':D→List Blk→Prop}(h:CallSp P f args H Q)(k:∀d H',Q d H'→Q' d H'):CallSp P f args H Q':=
 ⟨h.1,fun w A φ vs h1 h2=>(h.2 w A φ vs h1 h2).mono fun _ _ ⟨v,d,H',A',φ',e,q,r⟩=>⟨v,d,H',A',φ',e,k _ _ q,r⟩⟩
theorem VS.snap {A B:Rd}{w:World}{φ:Nat→Loc}{H:List Blk}(hr:RH A φ w H){lk:Nat→Option Blk}(hlk:∀b sz es,lk b=some (.live sz es)→H[b]? = some (.live sz es))
  (hA:∀n,A n→B n) (hB:∀b sz es n base sz' room,lk b=some (.live sz es)→φ b=.loc n base sz' room→B n) (k:Nat) {ds:List D} {vs:Array Value} (h:VS A w φ ds vs):
  VS B w zcM (ds.map (DL.snap lk k)) vs:=
 ⟨by simpa using h.size,fun i d u h1 h2=>by
  simp only[zl,zd] at h1
  obtain⟨d0,h1,rfl⟩:=h1
  exact (h.val i d0 u h1 h2).snap hr hlk hA hB k⟩
def zeu:Nat→D→Bool
 |_,.v _=>true
 |_,.any=>true
 |_,.fl _=>true
 |k+1,.agg ds=>ds.all (zeu k)
 |k+1,.tup ds=>ds.all (zeu k)
 |_,_=>false
theorem V.freshUp {A A':Rd}{w:World}{φ φ':Nat→Loc}(hA:∀m,A m→A.b0≤m→A' m)(hb:A'.b0≤A.b0):∀(k:Nat) {d:D} {u:Value},V A w φ d u→zeu k d=true→V A' w φ' d u:=by
 have leaf:∀{es:List (List D)} {u:Value},V A w φ (.fl es) u→V A' w φ' (.fl es) u:=fun {es u} h=>by
  cases h with
  |fl0=>exact .fl0 _ _ _
  |fl _ _ n off sz cap u ha hcap hsz hc h=>
   exact .fl _ _ n off sz cap u ⟨hA n ha.1 ha.2,zR hb ha.2⟩ hcap hsz hc fun i e j d h1 h2=>
    V.mono (A:=A.fresh) (A':=A'.fresh) (fun m hm=>⟨hA m hm.1 hm.2,zR hb hm.2⟩) (fun _ _=>rfl) (fun _=>Loc.le_refl _) (h i e j d h1 h2)
 intro k
 induction k with
 |zero=>
  intro d u h hd
  cases d<;>simp[zeu] at hd
  ·cases h;exact .v _ _
  ·exact leaf h
  ·exact .any _ _
 |succ k ih=>
  intro d u h hd
  cases d<;>simp only[zeu,zh,zah] at hd
  ·cases h;exact .v _ _
  ·cases h with
   |agg _ cs vs hl h=>exact .agg _ _ _ hl fun i d u h1 h2=>ih (h i d u h1 h2) (hd d (zm h1))
  ·cases h with
   |tup _ cs vs hl h=>exact .tup _ _ _ hl fun i d u h1 h2=>ih (h i d u h1 h2) (hd d (zm h1))
  ·exact leaf h
  ·exact .any _ _
theorem call_freshL {P:Program}{f:FuncId}{args:List D}{d:D}{H:List Blk}{Q:D→List Blk→Prop}{lk:Nat→Option Blk}(hlk:∀b sz es,lk b=some (.live sz es)→H[b]? = some (.live sz es))
  (h:Maps P f (args.map (snap lk 5)) d) (hd:zeu 5 d=true) (hQ:Q d H):CallSp P f args H Q:=by
 refine⟨h.1,fun w A φ vs hr hv=>?_⟩
 refine (h.2 w (both A φ).on vs (fun n hn=>hn.elim (hr.lt n) (hr.olt n)) (hv.snap (B:=⟨(both A φ).on,w.heap.size⟩) hr hlk (fun n x=>Or.inl x) (fun b sz es n base sz' room _ hp=>Or.inr ⟨b,_,_,_,hp⟩) 5)).mono ?_
 rintro e w' ⟨v,A',rfl,h1,h2,h3,h4,h5⟩
 have hs:∀m,m < w.heap.size→w'.heap[m]? = w.heap[m]? := fun m hm=>h5.same m hm fun x=>x
 have hr1:=hr.move (w':=w') (fun m hm=>hs m (hr.lt m hm)) (fun m hm=>hs m (hr.olt m hm)) h5.size
 refine⟨v,d,H,⟨fun m=>A m∨(A' m∧w.heap.size≤m),A.b0⟩,φ,rfl,hQ,⟨hr1.out,hr1.free,hr1.dead,fun b sz es hb=>(hr1.live b sz es hb).imp id fun⟨n,base,room,c,ty,q1,q2⟩=>
   ⟨n,base,room,c,ty,q1,q2.mono (fun _ x=>Or.inl x) (fun _ _=>rfl) (fun _=>Loc.le_refl _) rfl⟩,fun b clk es hb=>let ⟨n,ms,q1,q2⟩:=hr1.tab b clk es hb;⟨n,ms,q1,q2.mono (fun _ x=>Or.inl x) (fun _ _=>rfl) (fun _=>Loc.le_refl _) rfl⟩,hr1.inj,fun m hm ha=>?_,fun m hm=>hm.elim (hr1.lt m) fun x=>h4 m x.1,hr1.olt,hr1.ofr,hr1.bsz⟩,h1.freshUp (fun m hm hb=>Or.inr ⟨hm,hb⟩) hr.bsz 5 hd,⟨⟨h5.os,h5.tape,h5.output,h5.drawn,h5.size,fun n hn _=>hs n hn,fun n hn=>.inl hn⟩,fun _ x=>Or.inl x,fun m hm=>hm.imp id fun x=>.inr x.2,fun _=>Loc.le_refl _,rfl⟩⟩
 rcases ha with ha|ha
 ·exact hr1.dis m hm ha
 ·have:=hr.olt m hm;omega
theorem call_fresh {P:Program}{f:FuncId}{args:List D}{d:D}{H:List Blk}{Q:D→List Blk→Prop}(h:Maps P f (args.map (snap (fun b=>H[b]?) 5)) d)(hd:zeu 5 d=true)(hQ:Q d H):CallSp P f args H Q:=
 call_freshL (fun _ _ _ x=>x) h hd hQ
def sel (ks:List Nat)(H:List Blk)(b:Nat):Option Blk:=if ks.contains b then H[b]? else none
def killL (H:List Blk):List Nat→List Blk
 |[]=>H
 |b::ks=>killL (H.set b .dead) ks
theorem freezeL {w:World}:∀(ks:List Nat) {A:Rd} {φ:Nat→Loc} {H:List Blk},RH A φ w H→(∀b∈ks,b < H.length)→
  ∃(A':Rd) (φ':Nat→Loc),A'.b0=A.b0∧RH A' φ' w (killL H ks)∧(∀m,A m→A' m)∧(∀m,A' m→A m∨own φ m)∧(∀b,(φ b).le (φ' b))∧(∀m,own φ' m→own φ m)∧
   (∀b∈ks,∀n base sz room,φ b=.loc n base sz room→A' n)
 |[],A,φ,H,hr,_=>⟨A,φ,rfl,hr,fun _ x=>x,fun _=>.inl,fun _=>Loc.le_refl _,fun _ x=>x,fun b hb=>by cases hb⟩
 |b::ks,A,φ,H,hr,hk=>by
  have hb:=hk b (zB ..)
  obtain⟨A',φ',h0,h1,h2,h3,h4,h5,h6⟩:=freezeL ks (hr.freeze hb) fun b' hb'=>by simpa using hk b' (zG _ hb')
  have hown:∀m,own (upd φ b .dead) m→own φ m:=fun m hm=>by
   rcases zeZ hm with⟨_,_,_,e⟩|⟨b',_,_,_,_,e⟩
   ·cases e
   ·exact⟨b',_,_,_,e⟩
  refine⟨A',φ',h0,h1,fun m hm=>h2 m (.inl hm),fun m hm=>?_,fun b'=>Loc.le_trans (upd_le (.inr (.inl rfl)) b') (h4 b'),fun m hm=>hown m (h5 m hm),fun b' hb' n base sz room hp=>?_⟩
  ·rcases h3 m hm with (x|⟨_,_,_,x⟩)|x
   ·exact .inl x
   ·exact .inr ⟨b,_,_,_,x⟩
   ·exact .inr (hown m x)
  ·by_cases e:b'=b
   ·subst e;exact h2 n (.inr ⟨_,_,_,hp⟩)
   ·exact h6 b' ((zH.1 hb').resolve_left e) n base sz room (by rw[zc4 e];exact hp)
theorem call_take {P:Program}{f:FuncId}{args:List D}{d:D}{H:List Blk}{Q:D→List Blk→Prop}(ks:List Nat)(h:Maps P f (args.map (snap (sel ks H) 5)) d)(hk:∀b∈ks,b < H.length)
  (hQ:Q d (killL H ks)):CallSp P f args H Q:=by
 refine⟨h.1,fun w A φ vs hr hv=>?_⟩
 obtain⟨A1,φ1,k0,k1,k2,k3,k4,k5,k6⟩:=freezeL ks hr hk
 have hlk:∀b x,sel ks H b=some x→H[b]? = some x∧b∈ks:=fun b x hb=>by
  unfold sel at hb
  split at hb
  ·rename_i hc;exact⟨hb,by simpa using hc⟩
  ·cases hb
 refine (h.2 w A1.on vs k1.lt (hv.snap (B:=⟨A1.on,w.heap.size⟩) hr (fun b sz es hb=>(hlk b _ hb).1) k2 (fun b sz es n base sz' room hb hp=>k6 b (hlk b _ hb).2 n base sz' room hp) 5)).mono ?_
 rintro e w' ⟨v,A',rfl,h1,h2,h3,h4,h5⟩
 have hs:∀m,m < w.heap.size→w'.heap[m]? = w.heap[m]? := fun m hm=>h5.same m hm fun x=>x
 have hA':∀m,own φ1 m→¬A' m:=fun m hm ha=>by
  rcases h3 m ha with x|x
  ·exact k1.dis m hm x
  ·have:=k1.olt m hm;omega
 have hr1:=k1.move (w':=w') (fun m hm=>hs m (k1.lt m hm)) (fun m hm=>hs m (k1.olt m hm)) h5.size
 refine⟨v,d,killL H ks,⟨A',A.b0⟩,φ1,rfl,hQ,⟨hr1.out,hr1.free,hr1.dead,fun b sz es hb=>(hr1.live b sz es hb).imp id fun⟨n,base,room,c,ty,q1,q2⟩=>
   ⟨n,base,room,c,ty,q1,q2.mono h2 (fun _ _=>rfl) (fun _=>Loc.le_refl _) rfl (zaF k0.symm)⟩,fun b clk es hb=>let ⟨n,ms,q1,q2⟩:=hr1.tab b clk es hb;⟨n,ms,q1,q2.mono h2 (fun _ _=>rfl) (fun _=>Loc.le_refl _) rfl (zaF k0.symm)⟩,hr1.inj,hA',h4,hr1.olt,fun n hn=>k0 ▸ hr1.ofr n hn,k0 ▸ hr1.bsz⟩,V.mono (A:=⟨A',w.heap.size⟩) (A':=⟨A',A.b0⟩) (fun _ x=>x) (fun _ _=>rfl) (fun _=>.inl rfl) h1 hr.bsz,⟨⟨h5.os,h5.tape,h5.output,h5.drawn,h5.size,fun n hn _=>hs n hn,fun n hn=>.inl (k5 n hn)⟩,fun m hm=>h2 m (k2 m hm),fun m hm=>?_,k4,rfl⟩⟩
 rcases h3 m hm with x|x
 ·exact (k3 m x).imp id .inl
 ·exact .inr (.inr x)
def zd0 (t:List D)(f:Operand)(args:List Operand):Option (FuncId × List D):=
 match ev t f with
 |.fn (.func g) first caps=>some (g,first++(args.map (ev t)++caps))
 |_=>none
def guardD (ops:List Oper)(t:List D)(j:Nat):Option Bool:=
 match ops[j]? with
 |some o=>match o.dst with
  |some i=>match t[i]? with
   |some (.v (.bool b))=>some b
   |_=>none
  |none=>none
 |none=>none
def undefD (ops:List Oper)(t:List D)(j:Nat):Bool:=
 match ops[j]? with
 |some o=>match o.dst with
  |some i=>match t[i]? with
   |some (.v (.tuple _))=>true
   |_=>false
  |none=>false
 |none=>false
def yieldD (t:List D)(f:Operand):Option Nat:=
 match ev t f with
 |.fn (.yield l) [] []=>some l
 |_=>none
theorem zeM {t:List D}{f:Operand}{args:List Operand}{x:FuncId × List D}(h:zd0 t f args=some x):yieldD t f=none:=by
 unfold zd0 at h
 unfold yieldD
 split at h
 ·rename_i g first caps he;rw[he]
 ·cases h
def YOk (P:Program)(G:Gh):Prop:=∀l g ds vs K w (F:Fr),G.I g w F→VS F.A w F.φ ds vs→(∀n,F.A n→n < w.heap.size)→(∀n,F.O n→n < w.heap.size)→(∀n,F.O n→¬F.A n)→F.A.b0≤w.heap.size→G.Y l g ds K→
 ∃l' f tmps assign body,(Instr.yield l vs).run P w=.ok (.round l' f tmps assign body) w∧RoundIn Fence.wide 0 P l' f tmps assign body w fun e w'=>
  ∃b g',e=.returned (.bool b)∧K b g'∧G.I g' w' F∧(∀n,F.O n∨F.A n→w'.heap[n]? = w.heap[n]?)∧w.heap.size≤w'.heap.size
def zfb (P:Program)(G:Gh)(o:Oper)(st:St)(K:St→Prop):Prop:=
 match o.op with
 |.call { callee:=.value f,args,.. }=>match yieldD st.t f with
  |some l=>G.Y l st.g (args.toList.map (ev st.t)) fun b g'=>K { t:=setT st.t o.dst (.v (.bool b)),H:=st.H,ds:=st.ds,g:=g' }
  |none=>match zd0 st.t f args.toList with
   |some (g,xs)=>CallSp P g xs st.H fun d H'=>K { t:=setT st.t o.dst d,H:=H',ds:=st.ds,g:=st.g }
   |none=>False
 |op=>match zcp P st.H st.H.length st.t op with
  |some (d,e)=>K { t:=setT st.t o.dst d,H:=e.seq st.H,ds:=st.ds,g:=st.g }
  |none=>False
def runOps (P:Program)(G:Gh)(ops:List Oper):List Oper→St→(St→Prop)→Prop
 |[],st,K=>K st
 |o::rest,st,K=>match o.guard with
  |none=>zfb P G o st fun st'=>runOps P G ops rest st' K
  |some (j,want)=>match guardD ops st.t j with
   |some b=>if b=want then zfb P G o st fun st'=>runOps P G ops rest st' K else runOps P G ops rest { st with t:=setT st.t o.dst .any } K
   |none=>False
def lift (G:Gh)(Q:Exit→St→Prop)(e:Exit)(a:Act)(w:World):Prop:=∃st,Q e st∧FR G st a w
def Sp (P:Program)(ro:Option Nat)(G:Gh)(c:Code)(st:St)(Q:Exit→St→Prop):Prop:=
 ∀a w,FR G st a w→c.wpIn (FW ro) 0 P (lift G Q) a w
section
variable {P:Program}{ro:Option Nat}{G:Gh}(hG:zc6 G)(hY:YOk P G)
theorem Eff.app_seq {H:List Blk}{e:Eff}(h:∀b x,e=.upd b x→b < H.length)(h':∀b x,e=.ren (some b) x→b < H.length):
  (e=.keep∨∃b x,e=.upd b x)∨e.app (H++[.free]) H.length=e.seq H:=by
 cases e with
 |keep=>exact .inl (.inl rfl)
 |upd b x=>exact .inl (.inr ⟨b,x,rfl⟩)
 |put x=>right;simp[Eff.app,Eff.seq]
 |ren o x=>
  right
  cases o with
  |none=>simp[Eff.app,Eff.seq,killO]
  |some b=>
   have:=h' b x rfl
   simp only[Eff.app,Eff.seq,killO]
   rw[zD _ _ this]
   simp
theorem upd_tab {P:Program}{H:List Blk}{t:TypeId}{m k v:D}{b:Nat}{x:Blk}(h:mapUpdD P H t m k v=some (b,x)):∃y,H[b]? = some y∧y≠.free:=by
 unfold mapUpdD at h
 split at h
 ·split at h
  ·rename_i hb
   split at h
   ·cases h;exact⟨_,hb,fun e=>by cases e⟩
   ·cases h;exact⟨_,hb,fun e=>by cases e⟩
   ·cases h
  ·cases h
 ·cases h
theorem ent_tab {P:Program}{H:List Blk}{t:TypeId}{m k d:D}{b:Nat}{x:Blk}(h:mapEntD P H t m k=some (d,b,x)):∃y,H[b]? = some y∧y≠.free:=by
 unfold mapEntD at h
 split at h
 ·split at h
  ·rename_i hb
   split at h
   ·cases h;exact⟨_,hb,fun e=>by cases e⟩
   ·simp only[zd,zz] at h
    obtain⟨_,_,_,rfl,_⟩:=h;exact⟨_,hb,fun e=>by cases e⟩
   ·cases h
  ·cases h
 ·cases h
theorem sto_tab {H:List Blk}{m k v:D}{b:Nat}{x:Blk}(h:entStD H m k v=some (b,x)):∃y,H[b]? = some y∧y≠.free:=by
 unfold entStD at h
 split at h
 ·split at h
  ·rename_i hb
   split at h
   ·cases h;exact⟨_,hb,fun e=>by cases e⟩
   ·cases h
  ·cases h
 ·cases h
theorem stepD_upd {H:List Blk}{s:Nat}{t:List D}{op:Op}{d:D}{b:Nat}{x:Blk}(h:zcp P H s t op=some (d,.upd b x)):∃y,H[b]? = some y∧y≠.free:=by
 cases op<;>simp only[zcp,zcQ,zd,zz,reduceCtorEq,and_false,exists_false,zn,zaX] at h
 case makeMap _ r=>cases r<;>simp[zcp] at h
 case mapUpdate=>obtain⟨_,_,h1,_,h2⟩:=h;cases h2;exact upd_tab h1
 case mapEntry=>obtain⟨_,_,_,h1,_,h2⟩:=h;cases h2;exact ent_tab h1
 case entryStore=>obtain⟨_,_,h1,_,h2⟩:=h;cases h2;exact sto_tab h1
 case slice=>split at h<;>simp at h
 case box=>split at h<;>simp at h
 case store=>
  obtain⟨b',k,h1,_,h2⟩:=h
  cases h2
  unfold storeD at h1
  split at h1
  ·split at h1
   ·rename_i hb
    split at h1
    ·split at h1
     ·cases h1;exact⟨_,hb,fun e=>by cases e⟩
     ·cases h1
    ·cases h1
   ·cases h1
  ·cases h1
 case call c=>
  obtain⟨cal,args,tys⟩:=c
  cases cal with
  |builtin bi=>
   simp only at h
   unfold zdW at h
   split at h
   ·split at h<;>simp at h
   ·split at h<;>simp at h
   ·simp at h
   ·simp at h
   ·cases h
  |value f=>cases h
  |invoke r m=>cases h
theorem stepD_ren {H:List Blk}{s:Nat}{t:List D}{op:Op}{d:D}{b:Nat}{x:Blk}(h:zcp P H s t op=some (d,.ren (some b) x)):∃y,H[b]? = some y∧y≠.free:=by
 cases op<;>simp only[zcp,zcQ,zd,zz,reduceCtorEq,and_false,exists_false,zn] at h
 case makeMap _ r=>cases r<;>simp[zcp] at h
 case slice=>split at h<;>simp at h
 case box=>split at h<;>simp at h
 case call c=>
  obtain⟨cal,args,tys⟩:=c
  cases cal with
  |builtin bi=>
   simp only at h
   unfold zdW at h
   split at h
   ·split at h<;>simp at h
   ·split at h
    ·simp only[zd,zz,zaX] at h
     obtain⟨ob,sz,m,cap,es,h1,_,h2⟩:=h
     simp only[Eff.ren.injEq] at h2
     obtain⟨h2,_⟩:=h2
     simp only[zn] at h2
     subst h2
     unfold appendC at h1
     split at h1
     rotate_left
     ·cases h1
     split at h1
     rotate_left
     ·cases h1
     rename_i hb
     split at h1
     rotate_left
     ·cases h1
     simp only[zn,zz] at h1
     obtain⟨rfl,_⟩:=h1
     exact⟨_,hb,fun e=>by cases e⟩
    ·simp only[zd,zz,zaX] at h
     obtain⟨ob,sz,es,h1,_,h2⟩:=h
     simp only[Eff.ren.injEq] at h2
     obtain⟨rfl,_⟩:=h2
     unfold zew at h1
     split at h1
     ·split at h1
      rotate_left
      ·cases h1
      split at h1
      ·split at h1
       ·simp at h1
       ·split at h1
        ·rename_i hsz
         simp only[zn,zz] at h1
         obtain⟨rfl,_⟩:=h1
         unfold zcZ at hsz
         split at hsz
         ·rename_i hb;exact⟨_,hb,fun e=>by cases e⟩
         ·cases hsz
        ·cases h1
       ·cases h1
      ·cases h1
     ·cases h1
   ·simp at h
   ·simp at h
   ·cases h
  |value f=>cases h
  |invoke r m=>cases h
theorem stepD_seq (hG:zc6 G){st:St}{a:Act}{w:World}{A:Rd}{φ:Nat→Loc}(hr:FRc G st a w A φ){o:Oper}{d:D}{e:Eff}(h:zcp P st.H st.H.length st.t o.op=some (d,e)):
  ∃x w' A' φ',Ran P a o w x w'∧FRc G { t:=setT st.t o.dst d,H:=e.seq st.H,ds:=st.ds,g:=st.g } (a.put o.dst x) w' A' φ':=by
 have hsub:Sub st.H (st.H++[.free]):=fun b sz es hb=>by
  rw[zk (za.1 hb).1];exact hb
 have hsubT:SubT st.H (st.H++[.free]):=fun b c es hb=>by
  rw[zk (za.1 hb).1];exact hb
 have hk:∃x w' A' φ',Ran P a o w x w'∧FRc G { t:=setT st.t o.dst d,H:=e.app (st.H++[.free]) st.H.length,ds:=st.ds,g:=st.g } (a.put o.dst x) w' A' φ':=
  stepD_ok hG hr.room (s:=st.H.length) (by simp) (Hm:=st.H) hsub hsubT h
 obtain⟨x,w',A',φ',h1,h2⟩:=hk
 refine⟨x,w',A',φ',h1,?_⟩
 have drop:∀{H:List Blk},FRc G { t:=setT st.t o.dst d,H:=H++[.free],ds:=st.ds,g:=st.g } (a.put o.dst x) w' A' φ'→FRc G { t:=setT st.t o.dst d,H:=H,ds:=st.ds,g:=st.g } (a.put o.dst x) w' A' φ':=fun {H} h=>by
  refine⟨⟨fun b hb=>?_,fun b hb=>?_,fun b hb=>?_,fun b sz es hb=>?_,fun b clk es hb=>?_,h.rh.inj,h.rh.dis,h.rh.lt,h.rh.olt,h.rh.ofr,h.rh.bsz⟩,h.tr,h.gh,h.df,h.dk,h.nd⟩
  ·rcases zbD b H.length with hl|hl|hl
   ·rw[zaw] at hb;exact absurd hb (Nat.not_le_of_lt hl)
   ·exact h.rh.free b (by subst hl;simp)
   ·exact h.rh.out b (by simp;omega)
  ·exact h.rh.free b (by rw[zk (za.1 hb).1];exact hb)
  ·exact h.rh.dead b (by rw[zk (za.1 hb).1];exact hb)
  ·exact h.rh.live b sz es (by rw[zk (za.1 hb).1];exact hb)
  ·exact h.rh.tab b clk es (by rw[zk (za.1 hb).1];exact hb)
 rcases Eff.app_seq (H:=st.H) (e:=e) (fun b x he=>let ⟨_,h,_⟩:=stepD_upd (he ▸ h);(za.1 h).1) (fun b x he=>let ⟨_,h,_⟩:=stepD_ren (he ▸ h);(za.1 h).1) with (rfl|⟨b,y,rfl⟩)|he
 ·exact drop h2
 ·refine drop ?_
  obtain⟨_,hb,_⟩:=stepD_upd h
  replace hb:=(za.1 hb).1
  simp only[Eff.app,Eff.seq] at h2 ⊢
  rwa [zD _ _ hb] at h2
 ·rwa [he] at h2
theorem guard_ok {ops:List Oper}{A:Rd}{w:World}{φ:Nat→Loc}{t:List D}{tmps:Array Value}(ht:TR A w φ t tmps){j:Nat}{b:Bool}(h:guardD ops t j=some b):
  yielded ops.toArray tmps j=some b:=by
 unfold guardD at h
 split at h
 ·rename_i o ho
  split at h
  ·rename_i i hi
   split at h
   ·rename_i b' hb
    cases h
    have hlt:i < tmps.size:=by rw[ht.size];exact (za.1 hb).1
    have hv:=(ht.val i _ tmps[i] hb (by simp[hlt])).v_inv
    simp[yielded,ho,hi,hlt,hv]
   ·cases h
  ·cases h
 ·cases h
theorem undef_ok {ops:List Oper}{A:Rd}{w:World}{φ:Nat→Loc}{t:List D}{tmps:Array Value}(ht:TR A w φ t tmps){j:Nat}(h:undefD ops t j=true):
  yielded ops.toArray tmps j=none:=by
 unfold undefD at h
 split at h
 ·rename_i o ho
  split at h
  ·rename_i i hi
   split at h
   ·rename_i b' hb
    have hlt:i < tmps.size:=by rw[ht.size];exact (za.1 hb).1
    have hv:=(ht.val i _ tmps[i] hb (by simp[hlt])).v_inv
    simp[yielded,ho,hi,hlt,hv]
   ·cases h
  ·cases h
 ·cases h
theorem CallSp.any {f:FuncId}{args:List D}{H:List Blk}{Q:D→List Blk→Prop}(h:CallSp P f args H Q)(ro:Option Nat)(w:World)(A:Rd)(φ:Nat→Loc)(vs:Array Value)
  (hr:RH A φ w H) (hv:VS A w φ args vs):CallsIn (FW ro) 0 P f vs w fun e w'=>∃(v:Value) (d:D) (H':List Blk) (A':Rd) (φ':Nat→Loc),e=.returned v∧Q d H'∧RH A' φ' w' H'∧V A' w' φ' d v∧Evo w A φ w' A' φ':=
 h.2 w A φ vs hr hv
theorem FRc.evo (hG:zc6 G){st:St}{a:Act}{w w':World}{A A':Rd}{φ φ':Nat→Loc}(h:FRc G st a w A φ){H':List Blk}(hr:RH A' φ' w' H')(he:Evo w A φ w' A' φ'):
  FRc G { st with H:=H' } a w' A' φ':=h.step hG hr he.ext he.up he.new he.le he.b0
theorem execO_ok (hG:zc6 G)(hY:YOk P G){st:St}{a:Act}{w:World}{o:Oper}{K:St→Prop}{next:Act→World→Prop}{Q:Exit→Act→World→Prop}(hr:FR G st a w)(h:zfb P G o st K)
  (hK:∀st' a' w',K st'→FR G st' a' w'→next a' w'):o.wpIn (FW ro) 0 P a w next Q:=by
 obtain⟨A,φ,hr⟩:=hr
 refine⟨fun _ _=>trivial,?_⟩
 have plain:∀{d:D} {e:Eff},zcp P st.H st.H.length st.t o.op=some (d,e)→K { t:=setT st.t o.dst d,H:=e.seq st.H,ds:=st.ds,g:=st.g }→(∀c,o.op≠.defer c)→
   o.uponIn (FW ro) 0 P a next Q ((o.semAt (FW ro).round a.eval).run P w):=fun {d e} h1 h2 h3=>by
  obtain⟨x,w',A',φ',h4,h5⟩:=stepD_seq hG hr h1
  rw[Oper.semAt_eq _ _ _ h3]
  rcases h4 with h4|⟨h4,rfl⟩
  ·rw[h4];exact hK _ _ _ h2 ⟨A',φ',h5⟩
  ·rw[h4];exact hK _ _ _ h2 ⟨A',φ',h5⟩
 have rest:(match zcp P st.H st.H.length st.t o.op with|some (d,e)=>K { t:=setT st.t o.dst d,H:=e.seq st.H,ds:=st.ds,g:=st.g }|none=>False)→(∀c,o.op≠.defer c)→
   o.uponIn (FW ro) 0 P a next Q ((o.semAt (FW ro).round a.eval).run P w):=fun h1 h3=>by
  split at h1
  ·rename_i d e h2;exact plain h2 h1 h3
  ·exact h1.elim
 cases ho:o.op with
 |call c=>
  obtain⟨cal,args,tys⟩:=c
  cases cal with
  |value f=>
   unfold zfb at h
   rw[ho] at h
   simp only at h
   split at h
   ·rename_i l hl
    unfold yieldD at hl
    split at hl
    ·rename_i l' hf
     cases hl
     have hvf:=hr.tr.ev f
     rw[hf] at hvf
     generalize hu:a.eval f=u at hvf
     cases hvf with
     |fn _ _ _ _ vs us hl hl' hh hh'=>
      obtain rfl:vs=#[]:=za5 hl
      obtain rfl:us=#[]:=za5 hl'
      have hvs:VS A w φ (args.toList.map (ev st.t)) (args.map a.eval):=by
       refine⟨by simp,fun i d u h1 h2=>?_⟩
       simp only[zl,zd,Array.getElem?_map,Array.getElem?_toList] at h1 h2
       obtain⟨x,h1,rfl⟩:=h1
       obtain⟨y,h2,rfl⟩:=h2
       rw[h1] at h2;cases h2;exact hr.tr.ev x
      have hsz:∀n,zec φ st.ds n→n < w.heap.size:=fun n hn=>hn.elim (hr.rh.olt n) fun hm=>(z3.1 (hr.dk n hm).1).1
      have hdj:∀n,zec φ st.ds n→¬A n:=fun n hn=>hn.elim (hr.rh.dis n) fun hm=>(hr.dk n hm).2.1
      obtain⟨l',f',tmps,asg,body,h1,h2⟩:=hY l st.g _ _ _ w _ hr.gh hvs hr.rh.lt hsz hdj hr.rh.bsz h
      have hsem:(o.semAt (FW ro).round a.eval).run P w=.ok (.round l' f' tmps asg body) w:=by
       rw[Oper.semAt_eq _ _ _ (by rw[ho];simp)]
       simp only[execOp,ho,resolve,hu,Deferred.ofValue,Sem.run_bind,Sem.run_pure,Result.andThen,invoke]
       simpa using h1
      rw[hsem]
      refine⟨fun hd=>by simp[FW,Fence.wide] at hd,RoundIn.mono (F:=FW ro) h2 ?_⟩
      rintro e w' ⟨b,g',rfl,k1,k2,k3,k4⟩
      have hr':FRc G { t:=st.t,H:=st.H,ds:=st.ds,g:=g' } a w' A φ:=
       ⟨hr.rh.move (fun m hm=>k3 m (.inr hm)) (fun m hm=>k3 m (.inl (.inl hm))) k4,hr.tr.mono (fun _ x=>x) (fun m hm=>k3 m (.inr hm)) (fun _=>Loc.le_refl _),k2,hr.df,fun r hm=>⟨(k3 r (.inl (.inr hm))).trans (hr.dk r hm).1,(hr.dk r hm).2⟩,hr.nd⟩
      exact hK _ _ _ k1 ⟨A,φ,hr'.value o.dst (.v _ _)⟩
    ·cases hl
   ·rename_i hyl
    split at h
    ·rename_i g xs hc
     unfold zd0 at hc
     split at hc
     ·rename_i g' first caps hf
      simp only[zn,zz] at hc
      obtain⟨rfl,rfl⟩:=hc
      have hvf:=hr.tr.ev f
      rw[hf] at hvf
      generalize hu:a.eval f=u at hvf
      cases hvf with
      |fn _ _ _ _ vs us hl hl' hh hh'=>
       have hsem:(o.semAt (FW ro).round a.eval).run P w=.ok (.enter g' (vs++args.map a.eval++us)) w:=by
        rw[Oper.semAt_eq _ _ _ (by rw[ho];simp)]
        simp only[execOp,ho,resolve,hu,Deferred.ofValue,Sem.run_bind,Sem.run_pure,Result.andThen,invoke]
        exact h.1 _ _
       rw[hsem]
       refine⟨fun hd=>by simp[FW,Fence.wide] at hd,?_⟩
       have hvs:VS A w φ (first++(args.toList.map (ev st.t)++caps)) (vs++args.map a.eval++us):=by
        refine⟨by simp[hl,hl'],fun i d u h1 h2=>?_⟩
        rw[Array.append_assoc,zbV] at h2
        rw[zan] at h1
        split at h1
        ·rename_i hi
         rw[if_pos (by omega)] at h2
         exact hh i d u h1 h2
        ·rename_i hi
         rw[if_neg (by omega),zbV] at h2
         rw[zan] at h1
         rw[hl] at h2
         simp only[Array.size_map] at h2
         split at h1
         ·rename_i hi2
          rw[if_pos (by simpa using hi2)] at h2
          simp only[zl,zd,Array.getElem?_map,Array.getElem?_toList] at h1 h2
          obtain⟨x,h1,rfl⟩:=h1
          obtain⟨y,h2,rfl⟩:=h2
          rw[h1] at h2;cases h2;exact hr.tr.ev x
         ·rename_i hi2
          rw[if_neg (by simpa using hi2)] at h2
          simp only[ze,zaI] at h1
          exact hh' _ d u h1 h2
       refine (h.any ro w A φ _ hr.rh hvs).mono ?_
       rintro e w' ⟨v,d,H',A',φ',rfl,q,h1,h2,h3⟩
       exact hK _ _ _ q ⟨A',φ',(hr.evo hG h1 h3).value o.dst h2⟩
     ·cases hc
    ·exact h.elim
  |builtin b=>exact rest (by unfold zfb at h;rw[ho] at h;rw[ho];exact h) (by rw[ho];simp)
  |invoke r m=>exact rest (by unfold zfb at h;rw[ho] at h;rw[ho];exact h) (by rw[ho];simp)
 |defer c=>unfold zfb at h;rw[ho] at h;exact h.elim
 |_=>exact rest (by unfold zfb at h;rw[ho] at h;rw[ho];exact h) (by rw[ho];simp)
theorem runOps_ok (hG:zc6 G)(hY:YOk P G){ops:List Oper}{Q:Exit→Act→World→Prop}{K:St→Prop}(hK:∀st' a' w',K st'→FR G st' a' w'→Q .normal a' w'):∀(l:List Oper) (st:St) (a:Act) (w:World),FR G st a w→runOps P G ops l st K→
  wpListIn (FW ro) 0 P ops.toArray Q l a w
 |[],st,a,w,hr,h=>hK st a w h hr
 |o::l,st,a,w,hr,h=>by
  have ih:=runOps_ok (ops:=ops) hG hY hK l
  unfold runOps at h
  unfold wpListIn
  split at h
  ·rename_i hg
   rw[if_pos (by simp[Region.wanted,hg])]
   exact execO_ok hG hY hr h fun st' a' w' h1 h2=>ih st' a' w' h2 h1
  ·rename_i j want hg
   split at h
   ·rename_i b hb
    obtain⟨A,φ,hr'⟩:=hr
    have hy:=guard_ok (ops:=ops) hr'.tr hb
    have hw:Region.wanted o (yielded ops.toArray a.tmps)=(b==want):=by simp[Region.wanted,hg,hy]
    rw[hw]
    split at h
    ·rename_i hbw
     rw[if_pos (by simpa using hbw)]
     exact execO_ok hG hY ⟨A,φ,hr'⟩ h fun st' a' w' h1 h2=>ih st' a' w' h2 h1
    ·rename_i hbw
     rw[if_neg (by simpa using hbw)]
     exact⟨fun _ _=>trivial,ih _ _ _ ⟨A,φ,hr'.value o.dst (.any _ _)⟩ h⟩
   ·exact h.elim
theorem Sp.mono {c:Code}{st:St}{Q Q':Exit→St→Prop}(h:Sp P ro G c st Q)(k:∀e s,Q e s→Q' e s):Sp P ro G c st Q':=
 fun a w hr=>wpIn_mono (h a w hr) fun e _ _ ⟨s,q,r⟩=>⟨s,k e s q,r⟩
theorem Sp_region (hG:zc6 G)(hY:YOk P G){id:Nat}{ops:List Oper}{st:St}{Q:Exit→St→Prop}(h:runOps P G ops ops st (Q .normal)):Sp P ro G (.region id ops.toArray false) st Q:=
 fun a w hr=>wpIn_region_lit (runOps_ok hG hY (fun st' _ _ q r=>⟨st',q,r⟩) ops st a w hr h)
theorem Sp_seq {x y:Code}{st:St}{Q:Exit→St→Prop}(h:Sp P ro G x st fun e s=>match e with|.normal=>Sp P ro G y s Q|e=>Q e s):Sp P ro G (.seq x y) st Q:=
 fun a w hr=>wpIn_seq (wpIn_mono (h a w hr) fun e a w ⟨s,q,r⟩=>by
  cases e with
  |normal=>exact q a w r
  |_=>exact⟨s,q,r⟩)
theorem Sp_cond {c:Operand}{x y:Code}{st:St}{Q:Exit→St→Prop}{b:Bool}(hc:ev st.t c=.v (.bool b))(hx:b=true→Sp P ro G x st Q)(hy:b=false→Sp P ro G y st Q):Sp P ro G (.cond c x y) st Q:=
 fun a w hr=>by
  obtain⟨A,φ,hr'⟩:=hr
  have hv:=hr'.tr.ev c
  rw[hc] at hv
  refine wpIn_cond hv.v_inv ?_
  cases b with
  |true=>exact hx rfl a w ⟨A,φ,hr'⟩
  |false=>exact hy rfl a w ⟨A,φ,hr'⟩
def QBlock (id:Nat)(Q:Exit→St→Prop):Exit→St→Prop
 |.exit id',s=>if id'=id then Q .normal s else Q (.exit id') s
 |e,s=>Q e s
theorem Sp_block {id:Nat}{c:Code}{st:St}{Q:Exit→St→Prop}(h:Sp P ro G c st (QBlock id Q)):Sp P ro G (.block id c) st Q:=
 fun a w hr=>wpIn_block (wpIn_mono (h a w hr) fun e a w ⟨s,q,r⟩=>by
  cases e with
  |exit id'=>
   simp only[Exit.inBlock,QBlock] at q ⊢
   split
   ·rename_i hi;rw[if_pos hi] at q;exact⟨s,q,r⟩
   ·rename_i hi;rw[if_neg hi] at q;exact⟨s,q,r⟩
  |_=>exact⟨s,q,r⟩)
theorem exists_least {p:Nat→Prop}(h:∃n,p n):∃n,p n∧∀m,p m→n≤m:=by
 obtain⟨n,hn⟩:=h
 induction n using Nat.strongRecOn with
 |_ n ih=>
  by_cases hm:∃m,m < n∧p m
  ·obtain⟨m,h1,h2⟩:=hm;exact ih m h1 h2
  ·refine⟨n,hn,fun m h2=>zbI fun h1=>hm ⟨m,h1,h2⟩⟩
open Classical in
noncomputable def leastOf (p:Nat→Prop):Nat:=if h:∃n,p n then Classical.choose (exists_least h) else 0
theorem leastOf_spec {p:Nat→Prop}(h:∃n,p n):p (leastOf p)∧∀m,p m→leastOf p≤m:=by
 unfold leastOf
 rw[dif_pos h]
 exact Classical.choose_spec (exists_least h)
theorem Sp_loop {c:Code}{st:St}{Q:Exit→St→Prop}(I:Nat→St→Prop)(h0:∃j,I j st)
  (h:∀j s,I j s→Sp P ro G c s fun e s'=>match e with|.normal=>∃j',j' < j∧I j' s'|e=>Q e s'):Sp P ro G (.loop c) st Q:=fun a w hr=>by
 refine wpIn_loop (fun a w=>∃j s,I j s∧FR G s a w) (fun a w=>leastOf fun j=>∃s,I j s∧FR G s a w) ?_ ?_
 ·obtain⟨j,hj⟩:=h0;exact⟨j,st,hj,hr⟩
 ·intro a w hI
  obtain⟨⟨s,h1,h2⟩,_⟩:=leastOf_spec hI
  refine wpIn_mono (h _ s h1 a w h2) fun e a' w' ⟨s',q,r⟩=>?_
  cases e with
  |normal=>
   obtain⟨j',hj,hI'⟩:=q
   have:=(leastOf_spec (p:=fun j=>∃s,I j s∧FR G s a' w') ⟨j',s',hI',r⟩).2 j' ⟨s',hI',r⟩
   exact⟨⟨j',s',hI',r⟩,by show leastOf _ < leastOf _;omega⟩
  |_=>exact⟨s',q,r⟩
def vc (P:Program)(ro:Option Nat)(G:Gh):Code→St→(Exit→St→Prop)→Prop
 |.skip,st,Q=>Q .normal st
 |.region _ ops false,st,Q=>runOps P G ops.toList ops.toList st (Q .normal)
 |.seq x y,st,Q=>vc P ro G x st fun e s=>match e with|.normal=>vc P ro G y s Q|e=>Q e s
 |.cond c x y,st,Q=>match ev st.t c with
  |.v (.bool b)=>(b=true→vc P ro G x st Q)∧(b=false→vc P ro G y st Q)
  |_=>False
 |.block id c,st,Q=>vc P ro G c st (QBlock id Q)
 |.exit id,st,Q=>Q (.exit id) st
 |.ret,st,Q=>Q .ret st
 |c,st,Q=>Sp P ro G c st Q
theorem vc_ok (hG:zc6 G)(hY:YOk P G):∀(c:Code) {st:St} {Q:Exit→St→Prop},vc P ro G c st Q→Sp P ro G c st Q
 |.skip,st,Q,h=>fun _ _ hr=>wpIn_skip ⟨st,h,hr⟩
 |.region id ops draw,st,Q,h=>by
  cases draw with
  |true=>exact h
  |false=>
   obtain⟨ops,rfl⟩:∃l:List Oper,l.toArray=ops:=⟨ops.toList,by simp⟩
   exact Sp_region hG hY (by simpa[vc] using h)
 |.seq x y,st,Q,h=>Sp_seq ((vc_ok hG hY x h).mono fun e s q=>by
   cases e with
   |normal=>exact vc_ok hG hY y q
   |_=>exact q)
 |.cond c x y,st,Q,h=>by
  unfold vc at h
  split at h
  ·rename_i b hb;exact Sp_cond hb (fun e=>vc_ok hG hY x (h.1 e)) fun e=>vc_ok hG hY y (h.2 e)
  ·exact h.elim
 |.block id c,st,Q,h=>Sp_block (vc_ok hG hY c h)
 |.exit id,st,Q,h=>fun _ _ hr=>wpIn_exit ⟨st,h,hr⟩
 |.ret,st,Q,h=>fun _ _ hr=>wpIn_ret ⟨st,h,hr⟩
 |.loop c,st,Q,h=>h
 |.rangeFunc _ _ _ _,st,Q,h=>h
 |.scope _,st,Q,h=>h
 |.label _,st,Q,h=>h
 |.goto _,st,Q,h=>h
 |.refuse _,st,Q,h=>h
end
end
end Go.DL
/- A function's plain contract out of what has to be shown of its code. -/
namespace Go.DL
open Go.RowKit Go.Proofs
noncomputable section
def resOne (P:Program)(s:St):ResultVar→Option D
 |.tmp t=>some (s.t.getD t .any)
 |.cell a t=>zeO P s.H t (s.t.getD a .any)
def resL (P:Program)(s:St):List ResultVar→Option (List D)
 |[]=>some []
 |r::rs=>match resOne P s r,resL P s rs with
  |some d,some ds=>some (d::ds)
  |_,_=>none
def resD (P:Program)(rs:List ResultVar)(s:St):Option D:=
 match resL P s rs with
 |some [d]=>some d
 |some ds=>some (.tup ds)
 |none=>none
def frK (lk:Nat→Option Blk):Nat→D→Bool
 |_,.v _=>true
 |_,.any=>true
 |_,.nil=>true
 |_,.fl _=>true
 |k+1,.ms b _ _ _=>match lk b with
  |some (.live _ es)=>es.all fun e=>e.all (frK lk k)
  |_=>true
 |_,_=>false
def snapR (lk:Nat→Option Blk):Nat→D→D
 |_,.nil=>.fl []
 |_,.fl es=>.fl es
 |k+1,.agg cs=>.agg (cs.map (snapR lk k))
 |k+1,.tup cs=>.tup (cs.map (snapR lk k))
 |k+1,.ms b off len _=>match lk b with
  |some (.live _ es)=>if off+len≤es.length then
    if es.all (fun e=>e.all (frK lk k))=true then .fl (((es.take (off+len)).drop off).map (List.map (snap lk k))) else .sl (((es.take (off+len)).drop off).map (List.map (snap lk k)))
   else .any
  |_=>.any
 |k,d=>snap lk k d
def Post (P:Program)(rs:List ResultVar)(d:D):Exit→St→Prop
 |.normal,s=>(resD P rs s).map (snapR (fun b=>s.H[b]?) 5)=some d
 |.ret,s=>(resD P rs s).map (snapR (fun b=>s.H[b]?) 5)=some d
 |_,_=>False
section
variable {P:Program}{w:World}{A:Rd}{φ:Nat→Loc}
def resSem (tmps:Array Value):ResultVar→Sem Value
 |.tmp t=>pure (tmps.getD t undef)
 |.cell b t=>do loadVar t (←asAddr (tmps.getD b undef))
theorem run_resOne {st:St}{a:Act}(hr:RH A φ w st.H)(ht:TR A w φ st.t a.tmps){r:ResultVar}{d:D}(h:resOne P st r=some d):
  ∃x,(resSem a.tmps r).run P w=.ok x w∧V A w φ d x:=by
 cases r with
 |tmp t=>
  simp only[resOne,zn] at h
  subst h
  exact⟨_,rfl,(by rw[←lkF_eq];exact ht.ev (.tmp t))⟩
 |cell b t=>
  have hv:=ht.ev (.tmp b)
  have h':zeO P st.H t (st.t.getD b .any)=some d:=h
  simp only[ev,lkF_eq,Act.eval] at hv
  unfold zeO at h'
  split at h'
  ·rename_i cs hcs
   obtain⟨n,o,hu,hc⟩:=peek_ok hr (Sub.refl _) hv hcs
   obtain⟨x,h1,h2⟩:=run_loadVar_take h' hc
   exact⟨x,by simp only[resSem,hu,asAddr,Sem.run_bind,Sem.run_pure,Result.andThen,h1],h2⟩
  ·cases h'
theorem run_resL {st:St}{a:Act}(hr:RH A φ w st.H)(ht:TR A w φ st.t a.tmps):∀{rs:List ResultVar} {ds:List D},resL P st rs=some ds→
  ∃xs:List Value,(rs.mapM (resSem a.tmps)).run P w=.ok xs w∧xs.length=ds.length∧
   ∀(i:Nat) (d:D) (u:Value),ds[i]? = some d→xs[i]? = some u→V A w φ d u
 |[],ds,h=>by
  simp only[resL,zn] at h;subst h
  exact⟨[],rfl,rfl,by simp⟩
 |r::rs,ds,h=>by
  simp only[resL] at h
  split at h
  ·rename_i d ds' h1 h2
   cases h
   obtain⟨x,k1,k2⟩:=run_resOne hr ht h1
   obtain⟨xs,k3,k4,k5⟩:=run_resL hr ht h2
   refine⟨x::xs,?_,by simp[k4],fun i d' u h3 h4=>?_⟩
   ·simp only[List.mapM_cons,Sem.run_bind,k1,Result.andThen,Sem.run_pure,k3]
   ·cases i with
    |zero=>simp at h3 h4;subst h3;subst h4;exact k2
    |succ i=>simp at h3 h4;exact k5 i d' u h3 h4
  ·cases h
theorem run_resD {st:St}{a:Act}(hr:RH A φ w st.H)(ht:TR A w φ st.t a.tmps){fn:Func}{d:D}(h:resD P fn.results.toList st=some d):
  ∃x,(results fn a.tmps).run P w=.ok x w∧V A w φ d x:=by
 have hres:results fn a.tmps=(do let vs ←fn.results.mapM (resSem a.tmps);pure (if h:vs.size=1 then vs[0] else .tuple vs)):=by
  unfold results
  congr 2
 unfold resD at h
 have key:∀{ds:List D},resL P st fn.results.toList=some ds→∃xs:List Value,(results fn a.tmps).run P w=.ok (if h:xs.toArray.size=1 then xs.toArray[0] else .tuple xs.toArray) w∧xs.length=ds.length∧
   ∀(i:Nat) (d:D) (u:Value),ds[i]? = some d→xs[i]? = some u→V A w φ d u:=fun {ds} hl=>by
  obtain⟨xs,k1,k2,k3⟩:=run_resL hr ht hl
  refine⟨xs,?_,k2,k3⟩
  rw[hres,Array.mapM_eq_mapM_toList,Sem.run_bind,Sem.run_map,k1]
  rfl
 split at h
 ·rename_i d' hl
  cases h
  obtain⟨xs,k1,k2,k3⟩:=key hl
  match xs,k2 with
  |[x],_=>exact⟨x,by rw[k1];rfl,k3 0 _ x rfl rfl⟩
 ·rename_i ds hne hl
  cases h
  obtain⟨xs,k1,k2,k3⟩:=key hl
  have hne1:¬(xs.toArray.size=1):=fun e=>by
   simp only[zbo] at e
   match ds,hne,k2 with
   |[d],hne,_=>exact hne d rfl
   |[],_,k2=>simp at k2;subst k2;cases e
   |_::_::_,_,k2=>simp at k2;omega
  rw[dif_neg hne1] at k1
  exact⟨_,k1,.tup _ _ _ (by simpa using k2) fun i d u h1 h2=>k3 i d u h1 (by simpa using h2)⟩
 ·cases h
end
theorem V.snapF {A:Rd}{w:World}{φ:Nat→Loc}{H:List Blk}(hr:RH A φ w H){lk:Nat→Option Blk}(hlk:∀b sz es,lk b=some (.live sz es)→H[b]? = some (.live sz es)){B:Rd}
  (hA:∀n,A n→A.b0≤n→B n) (hB:∀n,own φ n→B n):
  ∀(k:Nat) {d:D} {u:Value},V A w φ d u→frK lk k d=true→V B w zcM (DL.snap lk k d) u:=by
 have leaf:∀{es:List (List D)} {u:Value},V A w φ (.fl es) u→V B w zcM (.sl es) u:=fun {es u} h=>by
  cases h with
  |fl0=>exact .sl0 _ _ _
  |fl _ _ n off sz cap u ha hcap hsz hc h=>
   exact .sl _ _ n off sz cap u (hA n ha.1 ha.2) hcap hsz hc fun i e j d h1 h2=>V.mono (A:=A.fresh) (A':=B.all) (fun m hm=>hA m hm.1 hm.2) (fun _ _=>rfl) (fun _=>Loc.le_refl _) (h i e j d h1 h2)
 intro k
 induction k with
 |zero=>
  intro d u h hd
  cases d<;>simp[frK] at hd
  ·cases h;exact .v _ _
  ·exact leaf h
  ·cases h;exact .sl0 _ _ _
  ·exact .any _ _
 |succ k ih=>
  intro d u h hd
  cases d<;>simp only[frK,zah] at hd
  ·cases h;exact .v _ _
  ·exact leaf h
  ·rename_i b off len cap
   cases h with
   |ms _ _ _ _ _ cap' a hlen hcap h=>
    simp only[DL.snap]
    split
    ·rename_i sz es hb0
     have hb:=hlk _ _ _ hb0
     rw[hb0] at hd
     simp only[zh] at hd
     split
     ·rename_i hol
      rcases hr.live b sz es hb with⟨rfl,hp⟩|⟨n,base,room,c,ty,hp,hl⟩
      ·simp at hol;obtain⟨rfl,rfl⟩:=hol
       simp;exact .sl0 _ _ _
      ·rw[hp] at h
       obtain⟨h1,h2⟩:=h
       rcases zag len with hz|hz
       ·subst hz;simp;exact .sl0 _ _ _
       have ha:a=some ⟨n,base+off*sz,none⟩:=h2.resolve_left (by omega)
       subst ha
       have hlen2:(((es.take (off+len)).drop off).map (List.map (DL.snap lk k))).length=len:=by simp;omega
       have hex:∀(i:Nat) (e:List D),(((es.take (off+len)).drop off).map (List.map (DL.snap lk k)))[i]? = some e→∃e0,es[off+i]? = some e0∧e=e0.map (DL.snap lk k):=fun i e he=>by
        simp only[zl,zd,zV,z5] at he
        obtain⟨e0,he,rfl⟩:=he
        split at he
        ·exact⟨e0,he,rfl⟩
        ·cases he
       have hcell:∀(i:Nat) (e:List D) (j:Nat) (d:D),(((es.take (off+len)).drop off).map (List.map (DL.snap lk k)))[i]? = some e→e[j]? = some d→
         w.cell? ⟨n,base+off*sz+i*sz+j,none⟩=some ((c[base+(off+i)*sz+j]?).getD default)∧V B w zcM d ((c[base+(off+i)*sz+j]?).getD default):=fun i e j d he hd'=>by
        obtain⟨e0,h3,rfl⟩:=hex i e he
        simp only[zl,zd] at hd'
        obtain⟨d0,h4,rfl⟩:=hd'
        obtain⟨u,hu,hv⟩:=hl.val _ _ _ _ h3 h4
        rw[zer hl.blk,show base+off*sz+i*sz+j=base+(off+i)*sz+j by rw[zad];omega,hu]
        exact⟨rfl,ih hv (hd e0 (zm h3) d0 (zm h4))⟩
       have:=V.sl (A:=B) (w:=w) zcM (((es.take (off+len)).drop off).map (List.map (DL.snap lk k))) n (base+off*sz) sz cap' (fun i j=>(c[base+(off+i)*sz+j]?).getD default)
        (hB n ⟨b,_,_,_,hp⟩) (by omega) (fun i e he=>by obtain⟨e0,h3,rfl⟩:=hex i e he;simpa using hl.len _ _ h3)
        (fun i e j d he hd=>(hcell i e j d he hd).1)
        (fun i e j d he hd=>V.mono (A:=B) (A':=B.all) (fun _ x=>x) (fun _ _=>rfl) (fun _=>Loc.le_refl _) (hcell i e j d he hd).2 (zj _))
       rw[hlen2] at this
       exact this
     ·exact .any _ _
    ·exact .any _ _
  ·cases h;exact .sl0 _ _ _
  ·exact .any _ _
theorem V.snapR {A:Rd}{w:World}{φ:Nat→Loc}{H:List Blk}(hr:RH A φ w H){lk:Nat→Option Blk}(hlk:∀b sz es,lk b=some (.live sz es)→H[b]? = some (.live sz es)):
  ∀(k:Nat) {d:D} {u:Value},V A w φ d u→V (both A φ) w zcM (DL.snapR lk k d) u:=by
 have plain:∀(k:Nat) {d:D} {u:Value},V A w φ d u→V (both A φ) w zcM (DL.snap lk k d) u:=fun k d u h=>
  h.snap hr hlk (fun _ x=>Or.inl x) (fun b sz es n base sz' room _ hp=>Or.inr ⟨b,_,_,_,hp⟩) k
 have leaf:∀{es:List (List D)} {u:Value},V A w φ (.fl es) u→V (both A φ) w zcM (.fl es) u:=fun {es u} h=>by
  cases h with
  |fl0=>exact .fl0 _ _ _
  |fl _ _ n off sz cap u ha hcap hsz hc h=>
   exact .fl _ _ n off sz cap u ⟨Or.inl ha.1,ha.2⟩ hcap hsz hc fun i e j d h1 h2=>
    V.mono (A:=A.fresh) (A':=(both A φ).fresh) (fun m hm=>⟨Or.inl hm.1,hm.2⟩) (fun _ _=>rfl) (fun _=>Loc.le_refl _) (h i e j d h1 h2)
 intro k
 induction k with
 |zero=>
  intro d u h
  cases d with
  |nil=>cases h;exact .fl0 _ _ _
  |fl es=>exact leaf h
  |_=>exact plain 0 h
 |succ k ih=>
  intro d u h
  cases d with
  |nil=>cases h;exact .fl0 _ _ _
  |fl es=>exact leaf h
  |agg cs=>
   cases h with
   |agg _ _ vs hl h=>
    refine .agg _ _ _ (by simpa using hl) fun i d u h1 h2=>?_
    simp only[zl,zd] at h1
    obtain⟨d0,h1,rfl⟩:=h1
    exact ih (h i d0 u h1 h2)
  |tup cs=>
   cases h with
   |tup _ _ vs hl h=>
    refine .tup _ _ _ (by simpa using hl) fun i d u h1 h2=>?_
    simp only[zl,zd] at h1
    obtain⟨d0,h1,rfl⟩:=h1
    exact ih (h i d0 u h1 h2)
  |ms b off len cap=>
   have hp:=plain (k+1) h
   simp only[DL.snapR]
   simp only[DL.snap] at hp
   split
   ·rename_i sz es hb0
    simp only[hb0] at hp
    split
    ·rename_i hol
     rw[if_pos hol] at hp
     split
     ·rename_i hall
      have hF:=h.snapF hr hlk (B:=(both A φ).fresh) (fun n h1 h2=>⟨Or.inl h1,h2⟩) (fun n hn=>⟨Or.inr hn,hr.ofr n hn⟩) (k+1) (by simp only[frK,hb0];exact hall)
      simp only[DL.snap,hb0,if_pos hol] at hF
      generalize ((es.take (off+len)).drop off).map (List.map (DL.snap lk k))=L at hF
      cases hF with
      |sl0=>exact .fl0 _ _ _
      |sl _ _ n off sz cap u ha hcap hsz hc hq=>exact .fl _ _ n off sz cap u ha hcap hsz hc fun i e j d h1 h2=>hq i e j d h1 h2
     ·exact hp
    ·exact .any _ _
   ·exact .any _ _
  |_=>exact plain (k+1) h
theorem not_own_nowhere (n:Nat):¬own zcM n:=fun⟨_,_,_,_,h⟩=>by cases h
theorem rh_nil {w:World}{A:Rd}(h:∀n,A n→n < w.heap.size)(hb:A.b0≤w.heap.size):RH A zcM w []:=
 { out:=fun _ _=>rfl,free:=fun _ _=>rfl,dead:=(fun b hb=>by simp at hb),live:=(fun b sz es hb=>by simp at hb),tab:=(fun b clk es hb=>by simp at hb),inj:=(fun b b' n base sz room base' sz' room' h=>by cases h),dis:=(fun n hn=>(not_own_nowhere n hn).elim),lt:=h,olt:=(fun n hn=>(not_own_nowhere n hn).elim),ofr:=(fun n hn=>(not_own_nowhere n hn).elim),bsz:=hb }
theorem enter_tr {A:Rd}{w:World}{φ:Nat→Loc}{args:List D}{vs:Array Value}(h:VS A w φ args vs)(n:Nat):
  TR A w φ (args++List.replicate (n-args.length) .any) (vs++Array.replicate (n-vs.size) undef):=by
 refine⟨by simp[h.size],fun i d u h1 h2=>?_⟩
 rw[zan] at h1
 rw[zbV,h.size] at h2
 split at h1
 ·rename_i hi
  rw[if_pos hi] at h2
  exact h.val i d u h1 h2
 ·rw[zY] at h1
  split at h1
  ·cases h1;exact .any _ _
  ·cases h1
def PostE (P:Program)(rs:List ResultVar)(Q:D→St→Prop):Exit→St→Prop
 |.normal,s=>∃d,resD P rs s=some d∧Q d s
 |.ret,s=>∃d,resD P rs s=some d∧Q d s
 |_,_=>False
theorem leavesM {P:Program}{G:Gh}(hG:zc6 G){fn:Func}{R:Ending→World→Prop}{t:List D}{H:List Blk}{g:Gst}{A:Rd}{φ:Nat→Loc}(tmps:Array Value):
  ∀(ds:List Nat) (w:World),RH A φ w H→TR A w φ t tmps→G.I g w ⟨zec φ ds,A,φ⟩→(∀r,r∈ds→w.heap[r]? = some (.deferred (some []))∧¬A r∧¬own φ r)→ds.Nodup→
   (∀w',RH A φ w' H→TR A w' φ t tmps→G.I g w' ⟨zec φ [],A,φ⟩→∃v,(results fn tmps).run P w'=.ok v w'∧R (.returned v) w')→
   LeavesInM Fence.wide 0 P fn tmps R (ds.map mark) .returning w
 |[],w,hr,ht,hg,_,_,h=>by
  obtain⟨v,h1,h2⟩:=h w hr ht hg
  exact⟨v,h1,h2⟩
 |r::ds,w,hr,ht,hg,hd,hnd,h=>by
  obtain⟨h1,h2,h3⟩:=hd r (zB ..)
  have hlt:r < w.heap.size:=(z3.1 h1).1
  let w':World:={ w with heap:=w.heap.setIfInBounds r (.deferred none) }
  have hsame:∀m,m≠r→w'.heap[m]? = w.heap[m]? := fun m hm=>by
   show (w.heap.setIfInBounds r _)[m]? = _
   rw[zak,if_neg (Ne.symm hm)]
  have hsz:w'.heap.size=w.heap.size:=by show (w.heap.setIfInBounds r _).size=_;simp
  have hA:∀m,A m→w'.heap[m]? = w.heap[m]? := fun m hm=>hsame m fun e=>h2 (e ▸ hm)
  have hO:∀m,own φ m→w'.heap[m]? = w.heap[m]? := fun m hm=>hsame m fun e=>h3 (e ▸ hm)
  have hrec:=leavesM hG (fn:=fn) (R:=R) (t:=t) (H:=H) (g:=g) (A:=A) (φ:=φ) tmps ds w' (hr.move hA hO (zaF hsz.symm)) (ht.mono (fun _ x=>x) hA fun _=>Loc.le_refl _)
   (hG _ _ _ _ _ hg ⟨⟨rfl,rfl,rfl,zf _,zaF hsz.symm,fun m _ hm=>hsame m fun e=>hm (e ▸ Or.inr (zB ..)),fun m hm=>.inl (hm.imp id (zG _))⟩,fun _ x=>x,fun _ x=>.inl x,fun _ _=>Loc.le_refl _,rfl⟩)
   (fun r' hr'=>⟨(hsame r' fun e=>by subst e;exact (zaY.1 hnd).1 hr').trans (hd r' (zG _ hr')).1,(hd r' (zG _ hr')).2⟩) (zaY.1 hnd).2 h
  exact⟨by simp,.inl ⟨r,w',rfl,run_takeDeferred h1,hrec⟩⟩
theorem func_ofS {P:Program}{G:Gh}(hG:zc6 G){f:FuncId}{fn:Func}{c:Code}{args:List D}(hf:P.funcs[f]? = some fn)(hb:fn.body=some c)
  {w:World} {A:Rd} {φ:Nat→Loc} {H:List Blk} {g:Gst} {vs:Array Value} (hr:RH A φ w H) (hv:VS A w φ args vs) (hg:G.I g w ⟨own φ,A,φ⟩) {Q:D→St→Prop}
  (h:Sp P none G c { t:=args++List.replicate (fn.ntmps-args.length) .any,H:=H,ds:=[],g:=g } (PostE P fn.results.toList Q)) {R:Ending→World→Prop}
  (hR:∀s w' A' φ' d x,RH A' φ' w' s.H→G.I s.g w' ⟨own φ',A',φ'⟩→V A' w' φ' d x→Q d s→R (.returned x) w'):CallsIn Fence.wide 0 P f vs w R:=by
 refine callsIn_of_wp_marks (F:=Fence.wide) hf hb trivial ?_
 have hown:∀φ:Nat→Loc,zec φ []=own φ:=fun φ=>by funext n;simp[zec]
 have hfr:FR G { t:=args++List.replicate (fn.ntmps-args.length) .any,H:=H,ds:=[],g:=g } { tmps:=vs++Array.replicate (fn.ntmps-vs.size) undef,defers:=[] } w:=
  ⟨A,φ,hr,enter_tr hv _,by rw[hown];exact hg,rfl,by simp,List.nodup_nil⟩
 have hend:∀s a w',PostE P fn.results.toList Q .normal s→FR G s a w'→LeavesInM Fence.wide 0 P fn a.tmps R a.defers .returning w':=by
  rintro s a w' ⟨d,h1,h2⟩ ⟨A',φ',hr⟩
  rw[hr.df]
  refine leavesM hG (t:=s.t) (H:=s.H) (g:=s.g) (A:=A') (φ:=φ') a.tmps s.ds w' hr.rh hr.tr hr.gh hr.dk hr.nd fun w'' k1 k2 k3=>?_
  obtain⟨x,h4,h5⟩:=run_resD (a:=a) k1 k2 h1
  exact⟨x,h4,hR s w'' A' φ' d x k1 (by rw[hown] at k3;exact k3) h5 h2⟩
 refine wpIn_mono (h _ w hfr) ?_
 rintro e a w' ⟨s,q,r⟩
 cases e with
 |normal=>exact hend s a w' q r
 |ret=>exact hend s a w' q r
 |exit id=>exact q.elim
 |goto l=>exact q.elim
 |panic ch=>exact q.elim
 |outgrown=>exact q.elim
theorem own_nowhere:own zcM=fun _=>False:=by funext n;simpa using not_own_nowhere n
theorem Maps.ofS {P:Program}{f:FuncId}{fn:Func}{c:Code}{args:List D}{d:D}(hf:P.funcs[f]? = some fn)(hb:fn.body=some c)(hname:(fn.name == "runtime.NumGoroutine")=false)
  (h:∀G,zc6 G→YOk P G→G.N=0→Sp P none G c { t:=args++List.replicate (fn.ntmps-args.length) .any,H:=[],ds:=[],g:=(0,false) } (Post P fn.results.toList d)):Maps P f args d:=by
 refine⟨enters_of hf hname hb,fun w A vs hA hv=>?_⟩
 have hG:zc6 (Gh.keep 0 w ⟨fun _=>False,⟨A,w.heap.size⟩,zcM⟩):=stab_keep 0 w _
 have hY:YOk P (Gh.keep 0 w ⟨fun _=>False,⟨A,w.heap.size⟩,zcM⟩):=fun l g ds vs K w F _ _ _ _ _ _ h=>h.elim
 have hgh:Keep 0 w ⟨fun _=>False,⟨A,w.heap.size⟩,zcM⟩ w ⟨own zcM,⟨A,w.heap.size⟩,zcM⟩:=by rw[own_nowhere];exact Keep.refl _ _ _
 refine func_ofS hG hf hb (g:=(0,false)) (rh_nil hA (zf _)) hv hgh
  (Q:=fun d' s=>DL.snapR (fun b=>s.H[b]?) 5 d'=d) ?_ ?_
 ·have hP:Post P fn.results.toList d=PostE P fn.results.toList (fun d' s=>DL.snapR (fun b=>s.H[b]?) 5 d'=d):=by
   funext e s
   cases e<;>simp[Post,PostE,zd]
  rw[←hP];exact h _ hG hY rfl
 ·intro s w' A' φ' d0 x hrh hg h5 h3
  have hb0:A'.b0=w.heap.size:=hg.b0
  refine⟨x,(both A' φ').on,rfl,?_,fun m hm=>Or.inl (hg.up m hm),fun m hm=>?_,fun m hm=>Or.elim hm (hrh.lt m) (hrh.olt m),hg.ext.sub fun _ x=>x.elim⟩
  ·rw[←h3]
   exact V.mono (A:=both A' φ') (A':=⟨(both A' φ').on,w.heap.size⟩) (fun _ x=>x) (fun _ _=>rfl) (fun _=>Loc.le_refl _) (h5.snapR hrh (fun _ _ _ x=>x) 5) (zaF hb0.symm)
  ·rcases hm with hm|hm
   ·rcases hg.new m hm with x|x|x
    ·exact .inl x
    ·exact x.elim
    ·exact .inr x
   ·exact (hg.ext.own m hm).elim (fun x=>x.elim) .inr
theorem Maps.of {P:Program}{f:FuncId}{fn:Func}{c:Code}{args:List D}{d:D}(hf:P.funcs[f]? = some fn)(hb:fn.body=some c)(hname:(fn.name == "runtime.NumGoroutine")=false)
  (h:∀G,zc6 G→YOk P G→G.N=0→vc P none G c { t:=args++List.replicate (fn.ntmps-args.length) .any,H:=[],ds:=[],g:=(0,false) } (Post P fn.results.toList d)):Maps P f args d:=
 Maps.ofS hf hb hname fun G hG hY hN=>vc_ok hG hY c (h G hG hY hN)
theorem CallSp.ofS {P:Program}{f:FuncId}{fn:Func}{c:Code}{args:List D}{H:List Blk}{Q:D→List Blk→Prop}(hf:P.funcs[f]? = some fn)(hb:fn.body=some c)(hname:(fn.name == "runtime.NumGoroutine")=false)
  (h:∀G,zc6 G→YOk P G→G.N=H.length→Sp P none G c { t:=args++List.replicate (fn.ntmps-args.length) .any,H:=H,ds:=[],g:=(0,false) } (PostE P fn.results.toList fun d s=>Q d s.H)):CallSp P f args H Q:=by
 refine⟨enters_of hf hname hb,fun w A φ vs hr hv=>?_⟩
 have hG:zc6 (Gh.keep H.length w ⟨own φ,A,φ⟩):=stab_keep _ w _
 have hY:YOk P (Gh.keep H.length w ⟨own φ,A,φ⟩):=fun l g ds vs K w F _ _ _ _ _ _ h=>h.elim
 refine func_ofS hG hf hb (g:=(0,false)) hr hv (Keep.refl _ _ _) (h _ hG hY rfl) ?_
 intro s w' A' φ' d x hrh hg h5 h3
 have hg:Keep H.length w ⟨own φ,A,φ⟩ w' ⟨own φ',A',φ'⟩:=hg
 refine⟨x,d,s.H,A',φ',rfl,h3,hrh,h5,⟨hg.ext,hg.up,hg.new,fun b=>?_,hg.b0⟩⟩
 rcases zZ b H.length with hb|hb
 ·exact hg.le b hb
 ·rw[hr.out b (zs hb)];exact .inl rfl
theorem CallSp.of {P:Program}{f:FuncId}{fn:Func}{c:Code}{args:List D}{H:List Blk}{Q:D→List Blk→Prop}(hf:P.funcs[f]? = some fn)(hb:fn.body=some c)(hname:(fn.name == "runtime.NumGoroutine")=false)
  (h:∀G,zc6 G→YOk P G→G.N=H.length→vc P none G c { t:=args++List.replicate (fn.ntmps-args.length) .any,H:=H,ds:=[],g:=(0,false) } (PostE P fn.results.toList fun d s=>Q d s.H)):CallSp P f args H Q:=
 CallSp.ofS hf hb hname fun G hG hY hN=>vc_ok hG hY c (h G hG hY hN)
end
end Go.DL
