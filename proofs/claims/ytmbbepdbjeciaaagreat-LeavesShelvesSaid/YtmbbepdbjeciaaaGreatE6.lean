/- slices.SortFunc over a block of one's own, at whatever length: out of the library's contract, for any comparison that has a plain contract. -/
import Derived.Test.YtmbbepdbjeciaaaGreatE5
import Derived.Shelf.SlSortCmp.WholeK
import Derived.Shelf.SlSortCmp.NoneTotal
import Derived.Test.YtmbbepdbjeciaaaGreatE3
import Derived.Laws.Pointers
namespace Go.DL
open Go.RowKit Go.Proofs Go.Shelf
noncomputable section
theorem Ext.grown {w w':World}(h:Ext w (fun _=>False) w' (fun _=>False)):∃q os,w'=Go.Sort.grow (w.drewN q) os:=by
 refine⟨w'.drawn-w.drawn,w'.heap.extract w.heap.size w'.heap.size,?_⟩
 have h1:=h.os
 have h2:=h.tape
 have h3:=h.output
 have h4:=h.drawn
 have hh:w'.heap=w.heap++w'.heap.extract w.heap.size w'.heap.size:=by
  apply Array.ext_getElem?
  intro k
  have h5:=h.size
  by_cases hk:k < w.heap.size
  ·rw[zaV hk,h.same k hk fun x=>x]
  ·rw[Array.getElem?_append_right (by omega),Array.getElem?_extract]
   by_cases h6:k < w'.heap.size
   ·rw[if_pos (by rw[Nat.min_self];omega)];congr 1;omega
   ·rw[if_neg (by rw[Nat.min_self];omega)];exact Array.getElem?_eq_none (by omega)
 obtain⟨hp,tp,dr,os,ou⟩:=w
 obtain⟨hp',tp',dr',os',ou'⟩:=w'
 simp only[Go.Sort.grow,World.drewN] at*
 subst h1 h2 h3
 rw[←hh]
 congr 1
 omega
def SeeV (d:D)(u:Value):Prop:=d=.any∨d=.v u
theorem SeeV.v {A:Rd}{w:World}{φ:Nat→Loc}{d:D}{u:Value}(h:SeeV d u):V A w φ d u:=by
 rcases h with h|h
 ·rw[h];exact .any _ _
 ·rw[h];exact .v _ _
structure CE (sz:Nat)(kd:List D)(us:List Value):Prop where
 len:us.length=sz
 one:∀v∈us,v.oneCell'=true
 see:∀(j:Nat) (d:D) (u:Value),kd[j]? = some d→us[j]? = some u→SeeV d u
section
variable {P:Program}{T:Type}
theorem enc_get {α:Type}[Inhabited α](enc:α→List Value)(sz:Nat)(d:Array α){i j:Nat}(hi:i < d.size)(hj:j < sz):
  (Go.Sort.flatK enc sz d)[i*sz+j]! = (enc d[i]!)[j]! ∧ i*sz+j < d.size*sz:=by
 have lt:i*sz+j < d.size*sz:=by
  have:=zL sz (show i+1≤d.size from hi);rw[zad,Nat.one_mul] at this;omega
 have e1:(i*sz+j) / sz=i:=(Go.Sort.blk_iff sz i _ (by omega)).1 ⟨by omega,by omega⟩
 have e2:(i*sz+j)%sz=j:=by rw[Nat.mod_eq_sub_div_mul,e1];omega
 exact⟨by rw[Go.Sort.get_flatK _ _ _ _ lt,e1,e2],lt⟩
structure Sorts (cf:T→T→Int)(l l':List T):Prop where
 perm:l'.Perm l
 srt:l'.Pairwise fun a b=>¬cf b a < 0
theorem sortFunc_ok {ρ:Ren}(L:SlLaysF0.n6 P ρ){sz:Nat}(ha:zdT P (ρ.t 24)=some true)(hs:tsz P (ρ.t 24)=some sz)(eD kD:T→List D)(cf:T→T→Int)
  (hO:Go.Sort.SWO (Go.Proofs.ltOf cf)) {g:FuncId} (hg:∀x y us vs,CE sz (kD x) us→CE sz (kD y) vs→Maps P g [.agg (us.map .v),.agg (vs.map .v)] (.v (.int .i64 (cf x y))))
  {H:List Blk} {b cap:Nat} {l:List T} (hb:H[b]? = some (.live sz (l.map eD))) (hlen:l.length < 4611686018427387904)
  (hk:∀x∈l,(kD x).length=sz) (hc:∀x∈l,(eD x).all isCell=true)
  (he:∀x∈l,∀(j:Nat) (d d':D),(eD x)[j]? = some d→(kD x)[j]? = some d'→d'=.any∨∃u,d'=.v u∧d=.v u):
  CallSp P (ρ.f 6) [.ms b 0 l.length cap,.fn (.func g) [] []] H fun d H'=>d=.tup []∧∃l',Sorts cf l l'∧H'=H.set b (.live sz (l'.map eD)):=by
 refine⟨L.f6.enters rfl,fun w A φ vs hr hv=>?_⟩
 rw[callsIn_wide]
 obtain⟨hvs,hvv⟩:=hv
 obtain⟨v1,v2,rfl⟩:∃v1 v2,vs=#[v1,v2]:=by
  obtain⟨l⟩:=vs
  match l,hvs with
  |[a,b],_=>exact⟨a,b,rfl⟩
 have q1:=hvv 0 _ v1 rfl rfl
 have q2:=hvv 1 _ v2 rfl rfl
 cases q1 with
 |ms _ _ _ _ _ cap' a hle hcap hp=>
 cases q2 with
 |fn _ _ _ _ vs us hl1 hl2 _ _=>
 have e1:vs=#[]:=za5 (by simpa using hl1)
 have e2:us=#[]:=za5 (by simpa using hl2)
 subst e1 e2
 have hset:∀(φ:Nat→Loc),H.set b (.live sz (l.map eD))=H:=fun _=>by
  refine zae fun i=>?_
  rw[zX]
  split
  ·rename_i e;subst e;rw[if_pos (za.1 hb).1,hb]
  ·rfl
 by_cases h0:l.length=0
 ·have hl0:=zU h0
  rw[h0]
  refine (AnyF.slices_SortFunc_none L a cap' _ w).mono ?_
  rintro e w' ⟨rfl,rfl⟩
  refine⟨_,_,H,A,φ,rfl,⟨rfl,l,⟨.refl _,by rw[hl0];exact .nil⟩,(hset φ).symm⟩,hr,.tup _ _ _ rfl fun i d u h=>by simp at h,⟨Ext.refl _ _,fun _ x=>x,fun _=>.inl,fun _=>Loc.le_refl _,rfl⟩⟩
 ·rcases hr.live b sz _ hb with⟨e0,_⟩|⟨n,base,room,c,ty,hφ,hL⟩
  ·exact absurd (by simpa using congrArg List.length e0) h0
  rw[hφ] at hp
  obtain⟨hroom,hadr⟩:=hp
  have hat:a=some ⟨n,base,none⟩:=by
   rcases hadr with h|h
   ·omega
   ·simpa using h
  subst hat
  have hfits:=hL.fits
  rw[ze] at hfits
  have hsize:=hL.size
  let α:={ p:T × List Value // p.1∈l∧CE sz (kD p.1) p.2 }
  have mk:∀i:Fin l.length,∃a:α,a.1.1=l[i]∧∀j,j < sz→c[base+i*sz+j]? = a.1.2[j]? ∧ ∀d,(eD l[i])[j]? = some d→∃u,a.1.2[j]? = some u∧V A w φ d u:=fun i=>by
   have hmem:l[i]∈l:=zi _
   have hie:(l.map eD)[i.1]? = some (eD l[i]):=by simp
   have hel:=hL.len _ _ hie
   have hsz:base+i.1*sz+sz≤c.size:=by
    have:=zL sz (show i.1+1≤room by have:=i.2;omega)
    rw[zad,Nat.one_mul] at this;omega
   have hget:∀j,j < sz→((List.range sz).map fun j=>(c[base+i.1*sz+j]?).getD default)[j]? = c[base+i.1*sz+j]? := fun j hj=>by
    simp[hj,show base+i.1*sz+j < c.size by omega]
   have hu:∀(j:Nat) (d:D),(eD l[i])[j]? = some d→∃u,((List.range sz).map fun j=>(c[base+i.1*sz+j]?).getD default)[j]? = some u∧V A w φ d u:=fun j d hd=>by
    obtain⟨u,h1,h2⟩:=hL.val _ _ _ _ hie hd
    have hj:j < sz:=by rw[←hel];exact (za.1 hd).1
    exact⟨u,(hget j hj).trans h1,h2⟩
   refine⟨⟨(l[i],(List.range sz).map fun j=>(c[base+i.1*sz+j]?).getD default),hmem,by simp,fun v hv=>?_,fun j d u h1 h2=>?_⟩,rfl,fun j hj=>⟨(hget j hj).symm,fun d hd=>hu j d hd⟩⟩
   ·obtain⟨j,hj,rfl⟩:=zaH hv
    have hj':j < sz:=by simpa using hj
    have hj2:j < (eD l[i]).length:=by rw[hel];exact hj'
    obtain⟨u,h1,h2⟩:=hu j _ (zb hj2)
    rw[zb hj] at h1
    cases h1
    have:=hc _ hmem
    rw[zh] at this
    exact h2.isCell (this _ (zi hj2))
   ·have hj':j < sz:=by simpa using (za.1 h2).1
    have hj2:j < (eD l[i]).length:=by rw[hel];exact hj'
    obtain⟨u',h3,h4⟩:=hu j _ (zb hj2)
    rw[h2] at h3;cases h3
    rcases he _ hmem j _ d (zb hj2) h1 with e|⟨u',e,e'⟩
    ·exact .inl e
    ·rw[e'] at h4;cases h4;exact .inr e
  have hpos:0 < l.length:=Nat.pos_of_ne_zero h0
  obtain⟨f,hf⟩:=Classical.axiomOfChoice mk
  letI:Inhabited α:=⟨f ⟨0,hpos⟩⟩
  let enc:α→List Value:=fun x=>x.1.2
  let cfa:α→α→Int:=fun x y=>cf x.1.1 y.1.1
  let d:Array α:=Array.ofFn f
  have hds:d.size=l.length:=by simp[d]
  have hdg:∀(i:Nat) (hi:i < l.length),d[i]! = f ⟨i,hi⟩:=fun i hi=>by
   rw[getElem!_pos d i (by omega)];simp[d]
  have hkenc:∀x:α,(enc x).length=sz:=fun x=>x.2.2.len
  have hOa:Go.Sort.SWO (ltOf cfa):=⟨fun x=>hO.irrefl x.1.1,fun x y z=>hO.trans x.1.1 y.1.1 z.1.1,fun x y z=>hO.ntrans x.1.1 y.1.1 z.1.1⟩
  have hnlt:n < w.heap.size:=hr.olt n ⟨b,_,_,_,hφ⟩
  have hsz0:∀i,i < l.length→∀j,j < sz→base+i*sz+j < c.size:=fun i hi j hj=>by
   have:=zL sz (show i+1≤room by omega)
   rw[zad,Nat.one_mul] at this;omega
  have hH:Go.Sort.HoldsK enc sz w n base d:=fun t ht=>by
   rw[Go.Sort.size_flatK] at ht
   have hs0:0 < sz:=(zag sz).elim (fun h=>by rw[h] at ht;omega) id
   have hi:t / sz < l.length:=by rw[←hds];exact Nat.div_lt_of_lt_mul (by rw[zbn];exact ht)
   have hj:=zbq t hs0
   have hte:t=t / sz*sz+t%sz:=by rw[zbn];exact (zbP t sz).symm
   have h1:=(hf ⟨t / sz,hi⟩).2 (t%sz) hj
   have hlt:=hsz0 _ hi _ hj
   refine⟨?_,by simp[World.frozen?,hL.blk]⟩
   rw[zer hL.blk]
   conv=>lhs;rw[hte,←zaD,h1.1]
   conv=>rhs;rw[hte,(enc_get enc sz d (by omega) hj).1,hdg _ hi]
   have:t%sz < (enc (f ⟨t / sz,hi⟩)).length:=by rw[hkenc];exact hj
   show (enc (f ⟨t / sz,hi⟩))[t%sz]? = _
   rw[zb this]
   exact congrArg some (getElem!_pos (enc (f ⟨t / sz,hi⟩)) (t%sz) this).symm
  have hcmp:CmpLays P g #[] enc sz cfa n base d.size w:=fun m os dk _ x y=>by
   generalize sortWorldK enc sz w n base m dk os=W
   have h:=(hg x.1.1 y.1.1 x.1.2 y.1.2 x.2.2 y.2.2).2 W (fun _=>False) #[.agg (enc x).toArray,.agg (enc y).toArray] (fun _ h=>h.elim) ⟨rfl,fun i dd u h1 h2=>by
    have go:∀z:α,V ⟨fun _=>False,W.heap.size⟩ W zcM (.agg (z.1.2.map D.v)) (.agg (enc z).toArray):=fun z=>
     .agg _ _ _ (by simp[enc]) fun j d u h1 h2=>by
      have h3:z.1.2[j]? = some u:=by simpa[enc] using h2
      rw[zl,h3] at h1
      cases h1;exact .v _ _
    match i,h1,h2 with
    |0,h1,h2=>cases h1;cases h2;exact go x
    |1,h1,h2=>cases h1;cases h2;exact go y
    |i+2,h1,_=>simp at h1⟩
   rw[callsIn_wide] at h
   refine h.mono ?_
   rintro e w' ⟨v,A',rfl,hv,_,_,_,hx⟩
   exact⟨by rw[hv.v_inv],hx.grown⟩
  have key:=AnyQ.slices_SortFunc L sz (fun w=>run_isAgg ha w) (fun w=>zdw hs w) enc hkenc (fun x v hv=>x.2.2.one v hv) cfa hOa g #[] n base cap' d w (hg _ _ _ _ (f ⟨0,hpos⟩).2.2 (f ⟨0,hpos⟩).2.2).1 hcmp hH hnlt (by omega)
  rw[hds] at key
  refine key.mono ?_
  rintro e w' ⟨rfl,d',nd,os,hP,hS,rfl⟩
  obtain⟨hP1,_,hP2⟩:=hP
  have hperm:d'.toList.Perm d.toList:=by
   have e1:(d'.extract 0 l.length).toList=d'.toList:=by rw[←hds,←hP1];simp
   have e2:(d.extract 0 l.length).toList=d.toList:=by rw[←hds];simp
   rw[e1,e2] at hP2;exact hP2
  have hd's:d'.size=l.length:=by omega
  have hmap:d.toList.map (fun x=>x.1.1)=l:=by
   refine zae fun i=>?_
   by_cases hi:i < l.length
   ·simp only[zl,d,Array.toList_ofFn,List.getElem?_ofFn,hi,dite_true,zq]
    rw[zb hi,(hf ⟨i,hi⟩).1];rfl
   ·rw[zs (by simp[d];omega),zs (by omega)]
  have hrow:∀x∈d'.toList,∀(j:Nat) (dd:D),(eD x.1.1)[j]? = some dd→∃u,(enc x)[j]? = some u∧V A w φ dd u:=fun x hx j dd hd=>by
   have hx':=hperm.subset hx
   obtain⟨i,hi,rfl⟩:=zaH hx'
   have hi':i < l.length:=by simpa[d] using hi
   have e:d.toList[i]=f ⟨i,hi'⟩:=by simp[d]
   rw[e] at hd ⊢
   rw[(hf ⟨i,hi'⟩).1] at hd
   have hj:j < sz:=by
    have:=hL.len i (eD l[i]) (by simp[hi'])
    rw[←this];exact (za.1 hd).1
   obtain⟨_,h⟩:=(hf ⟨i,hi'⟩).2 j hj
   obtain⟨u,h1,h2⟩:=h dd hd
   exact⟨u,h1,h2⟩
  refine⟨_,_,H.set b (.live sz ((d'.toList.map fun x=>x.1.1).map eD)),A,φ,rfl,⟨rfl,d'.toList.map (fun x=>x.1.1),⟨?_,?_⟩,rfl⟩,?_,.tup _ _ _ rfl fun i d u h=>by simp at h,?_⟩
  ·have:=hperm.map (fun x=>x.1.1);rwa [hmap] at this
  ·rw[zaJ,zaZ]
   intro i j hi hj hij
   have h:=hS i j (zj _) hij (by simpa[hd's] using hj)
   have e1:d'[i]! = d'.toList[i]:=by rw[getElem!_pos d' i (by simpa using hi)];simp
   have e2:d'[j]! = d'.toList[j]:=by rw[getElem!_pos d' j (by simpa using hj)];simp
   rw[e1,e2] at h
   simpa[ltOf,cfa] using h
  ·
   have hW:(sortWorldK enc sz w n base nd d' os).heap=(Go.Sort.putRowK enc sz (Go.Sort.ahead w nd) n base d').heap++os:=rfl
   have hps:(Go.Sort.putRowK enc sz (Go.Sort.ahead w nd) n base d').heap.size=w.heap.size:=by simp[Go.Sort.putRowK,Go.Sort.putRow,Go.Sort.mapBlock]
   have hpo:∀m,m≠n→m < w.heap.size→(sortWorldK enc sz w n base nd d' os).heap[m]? = w.heap[m]? := fun m hm hlt=>by
    rw[hW,zaV (by omega)]
    simp only[Go.Sort.putRowK,Go.Sort.putRow,Go.Sort.mapBlock,zbk,Go.Sort.heap_ahead]
    rw[if_neg (Ne.symm hm)]
   have hpn:(sortWorldK enc sz w n base nd d' os).heap[n]? = some (.cells (Go.Sort.putCells id base (Go.Sort.flatK enc sz d') c) ty (0,0)):=by
    rw[hW,zaV (by omega)]
    simp only[Go.Sort.putRowK,Go.Sort.putRow,Go.Sort.mapBlock,zbk,Go.Sort.heap_ahead,if_true,hL.blk,zq,Go.Sort.onCells]
   have hdis:=hr.dis n ⟨b,_,_,_,hφ⟩
   have hsame:∀m,A m→(sortWorldK enc sz w n base nd d' os).heap[m]? = w.heap[m]? := fun m hm=>hpo m (fun e=>hdis (e ▸ hm)) (hr.lt m hm)
   have hup:upd φ b (.loc n base sz room)=φ:=by funext x;by_cases e:x=b<;>simp[upd,e,hφ]
   have hsz':w.heap.size≤(sortWorldK enc sz w n base nd d' os).heap.size:=by rw[hW,Array.size_append];omega
   have hlay:=hr.lay (A':=A) (w':=sortWorldK enc sz w n base nd d' os) (za.1 hb).1 (l:=.loc n base sz room) (x:=.live sz ((d'.toList.map fun x=>x.1.1).map eD)) (by rw[hφ];exact Loc.le_refl _) hsame (fun _ x=>x) (fun _ x=>.inl x)
    (fun b' m base' sz' room' hne e=>hpo m (fun e'=>hne (hr.inj b' b n base' sz' room' base sz room (e' ▸ e) hφ)) (hr.olt m ⟨b',_,_,_,e⟩)) hsz'
    ⟨by simp,by simp,fun sz' es'' e=>by
     cases e
     refine .inr ⟨n,base,room,_,ty,rfl,hpn,by simp;omega,by simpa[Go.Sort.putCells] using hsize,fun i e he=>?_,fun i e j dd h1 h2=>?_⟩
     ·simp only[zl,zd] at he
      obtain⟨t,⟨x,hx,rfl⟩,rfl⟩:=he
      have hm:x.1.1∈l:=x.2.1
      obtain⟨i',hi',hie⟩:=zaH hm
      exact hL.len i' _ (by rw[zl,zb hi',hie];rfl)
     ·simp only[zl,zd] at h1
      obtain⟨t,⟨x,hx,rfl⟩,rfl⟩:=h1
      obtain⟨u,hu,hv⟩:=hrow x (zm hx) j dd h2
      have hi:i < d'.size:=by simpa using (za.1 hx).1
      have hj:j < sz:=by rw[←hkenc x];exact (za.1 hu).1
      have hxg:d'[i]! = x:=by
       rw[getElem!_pos d' i hi]
       have:=(za.1 hx).2
       simpa using this
      have hcs:=hsz0 i (by omega) j hj
      have hg2:=enc_get enc sz d' hi hj
      refine⟨u,?_,hv.mono (fun _ x=>x) hsame (by rw[hup];exact fun _=>Loc.le_refl _)⟩
      simp only[Go.Sort.putCells,Array.getElem?_mapIdx,zaq hcs,zq,Go.Sort.size_flatK,id]
      rw[if_pos ⟨by omega,by omega⟩,show base+i*sz+j-base=i*sz+j by omega,hg2.1,hxg]
      rw[za] at hu
      obtain⟨h5,h6⟩:=hu
      rw[getElem!_pos (enc x) j h5,h6]⟩
    (fun _ _ e=>by cases e)
    (fun m base' sz' room' e=>by
     cases e
     exact⟨zaf hnlt hsz',hdis,fun b' base' sz' room' hne e=>hne (hr.inj b' b n base' sz' room' base sz room e hφ),hr.ofr n ⟨b,_,_,_,hφ⟩⟩)
   rw[hup] at hlay
   exact hlay
  ·have hW:(sortWorldK enc sz w n base nd d' os).heap=(Go.Sort.putRowK enc sz (Go.Sort.ahead w nd) n base d').heap++os:=rfl
   have hps:(Go.Sort.putRowK enc sz (Go.Sort.ahead w nd) n base d').heap.size=w.heap.size:=by simp[Go.Sort.putRowK,Go.Sort.putRow,Go.Sort.mapBlock]
   refine⟨⟨rfl,rfl,rfl,Nat.le_add_right _ _,by rw[hW,Array.size_append];omega,fun m hm ho=>?_,fun m hm=>.inl hm⟩,fun _ x=>x,fun _=>.inl,fun _=>Loc.le_refl _,rfl⟩
   rw[hW,zaV (by omega)]
   simp only[Go.Sort.putRowK,Go.Sort.putRow,Go.Sort.mapBlock,zbk,Go.Sort.heap_ahead]
   rw[if_neg (fun e:n=m=>ho (e ▸ (⟨b,_,_,_,hφ⟩:own φ n)))]
theorem CE.exact {sz:Nat}{kd:List D}{us:List Value}(h:CE sz kd us)(hl:kd.length=sz)(hk:∀d∈kd,∃u,d=.v u):us.map D.v=kd:=by
 refine zae fun j=>?_
 rw[zl]
 by_cases hj:j < sz
 ·have h1:j < us.length:=by rw[h.len];exact hj
  have h2:j < kd.length:=by rw[hl];exact hj
  rw[zb h1,zb h2]
  have h3:=h.see j _ _ (zb h2) (zb h1)
  obtain⟨u,hu⟩:=hk _ (zi h2)
  rcases h3 with h3|h3
  ·rw[hu] at h3;cases h3
  ·rw[h3];rfl
 ·rw[zs (by rw[h.len];omega),zs (by omega)];rfl
end
end
end Go.DL
/- What stays ahead of new blocks; results of a cell and a temporary; how arguments read. -/
namespace Go.DL
open Go.RowKit Go.Proofs
noncomputable section
structure Pre (H H2:List Blk):Prop where
 ex:∃T,H2=H++T
section
variable {H H2 H3:List Blk}{b:Nat}{x:Blk}
theorem Pre.refl (H:List Blk):Pre H H:=⟨[],(zN _).symm⟩
theorem Pre.app (h:Pre H H2)(T:List Blk):Pre H (H2++T):=by
 obtain⟨T1,rfl⟩:=h.ex
 exact⟨T1++T,zT _ _ _⟩
theorem Pre.set (h:Pre H H2)(hb:H.length≤b)(x:Blk):Pre H (H2.set b x):=by
 obtain⟨T1,rfl⟩:=h.ex
 exact⟨T1.set (b-H.length) x,zal _ _ hb⟩
theorem Pre.trans (h:Pre H H2)(k:Pre H2 H3):Pre H H3:=by
 obtain⟨T1,rfl⟩:=h.ex
 obtain⟨T2,rfl⟩:=k.ex
 exact⟨T1++T2,zT _ _ _⟩
theorem Pre.len (h:Pre H H2):H.length≤H2.length:=by
 obtain⟨T1,rfl⟩:=h.ex
 simp
theorem Pre.get (h:Pre H H2)(k:H[b]? = some x):H2[b]? = some x:=by
 obtain⟨T1,rfl⟩:=h.ex
 exact zcA _ k
end
theorem resA_ct {P:Program}{n j b x sz m:Nat}{t:TypeId}{a:AL}{H:List Blk}{e:List D}{d:D}(h1:lkN n a b=.mp x 0 0)(h2:H[x]? = some (.live sz [e]))(ht:zdT P t=some true)(hs:tsz P t=some m)(hn:e.length=m)(hj:lkN n a j=d):resA P [.cell b t,.tmp j] n a H=some (.tup [.agg e,d]):=by
 subst hn
 have h3:zeO P H t (.mp x 0 0)=some (.agg e):=by
  simp[zeO,peek,zeT,ht,hs,h2]
 simp[resA,resAL,resA1,h1,h3,hj]
theorem castMax (a b:Nat):((max a b:Nat):Int)=max (a:Int) b:=by
 rcases Nat.le_total a b with h|h
 ·rw[Nat.max_eq_right h,Int.max_eq_right (by omega)]
 ·rw[Nat.max_eq_left h,Int.max_eq_left (by omega)]
theorem snap_take {α:Type}{f:α→List D}{lk:Nat→Option Blk}{b sz i cap k:Nat}{l:List α}(h:lk b=some (.live sz (l.map f)))(hi:i≤l.length)(hf:∀x,(f x).map (snap lk k)=f x):snap lk (k+1) (.ms b 0 i cap)=.sl ((l.take i).map f):=by
 simp only[snap,h,zQ,ze,hi,if_true,zS]
 rw[←zbs,zaa]
 exact congrArg D.sl (zI fun x _=>hf x)
theorem snap_all {α:Type}{f:α→List D}{lk:Nat→Option Blk}{b sz m cap k:Nat}{l:List α}(h:lk b=some (.live sz (l.map f)))(hm:m=l.length)(hf:∀x,(f x).map (snap lk k)=f x):snap lk (k+1) (.ms b 0 m cap)=.sl (l.map f):=by
 subst hm
 rw[snap_take h (zf _) hf,z0]
theorem snap_mp {lk:Nat→Option Blk}{b sz i f k:Nat}{es:List (List D)}{e e':List D}(h:lk b=some (.live sz es))(he:es[i]? = some e)(hf:(e.drop f).map (snap lk k)=e'):snap lk (k+1) (.mp b i f)=.rp e':=by
 subst hf
 simp only[snap,h,he]
end
end Go.DL
/- A call whose result may speak of its arguments' memory. -/
namespace Go.DL
open Go.RowKit Go.Proofs
noncomputable section
theorem RT.callT {E:Ev}{ops r:List Oper}{n:Nat}{a:AL}{H:List Blk}{g:Gst}{K:KA}{dst:Option Tmp}{f:Operand}{args:List Operand}{tys:Array TypeId}{ty:TypeId}{pos:String}{aft:Array Edge}{f':FuncId}{xs ys:List D}{d:D}
  (hc:callA n a f args=some (f',xs)) (hm:Maps E.P f' ys d) (hy:xs.map (snap (fun _=>none) 5)=ys) (h:RT E ops r n (setA dst d a) H g K):
  RT E ops (⟨dst,.call { callee:=.value f,args:=args.toArray,argTypes:=tys },ty,pos,aft,none⟩::r) n a H g K:=by
 have e:sel [] H=fun _=>none:=funext fun b=>by simp[sel]
 exact zdL hc (call_take [] (by rw[e,hy];exact hm) (fun b hb=>by cases hb) h)
end
end Go.DL
/- Engine: clear of a part of an own slice. -/
set_option maxRecDepth 100000
set_option maxHeartbeats 4000000
namespace Go.DL
open Go.RowKit Go.Proofs
theorem RT.clearS {E:Ev}{ops r:List Oper}{n:Nat}{a:AL}{H H':List Blk}{g:Gst}{K:KA}{x:Operand}{t te ty:TypeId}{pos:String}{aft:Array Edge}{b off len cap sz:Nat}{es:List (List D)}{z:List D}
  (hx:evA n a x=.ms b off len cap) (hu:E.P.underlying t=some (.slice te)) (hz:zdC E.P te=some z) (hs:z.length=sz) (hc:z.all isCell=true) (hb:H[b]? = some (.live sz es)) (hl:off+len≤es.length)
  (hH:H.set b (.live sz (es.take off++List.replicate len z++es.drop (off+len)))=H') (h:RT E ops r n a H' g K):
  RT E ops (⟨none,.call { callee:=.builtin .clear,args:=#[x],argTypes:=#[t] },ty,pos,aft,none⟩::r) n a H g K:=by
 subst hH;subst hs
 refine⟨fun ro G hE ds Q hQ ac w hr=>?_⟩
 unfold wpListIn
 rw[if_pos (by simp[Region.wanted])]
 obtain⟨A,φ,hr⟩:=hr
 have hv:=hr.tr.ev x
 rw[zc7,hx] at hv
 have hlt:b < H.length:=(za.1 hb).1
 have hex:execOp ac.eval ⟨none,.call { callee:=.builtin .clear,args:=#[x],argTypes:=#[t] },ty,pos,aft,none⟩=(do pure (.value (←Builtin.clear_ #[t] ty #[ac.eval x]))):=by
  simp only[execOp,resolve,invoke]
  simp[builtin]
 have key:∃(w':World),(Builtin.clear_ #[t] ty #[ac.eval x]).run E.P w=.ok (.tuple #[]) w'∧
   FRc G { t:=T n a,H:=H.set b (.live z.length (es.take off++List.replicate len z++es.drop (off+len))),ds:=ds,g:=g } ac w' A φ:=by
  generalize ac.eval x=u at hv
  cases hv with
  |ms _ _ _ _ _ cap' a0 hlen hcap hm=>
  by_cases h0:len=0
  ·subst h0
   refine⟨w,?_,?_⟩
   ·simp[Builtin.clear_,run_underlying hu]
    cases a0<;>rfl
   ·have e:es.take off++List.replicate 0 z++es.drop (off+0)=es:=by simp
    rw[e]
    have e2:H.set b (.live z.length es)=H:=by
     obtain⟨hlt,he⟩:=za.1 hb
     rw[←he,List.set_getElem_self]
    rw[e2];exact hr
  ·rcases hr.rh.live b z.length es hb with⟨h1,_⟩|⟨n0,base,room,c,tyc,h1,h2⟩
   ·subst h1;simp at hl;omega
   rw[h1] at hm
   obtain⟨hroom,ha⟩:=hm
   have hfit:=h2.fits
   have hsize:=h2.size
   obtain rfl:a0=some ⟨n0,base+off*z.length,none⟩:=ha.resolve_left (by omega)
   obtain⟨xz,hz1,hz2,hz3⟩:=run_zeroD (A:=A) (w:=w) (φ:=φ) hz
   have hzr:=zero_rows hz2 hz3 len
   have hcells:Builtin.zeroCells xz.cells len=(Array.range (len*z.length)).map (xz.cells[·%xz.cells.size]!):=by rw[Builtin.zeroCells,hz2]
   rw[←hcells] at hzr
   have hsz:=hzr.size
   have hone:∀u∈(Builtin.zeroCells xz.cells len).toList,u.oneCell'=true:=fun u hu=>by
    rw[hcells] at hu
    simp only[Array.toList_map,zt] at hu
    obtain⟨i,hi,rfl⟩:=hu
    have hzl:0 < z.length:=by
     rcases zag z.length with h|h
     ·rw[h] at hi;simp at hi
     ·exact h
    have hi2:i%xz.cells.size < z.length:=by rw[hz2];exact zbq _ hzl
    obtain⟨y,hy,hyv⟩:=hz3 (i%xz.cells.size) z[i%xz.cells.size] (zb hi2)
    have hcell:=hyv.isCell (zh.1 hc _ (zi hi2))
    have:xz.cells[i%xz.cells.size]! = y:=by rw[Array.getElem!_eq_getD,zac,hy];rfl
    rw[this];exact hcell
   have hmul:off*z.length+len*z.length≤room*z.length:=by rw[←zad];exact zL _ (by omega)
   simp only[z7] at hsz
   obtain⟨w',c',hw1,hw2,hw3⟩:=run_storeCells (P:=E.P) (n:=n0) (ty:=tyc) (Builtin.zeroCells xz.cells len).toList w c (base+off*z.length) 0 h2.blk (by simp[hsz];omega) hone
   rw[za6] at hw3
   refine⟨w',?_,?_⟩
   ·obtain⟨k,rfl⟩:∃k,len=k+1:=⟨len-1,by omega⟩
    simp[Builtin.clear_,run_underlying hu,hz1 w,hw1,Result.andThen]
   ·have hlen2:(es.take off++List.replicate len z++es.drop (off+len)).length=es.length:=by simp;omega
    have hold:∀(i:Nat) (e:List D) (j:Nat) (d:D),es[i]? = some e→e[j]? = some d→(i < off∨off+len≤i)→∃u,c'[base+i*z.length+j]? = some u∧V A w φ d u:=fun i e j d he hd hi=>by
     obtain⟨u,hu,hv⟩:=h2.val i e j d he hd
     have hj:j < z.length:=by rw[←h2.len i e he];exact (za.1 hd).1
     refine⟨u,?_,hv⟩
     rw[hw3.old _ ?_];exact hu
     simp only[zaI,hsz]
     rcases hi with hi|hi
     ·left
      have:i*z.length+z.length≤off*z.length:=by rw[←zax];exact zL _ hi
      omega
     ·right
      have:(off+len)*z.length≤i*z.length:=zL _ hi
      rw[zad] at this
      omega
    have hget:∀i e,(es.take off++List.replicate len z++es.drop (off+len))[i]? = some e→(es[i]? = some e∧(i < off∨off+len≤i))∨(e=z∧off≤i∧i < off+len):=fun i e he=>by
     have ht:(es.take off).length=off:=by rw[zA];omega
     rw[zT] at he
     by_cases h3:i < off
     ·rw[zk (by omega),zbt h3] at he
      exact .inl ⟨he,.inl h3⟩
     ·rw[zu (by omega),ht] at he
      by_cases h4:i < off+len
      ·rw[zk (by simp;omega),zY,if_pos (by omega)] at he
       cases he;exact .inr ⟨rfl,by omega,h4⟩
      ·rw[zu (by simp;omega),zV,z7,show off+len+(i-off-len)=i by omega] at he
       exact .inl ⟨he,.inr (by omega)⟩
    refine hr.rewr hE.st h1 hw2 hlt _ (by rw[hlen2];exact hfit) (by rw[hw3.size];exact hsize) (fun i e he=>?_) (fun i e j d he hd=>?_)
    ·rcases hget i e he with⟨h3,_⟩|⟨rfl,_⟩
     ·exact h2.len i e h3
     ·rfl
    ·rcases hget i e he with⟨h3,h4⟩|⟨rfl,h4,h5⟩
     ·exact hold i e j d h3 hd h4
     ·obtain⟨u,hu,hv⟩:=hzr.val (i-off) e j d (by rw[zY,if_pos (by omega)]) hd
      refine⟨u,?_,hv⟩
      have hj:j < e.length:=(za.1 hd).1
      have hbd:(i-off)*e.length+j < len*e.length:=by
       have:(i-off)*e.length+e.length≤len*e.length:=by rw[←zax];exact zL _ (by omega)
       omega
      have:=hw3.new ((i-off)*e.length+j) (by simp[hsz];omega)
      have e3:base+off*e.length+((i-off)*e.length+j)=base+i*e.length+j:=by
       have:off*e.length+(i-off)*e.length=i*e.length:=by rw[←zad];congr 1;omega
       omega
      rw[e3] at this
      rw[this];simpa using hu
 obtain⟨w',hrun,hr2⟩:=key
 have hrun2:(execOp ac.eval ⟨none,.call { callee:=.builtin .clear,args:=#[x],argTypes:=#[t] },ty,pos,aft,none⟩).run E.P w=.ok (.value (.tuple #[])) w':=by
  rw[hex,Sem.run_bind,hrun];rfl
 refine⟨fun _ _=>trivial,?_⟩
 rw[Oper.semAt_eq _ _ _ (by simp),hrun2]
 have hr3:=hr2.value none (d:=.tup []) (x:=.tuple #[]) (.tup _ _ _ rfl (fun i d u h1 _=>by cases h1))
 exact h.out ro G hE ds Q hQ _ _ ⟨A,_,hr3⟩
end Go.DL
/- A contract over no own block, put over some: what a call leaves behind is laid behind them, whatever it is. -/
namespace Go.DL
open Go.RowKit Go.Proofs
def shD (K:Nat):D→D
 |.ms b o l c=>.ms (b+K) o l c
 |.mp b i f=>.mp (b+K) i f
 |d=>d
def okN:D→Bool
 |.v _|.any|.fl _|.nil|.ms _ _ _ _|.mp _ _ _=>true
 |_=>false
def shB (K:Nat):Blk→Blk
 |.live sz es=>.live sz (es.map (List.map (shD K)))
 |x=>x
def okB:Blk→Bool
 |.live _ es=>es.all (List.all · okN)
 |.tab _ _=>false
 |_=>true
theorem V.shift {A A':Rd}{w:World}{φ φ':Nat→Loc}{K:Nat}(hA:∀m,A m→A.b0≤m→A' m)(hb:A'.b0≤A.b0)(hφ:∀b,φ' (b+K)=φ b){d:D}{u:Value}(h:V A w φ d u)(hd:okN d=true):V A' w φ' (shD K d) u:=by
 cases d<;>simp only[okN,zah] at hd
 ·cases h;exact .v _ _
 ·exact h.freshUp hA hb 0 rfl
 ·cases h with
  |ms _ _ _ _ _ _ _ h1 h2 h3=>exact .ms _ _ _ _ _ _ _ h1 h2 (by rw[hφ];exact h3)
 ·cases h with
  |mp _ _ _ _ _ h1=>exact .mp _ _ _ _ _ (by rw[hφ];exact h1)
 ·cases h;exact .nil _ _
 ·exact .any _ _
theorem CallSp.frameN {P:Program}{f:FuncId}{xs:List D}{H:List Blk}{Q:D→List Blk→Prop}
  (h:CallSp P f (xs.map (snap (fun b=>H[b]?) 5)) [] Q) (hok:∀d H',Q d H'→okN d=true∧∀x,x∈H'→okB x=true):
  CallSp P f xs H fun d' H'=>∃d0 H0,Q d0 H0∧d'=shD H.length d0∧H'=H++H0.map (shB H.length):=by
 refine⟨h.1,fun w A φ vs hr hv=>?_⟩
 have hr0:RH ⟨(both A φ).on,w.heap.size⟩ zcM w []:=
  ⟨fun _ _=>rfl,fun _ h=>(by simp at h),fun _ h=>(by simp at h),fun _ _ _ h=>(by simp at h),fun _ _ _ h=>(by simp at h),fun _ _ _ _ _ _ _ _ _ h=>(by cases h),fun _ ⟨_,_,_,_,h⟩=>(by cases h),fun n hn=>hn.elim (hr.lt n) (hr.olt n),fun _ ⟨_,_,_,_,h⟩=>(by cases h),fun _ ⟨_,_,_,_,h⟩=>(by cases h),zf _⟩
 refine (h.2 w ⟨(both A φ).on,w.heap.size⟩ zcM vs hr0 (hv.snap (B:=⟨(both A φ).on,w.heap.size⟩) hr (fun _ _ _ x=>x) (fun n x=>Or.inl x) (fun b sz es n base sz' room _ hp=>Or.inr ⟨b,_,_,_,hp⟩) 5)).mono ?_
 rintro e w' ⟨v,d,H',A',φ',rfl,hQ,hr',hvd,hev⟩
 obtain⟨ok1,ok2⟩:=hok d H' hQ
 have nown:∀m,¬own zcM m:=fun m ⟨_,_,_,_,h⟩=>by cases h
 have hn:∀m,own φ' m→w.heap.size≤m:=fun m hm=>(hev.ext.own m hm).resolve_left (nown m)
 have hs:∀m,m < w.heap.size→w'.heap[m]? = w.heap[m]? := fun m hm=>hev.ext.same m hm (nown m)
 have hr1:=hr.move (w':=w') (fun m hm=>hs m (hr.lt m hm)) (fun m hm=>hs m (hr.olt m hm)) hev.ext.size
 let φ2:Nat→Loc:=fun b=>if b < H.length then φ b else φ' (b-H.length)
 have pl:∀{b},b < H.length→φ2 b=φ b:=fun h=>by simp[φ2,h]
 have pg:∀{b},H.length≤b→φ2 b=φ' (b-H.length):=fun {b} h=>by simp[φ2,Nat.not_lt.2 h]
 have ps:∀b,φ2 (b+H.length)=φ' b:=fun b=>by rw[pg (by omega),Nat.add_sub_cancel]
 have f_ge:∀b,H.length≤b→φ b=.free:=fun b hb=>hr.out b (zs hb)
 have le2:∀b,(φ b).le (φ2 b):=fun b=>by
  rcases zZ b H.length with x|x
  ·rw[pl x];exact Loc.le_refl _
  ·exact .inl (f_ge b x)
 have back:∀{b m base sz room},φ2 b=.loc m base sz room→(H.length≤b∧φ' (b-H.length)=.loc m base sz room)∨(b < H.length∧φ b=.loc m base sz room):=fun {b m base sz room} hb=>by
  rcases zZ b H.length with x|x
  ·rw[pl x] at hb;exact .inr ⟨x,hb⟩
  ·rw[pg x] at hb;exact .inl ⟨x,hb⟩
 have own2:∀{m},own φ2 m→own φ' m∨own φ m:=fun⟨b,base,sz,room,hb⟩=>(back hb).elim (fun x=>.inl ⟨_,_,_,_,x.2⟩) fun x=>.inr ⟨b,_,_,_,x.2⟩
 have b0le:A.b0≤w.heap.size:=hr.bsz
 have e0:A'.b0=w.heap.size:=hev.b0
 have hA2:∀m,A' m→A'.b0≤m→(⟨fun m=>A m∨(A' m∧w.heap.size≤m),A.b0⟩:Rd) m:=fun m hm hb=>Or.inr ⟨hm,by rw[e0] at hb;exact hb⟩
 refine⟨v,_,_,⟨fun m=>A m∨(A' m∧w.heap.size≤m),A.b0⟩,φ2,rfl,⟨d,H',hQ,rfl,rfl⟩,?_,?_,⟨⟨hev.ext.os,hev.ext.tape,hev.ext.output,hev.ext.drawn,hev.ext.size,fun m hm _=>hs m hm,fun m hm=>(own2 hm).elim (fun x=>.inr (hn m x)) .inl⟩,fun _ x=>.inl x,fun m hm=>hm.elim .inl fun x=>.inr (.inr x.2),le2,rfl⟩⟩
 ·have get:∀b x,(H++H'.map (shB H.length))[b]? = some x→(b < H.length∧H[b]? = some x)∨(H.length≤b∧∃y,H'[b-H.length]? = some y∧shB H.length y=x):=fun b x hx=>by
   rcases zZ b H.length with y|y
   ·rw[zk y] at hx;exact .inl ⟨y,hx⟩
   ·rw[zu y,zl,zd] at hx
    exact .inr ⟨y,hx⟩
  refine⟨fun b hb=>?_,fun b hb=>?_,fun b hb=>?_,fun b sz' es' hb=>?_,fun b c' es' hb=>?_,fun b b' m base sz1 room base' sz' room' h1 h2=>?_,fun m hm ha=>?_,fun m hm=>?_,fun m hm=>?_,fun m hm=>?_,zR b0le hev.ext.size⟩
  ·rw[zaw,zw,ze] at hb
   rw[pg (by omega)]
   exact hr'.out _ (zs (by omega))
  ·rcases get b _ hb with⟨h1,h2⟩|⟨h1,y,h2,h3⟩
   ·rw[pl h1];exact hr.free b h2
   ·rw[pg h1]
    cases y<;>simp only[shB,reduceCtorEq] at h3
    exact hr'.free _ h2
  ·rcases get b _ hb with⟨h1,h2⟩|⟨h1,y,h2,h3⟩
   ·rw[pl h1];exact hr.dead b h2
   ·rw[pg h1]
    cases y<;>simp only[shB,reduceCtorEq] at h3
    exact hr'.dead _ h2
  ·rcases get b _ hb with⟨h1,h2⟩|⟨h1,y,h2,h3⟩
   ·rw[pl h1]
    exact (hr1.live b sz' es' h2).imp id fun⟨m,base,room,c,ty,q1,q2⟩=>⟨m,base,room,c,ty,q1,q2.mono (fun _ x=>Or.inl x) (fun _ _=>rfl) le2 rfl⟩
   ·rw[pg h1]
    cases y with
    |live sz es=>
     simp only[shB,Blk.live.injEq] at h3
     obtain⟨rfl,rfl⟩:=h3
     have hokb:=ok2 _ (zm h2)
     simp only[okB,zh] at hokb
     rcases hr'.live _ sz es h2 with q|⟨m,base,room,c,ty,q1,q2⟩
     ·obtain⟨rfl,q⟩:=q;exact .inl ⟨rfl,q⟩
     ·refine .inr ⟨m,base,room,c,ty,q1,q2.blk,by simpa using q2.fits,q2.size,fun i e he=>?_,fun i e j d k1 k2=>?_⟩
      ·simp only[zl,zd] at he
       obtain⟨e1,he,rfl⟩:=he
       rw[ze];exact q2.len i e1 he
      ·simp only[zl,zd] at k1
       obtain⟨e1,k1,rfl⟩:=k1
       simp only[zl,zd] at k2
       obtain⟨d1,k2,rfl⟩:=k2
       obtain⟨u,k3,k4⟩:=q2.val i e1 j d1 k1 k2
       exact⟨u,k3,k4.shift hA2 (by rw[e0];exact b0le) ps (hokb e1 (zm k1) d1 (zm k2))⟩
    |free=>cases h3
    |dead=>cases h3
    |tab=>cases h3
  ·rcases get b _ hb with⟨h1,h2⟩|⟨h1,y,h2,h3⟩
   ·rw[pl h1]
    obtain⟨m,ms,q1,q2⟩:=hr1.tab b c' es' h2
    exact⟨m,ms,q1,q2.mono (fun _ x=>Or.inl x) (fun _ _=>rfl) le2 rfl⟩
   ·have hokb:=ok2 _ (zm h2)
    cases y<;>simp only[shB,reduceCtorEq] at h3
    cases hokb
  ·rcases back h1 with⟨x1,x2⟩|⟨x1,x2⟩
   ·rcases back h2 with⟨y1,y2⟩|⟨y1,y2⟩
    ·have:=hr'.inj _ _ _ _ _ _ _ _ _ x2 y2;omega
    ·have:=hn m ⟨_,_,_,_,x2⟩
     have:=hr.olt m ⟨b',_,_,_,y2⟩
     omega
   ·rcases back h2 with⟨y1,y2⟩|⟨y1,y2⟩
    ·have:=hn m ⟨_,_,_,_,y2⟩
     have:=hr.olt m ⟨b,_,_,_,x2⟩
     omega
    ·exact hr.inj _ _ _ _ _ _ _ _ _ x2 y2
  ·rcases own2 hm with x|x
   ·rcases ha with ha|ha
    ·have:=hr.lt m ha;have:=hn m x;omega
    ·exact hr'.dis m x ha.1
   ·rcases ha with ha|ha
    ·exact hr.dis m x ha
    ·have:=hr.olt m x;omega
  ·exact hm.elim (fun x=>zaf (hr.lt m x) hev.ext.size) fun x=>hr'.lt m x.1
  ·exact (own2 hm).elim (hr'.olt m) fun x=>zaf (hr.olt m x) hev.ext.size
  ·exact (own2 hm).elim (fun x=>zR b0le (hn m x)) (hr.ofr m)
 ·exact hvd.shift hA2 (by rw[e0];exact b0le) ps ok1
end Go.DL
/- A region that draws its order, in which looks stand before one call, whatever the call does, and all others behind it: it runs as its text stands. -/
namespace Go.DL
open Go.RowKit Go.Proofs
noncomputable section
def TL (L:Nat→Bool):Nat→List (Tmp × D)→List D→List D
 |_,[],t=>t
 |i,p::r,t=>TL L (i+1) r (if L i=true then setT t (some p.1) p.2 else t)
theorem TL_congr {L L':Nat→Bool}:∀(pv:List (Tmp × D)) (i:Nat) (t:List D),(∀j,i≤j→L j=L' j)→TL L i pv t=TL L' i pv t
 |[],_,_,_=>rfl
 |p::r,i,t,h=>by
  rw[TL,TL,h i (zf _),TL_congr r (i+1) _ fun j hj=>h j (by omega)]
theorem TL_comm {L:Nat→Bool}{k:Tmp}{d:D}:∀(pv:List (Tmp × D)) (i:Nat) (t:List D),(∀p,p∈pv→p.1≠k)→TL L i pv (setT t (some k) d)=setT (TL L i pv t) (some k) d
 |[],_,_,_=>rfl
 |p::r,i,t,h=>by
  rw[TL,TL]
  have hp:=h p (zB ..)
  have hr:=fun q hq=>h q (zG p hq)
  by_cases hL:L i=true
  ·rw[if_pos hL,if_pos hL,setT_comm (fun j e e'=>by cases e;cases e';exact hp rfl),TL_comm r (i+1) _ hr]
  ·rw[if_neg hL,if_neg hL,TL_comm r (i+1) _ hr]
theorem TL_ins {L:Nat→Bool}:∀(pv:List (Tmp × D)) (i j:Nat) (t:List D) (k:Tmp) (d:D),pv[j]? = some (k,d)→(pv.map (·.1)).Nodup→L (i+j)=false→TL (fun x=>decide (x=i+j)||L x) i pv t=setT (TL L i pv t) (some k) d
 |[],_,_,_,_,_,h,_,_=>by simp at h
 |p::r,i,0,t,k,d,h,hn,hL=>by
  simp only[zaQ,zn] at h
  subst h
  simp only[zy,zaY] at hn
  rw[TL,TL,if_pos (by simp),if_neg (by rw[za6] at hL;rw[hL];decide)]
  rw[TL_congr (L':=L) r (i+1) _ fun x hx=>by simp[show ¬x=i by omega]]
  exact TL_comm r (i+1) t fun q hq e=>hn.1 (zt.2 ⟨q,hq,e⟩)
 |p::r,i,j+1,t,k,d,h,hn,hL=>by
  simp only[zbv] at h
  simp only[zy,zaY] at hn
  have ih:=TL_ins (L:=L) r (i+1) j (if L i=true then setT t (some p.1) p.2 else t) k d h hn.2 (by rw[show i+1+j=i+(j+1) by omega];exact hL)
  rw[TL,TL,←ih]
  rw[show i+1+j=i+(j+1) by omega]
  congr 1
  simp[show ¬i=i+(j+1) by omega]
theorem lkF_set {t:List D}{k j:Nat}{d:D}:lkF (t.set k d) j=if k=j then (if j < t.length then d else .any) else lkF t j:=by
 rw[lkF_eq,lkF_eq,zc,zc,zX]
 by_cases h:k=j
 ·subst h
  by_cases hk:k < t.length<;>simp[hk]
 ·simp[h]
theorem TL_ev {L L':Nat→Bool}{x:Operand}:∀(pv:List (Tmp × D)) (i:Nat) (t t':List D),t.length=t'.length→ev t x=ev t' x→(∀j k d,pv[j]? = some (k,d)→L (i+j)≠L' (i+j)→x≠.tmp k)→
  ev (TL L i pv t) x=ev (TL L' i pv t') x
 |[],_,_,_,_,h,_=>h
 |p::r,i,t,t',hl,h,hk=>by
  rw[TL,TL]
  refine TL_ev r (i+1) _ _ ?_ ?_ fun j k d hj hL=>hk (j+1) k d (by simpa using hj) (by rw[show i+(j+1)=i+1+j by omega];exact hL)
  ·split<;>split<;>simp only[setT,zE,hl]
  ·by_cases e:L i=L' i
   ·rw[e]
    split
    ·cases x with
     |tmp j=>
      show lkF (t.set _ _) j=lkF (t'.set _ _) j
      rw[lkF_set,lkF_set,hl]
      split
      ·rfl
      ·exact h
     |const=>rfl
     |global=>rfl
     |func=>rfl
    ·exact h
   ·have hx:=hk 0 p.1 p.2 (by simp) e
    have h1:∀t:List D,ev (setT t (some p.1) p.2) x=ev t x:=fun t=>ev_setT fun i e=>by cases e;exact hx
    split<;>split<;>first|(simp only[h1];exact h)|exact h
theorem remOf_step {listed:Array Bool}{i:Nat}:∀(n:Nat),i < n→n≤listed.size→listed.getD i true=false→(zdt n listed).length=(zdt n (listed.setIfInBounds i true)).length+1
 |0,h,_,_=>by omega
 |n+1,h,hs,hl=>by
  have e:∀q:Array Bool,zdt (n+1) q=zdt n q++(if q.getD n true=false then [n] else []):=fun q=>by
   unfold zdt
   rw[zat,za4]
   congr 1
   cases hq:q.getD n true<;>simp[List.filter,hq]
  rw[e,e,zw,zw]
  by_cases hi:i=n
  ·subst hi
   have h1:zdt i (listed.setIfInBounds i true)=zdt i listed:=by
    unfold zdt
    refine List.filter_congr fun k hk=>?_
    rw[zP] at hk
    rw[zdY (by omega),if_neg (by omega)]
   rw[h1,hl,if_pos rfl,zdY (by omega),if_pos rfl]
   simp
  ·have ih:=remOf_step n (by omega) (by omega) hl
   rw[ih,zdY (by omega),if_neg hi]
   omega
def xPre (l1:List Oper)(o:Oper):Bool:=
 (List.range l1.length).all fun i=>match l1[i]? with
  |some p=>p.guard.isNone&&p.dst.isSome&&(match zcN p with|.pure=>true|.look=>true|_=>false)&&(match p.op with|.call { callee:=.value _,.. }=>false|_=>true)&&
    (zdx p).all (fun j=>Nat.blt j i)&&
    (List.range (l1.length)).all (fun j=>match l1[j]? with|some q=>!((zdk (l1++[o]) p).contains (q.dst.getD 0))||(zdx p).contains j|none=>true)&&!((zdk (l1++[o]) p).contains (o.dst.getD 0))&&!(p.dst==o.dst)
  |none=>true
def xCall (l1:List Oper)(o:Oper):Bool:=
 o.guard.isNone&&o.dst.isSome&&(zdx o).all (fun j=>Nat.blt j l1.length)&&(List.range l1.length).all (fun j=>match l1[j]? with|some q=>!((zdk (l1++[o]) o).contains (q.dst.getD 0))||(zdx o).contains j|none=>true)
def nodupB:List Nat→Bool
 |[]=>true
 |x::r=>!(r.contains x)&&nodupB r
theorem nodupB_ok:∀{l:List Nat},nodupB l=true→l.Nodup
 |[],_=>List.nodup_nil
 |x::r,h=>by
  simp only[nodupB,zJ,zas,zbF,decide_eq_false_iff_not] at h
  exact zaY.2 ⟨h.1,nodupB_ok h.2⟩
def xOk (l1:List Oper)(o:Oper)(l2:List Oper):Bool:=
 xPre l1 o&&(xCall l1 o&&(nodupB (l1.map fun p=>p.dst.getD 0)&&
 (List.range l2.length).all fun i=>match l2[i]? with|some p=>p.guard.isNone&&(zdx p).all (fun j=>Nat.blt j (l1.length+1+i))&&(List.range (l1.length+1+i)).all (fun j=>(zdx p).contains j)|none=>true))
section
variable {P:Program}{G:Gh}{ro:Option Nat}
theorem ready_any {ops:List Oper}{listed:Array Bool}{i:Nat}:i∈Region.ready .any ops.toArray listed↔i < ops.length∧listed.getD i true=false∧∃o,ops[i]? = some o∧∀j∈zdx o,listed.getD j false=true:=by
 unfold Region.ready
 simp only[zar,zP,zbo,zJ,zas]
 refine and_congr Iff.rfl (and_congr Iff.rfl ?_)
 cases ho:ops[i]? with
 |none=>simp[ho]
 |some o=>
  simp only[zbj,ho,zq,zao,zn,exists_eq_left']
  simp only[zdx,zt,zar,zbH,zbT,zbm,zas]
  constructor
  ·rintro h j ⟨e,⟨he,hb⟩,rfl⟩
   rcases h e he with h|h
   ·rw[hb] at h;cases h
   ·exact h
  ·intro h e he
   cases hb:Region.binds .any e with
   |false=>exact .inl rfl
   |true=>exact .inr (h e.on ⟨e,⟨he,hb⟩,rfl⟩)
theorem tail_any {ops:List Oper}{Q:Exit→Act→World→Prop}:∀(r:List Oper) (m:Nat) (listed:Array Bool) (a:Act) (w:World),ops.drop m=r→listed.size=ops.length→(∀j,j < ops.length→(listed.getD j true=true↔j < m))→
  (∀i p,m≤i→ops[i]? = some p→p.guard=none∧(∀j,j∈zdx p↔j < i))→wpListIn (FW ro) 0 P ops.toArray Q r a w→wpAnyIn (FW ro) 0 P .any ops.toArray Q r.length listed a w
 |[],m,listed,a,w,hr,hs,hL,hd,h=>by
  have hm:ops.length≤m:=List.drop_eq_nil_iff.1 hr
  refine⟨?_,h⟩
  cases hrd:Region.ready .any ops.toArray listed with
  |nil=>rfl
  |cons i l=>
   obtain⟨h1,h2,_⟩:=ready_any.1 (show i∈Region.ready .any ops.toArray listed by rw[hrd];exact zB ..)
   rw[(hL i h1).2 (by omega)] at h2;cases h2
 |o::r,m,listed,a,w,hr,hs,hL,hd,h=>by
  have hm:m < ops.length:=by
   have:=congrArg List.length hr
   rw[z6,z4] at this;omega
  have hom:ops[m]? = some o:=by
   have:=zV (xs:=ops) (i:=m) (j:=0)
   rw[hr] at this;simpa using this.symm
  have hr':ops.drop (m+1)=r:=by
   rw[←List.drop_drop,hr];rfl
  obtain⟨hg,hdm⟩:=hd m o (zf _) hom
  have hmf:listed.getD m true=false:=by
   cases hh:listed.getD m true with
   |false=>rfl
   |true=>have:=(hL m hm).1 hh;omega
  have hready:m∈Region.ready .any ops.toArray listed:=ready_any.2 ⟨hm,hmf,o,hom,fun j hj=>by
   have hjm:=(hdm j).1 hj
   rw[←getD_ft (by omega)];exact (hL j (by omega)).2 hjm⟩
  refine⟨fun hn=>(by rw[hn] at hready;cases hready),fun i hi=>?_⟩
  have hq:=ready_any.1 hi
  obtain⟨h1,h2,p,hp,h3⟩:=hq
  have him:i=m:=by
   rcases zbD i m with h|h|h
   ·rw[(hL i h1).2 h] at h2;cases h2
   ·exact h
   ·have hdi:=((hd i p (by omega) hp).2 m).2 h
    have h4:=h3 m hdi
    rw[←getD_ft (by omega)] at h4
    have:=(hL m hm).1 h4;omega
  subst him
  unfold wpOpIn
  have hget:ops.toArray[i]? = some o:=by simpa using hom
  simp only[hget]
  unfold wpListIn at h
  have hw:Region.wanted o (yielded ops.toArray a.tmps)=true:=by simp[Region.wanted,hg]
  rw[hw] at h ⊢
  simp only[if_true] at h ⊢
  refine Oper.wpIn_mono (fun a w hh=>?_) h
  refine tail_any r (i+1) _ a w hr' (by simpa using hs) (fun j hj=>?_) (fun k q hk hq=>hd k q (by omega) hq) hh
  rw[zdY (by omega)]
  by_cases hij:i=j
  ·subst hij;simp
  ·rw[if_neg hij,hL j hj];omega
theorem builtin_slot {H:List Blk}{s s':Nat}{b:Builtin}{xs:List D}{ts:List TypeId}(h:b=.len∨b=.max∨b=.min):zdW P H s b xs ts=zdW P H s' b xs ts:=by
 rcases h with rfl|rfl|rfl
 all_goals
  unfold zdW
  split<;>first|rfl|simp_all
theorem stepD_slot {H:List Blk}{s s':Nat}{t:List D}{o:Oper}(h:zcN o=.pure∨zcN o=.look):zcp P H s t o.op=zcp P H s' t o.op:=by
 unfold zcN at h
 split at h<;>first
  |(rename_i ho;rw[ho];rfl)
  |(rename_i b args tys ho
    rw[ho]
    simp only[zcp]
    cases b<;>first|(simp at h;done)|exact builtin_slot (by simp))
  |(rcases h with h|h<;>cases h)
theorem look_ok (hG:zc6 G){st:St}{a:Act}{w:World}{A:Rd}{φ:Nat→Loc}(hr:FRc G st a w A φ){Hm:List Blk}{s:Nat}(hsub:Sub Hm st.H)(hsubT:SubT Hm st.H){o:Oper}{d:D}(hk:zcN o=.pure∨zcN o=.look)(h:zcp P Hm s st.t o.op=some (d,.keep)):
  ∃x w' A' φ',Ran P a o w x w'∧FRc G { st with t:=setT st.t o.dst d } (a.put o.dst x) w' A' φ':=by
 have hsub':Sub Hm (st.H++[.free]):=fun b sz es hb=>by
  have:=hsub b sz es hb
  rw[zk (za.1 this).1];exact this
 have hsubT':SubT Hm (st.H++[.free]):=fun b c es hb=>by
  have:=hsubT b c es hb
  rw[zk (za.1 this).1];exact this
 rw[stepD_slot (s':=st.H.length) hk] at h
 obtain⟨x,w',A',φ',h1,h2⟩:=stepD_ok hG hr.room (s:=st.H.length) (by simp) hsub' hsubT' h
 exact⟨x,w',A',φ',h1,FRc.drop (H:=st.H) rfl h2⟩
theorem anyX_ok (hG:zc6 G){Q:Exit→Act→World→Prop}{l1 l2:List Oper}{o:Oper}(hx:xOk l1 o l2=true){t0:List D}{pv:List (Tmp × D)}{Hm H:List Blk}{ds:List Nat}{g:Gst}{s:Nat}
  (hpl:pv.length=l1.length) (hpd:∀(i:Nat) (p:Oper),l1[i]? = some p→∃k d,pv[i]? = some (k,d)∧p.dst=some k∧zcp P Hm s (TL (fun _=>true) 0 pv t0) p.op=some (d,.keep)) (hsub:Sub Hm H) (hsubT:SubT Hm H)
  {J:D→List Blk→Prop} {kc:Tmp} (hkc:o.dst=some kc)
  (hcall:∀t a w (K:Act→World→Prop),(∀x,x∈o.op.operands→ev t x=ev (TL (fun _=>true) 0 pv t0) x)→FR G { t:=t,H:=H,ds:=ds,g:=g } a w→(∀d H' a' w',J d H'→Sub Hm H'→SubT Hm H'→FR G { t:=setT t (some kc) d,H:=H',ds:=ds,g:=g } a' w'→K a' w')→o.wpIn (FW ro) 0 P a w K Q)
  (htail:∀d H' a w,J d H'→FR G { t:=setT (TL (fun _=>true) 0 pv t0) (some kc) d,H:=H',ds:=ds,g:=g } a w→wpListIn (FW ro) 0 P (l1++o::l2).toArray Q l2 a w):
  ∀(fuel:Nat) (listed:Array Bool) (a:Act) (w:World),listed.size=(l1++o::l2).length→(zdt (l1.length+1) listed).length=fuel→(∀j,l1.length < j→j < (l1++o::l2).length→listed.getD j true=false)→
   ((listed.getD l1.length true=false∧FR G { t:=TL (fun j=>listed.getD j false) 0 pv t0,H:=H,ds:=ds,g:=g } a w)∨
    (listed.getD l1.length true=true∧∃d H',J d H'∧Sub Hm H'∧SubT Hm H'∧FR G { t:=setT (TL (fun j=>listed.getD j false) 0 pv t0) (some kc) d,H:=H',ds:=ds,g:=g } a w))→
   wpAnyIn (FW ro) 0 P .any (l1++o::l2).toArray Q (fuel+l2.length) listed a w:=by
 simp only[xOk,zJ] at hx
 obtain⟨x1,x2,x3,x4⟩:=hx
 have hnd:(pv.map (·.1)).Nodup:=by
  have e:pv.map (·.1)=l1.map fun p=>p.dst.getD 0:=by
   refine zae fun i=>?_
   rw[zl,zl]
   rcases zZ i l1.length with hi|hi
   ·obtain⟨k,d,h1,h2,_⟩:=hpd i _ (zb hi)
    rw[h1,zb hi]
    simp[h2]
   ·rw[zs (by omega),zs hi];rfl
  rw[e];exact nodupB_ok x3
 have pre:∀i p,l1[i]? = some p→p.guard=none∧(zcN p=.pure∨zcN p=.look)∧(∀j,j∈zdx p→j < i)∧(∀j k d,pv[j]? = some (k,d)→k∈zdk (l1++[o]) p→j∈zdx p)∧kc∉zdk (l1++[o]) p∧p.dst≠some kc:=fun i p hp=>by
  have hi:=(za.1 hp).1
  simp only[xPre,zh,zP] at x1
  have h:=x1 i hi
  rw[hp] at h
  simp only[zJ,zbL,zh,zP,zas,zbF,decide_eq_false_iff_not] at h
  obtain⟨⟨⟨⟨⟨⟨⟨h1,h2⟩,h3⟩,h4⟩,h5⟩,h6⟩,h7⟩,h8⟩:=h
  refine⟨h1,?_,fun j hj=>zaA.mp (h5 j hj),fun j k d hj hk=>?_,?_,fun e=>?_⟩
  ·revert h3;cases zcN p<;>simp
  ·have hj1:j < l1.length:=by rw[←hpl];exact (za.1 hj).1
   have h9:=h6 j hj1
   obtain⟨k',d',q1,q2,_⟩:=hpd j _ (zb hj1)
   rw[hj] at q1;cases q1
   rw[zb hj1] at h9
   simp only[q2,zao,zbm,zas,decide_eq_false_iff_not,decide_eq_true_eq] at h9
   exact h9.resolve_left fun hh=>hh hk
  ·rw[hkc] at h7;exact h7
  ·rw[e,hkc] at h8;simp at h8
 have opsget:∀i,i < l1.length→(l1++o::l2)[i]? = l1[i]? := fun i hi=>zk hi
 have opsc:(l1++o::l2)[l1.length]? = some o:=by rw[zu (zf _)];simp
 have olen:(l1++o::l2).length=l1.length+1+l2.length:=by simp;omega
 simp only[xCall,zJ,zbL,zh,zP] at x2
 obtain⟨⟨⟨c1,c2⟩,c3⟩,c4⟩:=x2
 have callreads:∀j k d,pv[j]? = some (k,d)→k∈zdk (l1++[o]) o→j∈zdx o:=fun j k d hj hk=>by
  have hj1:j < l1.length:=by rw[←hpl];exact (za.1 hj).1
  have h9:=c4 j hj1
  obtain⟨k',d',q1,q2,_⟩:=hpd j _ (zb hj1)
  rw[hj] at q1;cases q1
  rw[zb hj1] at h9
  simp only[q2,zao,zbm,zas,zbF,decide_eq_false_iff_not,decide_eq_true_eq] at h9
  exact h9.resolve_left fun hh=>hh hk
 have l2ok:∀i p,l1.length+1≤i→(l1++o::l2)[i]? = some p→p.guard=none∧(∀j,j∈zdx p↔j < i):=fun i p hi hp=>by
  have hp':l2[i-(l1.length+1)]? = some p:=by
   rw[zu (by omega)] at hp
   rw[show i-l1.length=(i-(l1.length+1))+1 by omega,zbv] at hp
   exact hp
  have hlt:=(za.1 hp').1
  simp only[zh,zP] at x4
  have h:=x4 _ hlt
  rw[hp'] at h
  simp only[zJ,zbL,zh,zP,zbF,decide_eq_true_eq] at h
  obtain⟨⟨h1,h2⟩,h3⟩:=h
  refine⟨h1,fun j=>⟨fun hj=>?_,fun hj=>h3 j (by omega)⟩⟩
  have:=zaA.mp (h2 j hj);omega
 have reads_op:∀{p:Oper} {x:Operand} {k:Tmp},x∈p.op.operands→x=.tmp k→k∈zdk (l1++[o]) p:=fun {p x k} h e=>by
  subst e
  simp only[zdk,zK,zbQ]
  exact .inl ⟨.tmp k,by simpa using h,rfl⟩
 intro fuel
 induction fuel with
 |zero=>
  intro listed a w hs hlen hpost hph
  have hall:∀j,j < l1.length+1→listed.getD j true=true:=fun j hj=>by
   cases hh:listed.getD j true with
   |true=>rfl
   |false=>
    have:j∈zdt (l1.length+1) listed:=mem_rem.2 ⟨hj,hh⟩
    rw[zU hlen] at this;cases this
  rcases hph with⟨h1,_⟩|⟨_,d,H',hJ,_,_,hfr⟩
  ·rw[hall _ (by omega)] at h1;cases h1
  ·have e:TL (fun j=>listed.getD j false) 0 pv t0=TL (fun _=>true) 0 pv t0:=by
    have key:∀(pv:List (Tmp × D)) (i:Nat) (t:List D),i+pv.length≤l1.length→TL (fun j=>listed.getD j false) i pv t=TL (fun _=>true) i pv t:=by
     intro pv
     induction pv with
     |nil=>intro i t _;rfl
     |cons p r ih=>
      intro i t hi
      simp only[z4] at hi
      have hL:listed.getD i false=true:=by rw[←getD_ft (by omega)];exact hall i (by omega)
      rw[TL,TL,ih (i+1) _ (by omega)]
      simp only[hL]
    exact key pv 0 t0 (by omega)
   rw[e] at hfr
   have hw:=htail d H' a w hJ hfr
   rw[zQ]
   refine tail_any l2 (l1.length+1) listed a w (by rw[←List.drop_drop,List.drop_left];rfl) hs (fun j hj=>⟨fun hh=>?_,fun hh=>hall j hh⟩) l2ok hw
   rcases zZ j (l1.length+1) with h|h
   ·exact h
   ·rw[hpost j (by omega) hj] at hh;cases hh
 |succ fuel ih=>
  intro listed a w hs hlen hpost hph
  rw[show fuel+1+l2.length=fuel+l2.length+1 by omega]
  have hdone:∀i,listed.getD i false=true→i < l1.length+1:=fun i hi=>by
   have hlt:i < listed.size:=by
    rcases zZ i listed.size with h|h
    ·exact h
    ·rw[zac,Array.getElem?_eq_none h] at hi;cases hi
   rcases zZ i (l1.length+1) with h|h
   ·exact h
   ·have:=hpost i (by omega) (by omega)
    rw[getD_ft hlt,hi] at this;cases this
  obtain⟨m,hm,hmu⟩:∃m,m < l1.length+1∧listed.getD m true=false:=by
   cases hrem:zdt (l1.length+1) listed with
   |nil=>rw[hrem] at hlen;cases hlen
   |cons m r=>exact⟨m,mem_rem.1 (by rw[hrem];exact zB ..)⟩
  refine⟨fun hnil=>?_,fun i hi=>?_⟩
  ·
   exfalso
   have hex:∃m,(m < l1.length+1∧listed.getD m true=false)∧∀j,j < m→listed.getD j true=true:=by
    have key:∀b,b≤l1.length+1→(∃m,m < b∧listed.getD m true=false)→∃m,(m < b∧listed.getD m true=false)∧∀j,j < m→listed.getD j true=true:=by
     intro b
     induction b with
     |zero=>rintro _ ⟨m,h,_⟩;omega
     |succ b ihb=>
      rintro hb ⟨m,h1,h2⟩
      by_cases hx:∃m,m < b∧listed.getD m true=false
      ·obtain⟨q,⟨q1,q2⟩,q3⟩:=ihb (by omega) hx
       exact⟨q,⟨by omega,q2⟩,q3⟩
      ·refine⟨m,⟨h1,h2⟩,fun j hj=>?_⟩
       cases hh:listed.getD j true with
       |true=>rfl
       |false=>exact absurd ⟨j,by omega,hh⟩ hx
    exact key _ (zf _) ⟨m,hm,hmu⟩
   obtain⟨m,⟨hm,hmu⟩,hmin⟩:=hex
   have:m∈Region.ready .any (l1++o::l2).toArray listed:=by
    rcases zZ m l1.length with h|h
    ·refine ready_any.2 ⟨by omega,hmu,l1[m],by rw[opsget m h];exact zb h,fun j hj=>?_⟩
     have:=(pre m _ (zb h)).2.2.1 j hj
     rw[←getD_ft (by omega)];exact hmin j this
    ·obtain rfl:m=l1.length:=by omega
     refine ready_any.2 ⟨by omega,hmu,o,opsc,fun j hj=>?_⟩
     have:=zaA.mp (c3 j hj)
     rw[←getD_ft (by omega)];exact hmin j this
   rw[hnil] at this;cases this
  ·obtain⟨h1,h2,p,hp,h3⟩:=ready_any.1 hi
   have hic:i < l1.length+1:=by
    rcases zZ i (l1.length+1) with h|h
    ·exact h
    ·have:=h3 m (((l2ok i p h hp).2 m).2 (by omega))
     rw[←getD_ft (by omega),hmu] at this;cases this
   have hlen':=remOf_step (listed:=listed) (l1.length+1) hic (by omega) h2
   have hs':(listed.setIfInBounds i true).size=(l1++o::l2).length:=by simpa using hs
   have hpost':∀j,l1.length < j→j < (l1++o::l2).length→(listed.setIfInBounds i true).getD j true=false:=fun j hj hj2=>by
    rw[zdY (by omega),if_neg (by omega)];exact hpost j hj hj2
   have hLf:(fun j=>(listed.setIfInBounds i true).getD j false)=fun j=>decide (j=0+i)||listed.getD j false:=funext fun j=>by
    rw[getD_set']
    by_cases e:i=j
    ·subst e;simp[show i < listed.size by omega]
    ·rw[if_neg (fun h=>e h.1)];simp[show ¬j=i from fun h=>e h.symm]
   have h2f:listed.getD i false=false:=by rw[←getD_ft (by omega)];exact h2
   unfold wpOpIn
   have hget:(l1++o::l2).toArray[i]? = some p:=by simpa using hp
   simp only[hget]
   rcases zZ i l1.length with hlt|hge
   ·rw[opsget i hlt] at hp
    obtain⟨p1,p2,p3,p4,p5,p6⟩:=pre i p hp
    obtain⟨k,d,k1,k2,k3⟩:=hpd i p hp
    have hkk:k≠kc:=fun e=>p6 (by rw[k2,e])
    rw[if_pos (by simp[Region.wanted,p1])]
    have hev:∀x,x∈p.op.operands→ev (TL (fun j=>listed.getD j false) 0 pv t0) x=ev (TL (fun _=>true) 0 pv t0) x:=fun x hx=>
     TL_ev pv 0 t0 t0 rfl rfl fun j k' d' hj hL e=>hL (by
      rw[zQ]
      exact h3 j (p4 j k' d' hj (reads_op hx e)))
    have hnd':∀c,p.op≠.defer c:=fun c hc=>by rw[hc] at k3;cases k3
    have run:∀(t:List D) (H':List Blk),Sub Hm H'→SubT Hm H'→(∀x,x∈p.op.operands→ev t x=ev (TL (fun _=>true) 0 pv t0) x)→FR G { t:=t,H:=H',ds:=ds,g:=g } a w→
      (∀a' w',FR G { t:=setT t (some k) d,H:=H',ds:=ds,g:=g } a' w'→wpAnyIn (FW ro) 0 P .any (l1++o::l2).toArray Q (fuel+l2.length) (listed.setIfInBounds i true) a' w')→
      p.wpIn (FW ro) 0 P a w (wpAnyIn (FW ro) 0 P .any (l1++o::l2).toArray Q (fuel+l2.length) (listed.setIfInBounds i true)) Q:=fun t H' q1 q2 q3 ⟨A,φ,hfr⟩ hK=>by
     rw[←stepD_congr q3] at k3
     obtain⟨x,w',A',φ',r1,r2⟩:=look_ok hG hfr q1 q2 p2 k3
     refine⟨fun _ _=>trivial,?_⟩
     rw[Oper.semAt_eq _ _ _ hnd']
     rw[k2] at r2
     rcases r1 with r1|⟨r1,rfl⟩
     ·rw[r1];exact hK _ _ (by rw[k2];exact⟨A',φ',r2⟩)
     ·rw[r1];exact hK _ _ (by rw[k2] ;exact⟨A',φ',r2⟩)
    rcases hph with⟨g1,hfr⟩|⟨g1,d',H',g2,g3,g4,hfr⟩
    ·refine run _ H hsub hsubT hev hfr fun a' w' hfr'=>ih _ a' w' hs' (by omega) hpost' (.inl ⟨?_,?_⟩)
     ·rw[zdY (by omega),if_neg (by omega)];exact g1
     ·rw[hLf,TL_ins pv 0 i t0 k d k1 hnd (by rw[zQ];exact h2f)];exact hfr'
    ·refine run _ H' g3 g4 (fun x hx=>?_) hfr fun a' w' hfr'=>ih _ a' w' hs' (by omega) hpost' (.inr ⟨?_,d',H',g2,g3,g4,?_⟩)
     ·rw[ev_setT fun j e e'=>by cases e;exact p5 (reads_op hx e')];exact hev x hx
     ·rw[zdY (by omega),if_neg (by omega)];exact g1
     ·rw[hLf,TL_ins pv 0 i t0 k d k1 hnd (by rw[zQ];exact h2f),setT_comm (fun j e e'=>by cases e;cases e';exact hkk rfl)];exact hfr'
   ·obtain rfl:i=l1.length:=by omega
    rw[opsc] at hp;cases hp
    rw[if_pos (by simp[Region.wanted,c1])]
    rcases hph with⟨g1,hfr⟩|⟨g1,_⟩
    ·refine hcall _ a w _ (fun x hx=>TL_ev pv 0 t0 t0 rfl rfl fun j k' d' hj hL e=>hL (by
      rw[zQ]
      exact h3 j (callreads j k' d' hj (reads_op hx e)))) hfr fun d H' a' w' q1 q2 q3 hfr'=>ih _ a' w' hs' (by omega) hpost' (.inr ⟨?_,d,H',q1,q2,q3,?_⟩)
     ·rw[zdY (by omega),if_pos rfl]
     ·have e:TL (fun j=>(listed.setIfInBounds l1.length true).getD j false) 0 pv t0=TL (fun j=>listed.getD j false) 0 pv t0:=by
       have key:∀(pv:List (Tmp × D)) (i:Nat) (t:List D),i+pv.length≤l1.length→TL (fun j=>(listed.setIfInBounds l1.length true).getD j false) i pv t=TL (fun j=>listed.getD j false) i pv t:=by
        intro pv
        induction pv with
        |nil=>intro i t _;rfl
        |cons p r ih=>
         intro i t hi
         simp only[z4] at hi
         rw[TL,TL,ih (i+1) _ (by omega)]
         simp only[getD_set',show ¬(l1.length=i∧i < listed.size) from fun h=>by omega,if_false]
       exact key pv 0 t0 (by omega)
      rw[e];exact hfr'
    ·rw[g1] at h2;cases h2
end
end
end Go.DL
/- A drawn region with one call, whatever it does: walked as its text stands; an append in place in a drawn region. -/
namespace Go.DL
open Go.RowKit Go.Proofs
noncomputable section
def splitX:Nat→List Oper→Option (List Oper × Oper × List Oper)
 |_,[]=>none
 |0,o::r=>some ([],o,r)
 |c+1,o::r=>match splitX c r with
  |some (a,b,d)=>some (o::a,b,d)
  |none=>none
theorem splitX_ok:∀{c:Nat} {l l1 l2:List Oper} {o:Oper},splitX c l=some (l1,o,l2)→l=l1++o::l2
 |_,[],_,_,_,h=>by simp[splitX] at h
 |0,o'::r,l1,l2,o,h=>by
  simp only[splitX,zn,zz] at h
  obtain⟨rfl,rfl,rfl⟩:=h;rfl
 |c+1,o'::r,l1,l2,o,h=>by
  rw[splitX] at h
  split at h
  ·rename_i a b d h'
   simp only[zn,zz] at h
   obtain⟨rfl,rfl,rfl⟩:=h
   rw[splitX_ok h'];rfl
  ·cases h
theorem TL_shift {L:Nat→Bool}:∀(pv:List (Tmp × D)) (i:Nat) (t:List D),TL L (i+1) pv t=TL (fun j=>L (j+1)) i pv t
 |[],_,_=>rfl
 |p::r,i,t=>by rw[TL,TL,TL_shift r]
section
variable {P:Program}
theorem pre_plan {ops:List Oper}{base:Nat}{Hm:List Blk}{K:TH}:∀(l:List Oper) (t:List D),(∀p,p∈l→p.guard=none∧(zcN p=.pure∨zcN p=.look)∧(∀f args tys,p.op≠.call { callee:=.value f,args:=args,argTypes:=tys })∧∃k,p.dst=some k)→
  planT P ops base (List.replicate l.length (0,[])) l t Hm K→
  ∃pv:List (Tmp × D),pv.length=l.length∧K (TL (fun _=>true) 0 pv t) Hm∧∀i p,l[i]? = some p→∃k d,pv[i]? = some (k,d)∧p.dst=some k∧zcp P Hm base (TL (fun j=>decide (j < i)) 0 pv t) p.op=some (d,.keep)
 |[],t,_,h=>⟨[],rfl,h,fun i p h=>by simp at h⟩
 |o::r,t,hl,h=>by
  obtain⟨h1,h2,h3,k,h4⟩:=hl o (zB ..)
  rw[z4,zaW] at h
  unfold planT actOT at h
  simp only[h1] at h
  unfold actT at h
  split at h
  ·rename_i f args tys hop;exact absurd hop (h3 _ _ _)
  ·split at h
   ·rename_i d e hs
    have he:=(stepD_eff hs).1 h2
    subst he
    obtain⟨pv,q1,q2,q3⟩:=pre_plan r _ (fun p hp=>hl p (zG _ hp)) h
    rw[h4] at q2 q3
    refine⟨(k,d)::pv,by simp[q1],?_,fun i p hp=>?_⟩
    ·rw[TL,TL_shift];exact q2
    ·cases i with
     |zero=>
      simp only[zaQ,zn] at hp
      subst hp
      refine⟨k,d,rfl,h4,?_⟩
      have e:∀(pv:List (Tmp × D)) (i:Nat) (t:List D),TL (fun j=>decide (j < 0)) i pv t=t:=by
       intro pv
       induction pv with
       |nil=>intro _ _;rfl
       |cons p r ih=>intro i t;rw[TL,ih];simp
      rw[e];exact hs
     |succ i=>
      simp only[zbv] at hp
      obtain⟨k',d',r1,r2,r3⟩:=q3 i p hp
      refine⟨k',d',by simpa using r1,r2,?_⟩
      rw[TL,if_pos (by simp),TL_shift]
      have e:(fun j:Nat=>decide (j+1 < i+1))=fun j=>decide (j < i):=funext fun j=>by simp
      rw[e];exact r3
   ·exact h.elim
end
structure XC (E:Ev)(ops l2:List Oper)(o:Oper)(n:Nat)(a:AL)(H Hm:List Blk)(g:Gst)(Q:KX):Prop where
 out:∃(dst:Tmp) (f:Operand) (args:List Operand) (tys:Array TypeId) (f':FuncId) (xs:List D),o.op=.call { callee:=.value f,args:=args.toArray,argTypes:=tys }∧o.dst=some dst∧callA n a f args=some (f',xs)∧
  CallSp E.P f' xs H fun d H'=>Sub Hm H'∧SubT Hm H'∧RT E ops l2 n ((dst,d)::a) H' g fun a' H'' g'=>Q .normal a' H'' g'
section
variable {E:Ev}{ops l2:List Oper}{n:Nat}{a:AL}{H Hm:List Blk}{g:Gst}{Q:KX}{c:Code}
theorem XC.call {dst:Tmp}{f:Operand}{args:List Operand}{tys:Array TypeId}{ty:TypeId}{pos:String}{aft:Array Edge}{gu:Option (Nat × Bool)}{f':FuncId}{xs:List D}(hc:callA n a f args=some (f',xs))
  (h:CallSp E.P f' xs H fun d H'=>Sub Hm H'∧SubT Hm H'∧RT E ops l2 n ((dst,d)::a) H' g fun a' H'' g'=>Q .normal a' H'' g'):
  XC E ops l2 ⟨some dst,.call { callee:=.value f,args:=args.toArray,argTypes:=tys },ty,pos,aft,gu⟩ n a H Hm g Q:=⟨⟨dst,f,args,tys,f',xs,rfl,rfl,hc,h⟩⟩
theorem VT.drawX (i:Nat)(Hm:List Blk){l l1:List Oper}{o:Oper}{pl:List (Nat × List Nat)}(hm:E.P.follows .mixedOrders=true)(hc:regC c=some (true,l.toArray))(hs:splitX i l=some (l1,o,l2))(hx:xOk l1 o l2=true)(hsub:Sub Hm H)(hsubT:SubT Hm H)
  (hpl:List.replicate l1.length (0,[])=pl) (h:PT E l Hm.length pl l1 n a Hm fun a1 _=>XC E l l2 o n a1 H Hm g Q):VT E c n a H g Q:=by
 subst hpl
 have hl:=splitX_ok hs
 subst hl
 cases c with
 |region id opsA d=>
  cases hc
  refine⟨fun ro G hE ds=>?_⟩
  rintro ac w ⟨A,φ,hr⟩
  refine wpIn_region_any hm ?_
  have x0:=hx
  simp only[xOk,zJ] at x0
  obtain⟨x1,x2,_,_⟩:=x0
  have pre:∀i p,l1[i]? = some p→p.guard=none∧(zcN p=.pure∨zcN p=.look)∧(∀f args tys,p.op≠.call { callee:=.value f,args:=args,argTypes:=tys })∧(∃k,p.dst=some k)∧(∀j,j∈zdx p→j < i)∧
    ∀j q,l1[j]? = some q→q.dst.getD 0∈zdk (l1++[o]) p→j∈zdx p:=fun i p hp=>by
   have hi:=(za.1 hp).1
   simp only[xPre,zh,zP] at x1
   have h:=x1 i hi
   rw[hp] at h
   simp only[zJ,zbL,zh,zP,zas,zbF,decide_eq_false_iff_not] at h
   obtain⟨⟨⟨⟨⟨⟨⟨h1,h2⟩,h3⟩,h4⟩,h5⟩,h6⟩,h7⟩,h8⟩:=h
   refine⟨h1,?_,fun f args tys e=>?_,Option.isSome_iff_exists.1 h2,fun j hj=>zaA.mp (h5 j hj),fun j q hj hk=>?_⟩
   ·revert h3;cases zcN p<;>simp
   ·rw[e] at h4;cases h4
   ·have h9:=h6 j (za.1 hj).1
    rw[hj] at h9
    simp only[zbm,zas,decide_eq_false_iff_not,decide_eq_true_eq] at h9
    exact h9.resolve_left fun hh=>hh hk
  obtain⟨pv,p1,⟨a1,p2,p3⟩,p4⟩:=pre_plan (P:=E.P) l1 _ (fun p hp=>by
   obtain⟨i,hi,rfl⟩:=zaH hp
   obtain⟨q1,q2,q3,q4,_⟩:=pre i _ (zb hi)
   exact⟨q1,q2,q3,q4⟩) h.out
  obtain⟨dst,f,args,tys,f',xs,o1,o2,o3,o4⟩:=p3.out
  have p5:∀(i:Nat) (p:Oper),l1[i]? = some p→∃k d,pv[i]? = some (k,d)∧p.dst=some k∧zcp E.P Hm Hm.length (TL (fun _=>true) 0 pv (T n a)) p.op=some (d,.keep):=fun i p hp=>by
   obtain⟨k,d,r1,r2,r3⟩:=p4 i p hp
   obtain⟨_,_,_,_,_,q6⟩:=pre i p hp
   refine⟨k,d,r1,r2,?_⟩
   rw[←r3]
   refine stepD_congr fun x hx=>(TL_ev pv 0 _ _ rfl rfl fun j k' d' hj hL e=>hL ?_).symm
   have hjl:j < l1.length:=by rw[←p1];exact (za.1 hj).1
   obtain⟨k2,d2,s1,s2,_⟩:=p4 j l1[j] (zb hjl)
   rw[hj] at s1;cases s1
   have hd:=q6 j _ (zb hjl) (by
    rw[s2,zao]
    subst e
    simp only[zdk,zK,zbQ]
    exact .inl ⟨.tmp k',by simpa using hx,rfl⟩)
   rw[zQ]
   simpa using (pre i p hp).2.2.2.2.1 j hd
  have hrem:zdt (l1.length+1) (Array.replicate (l1++o::l2).length false)=List.range (l1.length+1):=by
   refine zbd.2 fun i hi=>?_
   simp only[zP] at hi
   have:i < l1.length+(l2.length+1):=by omega
   simp[this]
  have hfuel:(l1++o::l2).length=l1.length+1+l2.length:=by simp;omega
  have hTL0:TL (fun j=>(Array.replicate (l1++o::l2).length false).getD j false) 0 pv (T n a)=T n a:=by
   have key:∀(pv:List (Tmp × D)) (i:Nat) (t:List D),TL (fun j=>(Array.replicate (l1++o::l2).length false).getD j false) i pv t=t:=by
    intro pv
    induction pv with
    |nil=>intro _ _;rfl
    |cons p r ih=>
     intro i t
     rw[TL,ih,if_neg]
     rw[zac];simp only[zbu];split<;>simp
   exact key pv 0 _
  rw[zbo]
  rw[show (l1++o::l2).length=(l1.length+1)+l2.length from hfuel]
  rw[←hfuel]
  have hgoal:=anyX_ok (P:=E.P) (ro:=ro) (G:=G) hE.st (Q:=lift G (fun e s=>∃a',s.t=T n a'∧Q e a' s.H s.g)) hx (t0:=T n a) (pv:=pv) (Hm:=Hm) (H:=H) (ds:=ds) (g:=g) (s:=Hm.length) p1 p5 hsub hsubT
   (J:=fun d H'=>RT E (l1++o::l2) l2 n ((dst,d)::a1) H' g fun a' H'' g'=>Q .normal a' H'' g') (kc:=dst) o2 (fun t ac1 w1 K q1 q2 q3=>?_) (fun d H' ac2 w2 hJ hfr=>?_)
   (l1.length+1) (Array.replicate (l1++o::l2).length false) ac _ (by simp) (by rw[hrem];simp) (fun j h1 h2=>by
    rw[zac];simp only[zbu];rw[if_pos h2];rfl) (.inl ⟨?_,by rw[hTL0];exact⟨A,φ,hr.drew hE.st⟩⟩)
  ·rw[hfuel];rw[hfuel] at hgoal;exact hgoal
  ·refine execO_ok hE.st hE.yk q2 (K:=fun s=>∃d H',s={ t:=setT t (some dst) d,H:=H',ds:=ds,g:=g }∧Sub Hm H'∧SubT Hm H'∧RT E (l1++o::l2) l2 n ((dst,d)::a1) H' g fun a' H'' g'=>Q .normal a' H'' g') ?_ ?_
   ·unfold zfb
    rw[o1]
    have hcd:zd0 t f args=some (f',xs):=by
     rw[←o3,←callD_T,←p2]
     unfold zd0
     have hf:ev t f=ev (TL (fun _=>true) 0 pv (T n a)) f:=q1 f (by rw[o1];simp[Op.operands,Call.operands])
     have ha:args.map (ev t)=args.map (ev (TL (fun _=>true) 0 pv (T n a))):=zI fun x hx=>q1 x (by rw[o1];simp[Op.operands,Call.operands];exact .inr hx)
     rw[hf,ha]
    have hcd':zd0 t f args.toArray.toList=some (f',xs):=by simpa using hcd
    simp only[zeM hcd',hcd',o2]
    exact o4.mono fun d H' ⟨r1,r2,r3⟩=>⟨d,H',rfl,r1,r2,r3⟩
   ·rintro _ a' w' ⟨d,H',rfl,r1,r2,r3⟩ hr'
    exact q3 d H' a' w' r3 r1 r2 hr'
  ·rw[p2] at hfr
   have hset:setT (T n a1) (some dst) d=T n ((dst,d)::a1):=zej n a1 (some dst) d
   rw[hset] at hfr
   exact hJ.out ro G hE ds _ (fun a' H'' g' ac' w' hq hfr'=>⟨_,⟨a',rfl,hq⟩,hfr'⟩) ac2 w2 hfr
  ·rw[zac];simp only[zbu];rw[if_pos (by omega)];rfl
 |_=>cases hc
end
end
end Go.DL
/- Appends in place in drawn regions; a call whose result reads its arguments' memory in one; the deletion of elements of an own slice. -/
namespace Go.DL
open Go.RowKit Go.Proofs
noncomputable section
section
variable {E:Ev}{ops r:List Oper}{ab:List Nat}{base s:Nat}{hs:List Nat}{w:Option Nat}{pl:PlQ}{n:Nat}{a:AL}{H H':List Blk}{K:KP}{i:Tmp}{op:Op}{ty:TypeId}{pos:String}{aft:Array Edge}{d:D}
theorem ST.apC {s' b q m c:Nat}{k:Blk}(hb:rho ab base q=b)(hn:zdu ⟨some i,op,ty,pos,aft,none⟩=true)(hs':base+s=s')(hv:ApC E.P (zcz 0 (hs.map (rho ab base)) H) s' n a op m c b k)(hH:(killO H (some b)).set s' k=H')(h:ST E ops ab base pl r n ((i,.ms s' 0 m c)::a) H' K):ST E ops ab base ((s,hs,some q)::pl) (⟨some i,op,ty,pos,aft,none⟩::r) n a H K:=by
 subst hs';subst hH;subst hb;exact ST.stepG (e:=.ren (some (rho ab base q)) k) rfl hv.out (by simp[zfc,hn]) h
end
theorem CallAt.flat {P:Program}{f:FuncId}{xs:List D}{Hm:List Blk}{s:Nat}{d:D}(h:Maps P f xs d)(hx:xs.all DL.flat=true):CallAt P f xs Hm s d .free:=by
 intro H hsub hfree
 rw[zh] at hx
 have hset:H.set s .free=H:=by
  refine zae fun i=>?_
  rw[zX]
  split
  ·rename_i e;subst e
   rw[hfree,if_pos (za.1 hfree).1]
  ·rfl
 refine⟨h.1,fun w A φ vs hr hv=>?_⟩
 refine (h.2 w A.on vs hr.lt ⟨hv.size,fun i d u h1 h2=>(hv.val i d u h1 h2).flat (hx d (zm h1)) fun _ x=>x⟩).mono ?_
 rintro e w' ⟨v,A',rfl,h1,h2,h3,h4,h5⟩
 have hs:∀m,m < w.heap.size→w'.heap[m]? = w.heap[m]? := fun m hm=>h5.same m hm fun x=>x
 have hr1:=hr.move (w':=w') (fun m hm=>hs m (hr.lt m hm)) (fun m hm=>hs m (hr.olt m hm)) h5.size
 refine⟨v,d,H,⟨fun m=>A m∨(A' m∧w.heap.size≤m),A.b0⟩,φ,rfl,⟨rfl,hset.symm⟩,⟨hr1.out,hr1.free,hr1.dead,fun b sz es hb=>(hr1.live b sz es hb).imp id fun⟨n,base,room,c,ty,q1,q2⟩=>
   ⟨n,base,room,c,ty,q1,q2.mono (fun _ x=>Or.inl x) (fun _ _=>rfl) (fun _=>Loc.le_refl _) rfl⟩,fun b clk es hb=>let ⟨n,ms,q1,q2⟩:=hr1.tab b clk es hb;⟨n,ms,q1,q2.mono (fun _ x=>Or.inl x) (fun _ _=>rfl) (fun _=>Loc.le_refl _) rfl⟩,hr1.inj,fun m hm ha=>?_,fun m hm=>hm.elim (hr1.lt m) fun x=>h4 m x.1,hr1.olt,hr1.ofr,hr1.bsz⟩,V.mono (A:=⟨A',w.heap.size⟩) (fun m hm=>(h3 m hm).elim Or.inl fun x=>Or.inr ⟨hm,x⟩) (fun _ _=>rfl) (fun _=>.inl rfl) h1 hr.bsz,⟨⟨h5.os,h5.tape,h5.output,h5.drawn,h5.size,fun n hn _=>hs n hn,fun n hn=>.inl hn⟩,fun _ x=>Or.inl x,fun m hm=>hm.imp id fun x=>.inr x.2,fun _=>Loc.le_refl _,rfl⟩⟩
 rcases ha with ha|ha
 ·exact hr1.dis m hm ha
 ·have:=hr.olt m hm;omega
theorem f_apDel {P:Program}{H:List Blk}{s n:Nat}{al:AL}{tx:TypeId}{x y:Operand}{te:TypeId}{b sz by' i j l2 c c2 m:Nat}{es:List (List D)}(hx:evA n al x=.ms b 0 i c)(hy:evA n al y=.ms b j l2 c2)(hb:H[b]? = some (.live sz es))
  (hi:i≤es.length) (hj:j+l2≤es.length) (hm:i+l2=m) (hmc:m≤c) (hic:i < c) (he:zc3 P tx=some (te,sz)) (h0:0 < sz) (hz:(zdC P te).map List.length=some sz) (hby:P.bytesOf te=by') (hf:∀e,e∈es→e.length=sz∧e.all isCell=true)
  (hl:m*by'≤140737488355328) (hl2:m≤9223372036854775807):
  ApC P H s n al (.call { callee:=.builtin .append,args:=#[x,y],argTypes:=#[tx,tx] }) m c b (.live sz (es.take i++(es.take (j+l2)).drop j++(es.take c).drop m)):=by
 have hu:P.underlying tx=some (.slice te):=by
  unfold zc3 at he
  split at he
  ·rename_i e hu;simp only[zd] at he;obtain⟨_,_,h⟩:=he;cases h;exact hu
  ·cases he
 have hsb:sameB (.ms b 0 i c) (.ms b j l2 c2)=true:=by
  show (if Nat.beq b b=true then Nat.blt i c else false)=true
  rw[if_pos (by simp)]
  simpa[zaA] using hic
 refine f_apC hx hy hsb ?_
 have e1:zcF H (.ms b 0 i c)=some (es.take i):=by
  simp only[zcF,hb,zQ,hi,if_true,zS]
 have e2:zcF H (.ms b j l2 c2)=some ((es.take (j+l2)).drop j):=by
  simp only[zcF,hb,hj,if_true]
 have e3:∀l:List (List D),(∀e,e∈l→e∈es)→l.all (fun e=>e.length==sz)=true:=fun l h=>zh.2 fun e he=>by
  simpa using (hf e (h e he)).1
 have e4:∀l:List (List D),(∀e,e∈l→e∈es)→l.all (fun e=>e.all isCell)=true:=fun l h=>zh.2 fun e he=>(hf e (h e he)).2
 have m1:∀e,e∈es.take i→e∈es:=fun e h=>z9 h
 have m2:∀e,e∈(es.take (j+l2)).drop j→e∈es:=fun e h=>z9 (zaO h)
 have l1:(es.take i).length=i:=by rw[zA];omega
 have l2':((es.take (j+l2)).drop j).length=l2:=by rw[z6,zA];omega
 simp only[appendC,he,hu,e1,e2,hb,l1,l2',hm]
 rw[if_pos]
 ·simp only[zQ]
 ·exact⟨trivial,h0,hz,e3 _ m1,e3 _ m2,e4 _ m2,by rw[hby];exact hl,hl2,hmc,by omega⟩
end
end Go.DL
/- Engine: pointers compared with nil; the look whether a pointer is nil. -/
namespace Go.DL
open Go.RowKit Go.Proofs
theorem zeo {P:Program}{H:List Blk}{s n:Nat}{al:AL}{x:Operand}{d:D}(hx:evA n al x=d)(h:nilCheckD d=some d):Val P H s n al (.nilCheck x) d:=by
 subst hx
 refine⟨?_⟩
 simp only[zcp,zc7,h,zcQ];rfl
def nilD:D→Option Bool
 |.v (.pointer none)=>some true
 |.mp _ _ _=>some false
 |.rp _=>some false
 |_=>none
theorem V.nilP {A:Rd}{w:World}{φ:Nat→Loc}{d:D}{u:Value}{z:Bool}(h:V A w φ d u)(hd:nilD d=some z):∃p:Option Addr,u=.pointer p∧p.isNone=z:=by
 unfold nilD at hd
 split at hd
 ·cases hd;exact⟨none,h.v_inv,rfl⟩
 ·cases hd;cases h;exact⟨_,rfl,rfl⟩
 ·cases hd;cases h;exact⟨_,rfl,rfl⟩
 ·cases hd
section
variable {E:Ev}{ops r:List Oper}{n:Nat}{a:AL}{H:List Blk}{g:Gst}{K:KA}{i:Tmp}{x:Operand}{t ty ty':TypeId}{pos:String}{aft:Array Edge}{z:Bool}
theorem RT.neqP (hx:nilD (evA n a x)=some z)(hu:E.P.underlying t=some (.pointer (E.P.pointee t)))(h:RT E ops r n ((i,wB (!z))::a) H g K):
  RT E ops (⟨some i,.binOp .neq t x (.const (.pointer none)) ty',ty,pos,aft,none⟩::r) n a H g K:=by
 refine⟨fun ro G hE ds Q hQ ac w hr=>?_⟩
 unfold wpListIn
 rw[if_pos (by simp[Region.wanted])]
 obtain⟨A,φ,hr⟩:=hr
 have hv:=hr.tr.ev x
 rw[zc7] at hv
 obtain⟨p,hp,hz⟩:=hv.nilP hx
 refine⟨fun _ _=>trivial,?_⟩
 rw[Oper.semAt_eq _ _ _ (by simp)]
 have hrun:(execOp ac.eval ⟨some i,.binOp .neq t x (.const (.pointer none)) ty',ty,pos,aft,none⟩).run E.P w=.ok (.value (.bool (!z))) w:=by
  simp only[execOp,hp]
  rw[show ac.eval (.const (.pointer none))=Value.pointer none from rfl,eqGuard_at_pointer]
  simp[run_neq_pointer_nil w t p hu,hz]
 rw[hrun]
 have hr3:=hr.value (some i) (d:=wB (!z)) (x:=.bool (!z)) (.v _ _)
 rw[show setT (T n a) (some i) (wB (!z))=T n ((i,wB (!z))::a) from zej n a (some i) _] at hr3
 exact h.out ro G hE ds Q hQ _ _ ⟨A,φ,hr3⟩
end
end Go.DL
