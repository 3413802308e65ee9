/- The functions of leaves/words.go, and those of Go's library that they call: what they compute. -/
import Derived.Test.YtmbbepdbjeciaaaGreatProg
import Derived.Test.YtmbbepdbjeciaaaGreatE5
import Derived.Test.YtmbbepdbjeciaaaGreatP1
import Derived.KernelRfl
set_option maxRecDepth 100000
set_option maxHeartbeats 16000000
namespace Go.DL
open Go.Proofs Go
theorem pok:POk Tryz.prog:=⟨by kernel_rfl,by kernel_rfl⟩
abbrev W (x:Int):Prop:=0≤x∧x≤65520
theorem wB_eq {p:Prop}[Decidable p]{b:Bool}(h:b=true↔p):wB b=wB (decide p):=by
 have:b=decide p:=by rw[zbB,h,decide_eq_true_eq]
 rw[this]
theorem zdK (a b c:Int):Maps Tryz.prog 74 [wI a,wI b,wI c] (wB (decide (b≤a∧a≤c))):=by
 refine Maps.vt pok Tryz.f74 (n:=15) (rs:=[.tmp 6]) rfl rfl rfl rfl rfl rfl fun g=>?_
 repeat (any_goals (first|(refine zcj ?_;(first|refine zbW ?_|(refine d_g ?_;(first|refine zcS rfl ?_|refine zdI rfl rfl ?_|refine RT.gc rfl rfl rfl (fun hc=>?_) (fun hc=>?_)))|refine zb0 ?_|refine zbZ ?_|refine zb2 ?_|refine zcx ?_))|(refine zck ?_;(first|refine zbY rfl ?_|refine zbX rfl ?_|refine zb7 rfl ?_))|(with_reducible refine zce ?_;refine kEr rfl ?_)))
 all_goals (refine wB_eq ?_;simp;omega)
theorem m_in (a b c:Int):Maps Tryz.prog 75 [wI a,wI b,wI c] (wB (decide (b≤a∧a≤c))):=by
 refine Maps.vt pok Tryz.f75 (n:=15) (rs:=[.tmp 6]) rfl rfl rfl rfl rfl rfl fun g=>?_
 repeat (any_goals (first|(refine zcj ?_;(first|refine zbW ?_|(refine d_g ?_;(first|refine zcS rfl ?_|refine zdI rfl rfl ?_|refine RT.gc rfl rfl rfl (fun hc=>?_) (fun hc=>?_)))|refine zb0 ?_|refine zbZ ?_|refine zb2 ?_|refine zcx ?_))|(refine zck ?_;(first|refine zbY rfl ?_|refine zbX rfl ?_|refine zb7 rfl ?_))|(with_reducible refine zce ?_;refine kEr rfl ?_)))
 all_goals (refine wB_eq ?_;simp;omega)
theorem m_word (a:Int):Maps Tryz.prog 77 [wI a] (wB (decide (W a))):=by
 refine Maps.vt pok Tryz.f77 (n:=5) (rs:=[.tmp 2]) rfl rfl rfl rfl rfl rfl fun g=>?_
 repeat (any_goals (first|(refine zcj ?_;(first|refine zbW ?_|refine zb0 ?_|refine zbZ ?_|refine zb4 rfl (zdK _ _ _) rfl rfl ?_))|(refine zck ?_;(first|refine zbY rfl ?_|refine zbX rfl ?_|refine zb7 rfl ?_))|(with_reducible refine zce ?_;refine kEr rfl ?_)))
 rfl
theorem m_rword (a:Int):Maps Tryz.prog 113 [wI a] (wB (decide (W a))):=by
 refine Maps.vt pok Tryz.f113 (n:=5) (rs:=[.tmp 2]) rfl rfl rfl rfl rfl rfl fun g=>?_
 repeat (any_goals (first|(refine zcj ?_;(first|refine zbW ?_|refine zb0 ?_|refine zbZ ?_|refine zb4 rfl (m_in _ _ _) rfl rfl ?_))|(refine zck ?_;(first|refine zbY rfl ?_|refine zbX rfl ?_|refine zb7 rfl ?_))|(with_reducible refine zce ?_;refine kEr rfl ?_)))
 rfl
theorem tmod_p (a:Int):(a.tmod 65521 < 0→a.tmod 65521+65521=a%65521)∧(¬a.tmod 65521 < 0→a.tmod 65521=a%65521)∧-65521 < a.tmod 65521∧a.tmod 65521 < 65521:=by
 have h:=Int.tmod_eq_emod (a:=a) (b:=65521)
 have h2:a%65521=0→(65521:Int) ∣ a:=fun h=>Int.dvd_of_emod_eq_zero h
 have h3:(65521:Int) ∣ a→a%65521=0:=fun h=>Int.emod_eq_zero_of_dvd h
 by_cases hc:0≤a∨(65521:Int) ∣ a
 ·rw[if_pos hc] at h;omega
 ·rw[if_neg hc] at h
  have:a%65521≠0:=fun e=>hc (.inr (h2 e))
  have e:((65521:Int).natAbs:Int)=65521:=rfl
  omega
theorem m_mod (a:Int):Maps Tryz.prog 144 [wI a] (wI (a%65521)):=by
 refine Maps.vt pok Tryz.f144 (n:=10) (rs:=[.tmp 2]) rfl rfl rfl rfl rfl rfl fun g=>?_
 obtain⟨q1,q2,q3,q4⟩:=tmod_p a
 repeat (any_goals (first|(refine zcj ?_;(first|refine zbW ?_|refine zb9 (f_remG rfl rfl (by decide)) ?_|refine zb0 ?_|refine zbZ ?_|refine zb2 ?_))|(refine zck ?_;(first|refine zbY rfl ?_|refine zbX rfl ?_|refine VT.condD rfl rfl (fun hc=>?_) (fun hc=>?_)|refine zb5 rfl ?_|refine zb7 rfl ?_))|(with_reducible refine zce ?_;refine kEr rfl ?_)))
 ·exact congrArg wI (q1 hc)
 ·exact congrArg wI (q2 hc)
theorem mulN {a b:Nat}(h1:a < 65521)(h2:b < 65521):0≤(a:Int)*b∧(a:Int)*b≤4292870400:=by
 have h:=zaK (Nat.le_of_lt_succ h1) (Nat.le_of_lt_succ h2)
 rw[←zay];omega
theorem mulB {a b:Int}(h1:W a)(h2:W b):0≤a*b∧a*b≤4292870400:=⟨Int.mul_nonneg h1.1 h2.1,Int.le_trans (Int.mul_le_mul h1.2 h2.2 h2.1 (by decide)) (by decide)⟩
theorem zcr:Tryz.prog.follows .mixedOrders=true:=by kernel_rfl
theorem m_power1 (x e:Nat)(hx:x < 65521)(he:e≤4611686018427387904):Maps Tryz.prog 143 [wI e,.rp [wI x]] (wI (DM.powN x e:Nat)):=by
 refine Maps.vt pok Tryz.f143 (n:=23) (rs:=[.tmp 3]) rfl rfl rfl rfl rfl rfl fun g=>?_
 repeat (any_goals (first|(refine zcj ?_;(first|refine zbW ?_|refine zbZ ?_))|(refine zck ?_;(first|refine zbY rfl ?_|refine zbX rfl ?_|refine zcu [(0,[]),(0,[]),(0,[])] 1 zcr rfl (by decide +kernel) (by decide +kernel) (by decide +kernel) nrX nrX ?_|refine zb3 rfl ?_))|(refine zd3 ?_;(first|refine zcy nrX ?_|refine PT.asA ?_|refine zda ?_))))
 refine zcl (fun j a H g'=>∃n o b:Nat,j=n∧n≤4611686018427387904∧o < 65521∧b < 65521∧o*b ^ n%65521=DM.powN x e∧a=[(0,wI n),(4,wI o),(5,wI b)]∧H=[]∧g'=g) rfl
  ⟨e,_,_,⟨e,1,x,rfl,he,by decide,hx,by rw[Nat.one_mul];rfl,rfl,rfl,rfl⟩,fgA⟩ ?_
 rintro j a H g' ⟨n,o,b,rfl,hn,ho,hb,hp,rfl,rfl,rfl⟩
 have hm1:=mulN ho hb
 have hm2:=mulN hb hb
 repeat (any_goals (first|(refine zcj ?_;(first|refine zbW ?_|refine zb0 ?_|refine zbZ ?_|refine zb2 ?_|refine zb4 rfl (m_mod _) rfl rfl ?_))|(refine zck ?_;(first|refine zbY rfl ?_|refine zbX rfl ?_|refine VT.condD rfl rfl (fun hc=>?_) (fun hc=>?_)|refine zb3 rfl ?_|refine zb5 rfl ?_|refine zci rfl ?_|refine zb7 rfl ?_))|with_reducible (refine kLn ?_)|(with_reducible refine zce ?_;refine kEr rfl ?_)))
 ·refine⟨j / 2,by omega,_,_,⟨j / 2,o*b%65521,b*b%65521,rfl,by omega,zbq _ (by decide),zbq _ (by decide),by rw[DM.pow_odd (by omega)];exact hp,rfl,rfl,rfl⟩,fgA⟩
 ·refine⟨j / 2,by omega,_,_,⟨j / 2,o,b*b%65521,rfl,by omega,ho,zbq _ (by decide),by rw[DM.pow_even (by omega)];exact hp,rfl,rfl,rfl⟩,fgA⟩
 ·have:j=0:=by omega
  subst this
  refine congrArg wI ?_
  rw[←hp,Nat.pow_zero,Nat.mul_one,Nat.mod_eq_of_lt ho]
theorem c_power (H:List Blk)(x:Int):CallSp Tryz.prog 96 [wI x] H fun d H'=>d=.fn (.func 143) [] [.mp H.length 0 0]∧H'=H++[.live 1 [[wI x]]]:=by
 refine CallSp.vt pok Tryz.f96 (n:=4) (rs:=[.tmp 2]) rfl rfl rfl rfl rfl rfl rfl fun g=>?_
 repeat (any_goals (first|(refine zcj ?_;(first|refine zbW ?_|refine zbZ ?_|refine zco ?_|refine zdz ?_))|(refine zck ?_;(first|refine zbY rfl ?_|refine zbX rfl ?_|refine zb7 rfl ?_))|(with_reducible refine zce ?_;refine kEr rfl ?_)))
 exact⟨rfl,rfl⟩
abbrev inv (x:Int):Int:=DM.invI x
theorem inv_W (x:Int):W (inv x):=DM.invI_W x
theorem m_inverseN (x:Nat)(hx:x < 65521):Maps Tryz.prog 117 [wI x] (wI (DM.invN x:Nat)):=by
 refine Maps.vt pok Tryz.f117 (n:=6) (rs:=[.tmp 2]) rfl rfl rfl rfl rfl rfl fun g=>?_
 repeat (any_goals (first|(refine zcj ?_;(first|refine zbW ?_|refine zb0 ?_|refine zbZ ?_|(refine zcw ?_;(first|refine zb4 rfl (m_power1 x 65519 hx (by decide)) rfl rfl ?_|refine zdZ rfl (c_power _ _) rfl nrX nrX ?_))))|(refine zck ?_;(first|refine zbY rfl ?_|refine zbX rfl ?_|refine zb7 rfl ?_))|(with_reducible refine zce ?_;refine kEr rfl ?_)))
 rfl
theorem m_inverse (x:Int)(hx:W x):Maps Tryz.prog 117 [wI x] (wI (inv x)):=by
 have e:x=(x.toNat:Int):=by have:=hx.1;omega
 have h:=m_inverseN x.toNat (by have:=hx.1;have:=hx.2;omega)
 rw[←e] at h;exact h
structure Dot where
 X:Int
 Y:Int
structure Leaf where
 Number:Int
 Words:List Int
structure Line where
 ID:Int
 Day:Int
 What:Int
 Worth:Int
abbrev zdn (d:Dot):List D:=[wI d.X,wI d.Y]
abbrev zcn (x:Leaf):List D:=[wI x.Number,.sl (x.Words.map eI)]
abbrev zcC (x:Line):List D:=[wI x.ID,wI x.Day,wI x.What,wI x.Worth]
abbrev zcU (x:List Int):List D:=[.sl (x.map eI)]
def fidx {α:Type}(p:α→Bool)(l:List α):Int:=if l.any p then (l.findIdx p:Int) else -1
theorem fidx_hit {α:Type}{p:α→Bool}{l:List α}{k:Nat}(hk:k < l.length)(h:(l.take k).any p=false)(hp:p l[k]=true):fidx p l=k:=by
 have h1:l.any p=true:=zbw.2 ⟨_,zi hk,hp⟩
 have h2:l.findIdx p=k:=by
  rw[List.findIdx_eq hk]
  refine⟨hp,fun j hj=>?_⟩
  have:=List.any_eq_false.1 h l[j] (List.mem_take_iff_getElem.2 ⟨j,by omega,rfl⟩)
  simpa using this
 rw[fidx,if_pos h1,h2]
theorem any_snoc {α:Type}{p:α→Bool}{l:List α}{k:Nat}(hk:k < l.length)(h:(l.take k).any p=false)(hp:p l[k]=false):(l.take (k+1)).any p=false:=by
 rw[zo hk,List.any_append,h];simp[hp]
theorem fidx_none {α:Type}{p:α→Bool}{l:List α}{k:Nat}(hk:¬k < l.length)(h:(l.take k).any p=false):fidx p l=-1:=by
 rw[zg (by omega)] at h
 rw[fidx,h];rfl
theorem fidx_any {α:Type}(p:α→Bool)(l:List α):decide (0≤fidx p l)=l.any p:=by
 unfold fidx
 cases h:l.any p<;>simp
theorem tX11 {p:Prop}(h:p:=by (repeat first|exact zdN|refine zcJ ?_ ?_|exact zd2 _ _|exact zd8 _ _|exact bb_dead|exact bb_free|exact zdg rfl|(simp[BlkBelow,zdq];done))):p:=h
theorem m_idx_Int {p:Int→Bool}{F:FuncId}{cs:List D}{l:List (Int)}(hl:l.length≤4611686018427387904)(hcs:cs.all stab1=true)(hp:∀x,x∈l→Maps Tryz.prog F ([wI x]++cs) (wB (p x))):Maps Tryz.prog 165 [.sl (l.map eI),.fn (.func F) [] cs] (wI (fidx p l)):=by
 refine Maps.vt pok Tryz.f165 (n:=19) (rs:=[.tmp 4]) rfl rfl rfl rfl rfl rfl fun g=>?_
 have hcb:=stab_low hcs 2 0
 repeat (any_goals (first|(refine zcj ?_;(first|refine zbW ?_|refine zb0 ?_|refine zbZ ?_|refine zb8 ?_))|(refine zck ?_;(first|refine zbY rfl ?_|refine zbX rfl ?_|refine zb3 rfl ?_))))
 refine zcl (fun j a H g'=>∃k:Nat,j=l.length-k∧k≤l.length∧(l.take k).any p=false∧a=[(0,.sl (l.map eI)),(1,.fn (.func F) [] cs),(7,wI l.length),(8,wI k)]∧H=[]∧g'=g) rfl
  ⟨_,_,_,⟨0,rfl,zj _,rfl,rfl,rfl,rfl⟩,zeP ⟨by (repeat first|exact True.intro|refine And.intro ?_ ?_|exact Or.inr (Or.inl rfl)|exact Or.inl rfl|(refine zeg rfl ?_;omega)|exact Or.inr (Or.inl rfl)|(refine zeg rfl ?_;simp;done)),rfl,tX7,(by first|rfl|simp_all [zdq]),by exact tX11⟩⟩ ?_
 rintro j a H g' ⟨k,rfl,hk,hn,rfl,rfl,rfl⟩
 by_cases hlt:k < l.length
 ·have hsn:∀lk,([wI l[k]]++cs).map (snap lk 5)=[wI l[k]]++cs:=fun lk=>by rw[zW,zei hcs];rfl
  repeat (any_goals (first|(refine zcj ?_;(first|refine zbW ?_|refine zb4 rfl (hp l[k] (zi hlt)) (hsn _) rfl ?_|refine zb0 ?_|refine zbZ ?_|refine zcf ?_|refine zb2 ?_|refine zcO ?_))|(refine zck ?_;(first|refine zbY rfl ?_|refine zbX rfl ?_|refine zb6 rfl rfl (by first|assumption|omega) ?_|refine VT.cond rfl rfl (fun hc=>?_) (fun hc=>?_)|refine zb3 rfl ?_|refine zb5 rfl ?_|refine zb7 rfl ?_))|(with_reducible first|refine kSr ?_|refine kBr ?_|refine kLn ?_|refine kLr ?_)|(with_reducible refine zce ?_;refine kEr rfl ?_)))
  ·rw[fidx_hit hlt hn hc];rfl
  ·exact⟨l.length-(k+1),by omega,_,_,⟨k+1,rfl,hlt,any_snoc hlt hn hc,rfl,rfl,rfl⟩,zeP ⟨by (repeat first|exact True.intro|refine And.intro ?_ ?_|exact Or.inr (Or.inl rfl)|exact Or.inl rfl|(refine zeg rfl ?_;omega)|exact Or.inr (Or.inl rfl)|(refine zeg rfl ?_;simp;done)),rfl,tX7,(by first|rfl|simp_all [zdq]),by exact tX11⟩⟩
 ·repeat (any_goals (first|(refine zcj ?_;(first|refine zbW ?_|refine zbZ ?_|refine zb2 ?_))|(refine zck ?_;(first|refine zbY rfl ?_|refine zbX rfl ?_|refine zca rfl rfl (by first|assumption|omega) ?_|refine zci rfl ?_|refine zb7 rfl ?_))|(with_reducible refine zce ?_;refine kEr rfl ?_)))
  rw[fidx_none hlt hn];rfl
theorem m_has_Int {p:Int→Bool}{F:FuncId}{cs:List D}{l:List (Int)}(hl:l.length≤4611686018427387904)(hcs:cs.all stab1=true)(hp:∀x,x∈l→Maps Tryz.prog F ([wI x]++cs) (wB (p x))):Maps Tryz.prog 129 [.sl (l.map eI),.fn (.func F) [] cs] (wB (l.any p)):=by
 refine Maps.vt pok Tryz.f129 (n:=9) (rs:=[.tmp 4]) rfl rfl rfl rfl rfl rfl fun g=>?_
 have hsn:∀lk,([.sl (l.map eI),.fn (.func F) [] cs]:List D).map (snap lk 5)=[.sl (l.map eI),.fn (.func F) [] cs]:=fun lk=>by
  simp only[zy,z8,snap,zei hcs]
 repeat (any_goals (first|(refine zcj ?_;(first|refine zbW ?_|refine zb4 rfl (m_idx_Int hl hcs hp) (hsn _) rfl ?_|refine zb0 ?_|refine zbZ ?_|refine zb2 ?_))|(refine zck ?_;(first|refine zbY rfl ?_|refine zbX rfl ?_|refine zb7 rfl ?_))|(with_reducible refine zce ?_;refine kEr rfl ?_)))
 rw[←fidx_any];rfl
theorem m_all1_Int {p:Int→Bool}{F:FuncId}{cs:List D}(hcs:cs.all stab1=true)(x:Int)(hp:Maps Tryz.prog F ([wI x]++cs) (wB (p x))):Maps Tryz.prog 130 ([wI x]++[.rp [.fn (.func F) [] cs]]) (wB (!p x)):=by
 refine Maps.vt pok Tryz.f130 (n:=8) (rs:=[.tmp 3]) rfl rfl rfl rfl rfl rfl fun g=>?_
 have hsn:∀lk,([wI x]++cs).map (snap lk 5)=[wI x]++cs:=fun lk=>by rw[zW,zei hcs];rfl
 repeat (any_goals (first|(refine zcj ?_;(first|refine zbW ?_|refine zb4 rfl hp (hsn _) rfl ?_|refine zb9 (f_ldG rfl rfl (flat_fn hcs)) ?_|refine zb0 ?_|refine zbZ ?_|refine zcv ?_))|(refine zck ?_;(first|refine zbY rfl ?_|refine zbX rfl ?_|refine zb7 rfl ?_))|(with_reducible refine zce ?_;refine kEr rfl ?_)))
 rfl
theorem m_all_Int {p:Int→Bool}{F:FuncId}{cs:List D}{l:List (Int)}(hl:l.length≤4611686018427387904)(hcs:cs.all stab1=true)(hp:∀x,x∈l→Maps Tryz.prog F ([wI x]++cs) (wB (p x))):Maps Tryz.prog 76 [.sl (l.map eI),.fn (.func F) [] cs] (wB (l.all p)):=by
 refine Maps.vt pok Tryz.f76 (n:=9) (rs:=[.tmp 4]) rfl rfl rfl rfl rfl rfl fun g=>?_
 have e:(!(l.any fun x=>!p x))=l.all p:=by rw[List.not_any_eq_all_not];simp
 have hsn:∀lk:Nat→Option Blk,lk 0=some (.live 1 [[.fn (.func F) [] cs]])→([.sl (l.map eI),.fn (.func 130) [] [.mp 0 0 0]]:List D).map (snap lk 5)=[.sl (l.map eI),.fn (.func 130) [] [.rp [.fn (.func F) [] cs]]]:=fun lk h=>by
  simp[snap,h];exact zei hcs lk _
 repeat (any_goals (first|(refine zcj ?_;(first|refine zbW ?_|refine zb4 rfl (m_has_Int (p:=fun x=>!p x) (F:=130) (cs:=[.rp [.fn (.func F) [] cs]]) hl rfl fun x hx=>m_all1_Int hcs x (hp x hx)) (hsn _ rfl) rfl ?_|refine zb0 ?_|refine zbZ ?_|refine zcv ?_|refine zco ?_|refine zdz ?_))|(refine zck ?_;(first|refine zbY rfl ?_|refine zbX rfl ?_|refine zb7 rfl ?_))|(with_reducible refine zce ?_;refine kEr rfl ?_)))
 exact congrArg wB e
end Go.DL
/- The functions of leaves/words.go and their likes in the reference: values, products, polynomials through points. -/
namespace Go.DL
open Go.Proofs Go
def allW (l:List Int):Prop:=∀x,x∈l→W x
theorem allW.get {l:List Int}(h:allW l){k:Nat}(hk:k < l.length):0≤l[k]∧l[k]≤65520:=h _ (zi hk)
theorem W_mod (a:Int):W (a%65521):=by constructor<;>omega
theorem mulW {a b:Int}(h1:0≤a∧a≤65520)(h2:0≤b∧b≤65520):0≤a*b∧a*b≤4292870400:=mulB h1 h2
def zc8 (c:List Int)(x:Int):Int:=c.foldr (fun n o=>(o*x+n)%65521) 0
theorem horner_W (c:List Int)(x:Int):W (zc8 c x):=by
 cases c with
 |nil=>exact⟨Int.le_refl 0,by show (0:Int)≤65520;decide⟩
 |cons n c=>exact W_mod _
theorem horner_drop (c:List Int)(x:Int){k:Nat}(hk:k < c.length):zc8 (c.drop k) x=(zc8 (c.drop (k+1)) x*x+c[k])%65521:=by
 rw[zO hk];rfl
def bseq (l:List Int):List (List D):=(List.range l.length).map fun (i:Nat)=>[wI ((l.length:Int)-1-(i:Int)),wI (l.getD (l.length-1-i) 0)]
theorem bseq_len (l:List Int):(bseq l).length=l.length:=by simp[bseq]
theorem bseq_get (l:List Int){i:Nat}(h:i < l.length):(bseq l)[i]? = some [wI ((l.length:Int)-1-i),wI (l[l.length-1-i]'(by omega))]:=by
 simp only[bseq,zl,zbN h,zq]
 rw[zc,zb (by omega)];rfl
theorem c_backward (H:List Blk)(l:List Int):CallSp Tryz.prog 157 [.sl (l.map eI)] H fun d H'=>d=.fn (.func 175) [] [.mp H.length 0 0]∧H'=H++[.live 1 [[.sl (l.map eI)]]]:=by
 refine CallSp.vt pok Tryz.f157 (n:=4) (rs:=[.tmp 2]) rfl rfl rfl rfl rfl rfl rfl fun g=>?_
 repeat (any_goals (first|(refine zcj ?_;(first|refine zbW ?_|refine zbZ ?_|refine zco ?_|refine zdz ?_))|(refine zck ?_;(first|refine zbY rfl ?_|refine zbX rfl ?_|refine zb7 rfl ?_))|(with_reducible refine zce ?_;refine kEr rfl ?_)))
 exact⟨rfl,rfl⟩
theorem i_backward (l:List Int)(hl:l.length≤4611686018427387904):Iter Tryz.prog 175 [] [.rp [.sl (l.map eI)]] (bseq l):=by
 refine Iter.vt pok Tryz.f175 (n:=19) rfl rfl rfl rfl (fun _=>rfl) rfl fun y=>?_
 repeat (any_goals (first|(refine zcj ?_;(first|refine zbW ?_|refine zbZ ?_|refine zcf ?_|refine zb2 ?_|refine zb8 ?_))|(refine zck ?_;(first|refine zbY rfl ?_|refine zbX rfl ?_|refine zb3 rfl ?_))))
 refine zcl (fun j a H g'=>∃i:Nat,j=l.length-i∧i≤l.length∧a=[(0,.fn (.yield y) [] []),(1,.rp [.sl (l.map eI)]),(3,wI ((l.length:Int)-1-i))]∧H=[]∧g'=(i,false)) rfl
  ⟨_,_,_,⟨0,rfl,zj _,rfl,rfl,rfl⟩,fgA⟩ ?_
 rintro j a H g' ⟨i,rfl,hi,rfl,rfl,rfl⟩
 by_cases hlt:i < l.length
 ·have e:(l.length:Int)-1-i=((l.length-1-i:Nat):Int):=by omega
  repeat (any_goals (first|(refine zcj ?_;(first|refine zbW ?_|refine RT.yield rfl ⟨rfl,i,rfl,bseq_get l hlt,?_,?_⟩|refine zb0 ?_|refine zbZ ?_|refine zcf ?_|refine zb2 ?_|refine zcO ?_|refine zcv ?_))|(refine zck ?_;(first|refine zbY rfl ?_|refine zbX rfl ?_|refine zch rfl rfl ?_|refine zcb rfl rfl ?_|refine zb6 rfl rfl (by first|assumption|omega) ?_|refine zb3 rfl ?_|refine zb5 rfl ?_|refine zb7 rfl ?_))|(with_reducible first|refine kSr ?_|refine kBr ?_|refine kLn ?_|refine kLr ?_)|(with_reducible refine zce ?_;refine kEr rfl ?_)))
  ·exact⟨l.length-(i+1),by omega,_,_,⟨i+1,rfl,hlt,rfl,rfl,rfl⟩,fgA⟩
  ·exact .inr rfl
 ·repeat (any_goals (first|(refine zcj ?_;(first|refine zbW ?_|refine zb0 ?_|refine zb2 ?_))|(refine zck ?_;(first|refine zbY rfl ?_|refine zbX rfl ?_|refine zca rfl rfl (by first|assumption|omega) ?_|refine zci rfl ?_))|(with_reducible first|refine kSe ?_|refine kBe ?_|refine kLe ?_)|(with_reducible refine d_kEn ?_;refine kEn rfl ?_)))
  exact .inl (by rw[bseq_len];exact congrArg (·,false) (by omega))
theorem m_value (c:List Int)(x:Int)(hl:c.length≤4611686018427387904)(hc:allW c)(hx:W x):Maps Tryz.prog 118 [.sl (c.map eI),wI x] (wI (zc8 c x)):=by
 refine Maps.vt pok Tryz.f118 (n:=19) (rs:=[.tmp 4]) rfl rfl rfl rfl rfl rfl fun g=>?_
 repeat (any_goals (first|(refine zcj ?_;(first|refine zbW ?_|refine zb0 ?_|refine zbZ ?_|refine zdZ rfl (c_backward _ _) rfl nrX nrX ?_|refine zc0 ?_|refine zco ?_))|(refine zck ?_;(first|refine zbY rfl ?_|refine zbX rfl ?_|refine zb3 rfl ?_))))
 refine VT.range (bseq c) [2] (fun i H=>H=[.live 1 [[wI x]],.live 1 [[wI (zc8 (c.drop (c.length-i)) x)]],.dead]) rfl rfl rfl rfl rfl rfl (i_backward c hl) ?_ ?_ ?_ ?_
 ·intro i args h
  have hi:i < c.length:=by rw[←bseq_len c];exact (za.1 h).1
  rw[bseq_get c hi] at h;cases h;exact⟨rfl,rfl⟩
 ·simp only[Nat.sub_zero,List.drop_length];rfl
 ·intro i args H' h hJ
  have hi:i < c.length:=by rw[←bseq_len c];exact (za.1 h).1
  rw[bseq_get c hi] at h;cases h;subst hJ
  have hw:=horner_W (c.drop (c.length-i)) x
  have hn:=hc.get (k:=c.length-1-i) (by omega)
  have hm:=mulW hw hx
  have e:=horner_drop c x (k:=c.length-1-i) (by omega)
  rw[show c.length-1-i+1=c.length-i by omega] at e
  repeat (any_goals (first|(refine zcj ?_;(first|refine zbW ?_|refine zbZ ?_))|refine zbX rfl ?_))
  refine⟨rfl,?_⟩
  repeat (any_goals (first|(refine zcj ?_;(first|refine zbW ?_|refine zb0 ?_|refine zcf ?_|refine zb2 ?_|refine zb4 rfl (m_mod _) rfl rfl ?_|refine zc0 ?_))|(refine zck ?_;(first|refine zbX rfl ?_|refine zb3 rfl ?_))|with_reducible (refine kBn ?_)))
  rw[show c.length-(i+1)=c.length-1-i by omega,e];rfl
 ·intro H' hJ
  subst hJ
  rw[bseq_len,zaT,zS]
  repeat (any_goals (first|(refine zcj ?_;(first|refine zbW ?_|refine zbZ ?_|refine zcf ?_))|(refine zck ?_;(first|refine zbY rfl ?_|refine zbX rfl ?_|refine zb7 rfl ?_))|(with_reducible refine zce ?_;refine kEr rfl ?_)))
  rfl
theorem m_rvalue (c:List Int)(x:Int)(hl:c.length≤4611686018427387904)(hc:allW c)(hx:W x):Maps Tryz.prog 83 [.sl (c.map eI),wI x] (wI (zc8 c x)):=by
 refine Maps.vt pok Tryz.f83 (n:=24) (rs:=[.tmp 4]) rfl rfl rfl rfl rfl rfl fun g=>?_
 repeat (any_goals (first|(refine zcj ?_;(first|refine zbW ?_|refine zb0 ?_|refine zbZ ?_|refine zb2 ?_|refine zb8 ?_))|(refine zck ?_;(first|refine zbY rfl ?_|refine zbX rfl ?_|refine zb3 rfl ?_))))
 refine zcl (fun j a H g'=>∃k:Nat,j=k∧k≤c.length∧a=[(0,.sl (c.map eI)),(1,wI x),(5,wI (zc8 (c.drop k) x)),(6,wI ((k:Int)-1))]∧H=[]∧g'=g) rfl
  ⟨_,_,_,⟨c.length,rfl,zf _,rfl,rfl,rfl⟩,zeP ⟨by (repeat first|exact True.intro|refine And.intro ?_ ?_|exact Or.inr (Or.inl rfl)|exact Or.inl rfl|(refine zeg rfl ?_;omega)|(refine zeg rfl ?_;rw[List.drop_length];rfl)|(refine zeg rfl ?_;simp;done)),rfl,tX7,(by first|rfl|simp_all [zdq]),by exact tX11⟩⟩ ?_
 rintro j a H g' ⟨k,rfl,hk,rfl,rfl,rfl⟩
 cases j with
 |zero=>
  repeat (any_goals (first|(refine zcj ?_;(first|refine zbW ?_|refine zb0 ?_|refine zbZ ?_|refine zb2 ?_))|(refine zck ?_;(first|refine zbY rfl ?_|refine zbX rfl ?_|refine zcb rfl rfl ?_|refine zci rfl ?_|refine zb7 rfl ?_))|(with_reducible refine zce ?_;refine kEr rfl ?_)))
  rfl
 |succ k=>
  have hw:=horner_W (c.drop (k+1)) x
  have hn:=hc.get (k:=k) (by omega)
  have hm:=mulW hw hx
  have e:=horner_drop c x (k:=k) (by omega)
  have e1:((k+1:Nat):Int)-1=k:=by omega
  rw[e1]
  repeat (any_goals (first|(refine zcj ?_;(first|refine zbW ?_|refine zb0 ?_|refine zbZ ?_|refine zcf ?_|refine zb2 ?_|refine zcO ?_))|(refine zck ?_;(first|refine zbY rfl ?_|refine zbX rfl ?_|refine zch rfl rfl ?_|refine zb3 rfl ?_|refine zb5 rfl ?_))|with_reducible (refine kLn ?_)))
  exact⟨k,by omega,_,_,⟨k,rfl,by omega,rfl,rfl,rfl⟩,zeP ⟨by (repeat first|exact True.intro|refine And.intro ?_ ?_|exact Or.inr (Or.inl rfl)|exact Or.inl rfl|(refine zeg rfl ?_;omega)|exact zeg rfl e|(refine zeg rfl ?_;simp;done)),rfl,tX7,(by first|rfl|simp_all [zdq]),by exact tX11⟩⟩
theorem allW_of {c:List Int}(h:c.all (fun a=>decide (W a))=true):allW c:=fun x hx=>by
 have:=zh.1 h x hx;simpa using this
theorem m_rwords (c:List Int)(hl:c.length≤4611686018427387904):Maps Tryz.prog 127 [.sl (c.map eI)] (wB (c.all fun a=>decide (W a))):=by
 refine Maps.vt pok Tryz.f127 (n:=16) (rs:=[.tmp 2]) rfl rfl rfl rfl rfl rfl fun g=>?_
 repeat (any_goals (first|(refine zcj ?_;(first|refine zbW ?_|refine zbZ ?_))|(refine zck ?_;(first|refine zbY rfl ?_|refine zbX rfl ?_|refine zb3 rfl ?_))))
 refine zcl (fun j a H g'=>∃k:Nat,j=c.length-k∧k≤c.length∧(c.take k).all (fun a=>decide (W a))=true∧a=[(0,.sl (c.map eI)),(3,wI k)]∧H=[]∧g'=g) rfl
  ⟨_,_,_,⟨0,rfl,zj _,rfl,rfl,rfl,rfl⟩,fgA⟩ ?_
 rintro j a H g' ⟨k,rfl,hk,hn,rfl,rfl,rfl⟩
 by_cases hlt:k < c.length
 ·repeat (any_goals (first|(refine zcj ?_;(first|refine zbW ?_|refine zb0 ?_|refine zbZ ?_|refine zcf ?_|refine zb2 ?_|(refine zcw ?_;(first|refine zb4 rfl (m_rword _) rfl rfl ?_|refine zb8 ?_))|refine zcO ?_|refine zcv ?_))|(refine zck ?_;(first|refine zbY rfl ?_|refine zbX rfl ?_|refine zb6 rfl rfl (by first|assumption|omega) ?_|refine VT.condD rfl rfl (fun hc=>?_) (fun hc=>?_)|refine zb3 rfl ?_|refine zb5 rfl ?_|refine zb7 rfl ?_))|(with_reducible first|refine kSr ?_|refine kBr ?_|refine kLn ?_|refine kLr ?_)|(with_reducible refine zce ?_;refine kEr rfl ?_)))
  ·have:c.all (fun a=>decide (W a))=false:=List.all_eq_false.2 ⟨c[k],zi hlt,by simpa using hc⟩
   rw[this];rfl
  ·refine⟨c.length-(k+1),by omega,_,_,⟨k+1,rfl,hlt,?_,rfl,rfl,rfl⟩,fgA⟩
   rw[zo hlt,List.all_append,hn]
   simpa using hc
 ·repeat (any_goals (first|(refine zcj ?_;(first|refine zbW ?_|refine zb0 ?_|refine zbZ ?_|refine zb2 ?_|refine zb8 ?_))|(refine zck ?_;(first|refine zbY rfl ?_|refine zbX rfl ?_|refine zca rfl rfl (by first|assumption|omega) ?_|refine zci rfl ?_|refine zb7 rfl ?_))|(with_reducible refine zce ?_;refine kEr rfl ?_)))
  rw[zg (by omega)] at hn
  rw[hn];rfl
theorem euc_bound {n a b:Nat}{x y:Int}(h:DM.Euc n a b x y)(hb:b≠0):0≤((a / b:Nat):Int)*b∧((a / b:Nat):Int)*b≤65521∧-4293001441≤((a / b:Nat):Int)*y∧((a / b:Nat):Int)*y≤4293001441:=by
 have h1:a / b*b≤a:=Nat.div_mul_le_self a b
 have h2:=h.la
 have h3:=h.ly
 have h4:a / b≤65521:=zR (Nat.div_le_self a b) h2
 have h5:(((a / b:Nat):Int)*y).natAbs≤65521*65521:=by
  rw[Int.natAbs_mul,Int.natAbs_natCast];exact zaK h4 h3
 have h6:((a / b:Nat):Int)*b=((a / b*b:Nat):Int):=by rw[zay]
 rw[h6]
 omega
theorem m_rinverse (x:Int)(hx:1≤x∧x≤65520):Maps Tryz.prog 170 [wI x] (wI (inv x)):=by
 obtain⟨n,rfl⟩:∃n:Nat,x=n:=⟨x.toNat,by omega⟩
 have h0:0 < n:=by omega
 have h1:n < 65521:=by omega
 refine Maps.vt pok Tryz.f170 (n:=34) (rs:=[.tmp 2]) rfl rfl rfl rfl rfl rfl fun g=>?_
 repeat (any_goals (first|(refine zcj ?_;(first|refine zbW ?_|refine zb0 ?_|refine zbZ ?_))|(refine zck ?_;(first|refine zbY rfl ?_|refine zbX rfl ?_|refine zb3 rfl ?_))))
 refine zcl (fun j a' H g'=>∃(a b:Nat) (x y:Int),j=b∧DM.Euc n a b x y∧a'=[(3,wI a),(4,wI b),(5,wI x),(6,wI y)]∧H=[]∧g'=g) rfl
  ⟨_,_,_,⟨n,65521,1,0,rfl,DM.Euc.start h0 h1,rfl,rfl,rfl⟩,fgA⟩ ?_
 rintro j a' H g' ⟨a,b,x,y,rfl,he,rfl,rfl,rfl⟩
 have hla:=he.la
 have hlb:=he.lb
 have hlx:=he.lx
 have hly:=he.ly
 by_cases hb:j=0
 ·subst hb
  have hl:=he.last h0 h1
  have e:(x.tmod 65521+65521)%65521=inv n:=by
   have:=tmod_p x
   unfold inv DM.invI
   rw[zM,←hl]
   omega
  have ht:=tmod_p x
  repeat (any_goals (first|(refine zcj ?_;(first|refine zbW ?_|refine zb9 (f_rem rfl rfl (by omega) (by decide)) ?_|refine zb9 (f_remG rfl rfl (by decide)) ?_|refine zb0 ?_|refine zbZ ?_|refine zb2 ?_))|(refine zck ?_;(first|refine zbY rfl ?_|refine zbX rfl ?_|refine zcb rfl rfl ?_|refine zci rfl ?_|refine zb7 rfl ?_))|(with_reducible refine zce ?_;refine kEr rfl ?_)))
  rw[←e];rfl
 ·have hq:=euc_bound he hb
  have hm:((a%j:Nat):Int)=a-((a / j:Nat):Int)*j:=by
   have:=zbP a j
   rw[zbn] at this
   have h:((a / j*j+a%j:Nat):Int)=a:=by rw[this]
   rw[Int.natCast_add,zay] at h
   omega
  rw[Int.natCast_ediv] at hq hm
  have hs:=he.step hb
  rw[Int.natCast_ediv] at hs
  have hlt:a%j < j:=zbq _ (by omega)
  repeat (any_goals (first|(refine zcj ?_;(first|refine zbW ?_|refine zb0 ?_|refine zbZ ?_|refine zb2 ?_))|(refine zck ?_;(first|refine zbY rfl ?_|refine zbX rfl ?_|refine zb6 rfl rfl (by first|assumption|omega) ?_|refine zb3 rfl ?_|refine zb5 rfl ?_))|(with_reducible first|refine kBn ?_|refine kLn ?_)))
  exact⟨a%j,hlt,_,_,⟨j,a%j,y,_,rfl,hs,rfl,rfl,rfl⟩,zeP ⟨by (repeat first|exact True.intro|refine And.intro ?_ ?_|exact Or.inr (Or.inl rfl)|exact Or.inl rfl|(refine zeg rfl ?_;omega)|exact zeg rfl hm|(refine zeg rfl ?_;simp;done)),rfl,tX7,(by first|rfl|simp_all [zdq]),by exact tX11⟩⟩
theorem m_same (a b:List Int)(hl:a.length≤4611686018427387904)(hl':b.length≤4611686018427387904):Maps Tryz.prog 30 [.sl (a.map eI),.sl (b.map eI)] (wB (decide (a=b))):=by
 refine Maps.vt pok Tryz.f30 (n:=26) (rs:=[.tmp 4]) rfl rfl rfl rfl rfl rfl fun g=>?_
 by_cases he:a.length=b.length
 ·repeat (any_goals (first|(refine zcj ?_;(first|refine zbW ?_|refine zb0 ?_|refine zbZ ?_|refine zb2 ?_|refine zb8 ?_))|(refine zck ?_;(first|refine zbY rfl ?_|refine zbX rfl ?_|refine zca rfl rfl (by first|assumption|omega) ?_|refine zb3 rfl ?_|refine zb5 rfl ?_))))
  refine zcl (fun j al H g'=>∃k:Nat,j=a.length-k∧k≤a.length∧a.take k=b.take k∧al=[(0,.sl (a.map eI)),(1,.sl (b.map eI)),(5,wI k)]∧H=[]∧g'=g) rfl
   ⟨_,_,_,⟨0,rfl,zj _,rfl,rfl,rfl,rfl⟩,fgA⟩ ?_
  rintro j al H g' ⟨k,rfl,hk,hn,rfl,rfl,rfl⟩
  by_cases hlt:k < a.length
  ·repeat (any_goals (first|(refine zcj ?_;(first|refine zbW ?_|refine zb0 ?_|refine zbZ ?_|refine zb2 ?_|refine zb8 ?_))|(refine zck ?_;(first|refine zbY rfl ?_|refine zbX rfl ?_|refine zcu [(0,[]),(0,[]),(0,[]),(0,[]),(0,[]),(0,[]),(0,[]),(0,[]),(0,[])] 1 zcr rfl (by decide +kernel) (by decide +kernel) (by decide +kernel) nrX nrX ?_|refine zb6 rfl rfl (by first|assumption|omega) ?_|refine VT.condD rfl rfl (fun hc=>?_) (fun hc=>?_)|refine zb3 rfl ?_|refine zb5 rfl ?_|refine zb7 rfl ?_))|(refine zd3 ?_;(first|refine zcy nrX ?_|refine zc2 ?_|refine zda ?_|refine PT.bnA ?_|refine zem ?_))|(with_reducible first|refine kSr ?_|refine kBr ?_|refine kLn ?_|refine kLr ?_)|(with_reducible refine zce ?_;refine kEr rfl ?_)))
   ·have:a≠b:=fun h=>hc (by subst h;rfl)
    rw[decide_eq_false this];rfl
   ·exact⟨a.length-(k+1),by omega,_,_,⟨k+1,rfl,hlt,by rw[zo hlt,zo (show k < b.length by omega),hn,Classical.not_not.1 hc],rfl,rfl,rfl⟩,fgA⟩
  ·repeat (any_goals (first|(refine zcj ?_;(first|refine zbW ?_|refine zb0 ?_|refine zbZ ?_|refine zb2 ?_|refine zb8 ?_))|(refine zck ?_;(first|refine zbY rfl ?_|refine zbX rfl ?_|refine zca rfl rfl (by first|assumption|omega) ?_|refine zci rfl ?_|refine zb7 rfl ?_))|(with_reducible refine zce ?_;refine kEr rfl ?_)))
   rw[zg (by omega),zg (by omega)] at hn
   rw[decide_eq_true hn];rfl
 ·repeat (any_goals (first|(refine zcj ?_;(first|refine zbW ?_|refine zb0 ?_|refine zbZ ?_|refine zb2 ?_|refine zb8 ?_))|(refine zck ?_;(first|refine zbY rfl ?_|refine zbX rfl ?_|refine zb6 rfl rfl (by first|assumption|omega) ?_|refine zb7 rfl ?_))|with_reducible (refine kSr ?_)|(with_reducible refine zce ?_;refine kEr rfl ?_)))
  have:a≠b:=fun h=>he (by rw[h])
  rw[decide_eq_false this];rfl
end Go.DL
