/- The functions of leaves/words.go, and those of Go's library that they call: what they compute. -/
import Derived.Test.YtmbbepdbjeciaaaGreatProg
import Derived.Test.YtmbbepdbjeciaaaGreatE5
import Derived.Test.YtmbbepdbjeciaaaGreatP1
import Derived.KernelRfl
set_option maxRecDepth 100000
set_option maxHeartbeats 16000000
namespace Go.DL
open Go.Proofs Go
theorem pok:POk Tryz.prog:=⟨by kernel_rfl,by kernel_rfl⟩
abbrev W (x:Int):Prop:=0≤x∧x≤65520
theorem wB_eq {p:Prop}[Decidable p]{b:Bool}(h:b=true↔p):wB b=wB (decide p):=by
 have:b=decide p:=by rw[Bool.eq_iff_iff,h,decide_eq_true_eq]
 rw[this]
theorem m_within (a b c:Int):Maps Tryz.prog 74 [wI a,wI b,wI c] (wB (decide (b≤a∧a≤c))):=by
 refine Maps.vt pok Tryz.f74 (n:=15) (rs:=[.tmp 6]) rfl rfl rfl rfl rfl rfl fun g=>?_
 repeat (any_goals (first|(refine d_RT ?_;(first|refine RT.nil ?_|(refine d_g ?_;(first|refine RT.gy rfl ?_|refine RT.gn rfl rfl ?_|refine RT.gc rfl rfl rfl (fun hc=>?_) (fun hc=>?_)))|refine RT.mvA ?_|refine RT.asA ?_|refine RT.bnA ?_|refine RT.pkA ?_))|(refine d_VT ?_;(first|refine VT.seq rfl ?_|refine VT.reg rfl ?_|refine VT.ret rfl ?_))|(with_reducible refine d_kEr ?_;refine kEr rfl ?_)))
 all_goals (refine wB_eq ?_;simp;omega)
theorem m_in (a b c:Int):Maps Tryz.prog 75 [wI a,wI b,wI c] (wB (decide (b≤a∧a≤c))):=by
 refine Maps.vt pok Tryz.f75 (n:=15) (rs:=[.tmp 6]) rfl rfl rfl rfl rfl rfl fun g=>?_
 repeat (any_goals (first|(refine d_RT ?_;(first|refine RT.nil ?_|(refine d_g ?_;(first|refine RT.gy rfl ?_|refine RT.gn rfl rfl ?_|refine RT.gc rfl rfl rfl (fun hc=>?_) (fun hc=>?_)))|refine RT.mvA ?_|refine RT.asA ?_|refine RT.bnA ?_|refine RT.pkA ?_))|(refine d_VT ?_;(first|refine VT.seq rfl ?_|refine VT.reg rfl ?_|refine VT.ret rfl ?_))|(with_reducible refine d_kEr ?_;refine kEr rfl ?_)))
 all_goals (refine wB_eq ?_;simp;omega)
theorem m_word (a:Int):Maps Tryz.prog 77 [wI a] (wB (decide (W a))):=by
 refine Maps.vt pok Tryz.f77 (n:=5) (rs:=[.tmp 2]) rfl rfl rfl rfl rfl rfl fun g=>?_
 repeat (any_goals (first|(refine d_RT ?_;(first|refine RT.nil ?_|refine RT.mvA ?_|refine RT.asA ?_|refine RT.callM rfl (m_within _ _ _) rfl rfl ?_))|(refine d_VT ?_;(first|refine VT.seq rfl ?_|refine VT.reg rfl ?_|refine VT.ret rfl ?_))|(with_reducible refine d_kEr ?_;refine kEr rfl ?_)))
 rfl
theorem tmod_p (a:Int):(a.tmod 65521 < 0→a.tmod 65521+65521=a%65521)∧(¬a.tmod 65521 < 0→a.tmod 65521=a%65521)∧-65521 < a.tmod 65521∧a.tmod 65521 < 65521:=by
 have h:=Int.tmod_eq_emod (a:=a) (b:=65521)
 have h2:a%65521=0→(65521:Int) ∣ a:=fun h=>Int.dvd_of_emod_eq_zero h
 have h3:(65521:Int) ∣ a→a%65521=0:=fun h=>Int.emod_eq_zero_of_dvd h
 by_cases hc:0≤a∨(65521:Int) ∣ a
 ·rw[if_pos hc] at h;omega
 ·rw[if_neg hc] at h
  have:a%65521≠0:=fun e=>hc (.inr (h2 e))
  have e:((65521:Int).natAbs:Int)=65521:=rfl
  omega
theorem m_mod (a:Int):Maps Tryz.prog 144 [wI a] (wI (a%65521)):=by
 refine Maps.vt pok Tryz.f144 (n:=10) (rs:=[.tmp 2]) rfl rfl rfl rfl rfl rfl fun g=>?_
 obtain⟨q1,q2,q3,q4⟩:=tmod_p a
 repeat (any_goals (first|(refine d_RT ?_;(first|refine RT.nil ?_|refine RT.v (f_remG rfl rfl (by decide)) ?_|refine RT.mvA ?_|refine RT.asA ?_|refine RT.bnA ?_))|(refine d_VT ?_;(first|refine VT.seq rfl ?_|refine VT.reg rfl ?_|refine VT.condD rfl rfl (fun hc=>?_) (fun hc=>?_)|refine VT.skip rfl ?_|refine VT.ret rfl ?_))|(with_reducible refine d_kEr ?_;refine kEr rfl ?_)))
 ·exact congrArg wI (q1 hc)
 ·exact congrArg wI (q2 hc)
theorem mulN {a b:Nat}(h1:a < 65521)(h2:b < 65521):0≤(a:Int)*b∧(a:Int)*b≤4292870400:=by
 have h:=Nat.mul_le_mul (Nat.le_of_lt_succ h1) (Nat.le_of_lt_succ h2)
 rw[←Int.natCast_mul];omega
theorem mulB {a b:Int}(h1:W a)(h2:W b):0≤a*b∧a*b≤4292870400:=⟨Int.mul_nonneg h1.1 h2.1,Int.le_trans (Int.mul_le_mul h1.2 h2.2 h2.1 (by decide)) (by decide)⟩
theorem mixedOk:Tryz.prog.follows .mixedOrders=true:=by kernel_rfl
theorem m_power1 (x e:Nat)(hx:x < 65521)(he:e≤4611686018427387904):Maps Tryz.prog 143 [wI e,.rp [wI x]] (wI (DM.powN x e:Nat)):=by
 refine Maps.vt pok Tryz.f143 (n:=23) (rs:=[.tmp 3]) rfl rfl rfl rfl rfl rfl fun g=>?_
 repeat (any_goals (first|(refine d_RT ?_;(first|refine RT.nil ?_|refine RT.asA ?_))|(refine d_VT ?_;(first|refine VT.seq rfl ?_|refine VT.reg rfl ?_|refine VT.draw [(0,[]),(0,[]),(0,[])] 1 mixedOk rfl (by decide +kernel) (by decide +kernel) (by decide +kernel) nrX nrX ?_|refine VT.block rfl ?_))|(refine d_PT ?_;(first|refine PT.done nrX ?_|refine PT.asA ?_|refine PT.ldA ?_))))
 refine VT.loop (fun j a H g'=>∃n o b:Nat,j=n∧n≤4611686018427387904∧o < 65521∧b < 65521∧o*b ^ n%65521=DM.powN x e∧a=[(0,wI n),(4,wI o),(5,wI b)]∧H=[]∧g'=g) rfl
  ⟨e,_,_,⟨e,1,x,rfl,he,by decide,hx,by rw[Nat.one_mul];rfl,rfl,rfl,rfl⟩,fgA⟩ ?_
 rintro j a H g' ⟨n,o,b,rfl,hn,ho,hb,hp,rfl,rfl,rfl⟩
 have hm1:=mulN ho hb
 have hm2:=mulN hb hb
 repeat (any_goals (first|(refine d_RT ?_;(first|refine RT.nil ?_|refine RT.mvA ?_|refine RT.asA ?_|refine RT.bnA ?_|refine RT.callM rfl (m_mod _) rfl rfl ?_))|(refine d_VT ?_;(first|refine VT.seq rfl ?_|refine VT.reg rfl ?_|refine VT.condD rfl rfl (fun hc=>?_) (fun hc=>?_)|refine VT.block rfl ?_|refine VT.skip rfl ?_|refine VT.exit rfl ?_|refine VT.ret rfl ?_))|with_reducible (refine kLn ?_)|(with_reducible refine d_kEr ?_;refine kEr rfl ?_)))
 ·refine⟨j / 2,by omega,_,_,⟨j / 2,o*b%65521,b*b%65521,rfl,by omega,Nat.mod_lt _ (by decide),Nat.mod_lt _ (by decide),by rw[DM.pow_odd (by omega)];exact hp,rfl,rfl,rfl⟩,fgA⟩
 ·refine⟨j / 2,by omega,_,_,⟨j / 2,o,b*b%65521,rfl,by omega,ho,Nat.mod_lt _ (by decide),by rw[DM.pow_even (by omega)];exact hp,rfl,rfl,rfl⟩,fgA⟩
 ·have:j=0:=by omega
  subst this
  refine congrArg wI ?_
  rw[←hp,Nat.pow_zero,Nat.mul_one,Nat.mod_eq_of_lt ho]
theorem c_power (H:List Blk)(x:Int):CallSp Tryz.prog 96 [wI x] H fun d H'=>d=.fn (.func 143) [] [.mp H.length 0 0]∧H'=H++[.live 1 [[wI x]]]:=by
 refine CallSp.vt pok Tryz.f96 (n:=4) (rs:=[.tmp 2]) rfl rfl rfl rfl rfl rfl rfl fun g=>?_
 repeat (any_goals (first|(refine d_RT ?_;(first|refine RT.nil ?_|refine RT.asA ?_|refine RT.nwA ?_|refine RT.msA ?_))|(refine d_VT ?_;(first|refine VT.seq rfl ?_|refine VT.reg rfl ?_|refine VT.ret rfl ?_))|(with_reducible refine d_kEr ?_;refine kEr rfl ?_)))
 exact⟨rfl,rfl⟩
abbrev inv (x:Int):Int:=DM.invI x
theorem inv_W (x:Int):W (inv x):=DM.invI_W x
theorem m_inverseN (x:Nat)(hx:x < 65521):Maps Tryz.prog 117 [wI x] (wI (DM.invN x:Nat)):=by
 refine Maps.vt pok Tryz.f117 (n:=6) (rs:=[.tmp 2]) rfl rfl rfl rfl rfl rfl fun g=>?_
 repeat (any_goals (first|(refine d_RT ?_;(first|refine RT.nil ?_|refine RT.mvA ?_|refine RT.asA ?_|(refine d_call ?_;(first|refine RT.callM rfl (m_power1 x 65519 hx (by decide)) rfl rfl ?_|refine RT.callS rfl (c_power _ _) rfl nrX nrX ?_))))|(refine d_VT ?_;(first|refine VT.seq rfl ?_|refine VT.reg rfl ?_|refine VT.ret rfl ?_))|(with_reducible refine d_kEr ?_;refine kEr rfl ?_)))
 rfl
theorem m_inverse (x:Int)(hx:W x):Maps Tryz.prog 117 [wI x] (wI (inv x)):=by
 have e:x=(x.toNat:Int):=by have:=hx.1;omega
 have h:=m_inverseN x.toNat (by have:=hx.1;have:=hx.2;omega)
 rw[←e] at h;exact h
structure Dot where
 X:Int
 Y:Int
structure Leaf where
 Number:Int
 Words:List Int
structure Line where
 ID:Int
 Day:Int
 What:Int
 Worth:Int
abbrev eDot (d:Dot):List D:=[wI d.X,wI d.Y]
abbrev eLeaf (x:Leaf):List D:=[wI x.Number,.sl (x.Words.map eI)]
abbrev eLine (x:Line):List D:=[wI x.ID,wI x.Day,wI x.What,wI x.Worth]
abbrev eRow (x:List Int):List D:=[.sl (x.map eI)]
def fidx {α:Type}(p:α→Bool)(l:List α):Int:=if l.any p then (l.findIdx p:Int) else -1
theorem fidx_hit {α:Type}{p:α→Bool}{l:List α}{k:Nat}(hk:k < l.length)(h:(l.take k).any p=false)(hp:p l[k]=true):fidx p l=k:=by
 have h1:l.any p=true:=List.any_eq_true.2 ⟨_,List.getElem_mem hk,hp⟩
 have h2:l.findIdx p=k:=by
  rw[List.findIdx_eq hk]
  refine⟨hp,fun j hj=>?_⟩
  have:=List.any_eq_false.1 h l[j] (List.mem_take_iff_getElem.2 ⟨j,by omega,rfl⟩)
  simpa using this
 rw[fidx,if_pos h1,h2]
theorem any_snoc {α:Type}{p:α→Bool}{l:List α}{k:Nat}(hk:k < l.length)(h:(l.take k).any p=false)(hp:p l[k]=false):(l.take (k+1)).any p=false:=by
 rw[List.take_succ_eq_append_getElem hk,List.any_append,h];simp[hp]
theorem fidx_none {α:Type}{p:α→Bool}{l:List α}{k:Nat}(hk:¬k < l.length)(h:(l.take k).any p=false):fidx p l=-1:=by
 rw[List.take_of_length_le (by omega)] at h
 rw[fidx,h];rfl
theorem fidx_any {α:Type}(p:α→Bool)(l:List α):decide (0≤fidx p l)=l.any p:=by
 unfold fidx
 cases h:l.any p<;>simp
theorem m_idx_Int {p:Int→Bool}{F:FuncId}{cs:List D}{l:List (Int)}(hl:l.length≤4611686018427387904)(hcs:cs.all stab1=true)(hp:∀x,x∈l→Maps Tryz.prog F ([wI x]++cs) (wB (p x))):Maps Tryz.prog 165 [.sl (l.map eI),.fn (.func F) [] cs] (wI (fidx p l)):=by
 refine Maps.vt pok Tryz.f165 (n:=19) (rs:=[.tmp 4]) rfl rfl rfl rfl rfl rfl fun g=>?_
 have hcb:=stab_low hcs 2 0
 repeat (any_goals (first|(refine d_RT ?_;(first|refine RT.nil ?_|refine RT.mvA ?_|refine RT.asA ?_|refine RT.clA ?_))|(refine d_VT ?_;(first|refine VT.seq rfl ?_|refine VT.reg rfl ?_|refine VT.block rfl ?_))))
 refine VT.loop (fun j a H g'=>∃k:Nat,j=l.length-k∧k≤l.length∧(l.take k).any p=false∧a=[(0,.sl (l.map eI)),(1,.fn (.func F) [] cs),(7,wI l.length),(8,wI k)]∧H=[]∧g'=g) rfl
  ⟨_,_,_,⟨0,rfl,Nat.zero_le _,rfl,rfl,rfl,rfl⟩,Wk.fg ⟨by (repeat first|exact True.intro|refine And.intro ?_ ?_|exact Or.inr (Or.inl rfl)|exact Or.inl rfl|(refine DLe.i rfl ?_;omega)|exact Or.inr (Or.inl rfl)|(refine DLe.i rfl ?_;simp;done)),rfl,(by first|decide|exact Nat.zero_le _|exact Nat.le_refl _|(first|omega|(simp only[List.length_set,List.length_replicate,List.length_append,List.length_map,List.length_cons,List.length_nil];omega))),(by first|rfl|simp_all [lowB]),by (repeat first|exact bb_nil|refine bb_cons ?_ ?_|exact eI_low _ _|exact eDot_low _ _|exact bb_dead|exact bb_free|exact bb_lit rfl|(simp[BlkBelow,lowB];done))⟩⟩ ?_
 rintro j a H g' ⟨k,rfl,hk,hn,rfl,rfl,rfl⟩
 by_cases hlt:k < l.length
 ·have hsn:∀lk,([wI l[k]]++cs).map (snap lk 5)=[wI l[k]]++cs:=fun lk=>by rw[List.map_append,stab_snap hcs];rfl
  repeat (any_goals (first|(refine d_RT ?_;(first|refine RT.nil ?_|refine RT.callM rfl (hp l[k] (List.getElem_mem hlt)) (hsn _) rfl ?_|refine RT.mvA ?_|refine RT.asA ?_|refine RT.ldA ?_|refine RT.bnA ?_|refine RT.ixA ?_))|(refine d_VT ?_;(first|refine VT.seq rfl ?_|refine VT.reg rfl ?_|refine VT.condY rfl rfl (by first|assumption|omega) ?_|refine VT.cond rfl rfl (fun hc=>?_) (fun hc=>?_)|refine VT.block rfl ?_|refine VT.skip rfl ?_|refine VT.ret rfl ?_))|(with_reducible first|refine kSr ?_|refine kBr ?_|refine kLn ?_|refine kLr ?_)|(with_reducible refine d_kEr ?_;refine kEr rfl ?_)))
  ·rw[fidx_hit hlt hn hc];rfl
  ·exact⟨l.length-(k+1),by omega,_,_,⟨k+1,rfl,hlt,any_snoc hlt hn hc,rfl,rfl,rfl⟩,Wk.fg ⟨by (repeat first|exact True.intro|refine And.intro ?_ ?_|exact Or.inr (Or.inl rfl)|exact Or.inl rfl|(refine DLe.i rfl ?_;omega)|exact Or.inr (Or.inl rfl)|(refine DLe.i rfl ?_;simp;done)),rfl,(by first|decide|exact Nat.zero_le _|exact Nat.le_refl _|(first|omega|(simp only[List.length_set,List.length_replicate,List.length_append,List.length_map,List.length_cons,List.length_nil];omega))),(by first|rfl|simp_all [lowB]),by (repeat first|exact bb_nil|refine bb_cons ?_ ?_|exact eI_low _ _|exact eDot_low _ _|exact bb_dead|exact bb_free|exact bb_lit rfl|(simp[BlkBelow,lowB];done))⟩⟩
 ·repeat (any_goals (first|(refine d_RT ?_;(first|refine RT.nil ?_|refine RT.asA ?_|refine RT.bnA ?_))|(refine d_VT ?_;(first|refine VT.seq rfl ?_|refine VT.reg rfl ?_|refine VT.condN rfl rfl (by first|assumption|omega) ?_|refine VT.exit rfl ?_|refine VT.ret rfl ?_))|(with_reducible refine d_kEr ?_;refine kEr rfl ?_)))
  rw[fidx_none hlt hn];rfl
theorem m_has_Int {p:Int→Bool}{F:FuncId}{cs:List D}{l:List (Int)}(hl:l.length≤4611686018427387904)(hcs:cs.all stab1=true)(hp:∀x,x∈l→Maps Tryz.prog F ([wI x]++cs) (wB (p x))):Maps Tryz.prog 129 [.sl (l.map eI),.fn (.func F) [] cs] (wB (l.any p)):=by
 refine Maps.vt pok Tryz.f129 (n:=9) (rs:=[.tmp 4]) rfl rfl rfl rfl rfl rfl fun g=>?_
 have hsn:∀lk,([.sl (l.map eI),.fn (.func F) [] cs]:List D).map (snap lk 5)=[.sl (l.map eI),.fn (.func F) [] cs]:=fun lk=>by
  simp only[List.map_cons,List.map_nil,snap,stab_snap hcs]
 repeat (any_goals (first|(refine d_RT ?_;(first|refine RT.nil ?_|refine RT.callM rfl (m_idx_Int hl hcs hp) (hsn _) rfl ?_|refine RT.mvA ?_|refine RT.asA ?_|refine RT.bnA ?_))|(refine d_VT ?_;(first|refine VT.seq rfl ?_|refine VT.reg rfl ?_|refine VT.ret rfl ?_))|(with_reducible refine d_kEr ?_;refine kEr rfl ?_)))
 rw[←fidx_any];rfl
theorem m_all1_Int {p:Int→Bool}{F:FuncId}{cs:List D}(hcs:cs.all stab1=true)(x:Int)(hp:Maps Tryz.prog F ([wI x]++cs) (wB (p x))):Maps Tryz.prog 130 ([wI x]++[.rp [.fn (.func F) [] cs]]) (wB (!p x)):=by
 refine Maps.vt pok Tryz.f130 (n:=8) (rs:=[.tmp 3]) rfl rfl rfl rfl rfl rfl fun g=>?_
 have hsn:∀lk,([wI x]++cs).map (snap lk 5)=[wI x]++cs:=fun lk=>by rw[List.map_append,stab_snap hcs];rfl
 repeat (any_goals (first|(refine d_RT ?_;(first|refine RT.nil ?_|refine RT.callM rfl hp (hsn _) rfl ?_|refine RT.v (f_ldG rfl rfl (flat_fn hcs)) ?_|refine RT.mvA ?_|refine RT.asA ?_|refine RT.unA ?_))|(refine d_VT ?_;(first|refine VT.seq rfl ?_|refine VT.reg rfl ?_|refine VT.ret rfl ?_))|(with_reducible refine d_kEr ?_;refine kEr rfl ?_)))
 rfl
theorem m_all_Int {p:Int→Bool}{F:FuncId}{cs:List D}{l:List (Int)}(hl:l.length≤4611686018427387904)(hcs:cs.all stab1=true)(hp:∀x,x∈l→Maps Tryz.prog F ([wI x]++cs) (wB (p x))):Maps Tryz.prog 76 [.sl (l.map eI),.fn (.func F) [] cs] (wB (l.all p)):=by
 refine Maps.vt pok Tryz.f76 (n:=9) (rs:=[.tmp 4]) rfl rfl rfl rfl rfl rfl fun g=>?_
 have e:(!(l.any fun x=>!p x))=l.all p:=by rw[List.not_any_eq_all_not];simp
 have hsn:∀lk:Nat→Option Blk,lk 0=some (.live 1 [[.fn (.func F) [] cs]])→([.sl (l.map eI),.fn (.func 130) [] [.mp 0 0 0]]:List D).map (snap lk 5)=[.sl (l.map eI),.fn (.func 130) [] [.rp [.fn (.func F) [] cs]]]:=fun lk h=>by
  simp[snap,h];exact stab_snap hcs lk _
 repeat (any_goals (first|(refine d_RT ?_;(first|refine RT.nil ?_|refine RT.callM rfl (m_has_Int (p:=fun x=>!p x) (F:=130) (cs:=[.rp [.fn (.func F) [] cs]]) hl rfl fun x hx=>m_all1_Int hcs x (hp x hx)) (hsn _ rfl) rfl ?_|refine RT.mvA ?_|refine RT.asA ?_|refine RT.unA ?_|refine RT.nwA ?_|refine RT.msA ?_))|(refine d_VT ?_;(first|refine VT.seq rfl ?_|refine VT.reg rfl ?_|refine VT.ret rfl ?_))|(with_reducible refine d_kEr ?_;refine kEr rfl ?_)))
 exact congrArg wB e
end Go.DL

/- The functions of leaves/words.go and their likes in the reference: values, products, polynomials through points. -/
set_option maxRecDepth 100000
set_option maxHeartbeats 16000000
namespace Go.DL
open Go.Proofs Go
def allW (l:List Int):Prop:=∀x,x∈l→W x
theorem allW.get {l:List Int}(h:allW l){k:Nat}(hk:k < l.length):0≤l[k]∧l[k]≤65520:=h _ (List.getElem_mem hk)
theorem W_mod (a:Int):W (a%65521):=by constructor<;>omega
theorem mulW {a b:Int}(h1:0≤a∧a≤65520)(h2:0≤b∧b≤65520):0≤a*b∧a*b≤4292870400:=mulB h1 h2
def horner (c:List Int)(x:Int):Int:=c.foldr (fun n o=>(o*x+n)%65521) 0
theorem horner_W (c:List Int)(x:Int):W (horner c x):=by
 cases c with
 |nil=>exact⟨Int.le_refl 0,by show (0:Int)≤65520;decide⟩
 |cons n c=>exact W_mod _
theorem horner_drop (c:List Int)(x:Int){k:Nat}(hk:k < c.length):horner (c.drop k) x=(horner (c.drop (k+1)) x*x+c[k])%65521:=by
 rw[List.drop_eq_getElem_cons hk];rfl
def bseq (l:List Int):List (List D):=(List.range l.length).map fun (i:Nat)=>[wI ((l.length:Int)-1-(i:Int)),wI (l.getD (l.length-1-i) 0)]
theorem bseq_len (l:List Int):(bseq l).length=l.length:=by simp[bseq]
theorem bseq_get (l:List Int){i:Nat}(h:i < l.length):(bseq l)[i]? = some [wI ((l.length:Int)-1-i),wI (l[l.length-1-i]'(by omega))]:=by
 simp only[bseq,List.getElem?_map,List.getElem?_range h,Option.map_some]
 rw[List.getD_eq_getElem?_getD,List.getElem?_eq_getElem (by omega)];rfl
theorem c_backward (H:List Blk)(l:List Int):CallSp Tryz.prog 157 [.sl (l.map eI)] H fun d H'=>d=.fn (.func 175) [] [.mp H.length 0 0]∧H'=H++[.live 1 [[.sl (l.map eI)]]]:=by
 refine CallSp.vt pok Tryz.f157 (n:=4) (rs:=[.tmp 2]) rfl rfl rfl rfl rfl rfl rfl fun g=>?_
 repeat (any_goals (first|(refine d_RT ?_;(first|refine RT.nil ?_|refine RT.asA ?_|refine RT.nwA ?_|refine RT.msA ?_))|(refine d_VT ?_;(first|refine VT.seq rfl ?_|refine VT.reg rfl ?_|refine VT.ret rfl ?_))|(with_reducible refine d_kEr ?_;refine kEr rfl ?_)))
 exact⟨rfl,rfl⟩
theorem i_backward (l:List Int)(hl:l.length≤4611686018427387904):Iter Tryz.prog 175 [] [.rp [.sl (l.map eI)]] (bseq l):=by
 refine Iter.vt pok Tryz.f175 (n:=19) rfl rfl rfl rfl (fun _=>rfl) rfl fun y=>?_
 repeat (any_goals (first|(refine d_RT ?_;(first|refine RT.nil ?_|refine RT.asA ?_|refine RT.ldA ?_|refine RT.bnA ?_|refine RT.clA ?_))|(refine d_VT ?_;(first|refine VT.seq rfl ?_|refine VT.reg rfl ?_|refine VT.block rfl ?_))))
 refine VT.loop (fun j a H g'=>∃i:Nat,j=l.length-i∧i≤l.length∧a=[(0,.fn (.yield y) [] []),(1,.rp [.sl (l.map eI)]),(3,wI ((l.length:Int)-1-i))]∧H=[]∧g'=(i,false)) rfl
  ⟨_,_,_,⟨0,rfl,Nat.zero_le _,rfl,rfl,rfl⟩,fgA⟩ ?_
 rintro j a H g' ⟨i,rfl,hi,rfl,rfl,rfl⟩
 by_cases hlt:i < l.length
 ·have e:(l.length:Int)-1-i=((l.length-1-i:Nat):Int):=by omega
  repeat (any_goals (first|(refine d_RT ?_;(first|refine RT.nil ?_|refine RT.yield rfl ⟨rfl,i,rfl,bseq_get l hlt,?_,?_⟩|refine RT.mvA ?_|refine RT.asA ?_|refine RT.ldA ?_|refine RT.bnA ?_|refine RT.ixA ?_|refine RT.unA ?_))|(refine d_VT ?_;(first|refine VT.seq rfl ?_|refine VT.reg rfl ?_|refine VT.condT rfl rfl ?_|refine VT.condF rfl rfl ?_|refine VT.condY rfl rfl (by first|assumption|omega) ?_|refine VT.block rfl ?_|refine VT.skip rfl ?_|refine VT.ret rfl ?_))|(with_reducible first|refine kSr ?_|refine kBr ?_|refine kLn ?_|refine kLr ?_)|(with_reducible refine d_kEr ?_;refine kEr rfl ?_)))
  ·exact⟨l.length-(i+1),by omega,_,_,⟨i+1,rfl,hlt,rfl,rfl,rfl⟩,fgA⟩
  ·exact .inr rfl
 ·repeat (any_goals (first|(refine d_RT ?_;(first|refine RT.nil ?_|refine RT.mvA ?_|refine RT.bnA ?_))|(refine d_VT ?_;(first|refine VT.seq rfl ?_|refine VT.reg rfl ?_|refine VT.condN rfl rfl (by first|assumption|omega) ?_|refine VT.exit rfl ?_))|(with_reducible first|refine kSe ?_|refine kBe ?_|refine kLe ?_)|(with_reducible refine d_kEn ?_;refine kEn rfl ?_)))
  exact .inl (by rw[bseq_len];exact congrArg (·,false) (by omega))
theorem m_value (c:List Int)(x:Int)(hl:c.length≤4611686018427387904)(hc:allW c)(hx:W x):Maps Tryz.prog 118 [.sl (c.map eI),wI x] (wI (horner c x)):=by
 refine Maps.vt pok Tryz.f118 (n:=19) (rs:=[.tmp 4]) rfl rfl rfl rfl rfl rfl fun g=>?_
 repeat (any_goals (first|(refine d_RT ?_;(first|refine RT.nil ?_|refine RT.mvA ?_|refine RT.asA ?_|refine RT.callS rfl (c_backward _ _) rfl nrX nrX ?_|refine RT.stA ?_|refine RT.nwA ?_))|(refine d_VT ?_;(first|refine VT.seq rfl ?_|refine VT.reg rfl ?_|refine VT.block rfl ?_))))
 refine VT.range (bseq c) [2] (fun i H=>H=[.live 1 [[wI x]],.live 1 [[wI (horner (c.drop (c.length-i)) x)]],.dead]) rfl rfl rfl rfl rfl rfl (i_backward c hl) ?_ ?_ ?_ ?_
 ·intro i args h
  have hi:i < c.length:=by rw[←bseq_len c];exact (List.getElem?_eq_some_iff.1 h).1
  rw[bseq_get c hi] at h;cases h;exact⟨rfl,rfl⟩
 ·simp only[Nat.sub_zero,List.drop_length];rfl
 ·intro i args H' h hJ
  have hi:i < c.length:=by rw[←bseq_len c];exact (List.getElem?_eq_some_iff.1 h).1
  rw[bseq_get c hi] at h;cases h;subst hJ
  have hw:=horner_W (c.drop (c.length-i)) x
  have hn:=hc.get (k:=c.length-1-i) (by omega)
  have hm:=mulW hw hx
  have e:=horner_drop c x (k:=c.length-1-i) (by omega)
  rw[show c.length-1-i+1=c.length-i by omega] at e
  repeat (any_goals (first|(refine d_RT ?_;(first|refine RT.nil ?_|refine RT.asA ?_))|refine VT.reg rfl ?_))
  refine⟨rfl,?_⟩
  repeat (any_goals (first|(refine d_RT ?_;(first|refine RT.nil ?_|refine RT.mvA ?_|refine RT.ldA ?_|refine RT.bnA ?_|refine RT.callM rfl (m_mod _) rfl rfl ?_|refine RT.stA ?_))|(refine d_VT ?_;(first|refine VT.reg rfl ?_|refine VT.block rfl ?_))|with_reducible (refine kBn ?_)))
  rw[show c.length-(i+1)=c.length-1-i by omega,e];rfl
 ·intro H' hJ
  subst hJ
  rw[bseq_len,Nat.sub_self,List.drop_zero]
  repeat (any_goals (first|(refine d_RT ?_;(first|refine RT.nil ?_|refine RT.asA ?_|refine RT.ldA ?_))|(refine d_VT ?_;(first|refine VT.seq rfl ?_|refine VT.reg rfl ?_|refine VT.ret rfl ?_))|(with_reducible refine d_kEr ?_;refine kEr rfl ?_)))
  rfl
theorem allW_of {c:List Int}(h:c.all (fun a=>decide (W a))=true):allW c:=fun x hx=>by
 have:=List.all_eq_true.1 h x hx;simpa using this
theorem m_same (a b:List Int)(hl:a.length≤4611686018427387904)(hl':b.length≤4611686018427387904):Maps Tryz.prog 30 [.sl (a.map eI),.sl (b.map eI)] (wB (decide (a=b))):=by
 refine Maps.vt pok Tryz.f30 (n:=26) (rs:=[.tmp 4]) rfl rfl rfl rfl rfl rfl fun g=>?_
 by_cases he:a.length=b.length
 ·repeat (any_goals (first|(refine d_RT ?_;(first|refine RT.nil ?_|refine RT.mvA ?_|refine RT.asA ?_|refine RT.bnA ?_|refine RT.clA ?_))|(refine d_VT ?_;(first|refine VT.seq rfl ?_|refine VT.reg rfl ?_|refine VT.condN rfl rfl (by first|assumption|omega) ?_|refine VT.block rfl ?_|refine VT.skip rfl ?_))))
  refine VT.loop (fun j al H g'=>∃k:Nat,j=a.length-k∧k≤a.length∧a.take k=b.take k∧al=[(0,.sl (a.map eI)),(1,.sl (b.map eI)),(5,wI k)]∧H=[]∧g'=g) rfl
   ⟨_,_,_,⟨0,rfl,Nat.zero_le _,rfl,rfl,rfl,rfl⟩,fgA⟩ ?_
  rintro j al H g' ⟨k,rfl,hk,hn,rfl,rfl,rfl⟩
  by_cases hlt:k < a.length
  ·repeat (any_goals (first|(refine d_RT ?_;(first|refine RT.nil ?_|refine RT.mvA ?_|refine RT.asA ?_|refine RT.bnA ?_|refine RT.clA ?_))|(refine d_VT ?_;(first|refine VT.seq rfl ?_|refine VT.reg rfl ?_|refine VT.draw [(0,[]),(0,[]),(0,[]),(0,[]),(0,[]),(0,[]),(0,[]),(0,[]),(0,[])] 1 mixedOk rfl (by decide +kernel) (by decide +kernel) (by decide +kernel) nrX nrX ?_|refine VT.condY rfl rfl (by first|assumption|omega) ?_|refine VT.condD rfl rfl (fun hc=>?_) (fun hc=>?_)|refine VT.block rfl ?_|refine VT.skip rfl ?_|refine VT.ret rfl ?_))|(refine d_PT ?_;(first|refine PT.done nrX ?_|refine PT.mvA ?_|refine PT.ldA ?_|refine PT.bnA ?_|refine PT.ixA ?_))|(with_reducible first|refine kSr ?_|refine kBr ?_|refine kLn ?_|refine kLr ?_)|(with_reducible refine d_kEr ?_;refine kEr rfl ?_)))
   ·have:a≠b:=fun h=>hc (by subst h;rfl)
    rw[decide_eq_false this];rfl
   ·exact⟨a.length-(k+1),by omega,_,_,⟨k+1,rfl,hlt,by rw[List.take_succ_eq_append_getElem hlt,List.take_succ_eq_append_getElem (show k < b.length by omega),hn,Classical.not_not.1 hc],rfl,rfl,rfl⟩,fgA⟩
  ·repeat (any_goals (first|(refine d_RT ?_;(first|refine RT.nil ?_|refine RT.mvA ?_|refine RT.asA ?_|refine RT.bnA ?_|refine RT.clA ?_))|(refine d_VT ?_;(first|refine VT.seq rfl ?_|refine VT.reg rfl ?_|refine VT.condN rfl rfl (by first|assumption|omega) ?_|refine VT.exit rfl ?_|refine VT.ret rfl ?_))|(with_reducible refine d_kEr ?_;refine kEr rfl ?_)))
   rw[List.take_of_length_le (by omega),List.take_of_length_le (by omega)] at hn
   rw[decide_eq_true hn];rfl
 ·repeat (any_goals (first|(refine d_RT ?_;(first|refine RT.nil ?_|refine RT.mvA ?_|refine RT.asA ?_|refine RT.bnA ?_|refine RT.clA ?_))|(refine d_VT ?_;(first|refine VT.seq rfl ?_|refine VT.reg rfl ?_|refine VT.condY rfl rfl (by first|assumption|omega) ?_|refine VT.ret rfl ?_))|with_reducible (refine kSr ?_)|(with_reducible refine d_kEr ?_;refine kEr rfl ?_)))
  have:a≠b:=fun h=>he (by rw[h])
  rw[decide_eq_false this];rfl
end Go.DL

/- Products of polynomials, and polynomials through points, in leaves and in the reference. -/
set_option maxRecDepth 100000
set_option maxHeartbeats 16000000
namespace Go.DL
open Go.Proofs Go
theorem m_times (c:List Int)(r:Int)(hl:c.length≤1000000)(hc:allW c)(hr:W r):Maps Tryz.prog 160 [.sl (c.map eI),wI r] (.fl ((DM.times c r).map eI)):=by
 refine Maps.vt pok Tryz.f160 (n:=45) (rs:=[.tmp 4]) rfl rfl rfl rfl rfl rfl fun g=>?_
 repeat (any_goals (first|(refine d_RT ?_;(first|refine RT.nil ?_|refine RT.mvA ?_|refine RT.asA ?_|refine RT.bnA ?_|refine RT.clA ?_|refine RT.nwA ?_))|(refine d_VT ?_;(first|refine VT.seq rfl ?_|refine VT.reg rfl ?_|refine VT.block rfl ?_))))
 refine VT.loop (fun j a H g'=>∃(k:Nat) (o:List Int),j=c.length-k∧k≤c.length∧o=DM.tI c r k∧a=[(0,.sl (c.map eI)),(1,wI r),(5,.ms 0 0 (c.length+1) (c.length+1)),(12,.sl (c.map eI)),(13,wI c.length),(14,wI k)]∧H=[.live 1 (o.map eI)]∧g'=g) rfl
  ⟨_,_,_,⟨0,_,rfl,Nat.zero_le _,(DM.tI_zero c r).symm,rfl,rfl,rfl⟩,fgA⟩ ?_
 rintro j a H g' ⟨k,o,rfl,hk,ho,rfl,rfl,rfl⟩
 have hol:o.length=c.length+1:=by rw[ho];exact DM.tI_length c r hk
 by_cases hlt:k < c.length
 ·have hn:=hc.get hlt
  have hm:=mulW hr hn
  obtain⟨d,u,v,rest,hd,he,hv,hu,hs⟩:=DM.tI_step c r hlt
  rw[←ho] at he
  clear ho
  subst hd
  have e1:o[d.length+1]=0:=by subst he;rw[DM.get2,hv]
  have e2:(o.set (d.length+1) ((o[d.length+1]+c[d.length])%65521))[d.length]'(by simp;omega)=u:=by
   rw[List.getElem_set_ne (by omega)];subst he;rw[DM.get1]
  repeat (any_goals (first|(refine d_RT ?_;(first|refine RT.nil ?_|refine RT.mvA ?_|refine RT.asA ?_|refine RT.ldA ?_|refine RT.bnA ?_|refine RT.callM rfl (m_mod _) rfl rfl ?_|refine RT.ixA ?_|refine RT.stA ?_))|(refine d_VT ?_;(first|refine VT.seq rfl ?_|refine VT.reg rfl ?_|refine VT.condY rfl rfl (by first|assumption|omega) ?_|refine VT.block rfl ?_|refine VT.skip rfl ?_))|with_reducible (refine kLn ?_)))
  refine⟨c.length-(d.length+1),by omega,_,_,⟨d.length+1,_,rfl,hlt,?_,rfl,rfl,rfl⟩,fgA⟩
  rw[e2,e1,Int.zero_add,hs]
  subst he
  rw[DM.set2]
 ·repeat (any_goals (first|(refine d_RT ?_;(first|refine RT.nil ?_|refine RT.mvA ?_|refine RT.asA ?_|refine RT.bnA ?_))|(refine d_VT ?_;(first|refine VT.seq rfl ?_|refine VT.reg rfl ?_|refine VT.condN rfl rfl (by first|assumption|omega) ?_|refine VT.exit rfl ?_|refine VT.ret rfl ?_))|(with_reducible refine d_kEr ?_;refine kEr rfl ?_)))
  exact (snapRW (o:=o) rfl hol.symm).trans (by rw[ho,DM.tI_last c r (by omega)])
def dX (l:List Dot):List Int:=l.map Dot.X
def dY (l:List Dot):List Int:=l.map Dot.Y
theorem dX_len (l:List Dot):(dX l).length=l.length:=by simp[dX]
theorem dX_get (l:List Dot){k:Nat}(h:k < l.length):(dX l).getD k 0=l[k].X:=by simp[dX,h]
theorem dY_get (l:List Dot){k:Nat}(h:k < l.length):(dY l).getD k 0=l[k].Y:=by simp[dY,h]
def dotW (l:List Dot):Prop:=∀p,p∈l→W p.X∧W p.Y
theorem m_through (l:List Dot)(hl:l.length≤1000)(hw:dotW l):Maps Tryz.prog 123 [.sl (l.map eDot)] (.fl ((DM.through (dX l) (dY l)).map eI)):=by
 refine Maps.vt pok Tryz.f123 (n:=75) (rs:=[.tmp 2]) rfl rfl rfl rfl rfl rfl fun g=>?_
 repeat (any_goals (first|(refine d_RT ?_;(first|refine RT.nil ?_|refine RT.mvA ?_|refine RT.asA ?_|refine RT.clA ?_|refine RT.nwA ?_))|(refine d_VT ?_;(first|refine VT.seq rfl ?_|refine VT.reg rfl ?_|refine VT.block rfl ?_))))
 refine VT.loop (fun j a H g'=>∃(i:Nat) (o:List Int),j=l.length-i∧i≤l.length∧o=DM.thrS (dX l) (dY l) i∧a=[(0,.sl (l.map eDot)),(3,.ms 0 0 l.length l.length),(15,.sl (l.map eDot)),(16,wI l.length),(17,wI i)]∧H=[.live 1 (o.map eI)]∧g'=g) rfl
  ⟨_,_,_,⟨0,_,rfl,Nat.zero_le _,by rw[DM.thrS,dX_len],rfl,rfl,rfl⟩,fgA⟩ ?_
 rintro j a H g' ⟨i,o,rfl,hi,ho,rfl,rfl,rfl⟩
 have hol:o.length=l.length:=by rw[ho,DM.thrS_len _ _ _ (by rw[dX_len];exact hi),dX_len]
 by_cases hlt:i < l.length
 ·have hp:=hw _ (List.getElem_mem hlt)
  repeat (any_goals (first|(refine d_RT ?_;(first|refine RT.nil ?_|refine RT.mvA ?_|refine RT.asA ?_|refine RT.ldA ?_|refine RT.bnA ?_|refine RT.clA ?_|refine RT.ixA ?_|refine RT.stA ?_|refine RT.nwA ?_))|(refine d_VT ?_;(first|refine VT.seq rfl ?_|refine VT.reg rfl ?_|refine VT.condY rfl rfl (by first|assumption|omega) ?_|refine VT.block rfl ?_|refine VT.skip rfl ?_))))
  refine VT.sealUp 2 [(0,.sl (l.map eDot)),(3,.ms 0 0 l.length l.length),(15,.sl (l.map eDot)),(16,wI l.length),(17,wI i),(4,wI i),(5,.mp 1 0 0),(6,.fl ([1].map eI)),(7,wI 1),(23,.sl (l.map eDot)),(24,wI l.length),(25,wI 0)] (H':=[.live 1 (o.map eI),.live 2 [eDot l[i]],.dead]) rfl (by first|exact purW _|rfl) (by decide) (by (repeat first|exact True.intro|refine And.intro ?_ ?_|exact Or.inr rfl|exact Or.inl rfl|exact Or.inr (sealW rfl).symm)) (by first|rfl|(simp only[List.map_cons,List.map_nil,sealBW,List.set_cons_succ,List.set_cons_zero];try rfl)) rfl (by (repeat first|exact bb_nil|refine bb_cons ?_ ?_|exact eI_low _ _|exact eDot_low _ _|exact bb_dead|exact bb_free|exact bb_lit rfl|(simp[BlkBelow,lowB];done))) ?_
  refine VT.loop (fun j a H g2=>∃(k:Nat) (p:List Int) (d:Int),j=l.length-k∧k≤l.length∧DM.pthS (dX l) i k=(p,d)∧a=[(0,.sl (l.map eDot)),(3,.ms 0 0 l.length l.length),(15,.sl (l.map eDot)),(16,wI l.length),(17,wI i),(4,wI i),(5,.mp 1 0 0),(6,.fl (p.map eI)),(7,wI d),(23,.sl (l.map eDot)),(24,wI l.length),(25,wI k)]∧H=[.live 1 (o.map eI),.live 2 [eDot l[i]],.dead]∧g2=g') rfl
   ⟨_,_,_,⟨0,([1]:List Int),(1:Int),rfl,Nat.zero_le _,rfl,rfl,rfl,rfl⟩,fgA⟩ ?_
  rintro j a H g2 ⟨k,p,d,rfl,hk,hpd,rfl,rfl,rfl⟩
  have hpw:=DM.pthS_W (dX l) i k
  have hpl:=DM.pthS_len (dX l) i k
  rw[hpd] at hpw hpl
  have hd1:=hpw.2
  simp only at hd1 hpl
  by_cases hlt2:k < l.length
  ·have hq:=hw _ (List.getElem_mem hlt2)
   by_cases hki:k=i
   ·repeat (any_goals (first|(refine d_RT ?_;(first|refine RT.nil ?_|refine RT.mvA ?_|refine RT.asA ?_|refine RT.ldA ?_|refine RT.bnA ?_|refine RT.ixA ?_|refine RT.stA ?_|refine RT.nwA ?_))|(refine d_VT ?_;(first|refine VT.seq rfl ?_|refine VT.reg rfl ?_|refine VT.condY rfl rfl (by first|assumption|omega) ?_|refine VT.condN rfl rfl (by first|assumption|omega) ?_|refine VT.block rfl ?_|refine VT.skip rfl ?_))|with_reducible (refine kLn ?_)))
    exact⟨l.length-(k+1),by omega,_,_,⟨k+1,p,d,rfl,hlt2,by rw[DM.pthS,if_pos hki];exact hpd,rfl,rfl,rfl⟩,fgA⟩
   ·have hm:=mulW hd1 (W_mod (l[i].X-l[k].X))
    have ht:=m_times p l[k].X (by rw[hpl];split<;>omega) hpw.1 hq.1
    repeat (any_goals (first|(refine d_RT ?_;(first|refine RT.nil ?_|refine RT.mvA ?_|refine RT.asA ?_|refine RT.ldA ?_|refine RT.bnA ?_|refine RT.ixA ?_|refine RT.stA ?_|refine RT.nwA ?_))|(refine d_VT ?_;(first|refine VT.seq rfl ?_|refine VT.reg rfl ?_|refine VT.draw [(0,[]),(0,[]),(0,[]),(0,[]),(0,[]),(0,[]),(0,[]),(0,[]),(0,[]),(0,[]),(0,[]),(0,[]),(0,[]),(0,[]),(0,[])] 1 mixedOk rfl (by decide +kernel) (by decide +kernel) (by decide +kernel) nrX nrX ?_|refine VT.condY rfl rfl (by first|assumption|omega) ?_|refine VT.block rfl ?_|refine VT.skip rfl ?_))|(refine d_PT ?_;(first|refine PT.done nrX ?_|refine PT.mvA ?_|refine PT.asA ?_|refine PT.ldA ?_|refine PT.faA ?_|refine PT.bnA ?_|(refine p_call ?_;(first|refine PT.callG rfl (m_mod _) rfl rfl ?_|refine PT.callG rfl (ht) rfl rfl ?_))))|with_reducible (refine kLn ?_)))
    exact⟨l.length-(k+1),by omega,_,_,⟨k+1,_,_,rfl,hlt2,by rw[DM.pthS,if_neg hki,hpd,dX_get l hlt,dX_get l hlt2],rfl,rfl,rfl⟩,fgA⟩
  ·obtain rfl:k=l.length:=by omega
   rw[if_neg (by omega)] at hpl
   have hv:=inv_W d
   have hm:=mulW hp.2 hv
   have hpo:o.length=p.length:=by omega
   repeat (any_goals (first|(refine d_RT ?_;(first|refine RT.nil ?_|refine RT.mvA ?_|refine RT.bnA ?_|refine RT.clA ?_))|(refine d_VT ?_;(first|refine VT.seq rfl ?_|refine VT.reg rfl ?_|refine VT.draw [(0,[]),(0,[]),(0,[]),(0,[]),(0,[]),(0,[]),(0,[])] 1 mixedOk rfl (by decide +kernel) (by decide +kernel) (by decide +kernel) nrX nrX ?_|refine VT.condN rfl rfl (by first|assumption|omega) ?_|refine VT.block rfl ?_|refine VT.exit rfl ?_))|(refine d_PT ?_;(first|refine PT.done nrX ?_|refine PT.mvA ?_|refine PT.asA ?_|refine PT.ldA ?_|refine PT.faA ?_|refine PT.bnA ?_|(refine p_call ?_;(first|refine PT.callG rfl (m_mod _) rfl rfl ?_|refine PT.callG rfl (m_inverse _ hd1) rfl rfl ?_))))))
   have hf:=W_mod (l[i].Y*inv d)
   generalize hfe:l[i].Y*inv d%65521=f
   rw[hfe] at hf
   refine VT.loop (fun j a H g3=>∃(k:Nat) (q:List Int),j=l.length-k∧k≤l.length∧q=DM.aI f o p k∧a=[(0,.sl (l.map eDot)),(3,.ms 0 0 l.length l.length),(15,.sl (l.map eDot)),(16,wI l.length),(17,wI i),(7,wI f),(53,.fl (p.map eI)),(54,wI p.length),(55,wI k)]∧H=[.live 1 (q.map eI)]∧g3=g2) rfl
    ⟨_,_,_,⟨0,o,rfl,Nat.zero_le _,(DM.aI_zero f o p).symm,rfl,rfl,rfl⟩,fgA⟩ ?_
   rintro j a H g3 ⟨k,q,rfl,hk3,hq,rfl,rfl,rfl⟩
   have hql:q.length=l.length:=by rw[hq,DM.aI_length hpo (by omega)];omega
   by_cases hlt3:k < l.length
   ·obtain⟨e,rest,he,hqe,hs⟩:=DM.aI_step (f:=f) hpo (show k < o.length by omega)
    rw[←hq] at hqe
    have hpk:0≤p[k]∧p[k]≤65520:=hpw.1 _ (List.getElem_mem _)
    have hok:0≤o[k]∧o[k]≤65520:=by
     have:=DM.thrS_W (dX l) (dY l) i;rw[←ho] at this;exact this _ (List.getElem_mem _)
    have e1:q[k]'(by omega)=o[k]:=DM.get1' hqe he _
    have hm3:=mulW hf hpk
    repeat (any_goals (first|(refine d_RT ?_;(first|refine RT.nil ?_|refine RT.mvA ?_|refine RT.asA ?_|refine RT.ldA ?_|refine RT.bnA ?_|refine RT.callM rfl (m_mod _) rfl rfl ?_|refine RT.ixA ?_|refine RT.stA ?_))|(refine d_VT ?_;(first|refine VT.seq rfl ?_|refine VT.reg rfl ?_|refine VT.condY rfl rfl (by first|assumption|omega) ?_|refine VT.block rfl ?_|refine VT.skip rfl ?_))|with_reducible (refine kLn ?_)))
    refine⟨l.length-(k+1),by omega,_,_,⟨k+1,_,rfl,hlt3,?_,rfl,rfl,rfl⟩,fgA⟩
    rw[e1,hs]
    exact DM.set1' _ hqe he
   ·repeat (any_goals (first|(refine d_RT ?_;(first|refine RT.nil ?_|refine RT.mvA ?_|refine RT.bnA ?_))|(refine d_VT ?_;(first|refine VT.seq rfl ?_|refine VT.reg rfl ?_|refine VT.condN rfl rfl (by first|assumption|omega) ?_|refine VT.exit rfl ?_))|with_reducible (refine kLn ?_)))
    exact⟨l.length-(i+1),by omega,_,_,⟨i+1,q,rfl,hlt,by rw[hq,DM.aI_last hpo (by omega),DM.thrS,dX_len,hpd,dY_get l hlt,←ho,hfe],rfl,rfl,rfl⟩,fgA⟩
 ·repeat (any_goals (first|(refine d_RT ?_;(first|refine RT.nil ?_|refine RT.mvA ?_|refine RT.asA ?_|refine RT.bnA ?_))|(refine d_VT ?_;(first|refine VT.seq rfl ?_|refine VT.reg rfl ?_|refine VT.condN rfl rfl (by first|assumption|omega) ?_|refine VT.exit rfl ?_|refine VT.ret rfl ?_))|(with_reducible refine d_kEr ?_;refine kEr rfl ?_)))
  exact (snapRW (o:=o) rfl hol.symm).trans (by rw[ho,show i=l.length by omega,DM.through,dX_len])
end Go.DL
