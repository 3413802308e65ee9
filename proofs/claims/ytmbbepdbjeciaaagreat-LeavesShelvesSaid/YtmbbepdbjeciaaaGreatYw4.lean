/- Lines compared; a line of words; slices put together. -/
import Derived.Test.YtmbbepdbjeciaaaGreatYw2
import Derived.Test.YtmbbepdbjeciaaaGreatYu1
import Derived.Test.YtmbbepdbjeciaaaGreatE6
import Derived.Test.YtmbbepdbjeciaaaGreatE5
import Derived.Shelf.SortM.Plain
import Derived.Shelf.SortM.SortNone
import Derived.Ground.SlgmProg
import Derived.Test.YtmbbepdbjeciaaaGreatYv3
import Derived.Test.YtmbbepdbjeciaaaGreatYb
set_option maxRecDepth 100000
set_option maxHeartbeats 16000000
namespace Go.DL
open Go.Proofs Go
deriving instance DecidableEq for Line
section
variable {P:Program}{H:List Blk}{s n:Nat}{al:AL}{tx:TypeId}{x y:Operand}{a:Int}
theorem f_ixArr {bk j len k:Nat}{e:TypeId}(hx:evA n al x=.mp bk j 0)(hy:evA n al y=wI a)(hn:a=k)(hu:P.underlying tx=some (.array len e))(hs:tsz P e=some 1)(hk:k < len):Val P H s n al (.indexAddr tx x y) (.mp bk j k):=by
 subst hn
 refine⟨?_⟩
 simp only[zcp,zc7,hx,hy,indexAddrD,unfl,intD,hu,hs]
 rw[if_pos (by omega)]
 simp[zcQ]
end
theorem st72:Tryz.prog.stoodInHeld 72=false:=by kernel_rfl
theorem gt72:Tryz.prog.eqGuardType Tryz.prog.depth 72=false:=by kernel_rfl
theorem agg_line (x y:Line):aggEqD Tryz.prog 72 (zcC x) (zcC y)=some (decide (x=y)):=by
 have e:aggEqD Tryz.prog 72 (zcC x) (zcC y)=if Tryz.prog.stoodInHeld 72=false∧Tryz.prog.eqGuardType Tryz.prog.depth 72=false then some (x.ID==y.ID&&(x.Day==y.Day&&(x.What==y.What&&(x.Worth==y.Worth&&true)))) else none:=rfl
 rw[e,if_pos ⟨st72,gt72⟩]
 refine congrArg some ?_
 rw[zbB]
 obtain⟨a,b,c,d⟩:=x
 obtain⟨a',b',c',d'⟩:=y
 simp
theorem m_SameLines (a b:List Line)(hl:a.length≤4611686018427387904)(hl':b.length≤4611686018427387904):Maps Tryz.prog 38 [.sl (a.map zcC),.sl (b.map zcC)] (wB (decide (a=b))):=by
 refine Maps.vt pok Tryz.f38 (n:=26) (rs:=[.tmp 4]) rfl rfl rfl rfl rfl rfl fun g=>?_
 by_cases he:a.length=b.length
 ·repeat (any_goals (first|(apply zcd;(first|refine zbW ?_|refine zb0 ?_|refine zbZ ?_|refine zb2 ?_|refine zb8 ?_))|(apply zcg;(first|refine zbY rfl ?_|refine zbX rfl ?_|refine zb3 rfl ?_|refine zb5 rfl ?_|refine zca rfl rfl (by first|assumption|omega) ?_))))
  refine zcl (fun j al H g'=>∃k:Nat,j=a.length-k∧k≤a.length∧a.take k=b.take k∧al=[(0,.sl (a.map zcC)),(1,.sl (b.map zcC)),(5,wI k)]∧H=[]∧g'=g) rfl
   ⟨_,_,_,⟨0,rfl,zj _,rfl,rfl,rfl,rfl⟩,fgA⟩ ?_
  rintro j al H g' ⟨k,rfl,hk,hn,rfl,rfl,rfl⟩
  by_cases hlt:k < a.length
  ·by_cases hab:a[k]=b[k]'(by omega)
   ·have hag:=agg_line a[k] (b[k]'(by omega))
    rw[decide_eq_true hab] at hag
    repeat (any_goals (first|(apply zcd;(first|refine zbW ?_|refine zb0 ?_|refine zbZ ?_|refine zb2 ?_|refine zb8 ?_))|(apply zcg;(first|refine zbY rfl ?_|refine zbX rfl ?_|refine zcb rfl rfl ?_|refine zb3 rfl ?_|refine zb5 rfl ?_|refine zcu [(0,[]),(0,[]),(0,[]),(0,[]),(0,[]),(0,[]),(0,[]),(0,[]),(0,[])] 1 zcr rfl (by decide +kernel) (by decide +kernel) (by decide +kernel) nrX nrX ?_|refine zb6 rfl rfl (by first|assumption|omega) ?_))|(apply zez;(first|refine zcy nrX ?_|refine zc2 ?_|refine zda ?_|(apply q_ix;(first|refine zdi (zeq (l:=a) (f:=zcC) (k:=k) rfl rfl rfl hlt rfl rfl) ?_|refine zdi (zeq (l:=b) (f:=zcC) (k:=k) rfl rfl rfl (by omega) rfl rfl) ?_))|refine zdi (f_neqAgg rfl rfl hag) ?_))|with_reducible (refine kLn ?_)))
    exact⟨a.length-(k+1),by omega,_,_,⟨k+1,rfl,hlt,by rw[zo hlt,zo (show k < b.length by omega),hn,hab],rfl,rfl,rfl⟩,fgA⟩
   ·have hag:=agg_line a[k] (b[k]'(by omega))
    rw[decide_eq_false hab] at hag
    have hne:a≠b:=fun h=>hab (by subst h;rfl)
    rw[decide_eq_false hne]
    repeat (any_goals (first|(apply zcd;(first|refine zbW ?_|refine zb0 ?_|refine zbZ ?_|refine zb2 ?_|refine zb8 ?_))|(apply zcg;(first|refine zbY rfl ?_|refine zbX rfl ?_|refine zch rfl rfl ?_|refine zb3 rfl ?_|refine zb5 rfl ?_|refine zb7 rfl ?_|refine zcu [(0,[]),(0,[]),(0,[]),(0,[]),(0,[]),(0,[]),(0,[]),(0,[]),(0,[])] 1 zcr rfl (by decide +kernel) (by decide +kernel) (by decide +kernel) nrX nrX ?_|refine zb6 rfl rfl (by first|assumption|omega) ?_))|(apply zez;(first|refine zcy nrX ?_|refine zc2 ?_|refine zda ?_|(apply q_ix;(first|refine zdi (zeq (l:=a) (f:=zcC) (k:=k) rfl rfl rfl hlt rfl rfl) ?_|refine zdi (zeq (l:=b) (f:=zcC) (k:=k) rfl rfl rfl (by omega) rfl rfl) ?_))|refine zdi (f_neqAgg rfl rfl hag) ?_))|(with_reducible first|refine kSr ?_|refine kBr ?_|refine kLr ?_)|(with_reducible refine zce ?_;refine kEr rfl ?_)))
    rfl
  ·repeat (any_goals (first|(apply zcd;(first|refine zbW ?_|refine zb0 ?_|refine zbZ ?_|refine zb2 ?_|refine zb8 ?_))|(apply zcg;(first|refine zbY rfl ?_|refine zbX rfl ?_|refine zci rfl ?_|refine zb7 rfl ?_|refine zca rfl rfl (by first|assumption|omega) ?_))|(with_reducible refine zce ?_;refine kEr rfl ?_)))
   rw[zg (by omega),zg (by omega)] at hn
   rw[decide_eq_true hn];rfl
 ·repeat (any_goals (first|(apply zcd;(first|refine zbW ?_|refine zb0 ?_|refine zbZ ?_|refine zb2 ?_|refine zb8 ?_))|(apply zcg;(first|refine zbY rfl ?_|refine zbX rfl ?_|refine zb7 rfl ?_|refine zb6 rfl rfl (by first|assumption|omega) ?_))|with_reducible (refine kSr ?_)|(with_reducible refine zce ?_;refine kEr rfl ?_)))
  have:a≠b:=fun h=>he (by rw[h])
  rw[decide_eq_false this];rfl
def lineOfS (w:List Int):Line:=⟨(w.getD 0 0*65521+w.getD 1 0)*65521+w.getD 2 0,w.getD 3 0,w.getD 4 0,w.getD 5 0*65521+w.getD 6 0⟩
theorem m_lineOf (a0 a1 a2 a3 a4 a5 a6:Int)(h0:W a0)(h1:W a1)(h2:W a2)(h5:W a5)(h6:W a6):Maps Tryz.prog 91 [.agg [wI a0,wI a1,wI a2,wI a3,wI a4,wI a5,wI a6]] (.agg (zcC (lineOfS [a0,a1,a2,a3,a4,a5,a6]))):=by
 refine Maps.vt pok Tryz.f91 (n:=24) (rs:=[.cell 2 72]) rfl rfl rfl rfl rfl rfl fun g=>?_
 obtain⟨h01,h02⟩:=h0
 obtain⟨h11,h12⟩:=h1
 obtain⟨h21,h22⟩:=h2
 obtain⟨h51,h52⟩:=h5
 obtain⟨h61,h62⟩:=h6
 repeat (any_goals (first|(apply zcd;(first|refine zbW ?_|refine zcf ?_|refine zb2 ?_|(apply w_ix;(first|refine zb9 (f_ixArr (k:=0) rfl rfl rfl rfl rfl (by decide)) ?_|refine zb9 (f_ixArr (k:=1) rfl rfl rfl rfl rfl (by decide)) ?_|refine zb9 (f_ixArr (k:=2) rfl rfl rfl rfl rfl (by decide)) ?_|refine zb9 (f_ixArr (k:=3) rfl rfl rfl rfl rfl (by decide)) ?_|refine zb9 (f_ixArr (k:=4) rfl rfl rfl rfl rfl (by decide)) ?_|refine zb9 (f_ixArr (k:=5) rfl rfl rfl rfl rfl (by decide)) ?_|refine zb9 (f_ixArr (k:=6) rfl rfl rfl rfl rfl (by decide)) ?_))|refine zc0 ?_|refine zco ?_|refine zb9 (zdm (d:=.agg (zcC (lineOfS [a0,a1,a2,a3,a4,a5,a6]))) rfl) ?_))|(apply zcg;(first|refine zbY rfl ?_|refine zbX rfl ?_|refine zb7 rfl ?_))|(with_reducible refine zce ?_;refine kEr rfl ?_)))
 rfl
end Go.DL
/- Sorted and Known of both programs. -/
namespace Go.DL
open Go.Proofs Go
instance:DecidableRel LLe:=fun x y=>by unfold LLe;infer_instance
def NoFk (l:List Line):Prop:=∀x,x∈l→∀y,y∈l→x.ID=y.ID→x=y
end Go.DL
/- slices.Compact and slices.Concat of lines. -/
namespace Go.DL
open Go.Proofs Go
def dd:List Line→List Line
 |[]=>[]
 |[x]=>[x]
 |x::y::r=>if x=y then dd (y::r) else x::dd (y::r)
end Go.DL
/- slices.Concat and slices.Chunk. -/
namespace Go.DL
open Go.Proofs Go
theorem c_grow {H:List Blk}{k:Nat}(h1:1≤k)(hk:k≤1000000):CallSp Tryz.prog 140 [.nil,wI k] H fun d H'=>d=.ms H.length 0 0 k∧H'=H++[.live 1 ((List.replicate k (0:Int)).map eI)]:=by
 refine CallSp.vt pok Tryz.f140 (n:=27) (rs:=[.tmp 4]) rfl rfl rfl rfl rfl rfl rfl fun g=>?_
 have hb:(H++[.live 1 ((List.replicate k (0:Int)).map eI)])[H.length]? = some (.live 1 ((List.replicate k (0:Int)).map eI)):=zdO (t:=0) rfl rfl
 repeat (any_goals (first|(apply zcd;(first|refine zbW ?_|refine zb0 ?_|refine zbZ ?_|refine zb2 ?_|(apply zdc;(first|(refine zcw ?_;refine RT.capN rfl rfl ?_)|refine zeH (s:=H.length) rfl (f_appZ0 (k:=k) rfl rfl rfl rfl rfl rfl (by omega)) rfl ?_|refine zb8 ?_))|(apply w_sl;(first|refine zb9 (f_slNil0 rfl rfl rfl) ?_|refine zb9 (f_slHiO (hi:=0) rfl rfl rfl (by omega) rfl hb) ?_))))|(apply zcg;(first|refine zbY rfl ?_|refine zbX rfl ?_|refine zcb rfl rfl ?_|refine zb5 rfl ?_|refine zb7 rfl ?_|refine zb6 rfl rfl (by first|assumption|omega) ?_))|(with_reducible refine zce ?_;refine kEr rfl ?_)))
 exact⟨rfl,rfl⟩
theorem c_concat0 (d:List (List Int))(w:Nat)(hd:d.length≤20)(hw:∀r,r∈d→r.length=w)(h1:1≤d.length)(hw1:1≤w)(hw2:w≤32):CallSp Tryz.prog 89 [.sl (d.map zcU)] [] fun x H=>x=.ms d.length 0 d.flatten.length d.flatten.length∧H[d.length]? = some (.live 1 (d.flatten.map eI)):=by
 refine CallSp.vt pok Tryz.f89 (n:=36) (rs:=[.tmp 2]) rfl rfl rfl rfl rfl rfl rfl fun g=>?_
 repeat (any_goals (first|(apply zcd;(first|refine zbW ?_|refine zb0 ?_|refine zbZ ?_|refine zb8 ?_))|(apply zcg;(first|refine zbY rfl ?_|refine zbX rfl ?_|refine zb3 rfl ?_))))
 refine zcl (fun j a H g'=>∃k:Nat,j=d.length-k∧k≤d.length∧a=[(0,.sl (d.map zcU)),(3,wI (k*w:Nat)),(9,.sl (d.map zcU)),(10,wI d.length),(11,wI k)]∧H=[]∧g'=g) rfl
  ⟨_,_,_,⟨0,rfl,zj _,by rw[Nat.zero_mul],rfl,rfl⟩,fgA⟩ ?_
 rintro j a H g' ⟨k,rfl,hk,rfl,rfl,rfl⟩
 have hkw:k*w≤640:=zaK (show k≤20 by omega) hw2
 by_cases hlt:k < d.length
 ·have hr:=hw d[k] (zi hlt)
  have e:(k+1)*w=k*w+d[k].length:=by rw[zax,hr]
  repeat (any_goals (first|(apply zcd;(first|refine zbW ?_|refine zb0 ?_|refine zbZ ?_|refine zcf ?_|refine zb2 ?_|refine zb8 ?_|refine zcO ?_))|(apply zcg;(first|refine zbY rfl ?_|refine zbX rfl ?_|refine zcb rfl rfl ?_|refine zb3 rfl ?_|refine zb5 rfl ?_|refine zb6 rfl rfl (by first|assumption|omega) ?_))|with_reducible (refine kLn ?_)))
  exact⟨d.length-(k+1),by omega,_,_,⟨k+1,rfl,hlt,rfl,rfl,rfl⟩,fgA⟩
 ·obtain rfl:k=d.length:=by omega
  have hk1:1≤d.length*w:=zaK h1 hw1
  repeat (any_goals (first|(apply zcd;(first|refine zbW ?_|refine zb0 ?_|refine zbZ ?_|refine zb2 ?_|(apply zdc;(first|(refine zcw ?_;refine zdZ rfl (c_grow (H:=[]) hk1 (by omega)) rfl (d2:=.ms 0 0 0 (d.length*w)) rfl (H2:=[.live 1 ((List.replicate (d.length*w) (0:Int)).map eI)]) rfl ?_)|refine zb8 ?_))))|(apply zcg;(first|refine zbY rfl ?_|refine zbX rfl ?_|refine zb3 rfl ?_|refine zci rfl ?_|refine zca rfl rfl (by first|assumption|omega) ?_))))
  have hfl:∀k,k≤d.length→((d.take k).flatten).length=k*w:=fun k hk=>by
   rw[List.length_flatten,show (d.take k).map List.length=List.replicate k w from by
    refine List.eq_replicate_iff.2 ⟨by simp;omega,fun x hx=>?_⟩
    obtain⟨r,hr,rfl⟩:=zt.1 hx
    exact hw r (z9 hr)]
   simp
  refine zcl (fun j a H g2=>∃(k b m c:Nat) (es:List (List D)),j=d.length-k∧k≤d.length∧H[b]? = some (.live 1 es)∧es.take m=((d.take k).flatten).map eI∧m≤es.length∧m=((d.take k).flatten).length∧(b=k∧H.length=k+1)∧(0 < k→es=((d.take k).flatten).map eI∧c=m)∧a=[(6,.ms b 0 m c),(25,.sl (d.map zcU)),(26,wI d.length),(27,wI k)]∧g2=g') rfl
   ⟨_,_,_,⟨0,0,0,d.length*w,_,rfl,zj _,rfl,rfl,zj _,rfl,⟨rfl,rfl⟩,fun h=>absurd h (zbr 0),rfl,rfl⟩,Wk.keep kpX⟩ ?_
  rintro j a H g2 ⟨k,b,m,c,es,rfl,hk,hb,hes,hle,hm,hc,he,rfl,rfl⟩
  have hlen:=hfl k hk
  have hkw:k*w≤640:=zaK (show k≤20 by omega) hw2
  by_cases hlt:k < d.length
  ·have hr:=hw d[k] (zi hlt)
   have hf2:(d.take (k+1)).flatten=(d.take k).flatten++d[k]:=by rw[zo hlt,zbO,zbS,List.flatten_nil,zN]
   repeat (any_goals (first|(apply zcd;(first|refine zbW ?_|refine zb0 ?_|refine zbZ ?_|refine zcf ?_|refine zb2 ?_|refine zeH (s:=H.length) rfl (f_appL (f:=eI) (o:=(d.take k).flatten) (v:=d[k]) (mm:=((d.take k).flatten++d[k]).length) (by':=8) rfl rfl hb hes hle (elems_sl _ _) hm (by simp) rfl (by decide) rfl rfl (fun _=>⟨rfl,rfl⟩) (by omega) (by omega)) rfl ?_|refine zcO ?_))|(apply zcg;(first|refine zbY rfl ?_|refine zbX rfl ?_|refine zb3 rfl ?_|refine zb5 rfl ?_|refine zb6 rfl rfl (by first|assumption|omega) ?_))|with_reducible (refine kLn ?_)))
   exact⟨d.length-(k+1),by omega,_,_,⟨k+1,H.length,((d.take k).flatten++d[k]).length,((d.take k).flatten++d[k]).length,_,rfl,hlt,(by
    show (H.set b .dead++_)[H.length]? = _
    exact zdO (t:=0) (by simp) rfl),by rw[zg (by rw[ze];exact zf _),hf2],by rw[ze];exact zf _,by rw[hf2],⟨hc.2,by show (H.set b .dead++_).length=_;rw[zw,zE,hc.2];rfl⟩,fun _=>⟨by rw[hf2],rfl⟩,rfl,rfl⟩,Wk.keep kpX⟩
  ·obtain rfl:k=d.length:=by omega
   repeat (any_goals (first|(apply zcd;(first|refine zbW ?_|refine zb0 ?_|refine zbZ ?_|refine zb2 ?_))|(apply zcg;(first|refine zbY rfl ?_|refine zbX rfl ?_|refine zci rfl ?_|refine zb7 rfl ?_|refine zca rfl rfl (by first|assumption|omega) ?_))|(with_reducible refine zce ?_;refine kEr rfl ?_)))
   obtain⟨he,hcm⟩:=he (by omega)
   rw[z0] at he hm
   rw[he,hc.1] at hb
   rw[hcm,hm,hc.1]
   exact⟨rfl,hb⟩
theorem c_concat {H:List Blk}(d:List (List Int))(w:Nat)(hd:d.length≤20)(hw:∀r,r∈d→r.length=w)(h1:1≤d.length)(hw1:1≤w)(hw2:w≤32):
  CallSp Tryz.prog 89 [.sl (d.map zcU)] H fun x H'=>x=.ms (H.length+1) 0 d.flatten.length d.flatten.length∧H'=H++[.dead,.live 1 (d.flatten.map eI)]:=
 CallSp.frame (k:=d.length) (by rw[zy,z8];exact c_concat0 d w hd hw h1 hw1 hw2) fun e he d hd=>by
  obtain⟨z,_,rfl⟩:=zt.1 he
  obtain rfl:d=wI z:=by simpa[eI] using hd
  rfl
end Go.DL
/- slices.Chunk. -/
namespace Go.DL
open Go.Proofs Go
section
variable {P:Program}{H:List Blk}{s n:Nat}{al:AL}{tx te:TypeId}{x y z u:Operand}{a b c:Int}
theorem f_sl3L {α:Type}{f:α→List D}{l:List α}{lo hi sz:Nat}(hx:unfl (evA n al x)=.sl (l.map f))(hy:evA n al y=wI a)(hz:evA n al z=wI b)(hu:evA n al u=wI c)(ha:a=lo)(hb:b=hi)(hc:c=hi)(h1:lo < hi)(h2:hi≤l.length)
  (he:zc3 P tx=some (te,sz)) (hf:∀w,(f w).length=sz):Val P H s n al (.slice tx x (some y) (some z) (some u)) (.sl (((l.take hi).drop lo).map f)):=by
 subst ha;subst hb;subst hc
 refine⟨?_⟩
 simp only[zcp,zc7,sliceD,he,hx,zq,hy,hz,hu,bndD,intD,zby,reduceCtorEq,and_false,if_false]
 rw[if_neg (by omega),if_pos ⟨by omega,by omega,by omega,by rw[ze];omega,by rw[List.all_map,zh];intro x _;simp[hf]⟩]
 simp[zcQ,zbf,zbs]
theorem f_arrP {len:Nat}{l:List Int}(hx:unfl (evA n al x)=.sl (l.map eI))(hu:P.underlying tx=some (.array len te))(h0:0 < len)(h1:len≤l.length):Val P H s n al (.sliceToArrayPointer tx x) (.rp (l.map wI)):=by
 refine⟨?_⟩
 have e:(l.map eI).flatten=l.map wI:=by
  clear hx h1
  induction l with
  |nil=>rfl
  |cons x r ih=>simp only[zy,zbS,ih];rfl
 simp only[zcp,zc7,arrPtrD,hu,hx]
 rw[if_pos ⟨h0,by rw[ze];exact h1,by rw[List.all_map,zh];intro x _;rfl⟩,e]
 rfl
theorem f_minL {tys:Array TypeId}(hx:evA n al x=wI a)(hy:evA n al y=wI b)(h:a≤b):Val P H s n al (.call { callee:=.builtin .min,args:=#[x,y],argTypes:=tys }) (wI a):=by
 have h1:=f_min (P:=P) (H:=H) (s:=s) hx hy (tys:=tys)
 rwa [Int.min_eq_left h] at h1
end
def cseq (w:List Int)(n:Nat):List (List D):=(List.range n).map fun i=>[D.sl (((w.take (i*7+7)).drop (i*7)).map eI)]
theorem cseq_len (w:List Int)(n:Nat):(cseq w n).length=n:=by simp[cseq]
theorem cseq_get (w:List Int){n i:Nat}(h:i < n):(cseq w n)[i]? = some [D.sl (((w.take (i*7+7)).drop (i*7)).map eI)]:=by
 simp only[cseq,zl,zbN h,zq]
theorem c_chunk {H:List Blk}{b k n c:Nat}:CallSp Tryz.prog 90 [.ms b k n c,wI 7] H fun d H'=>d=.fn (.func 141) [] [.mp H.length 0 0,.mp (H.length+1) 0 0]∧H'=H++[.live 1 [[.ms b k n c]],.live 1 [[wI 7]]]:=by
 refine CallSp.vt pok Tryz.f90 (n:=9) (rs:=[.tmp 4]) rfl rfl rfl rfl rfl rfl rfl fun g=>?_
 have hb7:(H++[.live 1 [[.ms b k n c]],.live 1 [[wI 7]]])[H.length+1]? = some (.live 1 [[wI 7]]):=zdO (t:=1) rfl rfl
 repeat (any_goals (first|(apply zcd;(first|refine zbW ?_|refine zbZ ?_|refine zb9 (zcB rfl hb7 rfl rfl rfl) ?_|refine zb2 ?_|(apply w_bx;(first|refine zcI (s:=H.length+1) (by simp) (f_boxV rfl rfl rfl) (H':=H++[.live 1 [[.ms b k n c]],.live 1 [[wI 7]]]) (by rw[zT];rfl) ?_|refine zco ?_))|refine zdz ?_))|(apply zcg;(first|refine zbY rfl ?_|refine zbX rfl ?_|refine zcb rfl rfl ?_|refine zb5 rfl ?_|refine zb7 rfl ?_))|(with_reducible refine zce ?_;refine kEr rfl ?_)))
 exact⟨rfl,rfl⟩
theorem i_chunk (w:List Int)(n:Nat)(hw:w.length=7*n)(hn:n≤1000):Iter Tryz.prog 141 [] [.rp [.sl (w.map eI)],.rp [wI 7]] (cseq w n):=by
 refine Iter.vt pok Tryz.f141 (n:=31) rfl rfl rfl rfl (fun _=>rfl) rfl fun y=>?_
 repeat (any_goals (first|(apply zcd;(first|refine zbW ?_|refine zbZ ?_))|(apply zcg;(first|refine zbY rfl ?_|refine zbX rfl ?_|refine zb3 rfl ?_))))
 refine zcl (fun j a H g'=>∃i:Nat,j=n-i∧i≤n∧a=[(0,.fn (.yield y) [] []),(1,.rp [.sl (w.map eI)]),(2,.rp [wI 7]),(4,wI (i*7:Nat))]∧H=[]∧g'=(i,false)) rfl
  ⟨_,_,_,⟨0,rfl,zj _,rfl,rfl,rfl⟩,fgA⟩ ?_
 rintro j a H g' ⟨i,rfl,hi,rfl,rfl,rfl⟩
 by_cases hlt:i < n
 ·have hlen:(w.drop (i*7)).length=7*n-i*7:=by rw[z6,hw]
  repeat (any_goals (first|(apply zcd;(first|refine zbW ?_|refine zb0 ?_|refine zbZ ?_|refine zcf ?_|refine zb2 ?_|refine zb8 ?_|refine zcv ?_|refine zb9 (f_sl3L (lo:=i*7) (hi:=i*7+7) rfl rfl rfl rfl rfl (by omega) (by omega) (by omega) (by omega) rfl (fun _=>rfl)) ?_|refine RT.yield rfl ⟨rfl,i,rfl,cseq_get w hlt,?_,?_⟩))|(apply zcg;(first|refine zbY rfl ?_|refine zbX rfl ?_|refine zch rfl rfl ?_|refine zcb rfl rfl ?_|refine zb3 rfl ?_|refine zb5 rfl ?_|refine zb7 rfl ?_|refine zcu [(0,[]),(0,[]),(0,[]),(0,[]),(0,[]),(0,[]),(0,[])] 1 zcr rfl (by decide +kernel) (by decide +kernel) (by decide +kernel) nrX nrX ?_|refine zb6 rfl rfl (by first|assumption|omega) ?_))|(apply zez;(first|refine zcy nrX ?_|refine zc2 ?_|refine PT.asA ?_|refine zda ?_|(apply q_cl;(first|(refine p_call ?_;refine zdi (f_minL rfl rfl (by omega)) ?_)|refine PT.clA ?_))|refine PT.msA ?_))|(with_reducible first|refine kSr ?_|refine kBr ?_|refine kLn ?_|refine kLr ?_)|(with_reducible refine zce ?_;refine kEr rfl ?_)))
  ·exact⟨n-(i+1),by omega,_,_,⟨i+1,rfl,hlt,rfl,rfl,rfl⟩,fgA⟩
  ·exact .inr rfl
 ·repeat (any_goals (first|(apply zcd;(first|refine zbW ?_|refine zb0 ?_|refine zcf ?_|refine zb2 ?_|refine zb8 ?_))|(apply zcg;(first|refine zbY rfl ?_|refine zbX rfl ?_|refine zci rfl ?_|refine zca rfl rfl (by first|assumption|omega) ?_))|(with_reducible first|refine kSe ?_|refine kBe ?_|refine kLe ?_)|(with_reducible refine d_kEn ?_;refine kEn rfl ?_)))
  exact .inl (by rw[cseq_len];exact congrArg (·,false) (by omega))
end Go.DL
/- Reading: what both programs answer. -/
namespace Go.DL
open Go.Proofs Go
def zdE (w:List Int)(n:Nat):List Line:=(List.range n).map fun i=>lineOfS ((w.drop (1+i*7)).take 7)
theorem linesOf_succ (w:List Int)(n:Nat):zdE w (n+1)=zdE w n++[lineOfS ((w.drop (1+n*7)).take 7)]:=by simp[zdE,zat]
theorem linesOf_len (w:List Int)(n:Nat):(zdE w n).length=n:=by simp[zdE]
def ReadS (s:Shape)(d:List (List Int)):List Line × Int:=
 if ze9 s=0 then (if DataS s d=true then
  (if 60 < d.flatten.getD 0 0∨(d.flatten.length:Int) < 1+7*d.flatten.getD 0 0 then ([],7)
   else if (zd4 s (zdE d.flatten (d.flatten.getD 0 0).toNat))=(d,0) then (zdE d.flatten (d.flatten.getD 0 0).toNat,0) else ([],7)) else ([],1)) else ([],1)
theorem getD_dt (w:List Int)(o j:Nat)(hj:j < 7):((w.drop o).take 7).getD j 0=w.getD (o+j) 0:=by
 simp only[zc,z5,if_pos hj,zV]
theorem lineOf_dt (w:List Int)(o:Nat):lineOfS ((w.drop o).take 7)=⟨(w.getD (o+0) 0*65521+w.getD (o+1) 0)*65521+w.getD (o+2) 0,w.getD (o+3) 0,w.getD (o+4) 0,w.getD (o+5) 0*65521+w.getD (o+6) 0⟩:=by
 unfold lineOfS
 rw[getD_dt w o 0 (by decide),getD_dt w o 1 (by decide),getD_dt w o 2 (by decide),getD_dt w o 3 (by decide),getD_dt w o 4 (by decide),getD_dt w o 5 (by decide),getD_dt w o 6 (by decide)]
theorem WriteS_small (s:Shape)(l:List Line):(zd4 s l).1.length≤1000∧∀x,x∈(zd4 s l).1→x.length≤1000:=by
 have h0:((([]:List (List Int)),(1:Int)).1.length≤1000∧∀x,x∈(([]:List (List Int)),(1:Int)).1→x.length≤1000):=⟨by decide,fun x h=>by cases h⟩
 unfold zd4
 rcases zcX s with⟨e,h⟩|⟨e,h⟩
 ·rw[if_pos e]
  split
  ·unfold writeS
   by_cases hf:(zdM l).length≤s.Data.toNat*s.Width.toNat
   ·rw[if_pos hf]
    obtain⟨⟨h1,h2⟩,_,h4,h5⟩:=h
    refine⟨by simp[rowsOf];omega,fun x hx=>?_⟩
    obtain⟨k,_,rfl⟩:=zt.1 hx
    rw[z6,zA,zax];omega
   ·rw[if_neg hf];exact h0
  ·exact h0
 ·rw[if_neg (by omega)];exact h0
theorem snapRLn {lk:Nat→Option Blk}{b m cap k:Nat}{o:List Line}(h:lk b=some (.live 4 (o.map zcC)))(hm:m=o.length):snapR lk (k+1) (.ms b 0 m cap)=.fl (o.map zcC):=by
 subst hm
 simp only[snapR,h,zQ,ze,zf,if_true,zS]
 rw[zg (by simp),if_pos (zh.2 fun e he=>by obtain⟨x,_,rfl⟩:=zt.1 he;cases k<;>rfl),zaa]
 exact congrArg D.fl (zI fun x _=>by cases k<;>rfl)
theorem m_RRead (s:Shape)(d:List (List Int))(hl:d.length≤4611686018427387904)(hd:∀x,x∈d→x.length≤4611686018427387904):Maps Tryz.prog 37 [dSh s,.sl (d.map zcU)] (.agg [.fl ((ReadS s d).1.map zcC),wI (ReadS s d).2]):=by
 refine Maps.vt pok Tryz.f37 (n:=109) (rs:=[.cell 4 65]) rfl rfl rfl rfl rfl rfl fun g=>?_
 have hk:=m_RCheck s
 have ha:=m_RData s d hl hd
 unfold ReadS
 rcases zcX s with⟨e,h⟩|⟨e,h⟩
 ·rw[e] at hk ⊢
  rw[if_pos rfl]
  cases qd:DataS s d with
  |true=>
   rw[qd] at ha
   rw[if_pos rfl]
   have hdw:=dataW_of h qd
   have hdl:(d.length:Int)=s.Data:=by
    unfold DataS at qd
    rw[zJ,decide_eq_true_eq] at qd
    exact qd.1
   have hD1:1≤d.length:=by have:=h.1.1;omega
   obtain⟨W,hW⟩:∃W:Nat,s.Width.toNat=W:=⟨_,rfl⟩
   rw[hW] at hdw
   have hW1:1≤W:=by have:=h.2.2.1;omega
   have hW2:W≤32:=by have:=h.2.2.2;omega
   have hfl:∀k,k≤d.length→((d.take k).flatten).length=k*W:=fun k hk=>by
    rw[List.length_flatten,show (d.take k).map List.length=List.replicate k W from by
     refine List.eq_replicate_iff.2 ⟨by simp;omega,fun x hx=>?_⟩
     obtain⟨r,hr,rfl⟩:=zt.1 hx
     exact (hdw.2 r (z9 hr)).1]
    simp
   repeat (any_goals (first|(apply zcd;(first|refine zbW ?_|refine zb0 ?_|refine zbZ ?_|refine zcf ?_|refine zb2 ?_|(apply zdc;(first|refine zb4 rfl (hk) rfl rfl ?_|refine zb4 rfl (ha) rfl rfl ?_))|refine zcv ?_|refine zco ?_))|(apply zcg;(first|refine zbY rfl ?_|refine zbX rfl ?_|refine zcb rfl rfl ?_|refine zb3 rfl ?_|refine zb5 rfl ?_))))
   refine zdh (i:=6) (s:=2) 1 rfl rfl rfl ?_
   refine zcl (fun j a H g'=>∃(k b m:Nat),j=d.length-k∧k≤d.length∧H[0]? = some (.live 3 [zcq s])∧H[1]? = some (.live 2 [[.nil,wI 0]])∧H[b]? = some (.live 1 (((d.take k).flatten).map eI))∧2≤b∧m=((d.take k).flatten).length∧a=[(1,.sl (d.map zcU)),(2,.mp 0 0 0),(4,.mp 1 0 0),(6,.ms b 0 m m),(7,wI k)]∧g'=g) rfl
    ⟨_,_,_,⟨0,2,0,rfl,zj _,rfl,rfl,rfl,zf _,rfl,rfl,rfl⟩,Wk.keep kpX⟩ ?_
   rintro j a H g' ⟨k,b,m,rfl,hkl,hb0,hb1,hb,hb2,hm,rfl,rfl⟩
   have hbl:=zcR hb
   have hlen:=hfl k hkl
   have hkw:k*W≤640:=zaK (show k≤20 by have:=hdw.1;omega) hW2
   by_cases hlt:k < d.length
   ·have hr:=(hdw.2 d[k] (zi hlt)).1
    have hf2:(d.take (k+1)).flatten=(d.take k).flatten++d[k]:=by rw[zo hlt,zbO,zbS,List.flatten_nil,zN]
    repeat (any_goals (first|(apply zcd;(first|refine zbW ?_|refine zb0 ?_|refine zbZ ?_|refine zcf ?_|refine zb2 ?_|(apply zdc;(first|refine zeH (s:=H.length) rfl (f_appL (f:=eI) (o:=(d.take k).flatten) (v:=d[k]) (mm:=((d.take k).flatten++d[k]).length) (by':=8) rfl rfl hb (by rw[zg (by rw[ze,hm];exact zf _)]) (by rw[ze,hm];exact zf _) (elems_sl _ _) hm (by simp) rfl (by decide) rfl rfl (fun _=>⟨rfl,rfl⟩) (by omega) (by omega)) rfl ?_|refine zb8 ?_))|refine zcO ?_))|(apply zcg;(first|refine zbY rfl ?_|refine zbX rfl ?_|refine zb3 rfl ?_|refine zb5 rfl ?_|refine zb6 rfl rfl (by first|assumption|omega) ?_))|with_reducible (refine kLn ?_)))
    exact⟨d.length-(k+1),by omega,_,_,⟨k+1,H.length,((d.take k).flatten++d[k]).length,rfl,hlt,zcA _ (zdv hb0 (by omega)),zcA _ (zdv hb1 (by omega)),(by
     show (H.set b .dead++_)[H.length]? = _
     rw[hf2];exact zdO (t:=0) (by simp) rfl),by omega,by rw[hf2],rfl,rfl⟩,Wk.keep kpX⟩
   ·obtain rfl:k=d.length:=by omega
    rw[z0] at hb hm hlen
    have hwW:∀j,0≤d.flatten.getD j 0∧d.flatten.getD j 0≤65520:=fun j=>by
     rw[zc]
     cases hj:d.flatten[j]? with
     |none=>exact⟨Int.le_refl _,by decide⟩
     |some x=>
      obtain⟨r,hr,hx⟩:=zaP.1 (zm hj)
      exact (hdw.2 r hr).2 x hx
    have hk1:1≤d.length*W:=zaK hD1 hW1
    generalize hw:d.flatten=w at hb hm hlen hwW ⊢
    obtain⟨n,hn⟩:∃n:Nat,w.getD 0 0=n:=zF (hwW 0).1
    rw[hn,zM]
    have hn2:=(hwW 0).2
    rw[hn] at hn2
    have hw0:w[0]? = some (n:Int):=by
     rw[zb (by omega)]
     rw[←hn,zc,zb (by omega)];rfl
    have hI:=fun (i:Nat) (hi:i < w.length)=>hwW i
    by_cases h60:60 < (n:Int)
    ·rw[if_pos (.inl h60)]
     repeat (any_goals (first|(apply zcd;(first|refine zbW ?_|refine zdI rfl rfl ?_|refine zb0 ?_|refine zbZ ?_|refine zb9 (zc9 rfl hb rfl hw0) ?_|(apply zea;(first|refine zb9 (ze5 rfl rfl (by omega)) ?_|refine zb2 ?_))|refine zb8 ?_|refine zcx ?_|refine zb9 (zct (k:=0) rfl rfl rfl hb rfl (by omega)) ?_|refine zdo (zdR rfl hb1 rfl rfl rfl rfl rfl (by decide) rfl) rfl ?_|refine zb9 (zdm (d:=.agg [.nil,wI 7]) rfl) ?_))|(apply zcg;(first|refine zbY rfl ?_|refine zbX rfl ?_|refine zch rfl rfl ?_|refine zci rfl ?_|refine zb7 rfl ?_|refine zca rfl rfl (by first|assumption|omega) ?_))|with_reducible (refine kSr ?_)))
     exact kEr (resA_cell1 (sz:=2) (e:=[.nil,wI 7]) rfl (zp (zcR hb1)) rfl rfl rfl) rfl
    ·by_cases hbig:(w.length:Int) < 1+7*(n:Int)
     ·rw[if_pos (.inr hbig)]
      repeat (any_goals (first|(apply zcd;(first|refine zbW ?_|refine zcS rfl ?_|refine zb0 ?_|refine zbZ ?_|refine zb9 (zc9 rfl hb rfl hw0) ?_|(apply zea;(first|refine zb9 (ze6 rfl rfl (by omega)) ?_|refine zb9 (ze5 rfl rfl (by omega)) ?_|refine zb2 ?_))|refine zb8 ?_|refine zcx ?_|refine zb9 (zct (k:=0) rfl rfl rfl hb rfl (by omega)) ?_|refine zdo (zdR rfl hb1 rfl rfl rfl rfl rfl (by decide) rfl) rfl ?_|refine zb9 (zdm (d:=.agg [.nil,wI 7]) rfl) ?_))|(apply zcg;(first|refine zbY rfl ?_|refine zbX rfl ?_|refine zch rfl rfl ?_|refine zci rfl ?_|refine zb7 rfl ?_|refine zca rfl rfl (by first|assumption|omega) ?_))|with_reducible (refine kSr ?_)))
      exact kEr (resA_cell1 (sz:=2) (e:=[.nil,wI 7]) rfl (zp (zcR hb1)) rfl rfl rfl) rfl
     ·rw[if_neg (by omega)]
      repeat (any_goals (first|(apply zcd;(first|refine zbW ?_|refine zcS rfl ?_|refine zb0 ?_|refine zbZ ?_|refine zb9 (zc9 rfl hb rfl hw0) ?_|(apply zea;(first|refine zb9 (ze6 rfl rfl (by omega)) ?_|refine zb2 ?_))|refine zb8 ?_|refine zcx ?_|refine zb9 (zct (k:=0) rfl rfl rfl hb rfl (by omega)) ?_))|(apply zcg;(first|refine zbY rfl ?_|refine zbX rfl ?_|refine zcb rfl rfl ?_|refine zb3 rfl ?_|refine zb5 rfl ?_|refine zci rfl ?_|refine zca rfl rfl (by first|assumption|omega) ?_))))
      subst hm
      refine zdh (i:=9) (s:=H.length) 4 rfl rfl rfl ?_
      refine zcl (fun jj a H2 g2=>∃(i q m:Nat),jj=n-i∧i≤n∧H2[0]? = some (.live 3 [zcq s])∧H2[1]? = some (.live 2 [[.nil,wI 0]])∧H2[b]? = some (.live 1 (w.map eI))∧H2[q]? = some (.live 4 ((zdE w i).map zcC))∧2≤q∧q≠b∧m=i∧a=[(1,.sl (d.map zcU)),(2,.mp 0 0 0),(4,.mp 1 0 0),(6,.ms b 0 w.length w.length),(8,wI n),(9,.ms q 0 m m),(10,wI i)]∧g2=g') rfl
       ⟨_,_,_,⟨0,H.length,0,rfl,zj _,zcA _ hb0,zcA _ hb1,zcA _ hb,zdO (t:=0) rfl rfl,by omega,by omega,rfl,rfl,rfl⟩,Wk.keep kpX⟩ ?_
      clear hb0 hb1 hb hbl
      rintro jj a H g2 ⟨i,q,m,rfl,hi,hb0,hb1,hb,hq,hq2,hqb,hmi,rfl,rfl⟩
      have hbl:=zcR hb
      have hql:=zcR hq
      have hll:=linesOf_len w i
      by_cases hin:i < n
      ·have b0:=hwW (1+i*7+0)
       have b1:=hwW (1+i*7+1)
       have b2:=hwW (1+i*7+2)
       have b3:=hwW (1+i*7+3)
       have b4:=hwW (1+i*7+4)
       have b5:=hwW (1+i*7+5)
       have b6:=hwW (1+i*7+6)
       have hx:=lineOf_dt w (1+i*7)
       generalize hxl:lineOfS ((w.drop (1+i*7)).take 7)=x at hx
       repeat (any_goals (first|(apply zcd;(first|refine zbW ?_|refine zb0 ?_|refine zbZ ?_|refine zb2 ?_|refine zb9 (f_slLo0 (k:=1+i*7) rfl rfl (by omega) (by omega) (zf _) rfl hb) ?_))|(apply zcg;(first|refine zbY rfl ?_|refine zbX rfl ?_|refine zb3 rfl ?_|refine zb5 rfl ?_|refine zd9 [q] 1 [none,none,none,none,none,none,none,none,none,none,none,none,none,none,none,none,none,none,none,none,none,none,none,none,none,none,none,none,none,none,some 0,none] [(2,[1,2],none),(2,[1,2],none),(2,[1,2],none),(2,[1,2],none),(2,[1,2],none),(2,[1,2],none),(2,[1,2],none),(2,[1,2],none),(2,[1,2],none),(2,[1,2],none),(2,[1,2],none),(2,[1,2],none),(2,[1,2],none),(2,[1,2],none),(2,[1,2],none),(2,[1,2],none),(2,[1,2],none),(2,[1,2],none),(2,[1,2],none),(2,[1,2],none),(2,[1,2],none),(2,[1,2],none),(2,[1,2],none),(2,[1,2],none),(2,[1,2],none),(2,[1,2],none),(2,[1,2],none),(2,[1,2],none),(2,[1,2],none),(0,[1,2],none),(1,[2],some 0),(2,[],none)] 3 rfl (by first|(simp;done)|(simp;omega)) (by first|(simp;done)|(simp;omega)) zcr rfl (by decide +kernel) (by decide +kernel) (by decide +kernel) rfl (H1:=H++[.free,.free,.free]) rfl ?_|refine zb6 rfl rfl (by first|assumption|omega) ?_))|(apply s_any;(first|refine zeC (zdB (H.set q .dead) [_,_] .free) ?_|refine ST.mvA ?_|refine ST.asA ?_|refine zdA (f_ldWD rfl hgX (by omega) rfl) ?_|refine ST.bnA ?_|refine ST.ap (q:=0) (b:=q) rfl rfl (s':=H.length+1) rfl (zd1 (f:=zcC) (o:=zdE w i) (v:=[x]) (mm:=i+1) (by':=32) rfl rfl hgX (zg (by rw[ze];omega)) (by rw[ze];omega) hgX (by omega) rfl (by simp[hll]) rfl (by decide) rfl rfl (fun _=>⟨rfl,rfl⟩) (by simp;omega) (by simp;omega)) (ze0 (T':=[.live 4 [zcC x],.live 4 ((zdE w i++[x]).map zcC),.free]) hql rfl rfl) ?_|(apply s_ix;(first|refine zdA (f_ixO (k:=0) rfl rfl rfl hgX rfl (by omega)) ?_|refine zdA (f_ixO (k:=1) rfl rfl rfl hgX rfl (by omega)) ?_|refine zdA (f_ixO (k:=2) rfl rfl rfl hgX rfl (by omega)) ?_|refine zdA (f_ixO (k:=3) rfl rfl rfl hgX rfl (by omega)) ?_|refine zdA (f_ixO (k:=4) rfl rfl rfl hgX rfl (by omega)) ?_|refine zdA (f_ixO (k:=5) rfl rfl rfl hgX rfl (by omega)) ?_|refine zdA (f_ixO (k:=6) rfl rfl rfl hgX rfl (by omega)) ?_))|refine ST.new rfl (s':=H.length+0) rfl (f_bslA1 rfl rfl rfl rfl rfl rfl) (zcV (i:=0) (T':=[.live 4 [zcC x],.free,.free]) rfl rfl) ?_|refine zdA (zdm (d:=.agg (zcC x)) (by rw[hx];rfl)) ?_))|with_reducible (refine kLn ?_)))
       exact⟨n-(i+1),by omega,_,_,⟨i+1,H.length+1,i+1,rfl,hin,zcA _ (zdv hb0 (by omega)),zcA _ (zdv hb1 (by omega)),zcA _ (zdv hb (by omega)),(by rw[linesOf_succ,hxl];exact zdO (t:=1) (by simp) rfl),by omega,by omega,rfl,rfl,rfl⟩,Wk.keep kpX⟩
      ·obtain rfl:i=n:=by omega
       subst hmi
       have hrw:=m_RWrite s (zdE w m) (by omega)
       obtain⟨hs1,hs2⟩:=WriteS_small s (zdE w m)
       have hsn:([.agg (zcq s),.ms q 0 m m]:List D).map (snap (fun b=>H[b]?) 5)=[dSh s,.sl ((zdE w m).map zcC)]:=by
        have e1:snap (fun b=>H[b]?) 5 (.ms q 0 m m)=.sl ((zdE w m).map zcC):=snapLn (k:=4) hq hll.symm
        rw[zy,zy,z8,e1];rfl
       generalize zd4 s (zdE w m)=R at hrw hs1 hs2 ⊢
       obtain⟨R1,R2⟩:=R
       dsimp only at hrw hs1 hs2
       have hsm:=m_sameRowsG R1 d (by omega) hl (fun x hx=>by have:=hs2 x hx;omega) hd
       have hnew:(H++[.live 2 [[.nil,wI 0]]])[H.length]? = some (.live 2 [[.nil,wI 0]]):=zdO (t:=0) rfl rfl
       have hne2:(H++[.live 2 [[.fl (R1.map zcU),wI R2]]])[H.length]? = some (.live 2 [[.fl (R1.map zcU),wI R2]]):=zdO (t:=0) rfl rfl
       by_cases hR2:R2=0
       ·subst hR2
        by_cases hR1:R1=d
        ·subst hR1
         rw[decide_eq_true rfl] at hsm
         rw[if_pos rfl]
         repeat (any_goals (first|(apply zcd;(first|refine zbW ?_|refine zcS rfl ?_|refine zb0 ?_|refine zbZ ?_|(apply zeS;(first|refine zb9 (zev rfl hb0 rfl rfl rfl rfl) ?_|refine zb9 (zcB rfl hne2 rfl rfl rfl) ?_))|refine zcm ?_|refine zb2 ?_|(apply zdc;(first|(refine zcw ?_;refine zb4 rfl hrw hsn rfl ?_)|refine zb4 rfl (hsm) rfl rfl ?_))|refine zcx ?_|refine zcv ?_|(apply w_st;(first|refine zdo (zdR rfl hnew rfl rfl rfl rfl rfl (by decide) rfl) (zcV (i:=0) rfl rfl) ?_|refine zdo (zdR rfl (zcA _ hb1) rfl rfl rfl rfl rfl (by decide) rfl) rfl ?_))|refine zcI (s:=H.length) rfl (zcL (z:=[.nil,wI 0]) (m:=2) rfl rfl) rfl ?_|refine zb9 (zdm (d:=.agg [.ms q 0 m m,wI 0]) rfl) ?_))|(apply zcg;(first|refine zbY rfl ?_|refine zbX rfl ?_|refine zcb rfl rfl ?_|refine zb5 rfl ?_|refine zci rfl ?_|refine zb7 rfl ?_|refine zca rfl rfl (by first|assumption|omega) ?_))))
         refine kEr (resA_cell1 (sz:=2) (e:=[.ms q 0 m m,wI 0]) rfl (zp (zcR (zcA _ hb1))) rfl rfl rfl) ?_
         exact congrArg (fun x=>D.agg [x,wI 0]) (snapRLn (k:=3) (zdv (zcA _ hq) (by omega)) hll.symm)
        ·rw[decide_eq_false hR1] at hsm
         rw[if_neg (fun h=>hR1 (congrArg Prod.fst h))]
         repeat (any_goals (first|(apply zcd;(first|refine zbW ?_|refine zcS rfl ?_|refine zb0 ?_|refine zbZ ?_|(apply zeS;(first|refine zb9 (zev rfl hb0 rfl rfl rfl rfl) ?_|refine zb9 (zcB rfl hne2 rfl rfl rfl) ?_))|refine zcm ?_|refine zb2 ?_|(apply zdc;(first|(refine zcw ?_;refine zb4 rfl hrw hsn rfl ?_)|refine zb4 rfl (hsm) rfl rfl ?_))|refine zcx ?_|refine zcv ?_|(apply w_st;(first|refine zdo (zdR rfl hnew rfl rfl rfl rfl rfl (by decide) rfl) (zcV (i:=0) rfl rfl) ?_|refine zdo (zdR rfl (zcA _ hb1) rfl rfl rfl rfl rfl (by decide) rfl) rfl ?_))|refine zcI (s:=H.length) rfl (zcL (z:=[.nil,wI 0]) (m:=2) rfl rfl) rfl ?_|refine zb9 (zdm (d:=.agg [.nil,wI 7]) rfl) ?_))|(apply zcg;(first|refine zbY rfl ?_|refine zbX rfl ?_|refine zch rfl rfl ?_|refine zci rfl ?_|refine zb7 rfl ?_|refine zca rfl rfl (by first|assumption|omega) ?_))|with_reducible (refine kSr ?_)))
         exact kEr (resA_cell1 (sz:=2) (e:=[.nil,wI 7]) rfl (zp (zcR (zcA _ hb1))) rfl rfl rfl) rfl
       ·rw[if_neg (fun h=>hR2 (congrArg Prod.snd h))]
        repeat (any_goals (first|(apply zcd;(first|refine zbW ?_|(apply w_g;(first|refine zdI rfl rfl ?_|refine zex rfl rfl rfl (by first|assumption|omega) ?_))|refine zb0 ?_|refine zbZ ?_|(apply zeS;(first|refine zb9 (zev rfl hb0 rfl rfl rfl rfl) ?_|refine zb9 (zcB rfl hne2 rfl rfl rfl) ?_))|refine zcm ?_|refine zb2 ?_|(apply zdc;(first|(refine zcw ?_;refine zb4 rfl hrw hsn rfl ?_)|refine zb4 rfl (hsm) rfl rfl ?_))|refine zcx ?_|(apply w_st;(first|refine zdo (zdR rfl hnew rfl rfl rfl rfl rfl (by decide) rfl) (zcV (i:=0) rfl rfl) ?_|refine zdo (zdR rfl (zcA _ hb1) rfl rfl rfl rfl rfl (by decide) rfl) rfl ?_))|refine zcI (s:=H.length) rfl (zcL (z:=[.nil,wI 0]) (m:=2) rfl rfl) rfl ?_|refine zb9 (zdm (d:=.agg [.nil,wI 7]) rfl) ?_))|(apply zcg;(first|refine zbY rfl ?_|refine zbX rfl ?_|refine zch rfl rfl ?_|refine zci rfl ?_|refine zb7 rfl ?_|refine zca rfl rfl (by first|assumption|omega) ?_))|with_reducible (refine kSr ?_)))
        exact kEr (resA_cell1 (sz:=2) (e:=[.nil,wI 7]) rfl (zp (zcR (zcA _ hb1))) rfl rfl rfl) rfl
  |false=>
   rw[qd] at ha
   rw[if_neg (by simp)]
   repeat (any_goals (first|(apply zcd;(first|refine zbW ?_|refine zb0 ?_|refine zbZ ?_|refine zcf ?_|refine zb2 ?_|(apply zdc;(first|refine zb4 rfl (hk) rfl rfl ?_|refine zb4 rfl (ha) rfl rfl ?_))|refine zcv ?_|refine zc0 ?_|refine zco ?_|refine zdz ?_))|(apply zcg;(first|refine zbY rfl ?_|refine zbX rfl ?_|refine zch rfl rfl ?_|refine zcb rfl rfl ?_|refine zb5 rfl ?_|refine zb7 rfl ?_))|with_reducible (refine kSr ?_)|(with_reducible refine zce ?_;refine kEr rfl ?_)))
   rfl
 ·rw[e] at hk ⊢
  rw[if_neg (by decide)]
  repeat (any_goals (first|(apply zcd;(first|refine zbW ?_|refine zb0 ?_|refine zbZ ?_|refine zcf ?_|refine zb2 ?_|refine zb4 rfl (hk) rfl rfl ?_|refine zc0 ?_|refine zco ?_|refine zdz ?_))|(apply zcg;(first|refine zbY rfl ?_|refine zbX rfl ?_|refine zch rfl rfl ?_|refine zb7 rfl ?_))|with_reducible (refine kSr ?_)|(with_reducible refine zce ?_;refine kEr rfl ?_)))
  rfl
end Go.DL
