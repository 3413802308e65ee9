/- Sorting a few words, and comparing lists. -/
import Derived.Test.YtmbbepdbjeciaaaGreatZp
import Derived.Test.YtmbbepdbjeciaaaGreatZe
import Derived.Test.YtmbbepdbjeciaaaGreatZy
import Derived.Test.YtmbbepdbjeciaaaGreatE5
set_option maxRecDepth 100000
set_option maxHeartbeats 16000000
namespace Go.DL
open Go.Proofs Go
theorem m_equal (a b:List Int)(hl:a.length≤4611686018427387904)(hl':b.length≤4611686018427387904):Maps Tryz.prog 86 [.sl (a.map eI),.sl (b.map eI)] (wB (decide (a=b))):=by
 refine Maps.vt pok Tryz.f86 (n:=26) (rs:=[.tmp 4]) rfl rfl rfl rfl rfl rfl fun g=>?_
 by_cases he:a.length=b.length
 ·repeat (any_goals (first|(refine zcj ?_;(first|refine zbW ?_|refine zb0 ?_|refine zbZ ?_|refine zb2 ?_|refine zb8 ?_))|(refine zck ?_;(first|refine zbY rfl ?_|refine zbX rfl ?_|refine zca rfl rfl (by first|assumption|omega) ?_|refine zb3 rfl ?_|refine zb5 rfl ?_))))
  refine zcl (fun j al H g'=>∃k:Nat,j=a.length-k∧k≤a.length∧a.take k=b.take k∧al=[(0,.sl (a.map eI)),(1,.sl (b.map eI)),(12,wI a.length),(13,wI k)]∧H=[]∧g'=g) rfl
   ⟨_,_,_,⟨0,rfl,zj _,rfl,rfl,rfl,rfl⟩,fgA⟩ ?_
  rintro j al H g' ⟨k,rfl,hk,hn,rfl,rfl,rfl⟩
  by_cases hlt:k < a.length
  ·repeat (any_goals (first|(refine zcj ?_;(first|refine zbW ?_|refine zb0 ?_|refine zbZ ?_|refine zb2 ?_))|(refine zck ?_;(first|refine zbY rfl ?_|refine zbX rfl ?_|refine zcu [(0,[]),(0,[]),(0,[]),(0,[]),(0,[]),(0,[]),(0,[]),(0,[]),(0,[])] 1 zcr rfl (by decide +kernel) (by decide +kernel) (by decide +kernel) nrX nrX ?_|refine zb6 rfl rfl (by first|assumption|omega) ?_|refine VT.condD rfl rfl (fun hc=>?_) (fun hc=>?_)|refine zb3 rfl ?_|refine zb5 rfl ?_|refine zb7 rfl ?_))|(refine zd3 ?_;(first|refine zcy nrX ?_|refine zc2 ?_|refine zda ?_|refine PT.bnA ?_|refine zem ?_))|(with_reducible first|refine kSr ?_|refine kBr ?_|refine kLn ?_|refine kLr ?_)|(with_reducible refine zce ?_;refine kEr rfl ?_)))
   ·have:a≠b:=fun h=>hc (by subst h;rfl)
    rw[decide_eq_false this];rfl
   ·exact⟨a.length-(k+1),by omega,_,_,⟨k+1,rfl,hlt,by rw[zo hlt,zo (show k < b.length by omega),hn,Classical.not_not.1 hc],rfl,rfl,rfl⟩,fgA⟩
  ·repeat (any_goals (first|(refine zcj ?_;(first|refine zbW ?_|refine zbZ ?_|refine zb2 ?_))|(refine zck ?_;(first|refine zbY rfl ?_|refine zbX rfl ?_|refine zca rfl rfl (by first|assumption|omega) ?_|refine zci rfl ?_|refine zb7 rfl ?_))|(with_reducible refine zce ?_;refine kEr rfl ?_)))
   rw[zg (by omega),zg (by omega)] at hn
   rw[decide_eq_true hn];rfl
 ·repeat (any_goals (first|(refine zcj ?_;(first|refine zbW ?_|refine zb0 ?_|refine zbZ ?_|refine zb2 ?_|refine zb8 ?_))|(refine zck ?_;(first|refine zbY rfl ?_|refine zbX rfl ?_|refine zb6 rfl rfl (by first|assumption|omega) ?_|refine zb7 rfl ?_))|with_reducible (refine kSr ?_)|(with_reducible refine zce ?_;refine kEr rfl ?_)))
  have:a≠b:=fun h=>he (by rw[h])
  rw[decide_eq_false this];rfl
theorem m_nan (a:Int):Maps Tryz.prog 172 [wI a] (wB false):=by
 refine Maps.vt pok Tryz.f172 (n:=6) (rs:=[.tmp 2]) rfl rfl rfl rfl rfl rfl fun g=>?_
 repeat (any_goals (first|(refine zcj ?_;(first|refine zbW ?_|refine zb9 (zeQ rfl rfl rfl) ?_|refine zb0 ?_|refine zbZ ?_))|(refine zck ?_;(first|refine zbY rfl ?_|refine zbX rfl ?_|refine zb7 rfl ?_))|(with_reducible refine zce ?_;refine kEr rfl ?_)))
 rfl
theorem m_less (a b:Int):Maps Tryz.prog 186 [wI a,wI b] (wB (decide (a < b))):=by
 refine Maps.vt pok Tryz.f186 (n:=17) (rs:=[.tmp 4]) rfl rfl rfl rfl rfl rfl fun g=>?_
 repeat (any_goals (first|(refine zcj ?_;(first|refine zbW ?_|(refine d_g ?_;(first|refine zcS rfl ?_|refine zdI rfl rfl ?_))|refine zb0 ?_|refine zbZ ?_|refine zb2 ?_|refine zb4 rfl (m_nan a) rfl rfl ?_|refine zcx ?_))|(refine zck ?_;(first|refine zbY rfl ?_|refine zbX rfl ?_|refine zb7 rfl ?_))|(with_reducible refine zce ?_;refine kEr rfl ?_)))
 rfl
section
variable {P:Program}{H:List Blk}{s n:Nat}{al:AL}{tx ty':TypeId}{x y:Operand}{a b:Int}
theorem ze5 (hx:evA n al x=wI a)(hy:evA n al y=wI b)(h:b < a):Val P H s n al (.binOp .gtr tx x y ty') (wB true):=by
 have h1:=f_gtr (P:=P) (H:=H) (s:=s) (tx:=tx) (ty':=ty') hx hy
 rwa [decide_eq_true h] at h1
theorem ze6 (hx:evA n al x=wI a)(hy:evA n al y=wI b)(h:¬b < a):Val P H s n al (.binOp .gtr tx x y ty') (wB false):=by
 have h1:=f_gtr (P:=P) (H:=H) (s:=s) (tx:=tx) (ty':=ty') hx hy
 rwa [decide_eq_false h] at h1
theorem f_convU {k:IntKind}{src dst:TypeId}{u:TypeDesc}(hx:evA n al x=.v (.int k a))(hs:P.underlying src=some u)(hd:P.underlying dst=some (.int .u64))(h1:0≤a)(h2:a≤9223372036854775807):Val P H s n al (.convert src dst x) (.v (.int .u64 a)):=by
 have hw:IntKind.wrap .u64 a=a:=by
  show a%18446744073709551616=a
  omega
 refine⟨?_⟩;simp only[zcp,zc7,hx,convD,hs,hd,hw,zcQ];rfl
end
theorem set_same {H:List Blk}{q:Nat}{x:Blk}(h:H[q]? = some x):H.set q x=H:=by
 refine zae fun i=>?_
 rw[zX]
 split
 ·rename_i e;subst e;rw[if_pos (zc5 h),h]
 ·rfl
theorem m_isort0:Maps Tryz.prog 180 [.sl [],wI 0,wI 0] (.tup []):=by
 refine Maps.vt pok Tryz.f180 (n:=49) (rs:=[]) rfl rfl rfl rfl rfl rfl fun g=>?_
 repeat (any_goals (first|(refine zcj ?_;(first|refine zbW ?_|refine zb0 ?_|refine zbZ ?_|refine zb2 ?_))|(refine zck ?_;(first|refine zbY rfl ?_|refine zbX rfl ?_|refine zb3 rfl ?_))))
 refine zcl (fun j al H g'=>j=0∧al=[(2,wI 0),(6,wI 1)]∧H=[]∧g'=g) rfl ⟨_,_,_,⟨rfl,rfl,rfl,rfl⟩,fgA⟩ ?_
 rintro j al H g' ⟨rfl,rfl,rfl,rfl⟩
 repeat (any_goals (first|(refine zcj ?_;(first|refine zbW ?_|refine zb0 ?_|refine zb2 ?_))|(refine zck ?_;(first|refine zbY rfl ?_|refine zbX rfl ?_|refine zcb rfl rfl ?_|refine zci rfl ?_))|(with_reducible first|refine kSe ?_|refine kBe ?_|refine kLe ?_)|(with_reducible refine d_kEn ?_;refine kEn rfl ?_)))
 rfl
theorem m_psort0 (q:Int):Maps Tryz.prog 168 [.sl [],wI 0,wI 0,wI q] (.tup []):=by
 refine Maps.vt pok Tryz.f168 (n:=134) (rs:=[]) rfl rfl rfl rfl rfl rfl fun g=>?_
 repeat (any_goals (first|(refine zcj ?_;(first|refine zbW ?_|refine zbZ ?_))|(refine zck ?_;(first|refine zbY rfl ?_|refine zbX rfl ?_|refine zb3 rfl ?_))))
 refine zcl (fun j al H g'=>j=0∧al=[(0,.sl []),(1,wI 0),(2,wI 0)]∧H=[]∧g'=g) rfl ⟨_,_,_,⟨rfl,rfl,rfl,rfl⟩,fgA⟩ ?_
 rintro j al H g' ⟨rfl,rfl,rfl,rfl⟩
 repeat (any_goals (first|(refine zcj ?_;(first|refine zbW ?_|refine zb0 ?_|refine zbZ ?_|refine zb2 ?_|refine zb4 rfl (m_isort0) rfl rfl ?_))|(refine zck ?_;(first|refine zbY rfl ?_|refine zbX rfl ?_|refine zch rfl rfl ?_|refine zb3 rfl ?_|refine zb7 rfl ?_))|(with_reducible first|refine kSr ?_|refine kBr ?_|refine kLr ?_)|(with_reducible refine zce ?_;refine kEr rfl ?_)))
 rfl
theorem m_sort0:Maps Tryz.prog 133 [.sl []] (.tup []):=by
 refine Maps.vt pok Tryz.f133 (n:=11) (rs:=[]) rfl rfl rfl rfl rfl rfl fun g=>?_
 repeat (any_goals (first|(refine zcj ?_;(first|refine zbW ?_|refine zb9 (f_lenM (f:=eI) (l:=[]) rfl rfl) ?_|refine zb9 (f_convU rfl rfl rfl (by decide) (by decide)) ?_|refine zb0 ?_|refine zbZ ?_|(refine zcw ?_;(first|refine zb4 rfl (m_len 0 (by decide) (by decide)) rfl rfl ?_|refine zb4 rfl (m_psort0 _) rfl rfl ?_))))|(refine zck ?_;(first|refine zbY rfl ?_|refine zbX rfl ?_))|(with_reducible refine d_kEn ?_;refine kEn rfl ?_)))
 rfl
theorem c_isort {H:List Blk}{q m c:Nat}{x:List Int}(hq:H[q]? = some (.live 1 (x.map eI)))(hm:x.length=m)(h1:1≤m)(hb:m≤1000):
  CallSp Tryz.prog 180 [.ms q 0 m c,wI 0,wI m] H fun d H'=>d=.tup []∧∃y T,DM.Srt y∧y.Perm x∧H'=H.set q (.live 1 (y.map eI))++T:=by
 refine CallSp.vt pok Tryz.f180 (n:=49) (rs:=[]) rfl rfl rfl rfl rfl rfl rfl fun g=>?_
 have hql:=zc5 hq
 repeat (any_goals (first|(refine zcj ?_;(first|refine zbW ?_|refine zb0 ?_|refine zbZ ?_|refine zb2 ?_))|(refine zck ?_;(first|refine zbY rfl ?_|refine zbX rfl ?_|refine zb3 rfl ?_))))
 refine zcl (fun j al H' g'=>∃(i:Nat) (S:List Int) (T:List Blk),j=m-i∧1≤i∧i≤m∧S.length=i∧DM.Srt S∧S.Perm (x.take i)∧al=[(0,.ms q 0 m c),(1,wI 0),(2,wI m),(6,wI i)]∧H'=H.set q (.live 1 ((S++x.drop i).map eI))++T∧g'=g) rfl
  ⟨_,_,_,⟨1,x.take 1,[],rfl,zf _,h1,by rw[zA];omega,?_,List.Perm.refl _,rfl,by rw[za1,zN];exact (set_same hq).symm,rfl⟩,Wk.keep kpX⟩ ?_
 ·match x,hm with
  |[],hm=>simp at hm;omega
  |a::r,_=>exact List.pairwise_singleton _ _
 rintro j al H' g' ⟨i,S,T,rfl,hi1,hi,hSl,hS,hSp,rfl,rfl,rfl⟩
 by_cases hlt:i < m
 ·obtain⟨v,hv⟩:∃v,x.drop i=v::x.drop (i+1):=⟨x[i]'(by omega),zO (by omega)⟩
  generalize hR:x.drop (i+1)=R at hv
  rw[hv]
  repeat (any_goals (first|(refine zcj ?_;(first|refine zbW ?_|refine zb0 ?_|refine zbZ ?_|refine zb2 ?_))|(refine zck ?_;(first|refine zbY rfl ?_|refine zbX rfl ?_|refine zb6 rfl rfl (by first|assumption|omega) ?_|refine zb3 rfl ?_|refine zb5 rfl ?_))))
  refine zcl (fun j al H' g2=>∃(A B:List Int) (T:List Blk),j=A.length∧A++B=S∧(∀y,y∈B→v≤y)∧al=[(0,.ms q 0 m c),(1,wI 0),(2,wI m),(6,wI i),(7,wI A.length)]∧H'=H.set q (.live 1 ((A++v::(B++R)).map eI))++T∧g2=g') rfl
   ⟨_,_,_,⟨S,[],T,rfl,zN _,fun y h=>(by cases h),by rw[hSl],rfl,rfl⟩,Wk.keep kpX⟩ ?_
  rintro j al H' g2 ⟨A,B,T,rfl,hAB,hB,rfl,rfl,rfl⟩
  have hxl:(A++v::(B++R)).length=m:=by
   have e1:A.length+B.length=i:=by rw[←zw,hAB,hSl]
   have e2:R.length=m-(i+1):=by rw[←hR,z6,hm]
   simp;omega
  have hAm:A.length < m:=by simp at hxl;omega
  have hfin:(¬0 < A.length∨∃A' u,A=A'++[u]∧¬v < u)→∃(i':Nat) (S':List Int),m-i' < m-i∧i'=i+1∧i'≤m∧S'.length=i'∧DM.Srt S'∧S'.Perm (x.take i')∧(A++v::(B++R))=S'++x.drop i':=fun hA=>by
   have hAB2:S.take A.length=A∧S.drop A.length=B:=by rw[←hAB];simp
   have hlow:∀y,y∈A→y≤v:=by
    rcases hA with hA|⟨A',u,rfl,hu⟩
    ·have:A=[]:=zU (by omega)
     subst this;intro y h;cases h
    ·intro y hy
     rw[←hAB] at hS
     have hS2:=(zau.1 (zau.1 hS).1).2.2
     rcases zK.1 hy with h|h
     ·have:=hS2 y h u (zC.2 rfl);omega
     ·rw[zC.1 h];omega
   refine⟨i+1,A++v::B,by omega,rfl,hlt,?_,?_,?_,by rw[hR];simp⟩
   ·have:A.length+B.length=i:=by rw[←zw,hAB,hSl]
    simp;omega
   ·have:=hS.ins (v:=v) (j:=A.length) (by rw[hAB2.1];exact hlow) (by rw[hAB2.2];exact hB)
    rw[hAB2.1,hAB2.2] at this;exact this
   ·refine List.perm_middle.trans ?_
    rw[hAB]
    have e:x.take (i+1)=x.take i++[v]:=by
     rw[za9]
     have:x[i]? = some v:=by
      have:=congrArg List.head? hv
      simpa using this
     rw[this];rfl
    rw[e]
    exact (hSp.cons v).trans (List.perm_append_comm (l₁:=[v]) (l₂:=x.take i))
  generalize hcur:A++v::(B++R)=cur at hxl hfin ⊢
  obtain⟨Hc,hHc⟩:∃Hc,Hc=H.set q (.live 1 (cur.map eI))++T:=⟨_,rfl⟩
  have hqc:Hc[q]? = some (.live 1 (cur.map eI)):=by
   rw[hHc];exact zcs _ (zp hql)
  rw[←hHc]
  by_cases hA:0 < A.length
  ·obtain⟨A',u,rfl⟩:∃A' u,A=A'++[u]:=⟨A.dropLast,A.getLast (fun e=>by subst e;simp at hA),(zbA _).symm⟩
   have hl:(A'++[u]).length=A'.length+1:=by simp
   rw[hl] at hAm hA ⊢
   have hcu:cur[A'.length]? = some u:=by rw[←hcur];simp
   have hcv:cur[A'.length+1]? = some v:=by rw[←hcur];simp
   have hcs:(cur.set (A'.length+1) u).set A'.length v=A'++v::((u::B)++R):=by rw[←hcur];simp
   have hq2:∀T,(Hc.set q (.live 1 ((cur.set (A'.length+1) u).map eI))++T)[q]? = some (.live 1 ((cur.set (A'.length+1) u).map eI)):=fun T=>zcs _ (zp (zc5 hqc))
   repeat (any_goals (first|(refine zcj ?_;(first|refine zbW ?_|refine zb0 ?_|refine zbZ ?_|refine zb2 ?_))|(refine zck ?_;(first|refine zbY rfl ?_|refine zbX rfl ?_|refine zcu [(0,[]),(0,[]),(0,[]),(0,[]),(0,[]),(0,[]),(0,[]),(0,[]),(0,[]),(0,[]),(0,[]),(0,[]),(0,[]),(0,[]),(0,[])] 1 zcr rfl (by decide +kernel) (by decide +kernel) (by decide +kernel) nrX nrX ?_|refine zcu [(2,[0,1]),(2,[0,1]),(2,[0,1]),(2,[0,1]),(2,[0,1]),(2,[0,1]),(2,[0,1]),(2,[0,1]),(2,[0,1]),(2,[0,1]),(2,[0,1]),(2,[0,1]),(2,[0,1]),(2,[0,1]),(2,[0,1]),(0,[0,1]),(2,[1]),(1,[1])] 3 zcr rfl (by decide +kernel) (by decide +kernel) (by decide +kernel) nrX nrX ?_|refine VT.condD rfl rfl (fun hc=>?_) (fun hc=>?_)|refine zb3 rfl ?_|refine zb5 rfl ?_|refine zci rfl ?_))|(refine zd3 ?_;(first|refine zcD (by first|exact zb1 (H0:=Hc) (T:=[_]) rfl|exact zb1 (H0:=Hc) (T:=[_,_,_]) rfl|exact zcc (H1:=Hc.set q _) (T:=[_,_,_]) (by simp) rfl|exact zcc (H1:=(Hc.set q _).set q _) (T:=[_,_,_]) (by simp) rfl) (ze5 rfl rfl (by omega)) ?_|refine zcD (by first|exact zb1 (H0:=Hc) (T:=[_]) rfl|exact zb1 (H0:=Hc) (T:=[_,_,_]) rfl|exact zcc (H1:=Hc.set q _) (T:=[_,_,_]) (by simp) rfl|exact zcc (H1:=(Hc.set q _).set q _) (T:=[_,_,_]) (by simp) rfl) (zct (k:=A'.length+1) rfl rfl (by omega) (zcs _ hqc) rfl (by omega)) ?_|refine zcD (by first|exact zb1 (H0:=Hc) (T:=[_]) rfl|exact zb1 (H0:=Hc) (T:=[_,_,_]) rfl|exact zcc (H1:=Hc.set q _) (T:=[_,_,_]) (by simp) rfl|exact zcc (H1:=(Hc.set q _).set q _) (T:=[_,_,_]) (by simp) rfl) (zct (k:=A'.length) rfl rfl (by omega) (zcs _ hqc) rfl (by omega)) ?_|refine zcD (by first|exact zb1 (H0:=Hc) (T:=[_]) rfl|exact zb1 (H0:=Hc) (T:=[_,_,_]) rfl|exact zcc (H1:=Hc.set q _) (T:=[_,_,_]) (by simp) rfl|exact zcc (H1:=(Hc.set q _).set q _) (T:=[_,_,_]) (by simp) rfl) (zct (k:=A'.length) rfl rfl (by omega) (hq2 _) rfl (by omega)) ?_|refine zcD (by first|exact zb1 (H0:=Hc) (T:=[_]) rfl|exact zb1 (H0:=Hc) (T:=[_,_,_]) rfl|exact zcc (H1:=Hc.set q _) (T:=[_,_,_]) (by simp) rfl|exact zcc (H1:=(Hc.set q _).set q _) (T:=[_,_,_]) (by simp) rfl) (zc9 rfl (zcs _ hqc) rfl hcv) ?_|refine zcD (by first|exact zb1 (H0:=Hc) (T:=[_]) rfl|exact zb1 (H0:=Hc) (T:=[_,_,_]) rfl|exact zcc (H1:=Hc.set q _) (T:=[_,_,_]) (by simp) rfl|exact zcc (H1:=(Hc.set q _).set q _) (T:=[_,_,_]) (by simp) rfl) (zc9 rfl (zcs _ hqc) rfl hcu) ?_|refine zey (by first|exact zb1 (H0:=Hc) (T:=[_]) rfl|exact zb1 (H0:=Hc) (T:=[_,_,_]) rfl|exact zcc (H1:=Hc.set q _) (T:=[_,_,_]) (by simp) rfl|exact zcc (H1:=(Hc.set q _).set q _) (T:=[_,_,_]) (by simp) rfl) (zeB (k:=A'.length+1) rfl (zcs _ hqc) (by omega) rfl rfl) (zD _ _ (zc5 hqc)) ?_|refine zey (by first|exact zb1 (H0:=Hc) (T:=[_]) rfl|exact zb1 (H0:=Hc) (T:=[_,_,_]) rfl|exact zcc (H1:=Hc.set q _) (T:=[_,_,_]) (by simp) rfl|exact zcc (H1:=(Hc.set q _).set q _) (T:=[_,_,_]) (by simp) rfl) (zeB (k:=A'.length) rfl (hq2 _) (by rw[zE];omega) rfl rfl) (zD _ _ (by rw[zE];exact zc5 hqc)) ?_|refine zcy (zdB _ [_,_] .free) ?_|refine zcy (zdB Hc [] .free) ?_|refine PT.gy rfl ?_|refine zdG ((by first|exact zb1 (H0:=Hc) (T:=[_]) rfl|exact zb1 (H0:=Hc) (T:=[_,_,_]) rfl|exact zcc (H1:=Hc.set q _) (T:=[_,_,_]) (by simp) rfl|exact zcc (H1:=(Hc.set q _).set q _) (T:=[_,_,_]) (by simp) rfl)) ?_|refine zef ((by first|exact zb1 (H0:=Hc) (T:=[_]) rfl|exact zb1 (H0:=Hc) (T:=[_,_,_]) rfl|exact zcc (H1:=Hc.set q _) (T:=[_,_,_]) (by simp) rfl|exact zcc (H1:=(Hc.set q _).set q _) (T:=[_,_,_]) (by simp) rfl)) ?_|refine zdH ((by first|exact zb1 (H0:=Hc) (T:=[_]) rfl|exact zb1 (H0:=Hc) (T:=[_,_,_]) rfl|exact zcc (H1:=Hc.set q _) (T:=[_,_,_]) (by simp) rfl|exact zcc (H1:=(Hc.set q _).set q _) (T:=[_,_,_]) (by simp) rfl)) rfl (m_less v u) nrX rfl ?_|refine PT.pkI ((by first|exact zb1 (H0:=Hc) (T:=[_]) rfl|exact zb1 (H0:=Hc) (T:=[_,_,_]) rfl|exact zcc (H1:=Hc.set q _) (T:=[_,_,_]) (by simp) rfl|exact zcc (H1:=(Hc.set q _).set q _) (T:=[_,_,_]) (by simp) rfl)) ?_))|with_reducible (refine kLn ?_)))
   ·refine⟨A'.length,by omega,_,_,⟨A',u::B,T++[.free,.free],rfl,by rw[←hAB];simp,fun y hy=>?_,rfl,?_,rfl⟩,Wk.keep kpX⟩
    ·rcases zH.1 hy with rfl|h
     ·omega
     ·exact hB y h
    ·rw[hcs,hHc,zbJ,zD _ _ (by simpa using hql),zbJ,zT]
   ·obtain⟨i',S',k1,rfl,k3,k4,k5,k6,k7⟩:=hfin (.inr ⟨A',u,rfl,hc⟩)
    refine⟨_,k1,_,_,⟨i+1,S',T,rfl,by omega,k3,k4,k5,k6,rfl,?_,rfl⟩,Wk.keep kpX⟩
    rw[hHc,k7,zN]
  ·have hA0:A.length=0:=by omega
   repeat (any_goals (first|(refine zcj ?_;(first|refine zbW ?_|refine zb0 ?_|refine zbZ ?_|refine zb2 ?_))|(refine zck ?_;(first|refine zbY rfl ?_|refine zbX rfl ?_|refine zcu [(0,[]),(0,[]),(0,[]),(0,[]),(0,[]),(0,[]),(0,[]),(0,[]),(0,[]),(0,[]),(0,[]),(0,[]),(0,[]),(0,[]),(0,[])] 1 zcr rfl (by decide +kernel) (by decide +kernel) (by decide +kernel) nrX nrX ?_|refine zcb rfl rfl ?_|refine zci rfl ?_))|(refine zd3 ?_;(first|refine zcD (by first|exact zb1 (H0:=Hc) (T:=[_]) rfl|exact zb1 (H0:=Hc) (T:=[_,_,_]) rfl|exact zcc (H1:=Hc.set q _) (T:=[_,_,_]) (by simp) rfl|exact zcc (H1:=(Hc.set q _).set q _) (T:=[_,_,_]) (by simp) rfl) (ze6 rfl rfl (by omega)) ?_|refine zcy (zdB Hc [] .free) ?_|refine PT.gn rfl rfl ?_|refine zdG ((by first|exact zb1 (H0:=Hc) (T:=[_]) rfl|exact zb1 (H0:=Hc) (T:=[_,_,_]) rfl|exact zcc (H1:=Hc.set q _) (T:=[_,_,_]) (by simp) rfl|exact zcc (H1:=(Hc.set q _).set q _) (T:=[_,_,_]) (by simp) rfl)) ?_|refine PT.pkI ((by first|exact zb1 (H0:=Hc) (T:=[_]) rfl|exact zb1 (H0:=Hc) (T:=[_,_,_]) rfl|exact zcc (H1:=Hc.set q _) (T:=[_,_,_]) (by simp) rfl|exact zcc (H1:=(Hc.set q _).set q _) (T:=[_,_,_]) (by simp) rfl)) ?_))|with_reducible (refine kLn ?_)))
   obtain⟨i',S',k1,rfl,k3,k4,k5,k6,k7⟩:=hfin (.inl hA)
   refine⟨_,k1,_,_,⟨i+1,S',T,rfl,by omega,k3,k4,k5,k6,rfl,?_,rfl⟩,Wk.keep kpX⟩
   rw[hHc,k7,zN]
 ·obtain rfl:i=m:=by omega
  repeat (any_goals (first|(refine zcj ?_;(first|refine zbW ?_|refine zb0 ?_|refine zb2 ?_))|(refine zck ?_;(first|refine zbY rfl ?_|refine zbX rfl ?_|refine zca rfl rfl (by first|assumption|omega) ?_|refine zci rfl ?_))|(with_reducible first|refine kSe ?_|refine kBe ?_|refine kLe ?_)|(with_reducible refine d_kEn ?_;refine kEn rfl ?_)))
  rw[List.drop_of_length_le (by omega),zN]
  rw[zg (by omega)] at hSp
  exact⟨rfl,S,T,hS,hSp,rfl⟩
theorem c_psort {H:List Blk}{q m c:Nat}{x:List Int}(k:Int)(hq:H[q]? = some (.live 1 (x.map eI)))(hm:x.length=m)(h1:1≤m)(hb:m≤12):
  CallSp Tryz.prog 168 [.ms q 0 m c,wI 0,wI m,wI k] H fun d H'=>d=.tup []∧∃y T,DM.Srt y∧y.Perm x∧H'=H.set q (.live 1 (y.map eI))++T:=by
 refine CallSp.vt pok Tryz.f168 (n:=134) (rs:=[]) rfl rfl rfl rfl rfl rfl rfl fun g=>?_
 repeat (any_goals (first|(refine zcj ?_;(first|refine zbW ?_|refine zbZ ?_))|(refine zck ?_;(first|refine zbY rfl ?_|refine zbX rfl ?_|refine zb3 rfl ?_))))
 refine zcl (fun j al H' g'=>j=0∧al=[(0,.ms q 0 m c),(1,wI 0),(2,wI m)]∧H'=H∧g'=g) rfl ⟨_,_,_,⟨rfl,rfl,rfl,rfl⟩,Wk.keep kpX⟩ ?_
 rintro j al H' g' ⟨rfl,rfl,rfl,rfl⟩
 repeat (any_goals (first|(refine zcj ?_;(first|refine zbW ?_|(refine zcw ?_;refine zdL rfl ((c_isort hq hm h1 (by omega)).mono ?_))|refine zb0 ?_|refine zbZ ?_|refine zb2 ?_))|(refine zck ?_;(first|refine zbY rfl ?_|refine zbX rfl ?_|refine zb6 rfl rfl (by first|assumption|omega) ?_|refine zb3 rfl ?_))))
 rintro d H4 ⟨rfl,hy⟩
 change RT _ _ _ _ ((27,D.tup [])::_) _ _ _
 repeat (any_goals (first|refine zbW ?_|refine zb7 rfl ?_|(with_reducible first|refine kSr ?_|refine kBr ?_|refine kLr ?_)|(with_reducible refine zce ?_;refine kEr rfl ?_)))
 exact⟨rfl,hy⟩
theorem c_sort {H:List Blk}{q m c:Nat}{x:List Int}(hq:H[q]? = some (.live 1 (x.map eI)))(hm:x.length=m)(h1:1≤m)(hb:m≤12):
  CallSp Tryz.prog 133 [.ms q 0 m c] H fun d H'=>d=.tup []∧∃y T,DM.Srt y∧y.Perm x∧H'=H.set q (.live 1 (y.map eI))++T:=by
 refine CallSp.vt pok Tryz.f133 (n:=11) (rs:=[]) rfl rfl rfl rfl rfl rfl rfl fun g=>?_
 repeat (any_goals (first|(refine zcj ?_;(first|refine zbW ?_|refine zb9 (f_convU rfl rfl rfl (by omega) (by omega)) ?_|(refine zcw ?_;refine zdL rfl ((c_psort _ hq hm h1 hb).mono ?_))|refine zb0 ?_|refine zbZ ?_|(refine zcw ?_;(first|refine zb4 rfl (m_len m (by omega) (by omega)) rfl rfl ?_|refine zb8 ?_))))|(refine zck ?_;(first|refine zbY rfl ?_|refine zbX rfl ?_))))
 rintro d H4 ⟨rfl,hy⟩
 change RT _ _ _ _ ((10,D.tup [])::_) _ _ _
 repeat (any_goals (first|refine zbW ?_|(with_reducible refine d_kEn ?_;refine kEn rfl ?_)))
 exact⟨rfl,hy⟩
end Go.DL
/- What leaves tell: the columns, the rows, and who is wrong. -/
namespace Go.DL
open Go.Proofs Go
def zfe (l:List Leaf)(j:Nat):List Dot:=l.map fun x=>⟨x.Number,x.Words.getD j 0⟩
theorem zfd (l:List Leaf)(j:Nat):(zfe l j).length=l.length:=by simp[zfe]
theorem dotsL_num (l:List Leaf)(j:Nat):((zfe l j).map zdP).map Prod.fst=l.map Leaf.Number:=by simp[zfe,zdP,Function.comp_def]
theorem dotsL_snoc (l:List Leaf)(j i:Nat)(h:i < l.length):zfe (l.take (i+1)) j=zfe (l.take i) j++[⟨l[i].Number,l[i].Words.getD j 0⟩]:=by
 have e:l.take (i+1)=l.take i++[l[i]]:=by rw[za9,zb h];rfl
 rw[e];exact zW
noncomputable def colM (k e:Nat)(l:List Leaf)(j:Nat):Option (List Int):=DM.decS k e ((zfe l j).map zdP)
noncomputable def zeV (k e:Nat)(l:List Leaf):Nat→Option (List (List Int))
 |0=>some []
 |j+1=>match zeV k e l j with
  |none=>none
  |some cs=>match colM k e l j with
   |none=>none
   |some c=>some (cs++[c])
theorem colsM_none {k e:Nat}{l:List Leaf}{j:Nat}(h:zeV k e l j=none):∀w,j≤w→zeV k e l w=none
 |0,hw=>by rw[show j=0 by omega] at h;exact h
 |w+1,hw=>by
  by_cases hj:j=w+1
  ·rw[←hj];exact h
  ·rw[zeV,colsM_none h w (by omega)]
theorem colsM_len {k e:Nat}{l:List Leaf}:∀{j:Nat} {cs:List (List Int)},zeV k e l j=some cs→cs.length=j
 |0,cs,h=>by cases h;rfl
 |j+1,cs,h=>by
  rw[zeV] at h
  split at h
  ·cases h
  ·rename_i cs' hc
   split at h
   ·cases h
   ·cases h
    rw[zw,colsM_len hc];rfl
theorem colsM_next {k e:Nat}{l:List Leaf}{j:Nat}{cs:List (List Int)}{c:List Int}(h:zeV k e l j=some cs)(hc:colM k e l j=some c):zeV k e l (j+1)=some (cs++[c]):=by
 rw[zeV,h];simp only;rw[hc]
theorem colsM_stop {k e:Nat}{l:List Leaf}{j:Nat}{cs:List (List Int)}(h:zeV k e l j=some cs)(hc:colM k e l j=none):zeV k e l (j+1)=none:=by
 rw[zeV,h];simp only;rw[hc]
def rowsP (cs:List (List Int))(c:List Int)(k i:Nat):List (List Int):=(List.range k).map fun r:Nat=>(if r < i then cs++[c] else cs).map fun c=>zc8 c ((r:Int)+1)
def zdD (cs:List (List Int))(k:Nat):List (List Int):=(List.range k).map fun r:Nat=>cs.map fun c=>zc8 c ((r:Int)+1)
theorem rowsP_zero (cs:List (List Int))(c:List Int)(k:Nat):rowsP cs c k 0=zdD cs k:=by simp[rowsP,zdD]
theorem rowsP_all (cs:List (List Int))(c:List Int)(k:Nat):rowsP cs c k k=zdD (cs++[c]) k:=
 zI fun r hr=>by rw[zP] at hr;rw[if_pos hr]
theorem rowsM_get (cs:List (List Int)){k i:Nat}(h:i < k):(zdD cs k).getD i []=cs.map fun c=>zc8 c ((i:Int)+1):=by simp[zdD,h]
theorem rowsP_get (cs:List (List Int))(c:List Int){k i j:Nat}(h:i < k):(rowsP cs c k j).getD i []=(if i < j then cs++[c] else cs).map fun c=>zc8 c ((i:Int)+1):=by simp[rowsP,h]
theorem rowsP_set (cs:List (List Int))(c:List Int){k i:Nat}(h:i < k):(rowsP cs c k i).set i ((rowsP cs c k i).getD i []++[zc8 c ((i:Int)+1)])=rowsP cs c k (i+1):=by
 rw[rowsP_get cs c h,if_neg (zbr _)]
 refine zaz (by simp[rowsP]) fun r h1 h2=>?_
 rw[List.getElem_set]
 simp only[rowsP,zbg,zbR]
 split
 ·rename_i e;subst e
  rw[if_pos (by omega)];simp
 ·rename_i e
  by_cases hr:r < i
  ·rw[if_pos hr,if_pos (by omega)]
  ·rw[if_neg hr,if_neg (by omega)]
theorem rowsM_zero (k:Nat):zdD [] k=List.replicate k []:=by simp[zdD,List.map_const']
theorem rowsM_len (cs:List (List Int))(k:Nat):(zdD cs k).length=k:=by simp[zdD]
theorem rowsM_dataW {cs:List (List Int)}{k w:Nat}(hk:k≤20)(hl:cs.length=w):dataW w (zdD cs k):=by
 refine⟨by rw[rowsM_len];exact hk,fun r hr=>?_⟩
 obtain⟨i,_,rfl⟩:=zt.1 hr
 refine⟨by rw[ze,hl],fun x hx=>?_⟩
 obtain⟨c,_,rfl⟩:=zt.1 hx
 exact horner_W c _
def badM (R:List Leaf)(x:Leaf):Bool:=!decide ((R.getD (x.Number-1).toNat ⟨0,[]⟩).Words=x.Words)
def wrongM (R:List Leaf)(l:List Leaf)(N:Nat):List Int:=DM.wrongS Leaf.Number (badM R) l N
structure LvOk (k c w:Nat)(l:List Leaf):Prop where
 k1:1≤k
 k2:k≤20
 c2:c≤20
 w1:1≤w
 w2:w≤32
 len:l.length≤12
 num:∀x,x∈l→1≤x.Number∧x.Number≤((k+c:Nat):Int)
 wl:∀x,x∈l→x.Words.length=w∧allW x.Words
 ap:DM.Apart (l.map Leaf.Number)
theorem LvOk.dots {k c w:Nat}{l:List Leaf}(h:LvOk k c w l){j:Nat}(hj:j < w):∀d,d∈zfe l j→W d.X∧W d.Y:=fun d hd=>by
 obtain⟨x,hx,rfl⟩:=zt.1 hd
 obtain⟨h1,h2⟩:=h.wl x hx
 have h3:=h.num x hx
 have h4:=h.k2
 have h5:=h.c2
 refine⟨⟨by simp only;omega,by simp only;omega⟩,?_⟩
 simp only
 have e:x.Words.getD j 0=x.Words[j]'(by omega):=by rw[zc,zb (by omega)];rfl
 rw[e];exact h2 _ (zi _)
end Go.DL
/- Leaves in rows of one's own; harms (plain, and how rows stand in own blocks). -/
namespace Go.DL
open Go.Proofs Go
structure Harm where
 Leaf:Int
 At:Int
 Tear:Bool
 By:Int
def hOk (h:Harm):Prop:=(0≤h.Leaf∧h.Leaf≤255)∧(0≤h.At∧h.At≤255)∧(0≤h.By∧h.By≤65535)
structure HS where
 T:List Nat
 C:List Nat
 o:List Leaf
def hStep (st:HS)(h:Harm):HS:=
 if h.Tear=true then ⟨(h.Leaf.toNat%st.o.length)::st.T,st.C,st.o⟩
 else ⟨st.T,(h.Leaf.toNat%st.o.length)::st.C,st.o.set (h.Leaf.toNat%st.o.length) ⟨(st.o.getD (h.Leaf.toNat%st.o.length) ⟨0,[]⟩).Number,(st.o.getD (h.Leaf.toNat%st.o.length) ⟨0,[]⟩).Words.set (h.At.toNat%(st.o.getD (h.Leaf.toNat%st.o.length) ⟨0,[]⟩).Words.length)
   (((st.o.getD (h.Leaf.toNat%st.o.length) ⟨0,[]⟩).Words.getD (h.At.toNat%(st.o.getD (h.Leaf.toNat%st.o.length) ⟨0,[]⟩).Words.length) 0+h.By)%65521)⟩⟩
def harmS (l:List Leaf)(hs:List Harm):HS:=hs.foldl hStep ⟨[],[],l⟩
structure HSok (l:List Leaf)(w:Nat)(st:HS):Prop where
 len:st.o.length=l.length
 num:∀i,(st.o.getD i ⟨0,[]⟩).Number=(l.getD i ⟨0,[]⟩).Number
 wl:∀x,x∈st.o→x.Words.length=w∧allW x.Words
 hit:∀i,i∉st.C→(st.o.getD i ⟨0,[]⟩).Words=(l.getD i ⟨0,[]⟩).Words
theorem HSok.step {l:List Leaf}{w:Nat}{st:HS}(hw:0 < w)(hl:0 < l.length)(h:HSok l w st){x:Harm}(hx:hOk x):HSok l w (hStep st x):=by
 unfold hStep
 split
 ·exact⟨h.len,h.num,h.wl,h.hit⟩
 ·have hk:x.Leaf.toNat%st.o.length < st.o.length:=zbq _ (by rw[h.len];exact hl)
  generalize x.Leaf.toNat%st.o.length=k at hk
  have hm:st.o.getD k ⟨0,[]⟩∈st.o:=by rw[zc,zb hk];exact zi hk
  obtain⟨w1,w2⟩:=h.wl _ hm
  refine⟨by simp[h.len],fun i=>?_,fun y hy=>?_,fun i hi=>?_⟩
  ·rw[getD_setX _ _ _ _ _ hk]
   split
   ·rename_i e;subst e;exact h.num k
   ·exact h.num i
  ·rcases zaG hy with hy|hy
   ·exact h.wl y hy
   ·subst hy
    refine⟨(zE ..).trans w1,fun z hz=>?_⟩
    rcases zaG hz with hz|hz
    ·exact w2 z hz
    ·subst hz;show W _;unfold W;omega
  ·simp only[zH,not_or] at hi
   rw[getD_setX _ _ _ _ _ hk,if_neg (Ne.symm hi.1)]
   exact h.hit i hi.2
theorem HSok.all {l:List Leaf}{w:Nat}(hw:0 < w)(hl:0 < l.length)(h0:∀x,x∈l→x.Words.length=w∧allW x.Words):∀{hs:List Harm},(∀h,h∈hs→hOk h)→HSok l w (harmS l hs):=by
 have:∀(hs:List Harm) (st:HS),HSok l w st→(∀h,h∈hs→hOk h)→HSok l w (hs.foldl hStep st):=by
  intro hs
  induction hs with
  |nil=>intro st h _;exact h
  |cons x r ih=>intro st h hh;exact ih _ (h.step hw hl (hh x (zB ..))) fun y hy=>hh y (zG _ hy)
 intro hs hh
 exact this hs _ ⟨rfl,fun _=>rfl,h0,fun _ _=>rfl⟩ hh
abbrev eOL (q:Nat × Leaf):List D:=[wI q.2.Number,.ms q.1 0 q.2.Words.length q.2.Words.length]
structure OL (K:Nat)(H:List Blk)(b:Nat)(ql:List (Nat × Leaf)):Prop where
 rows:H[b]? = some (.live 2 (ql.map eOL))
 kb:K≤b
 row:∀(i:Nat) (q:Nat × Leaf),ql[i]? = some q→H[q.1]? = some (.live 1 (q.2.Words.map eI))∧K≤q.1∧q.1≠b
 nd:∀(i j:Nat) (q r:Nat × Leaf),ql[i]? = some q→ql[j]? = some r→q.1=r.1→i=j
section
variable {K:Nat}{H T:List Blk}{b p i:Nat}{ql:List (Nat × Leaf)}{q:Nat × Leaf}
theorem OL.app (h:OL K H b ql)(T:List Blk):OL K (H++T) b ql:=⟨zcA T h.rows,h.kb,fun i q hq=>⟨zcA T (h.row i q hq).1,(h.row i q hq).2⟩,h.nd⟩
theorem OL.other (h:OL K H b ql)(hb:p≠b)(hp:∀(i:Nat) (q:Nat × Leaf),ql[i]? = some q→p≠q.1)(x:Blk):OL K (H.set p x) b ql:=
 ⟨zdv h.rows hb,h.kb,fun i q hq=>⟨zdv (h.row i q hq).1 (hp i q hq),(h.row i q hq).2⟩,h.nd⟩
theorem OL.low (h:OL K H b ql)(hp:p < K)(x:Blk):OL K (H.set p x) b ql:=
 h.other (by have:=h.kb;omega) (fun i q hq=>by have:=(h.row i q hq).2.1;omega) x
theorem OL.lt (h:OL K H b ql):b < H.length:=zcR h.rows
theorem OL.push (h:OL K H b ql){x:Leaf}{t t':Nat}(hK:K≤H.length)(htt:t≠t')(ht:T[t]? = some (.live 1 (x.Words.map eI)))(ht':T[t']? = some (.live 2 ((ql++[(H.length+t,x)]).map eOL))):OL K (H.set b .dead++T) (H.length+t') (ql++[(H.length+t,x)]):=by
 have hl:(H.set b Blk.dead).length=H.length:=by simp
 have get:∀(i:Nat) (q:Nat × Leaf),(ql++[(H.length+t,x)])[i]? = some q→(ql[i]? = some q)∨(i=ql.length∧q=(H.length+t,x)):=fun i q hq=>by
  rcases zZ i ql.length with hi|hi
  ·rw[zk hi] at hq;exact .inl hq
  ·rw[zu hi] at hq
   rcases hk:i-ql.length with _|n
   ·rw[hk] at hq;cases hq;exact .inr ⟨by omega,rfl⟩
   ·rw[hk] at hq;simp at hq
 refine⟨zdO hl ht',by omega,fun i q hq=>?_,fun i j q r hq hr e=>?_⟩
 ·rcases get i q hq with hq|⟨_,rfl⟩
  ·obtain⟨h1,h2,h3⟩:=h.row i q hq
   have:=zcR h1
   exact⟨zcA _ (zdv h1 (Ne.symm h3)),h2,by omega⟩
  ·exact⟨zdO hl ht,by show K≤H.length+t;omega,by show H.length+t≠H.length+t';omega⟩
 ·rcases get i q hq with hq|⟨rfl,rfl⟩<;>rcases get j r hr with hr|⟨rfl,rfl⟩
  ·exact h.nd i j q r hq hr e
  ·have:=zcR (h.row i q hq).1
   have e':q.1=H.length+t:=e
   omega
  ·have:=zcR (h.row j r hr).1
   have e':H.length+t=r.1:=e
   omega
  ·rfl
theorem OL.setRow (h:OL K H b ql)(hq:ql[i]? = some q){v:List Int}(hv:v.length=q.2.Words.length):OL K (H.set q.1 (.live 1 (v.map eI))) b (ql.set i (q.1,⟨q.2.Number,v⟩)):=by
 have hi:i < ql.length:=(za.1 hq).1
 obtain⟨h1,h2,h3⟩:=h.row i q hq
 have get:∀(j:Nat) (r:Nat × Leaf),(ql.set i (q.1,⟨q.2.Number,v⟩))[j]? = some r→(j=i∧r=(q.1,⟨q.2.Number,v⟩))∨(j≠i∧ql[j]? = some r):=fun j r hr=>by
  by_cases e:j=i
  ·subst e;rw[zp hi] at hr;exact .inl ⟨rfl,(zbl hr).symm⟩
  ·rw[zr (Ne.symm e)] at hr;exact .inr ⟨e,hr⟩
 have fst:∀(j:Nat) (r:Nat × Leaf),(ql.set i (q.1,⟨q.2.Number,v⟩))[j]? = some r→∃r':Nat × Leaf,ql[j]? = some r'∧r'.1=r.1:=fun j r hr=>by
  rcases get j r hr with⟨rfl,rfl⟩|⟨_,hr⟩
  ·exact⟨q,hq,rfl⟩
  ·exact⟨r,hr,rfl⟩
 have e0:(ql.set i (q.1,⟨q.2.Number,v⟩)).map eOL=ql.map eOL:=by
  apply zae
  intro j
  rw[zl,zl]
  by_cases e:j=i
  ·subst e
   rw[zp hi,hq]
   simp only[zq,eOL,hv]
  ·rw[zr (Ne.symm e)]
 refine⟨by rw[e0];exact zdv h.rows h3,h.kb,fun j r hr=>?_,fun j j' r r' hr hr' e=>?_⟩
 ·rcases get j r hr with⟨rfl,rfl⟩|⟨hn,hr⟩
  ·exact⟨hg_self (zcR h1),h2,h3⟩
  ·obtain⟨k1,k2,k3⟩:=h.row j r hr
   exact⟨zdv k1 fun e=>hn (h.nd j i r q hr hq e.symm),k2,k3⟩
 ·obtain⟨s,hs,es⟩:=fst j r hr
  obtain⟨s',hs',es'⟩:=fst j' r' hr'
  exact h.nd j j' s s' hs hs' (by rw[es,es',e])
end
theorem snapR_OL {lk:Nat→Option Blk}{b n:Nat}{ql:List (Nat × Leaf)}(h1:lk b=some (.live 2 (ql.map eOL)))(h2:∀q,q∈ql→lk q.1=some (.live 1 (q.2.Words.map eI)))(hn:n=ql.length)(lv:Nat):snapR lk (lv+3) (.ms b 0 n n)=.fl ((ql.map (·.2)).map zcn):=by
 subst hn
 have hin:∀q,q∈ql→snap lk (lv+2) (.ms q.1 0 q.2.Words.length q.2.Words.length)=.sl (q.2.Words.map eI):=fun q hq=>snapW (k:=lv+1) (h2 q hq) rfl
 have hfr:((ql.map eOL).all fun e=>e.all (frK lk (lv+2)))=true:=by
  rw[zh]
  intro e he
  obtain⟨q,hq,rfl⟩:=zt.1 he
  rw[zh]
  intro d hd
  simp only[eOL,zH,zai,or_false] at hd
  rcases hd with rfl|rfl
  ·rfl
  ·simp only[frK,h2 q hq]
   exact eI_all _ _ fun x=>rfl
 simp only[snapR,h1,zQ,ze,zf,if_true,zS,hfr]
 rw[zg (by simp),zaa,zaa]
 refine congrArg D.fl (zI fun q hq=>?_)
 simp only[Function.comp,zy,z8,zcn]
 rw[hin q hq];rfl
section
variable {P:Program}{H:List Blk}{s n:Nat}{al:AL}{tx ty':TypeId}{x y:Operand}{a b:Int}
end
section
variable {P:Program}{H:List Blk}{s n:Nat}{al:AL}{tx ty':TypeId}{x y:Operand}{a b:Int}{k:Nat}
theorem f_lssT (hx:evA n al x=wI a)(hy:evA n al y=wI b)(h:a < b):Val P H s n al (.binOp .lss tx x y ty') (wB true):=by
 have h1:=f_lss (P:=P) (H:=H) (s:=s) (tx:=tx) (ty':=ty') hx hy
 rwa [decide_eq_true h] at h1
end
end Go.DL
