/- LeavesShelves, the row. -/
import Derived.Test.YtmbbepdbjeciaaaGreatRows
import Derived.Test.YtmbbepdbjeciaaaGreatYc9
import Derived.Test.YtmbbepdbjeciaaaGreatE5
set_option maxRecDepth 100000
namespace Go.DL.RowLeavesShelves
open Go.Proofs Go Go.RowKit Go.ChangeShapes Go.WideShapes Go.DL
theorem p_laid:laidOutB Tryz.prog=true:=by kernel_rfl
theorem p_own:ownKnob Tryz.prog.godebug=none:=by kernel_rfl
theorem w_u3:Tryz.prog.underlying 3=some (.int .i64):=by kernel_rfl
theorem w_u4:Tryz.prog.underlying 4=some (.bool):=by kernel_rfl
theorem w_u55:Tryz.prog.underlying 55=some (.slice 72):=by kernel_rfl
theorem w_u100:Tryz.prog.underlying 100=some (.slice 108):=by kernel_rfl
theorem w_c3:Tryz.prog.cellsOf 3=1:=by kernel_rfl
theorem w_c23:Tryz.prog.cellsOf 23=3:=by kernel_rfl
theorem w_c55:Tryz.prog.cellsOf 55=1:=by kernel_rfl
theorem w_c72:Tryz.prog.cellsOf 72=4:=by kernel_rfl
theorem w_c108:Tryz.prog.cellsOf 108=6:=by kernel_rfl
theorem w_b72:Tryz.prog.bytesOf 72=32:=by kernel_rfl
theorem w_b108:Tryz.prog.bytesOf 108=64:=by kernel_rfl
section
variable {H:Type}{enc:TypeId × Value→H}{w:World}
theorem w_opens72:Opens enc Tryz.prog w 72 (Rcat [(zek .i64),(zek .i64),(zek .i64),(zek .i64)]):=by
 refine opens_struct Tryz.underlying72 ⟨rfl,?_,(zd5 w_u3),?_,?_,(zd5 w_u3),?_,?_,(zd5 w_u3),?_,?_,(zd5 w_u3),?_⟩
 ·show 0+Tryz.prog.cellsOf 3≤_
  simp only[w_c3,w_c72];try decide
 ·show 1=0+Tryz.prog.cellsOf 3
  simp only[w_c3,w_c72];try decide
 ·show 0+Tryz.prog.cellsOf 3+Tryz.prog.cellsOf 3≤_
  simp only[w_c3,w_c72];try decide
 ·show 2=0+Tryz.prog.cellsOf 3+Tryz.prog.cellsOf 3
  simp only[w_c3,w_c72];try decide
 ·show 0+Tryz.prog.cellsOf 3+Tryz.prog.cellsOf 3+Tryz.prog.cellsOf 3≤_
  simp only[w_c3,w_c72];try decide
 ·show 3=0+Tryz.prog.cellsOf 3+Tryz.prog.cellsOf 3+Tryz.prog.cellsOf 3
  simp only[w_c3,w_c72];try decide
 ·show 0+Tryz.prog.cellsOf 3+Tryz.prog.cellsOf 3+Tryz.prog.cellsOf 3+Tryz.prog.cellsOf 3≤_
  simp only[w_c3,w_c72];try decide
 ·show 0+Tryz.prog.cellsOf 3+Tryz.prog.cellsOf 3+Tryz.prog.cellsOf 3+Tryz.prog.cellsOf 3=_
  simp only[w_c3,w_c72];try decide
theorem w_opens55:Opens enc Tryz.prog w 55 (Rsl (Rcat [(zek .i64),(zek .i64),(zek .i64),(zek .i64)])):=opens_slice w_u55 (by rw[w_c72];decide) (by rw[w_b72];decide) w_opens72
theorem w_opens108:Opens enc Tryz.prog w 108 (Rcat [(zek .i64),(zek .i64),(zek .i64),(zek .i64),(zek .i64),(Rsl (Rcat [(zek .i64),(zek .i64),(zek .i64),(zek .i64)]))]):=by
 refine opens_struct Tryz.underlying108 ⟨rfl,?_,(zd5 w_u3),?_,?_,(zd5 w_u3),?_,?_,(zd5 w_u3),?_,?_,(zd5 w_u3),?_,?_,(zd5 w_u3),?_,?_,w_opens55,?_⟩
 ·show 0+Tryz.prog.cellsOf 3≤_
  simp only[w_c3,w_c55,w_c108];try decide
 ·show 1=0+Tryz.prog.cellsOf 3
  simp only[w_c3,w_c55,w_c108];try decide
 ·show 0+Tryz.prog.cellsOf 3+Tryz.prog.cellsOf 3≤_
  simp only[w_c3,w_c55,w_c108];try decide
 ·show 2=0+Tryz.prog.cellsOf 3+Tryz.prog.cellsOf 3
  simp only[w_c3,w_c55,w_c108];try decide
 ·show 0+Tryz.prog.cellsOf 3+Tryz.prog.cellsOf 3+Tryz.prog.cellsOf 3≤_
  simp only[w_c3,w_c55,w_c108];try decide
 ·show 3=0+Tryz.prog.cellsOf 3+Tryz.prog.cellsOf 3+Tryz.prog.cellsOf 3
  simp only[w_c3,w_c55,w_c108];try decide
 ·show 0+Tryz.prog.cellsOf 3+Tryz.prog.cellsOf 3+Tryz.prog.cellsOf 3+Tryz.prog.cellsOf 3≤_
  simp only[w_c3,w_c55,w_c108];try decide
 ·show 4=0+Tryz.prog.cellsOf 3+Tryz.prog.cellsOf 3+Tryz.prog.cellsOf 3+Tryz.prog.cellsOf 3
  simp only[w_c3,w_c55,w_c108];try decide
 ·show 0+Tryz.prog.cellsOf 3+Tryz.prog.cellsOf 3+Tryz.prog.cellsOf 3+Tryz.prog.cellsOf 3+Tryz.prog.cellsOf 3≤_
  simp only[w_c3,w_c55,w_c108];try decide
 ·show 5=0+Tryz.prog.cellsOf 3+Tryz.prog.cellsOf 3+Tryz.prog.cellsOf 3+Tryz.prog.cellsOf 3+Tryz.prog.cellsOf 3
  simp only[w_c3,w_c55,w_c108];try decide
 ·show 0+Tryz.prog.cellsOf 3+Tryz.prog.cellsOf 3+Tryz.prog.cellsOf 3+Tryz.prog.cellsOf 3+Tryz.prog.cellsOf 3+Tryz.prog.cellsOf 55≤_
  simp only[w_c3,w_c55,w_c108];try decide
 ·show 0+Tryz.prog.cellsOf 3+Tryz.prog.cellsOf 3+Tryz.prog.cellsOf 3+Tryz.prog.cellsOf 3+Tryz.prog.cellsOf 3+Tryz.prog.cellsOf 55=_
  simp only[w_c3,w_c55,w_c108];try decide
end
theorem w_of3:∀e,(zek .i64) e→∃x:Int,(-9223372036854775808≤x∧x≤9223372036854775807)∧e=eI x:=fun e ⟨n,h,he⟩=>⟨n,wf_i64 h,he⟩
theorem w_of23:∀e,(Rcat [(zek .i64),(zek .i64),(zek .i64)]) e→∃x:Shape,((-9223372036854775808≤x.Data∧x.Data≤9223372036854775807)∧(-9223372036854775808≤x.Checks∧x.Checks≤9223372036854775807)∧(-9223372036854775808≤x.Width∧x.Width≤9223372036854775807))∧e=zcq x:=fun e h=>by
 obtain⟨_,_,rfl,h0,_,_,rfl,h1,_,_,rfl,h2,rfl⟩:=h
 obtain⟨a0,b0,rfl⟩:=w_of3 _ h0
 obtain⟨a1,b1,rfl⟩:=w_of3 _ h1
 obtain⟨a2,b2,rfl⟩:=w_of3 _ h2
 exact⟨⟨a0,a1,a2⟩,⟨b0,b1,b2⟩,rfl⟩
theorem w_of72:∀e,(Rcat [(zek .i64),(zek .i64),(zek .i64),(zek .i64)]) e→∃x:Line,((-9223372036854775808≤x.ID∧x.ID≤9223372036854775807)∧(-9223372036854775808≤x.Day∧x.Day≤9223372036854775807)∧(-9223372036854775808≤x.What∧x.What≤9223372036854775807)∧(-9223372036854775808≤x.Worth∧x.Worth≤9223372036854775807))∧e=zcC x:=fun e h=>by
 obtain⟨_,_,rfl,h0,_,_,rfl,h1,_,_,rfl,h2,_,_,rfl,h3,rfl⟩:=h
 obtain⟨a0,b0,rfl⟩:=w_of3 _ h0
 obtain⟨a1,b1,rfl⟩:=w_of3 _ h1
 obtain⟨a2,b2,rfl⟩:=w_of3 _ h2
 obtain⟨a3,b3,rfl⟩:=w_of3 _ h3
 exact⟨⟨a0,a1,a2,a3⟩,⟨b0,b1,b2,b3⟩,rfl⟩
theorem w_of55:∀e,(Rsl (Rcat [(zek .i64),(zek .i64),(zek .i64),(zek .i64)])) e→∃x:(List Line),(x.length≤4611686018427387904∧∀y55,y55∈x→((-9223372036854775808≤y55.ID∧y55.ID≤9223372036854775807)∧(-9223372036854775808≤y55.Day∧y55.Day≤9223372036854775807)∧(-9223372036854775808≤y55.What∧y55.What≤9223372036854775807)∧(-9223372036854775808≤y55.Worth∧y55.Worth≤9223372036854775807)))∧e=(fun l:(List Line)=>[D.sl (l.map zcC)]) x:=fun e ⟨es,h1,h2,he⟩=>by
 obtain⟨l,hl,rfl⟩:=slice_of w_of72 h1 h2
 exact⟨l,hl,he⟩
theorem w_of108:∀e,(Rcat [(zek .i64),(zek .i64),(zek .i64),(zek .i64),(zek .i64),(Rsl (Rcat [(zek .i64),(zek .i64),(zek .i64),(zek .i64)]))]) e→∃x:Step,((-9223372036854775808≤x.Kind∧x.Kind≤9223372036854775807)∧(-9223372036854775808≤x.Copy∧x.Copy≤9223372036854775807)∧(-9223372036854775808≤x.Number∧x.Number≤9223372036854775807)∧(-9223372036854775808≤x.At∧x.At≤9223372036854775807)∧(-9223372036854775808≤x.Word∧x.Word≤9223372036854775807)∧(x.Lines.length≤4611686018427387904∧∀y55,y55∈x.Lines→((-9223372036854775808≤y55.ID∧y55.ID≤9223372036854775807)∧(-9223372036854775808≤y55.Day∧y55.Day≤9223372036854775807)∧(-9223372036854775808≤y55.What∧y55.What≤9223372036854775807)∧(-9223372036854775808≤y55.Worth∧y55.Worth≤9223372036854775807))))∧e=eStep x:=fun e h=>by
 obtain⟨_,_,rfl,h0,_,_,rfl,h1,_,_,rfl,h2,_,_,rfl,h3,_,_,rfl,h4,_,_,rfl,h5,rfl⟩:=h
 obtain⟨a0,b0,rfl⟩:=w_of3 _ h0
 obtain⟨a1,b1,rfl⟩:=w_of3 _ h1
 obtain⟨a2,b2,rfl⟩:=w_of3 _ h2
 obtain⟨a3,b3,rfl⟩:=w_of3 _ h3
 obtain⟨a4,b4,rfl⟩:=w_of3 _ h4
 obtain⟨a5,b5,rfl⟩:=w_of55 _ h5
 exact⟨⟨a0,a1,a2,a3,a4,a5⟩,⟨b0,b1,b2,b3,b4,b5⟩,rfl⟩
theorem law (hh:Maps Tryz.prog 14 [] (wB true)){H:Type}{enc:TypeId × Value→H}{W:World}{args:Array Value}{ds:List (DataW H)}{p:List MemPlace}{base:Nat}
  (hval:∀(j:Nat) t v,Tryz.f12.params[j]? = some t→args[j]? = some v→Value.okWide Tryz.prog W .any base t v) (hA:DataW.TrodAll enc Tryz.prog W 0 (fun _=>true) true Tryz.f12.params.toList args.toList ds p)
  (hsz:(DataW.weightsEach Tryz.prog Tryz.f12.params.toList ds).all (·≤reachBytes)=true):ds.length=3∧∃xs,VS ⟨fun n=>n < W.heap.size,W.heap.size⟩ W zcM xs args∧Maps Tryz.prog 12 xs (.v (.bool true)):=by
 have hp:Tryz.f12.params=#[23,3,100]:=rfl
 rw[hp] at hA hval hsz
 obtain⟨v0,vs0,d0,ds0,p0,q0,ha,rfl,_,h0,hA⟩:=trodAll_cons hA
 obtain⟨v1,vs1,d1,ds1,p1,q1,rfl,rfl,_,h1,hA⟩:=trodAll_cons hA
 obtain⟨v2,vs2,d2,ds2,p2,q2,rfl,rfl,_,h2,hA⟩:=trodAll_cons hA
 obtain⟨rfl,rfl,_⟩:=trodAll_nil hA
 obtain rfl:args=#[v0,v1,v2]:=by cases args;simp_all
 have hwt:∀{j:Nat} {t:TypeId} {d:DataW H},[23,3,100][j]? = some t→[d0,d1,d2][j]? = some d→∀n,n∈d.weights Tryz.prog t→n≤reachBytes:=fun ht hd n hn=>by
  have:=zh.1 hsz n (DataW.weights_mem_each ht hd n hn)
  simpa using this
 obtain⟨es0,he0,k0⟩:=arg_struct (Rs:=[(zek .i64),(zek .i64),(zek .i64)]) Tryz.underlying23 (by
  refine⟨rfl,?_,(zd5 w_u3),?_,?_,(zd5 w_u3),?_,?_,(zd5 w_u3),?_⟩
  ·show 0+Tryz.prog.cellsOf 3≤_
   simp only[w_c3,w_c23];try decide
  ·show 1=0+Tryz.prog.cellsOf 3
   simp only[w_c3,w_c23];try decide
  ·show 0+Tryz.prog.cellsOf 3+Tryz.prog.cellsOf 3≤_
   simp only[w_c3,w_c23];try decide
  ·show 2=0+Tryz.prog.cellsOf 3+Tryz.prog.cellsOf 3
   simp only[w_c3,w_c23];try decide
  ·show 0+Tryz.prog.cellsOf 3+Tryz.prog.cellsOf 3+Tryz.prog.cellsOf 3≤_
   simp only[w_c3,w_c23];try decide
  ·show 0+Tryz.prog.cellsOf 3+Tryz.prog.cellsOf 3+Tryz.prog.cellsOf 3=_
   simp only[w_c3,w_c23];try decide) (hval 0 23 v0 rfl rfl) h0 (hwt (j:=0) rfl rfl)
 obtain⟨x0,q0,rfl⟩:=w_of23 _ he0
 obtain⟨x1,w1,k1⟩:=arg_int w_u3 (hval 1 3 v1 rfl rfl) h1
 have q1:=wf_i64 w1
 obtain⟨es2,hl2,he2,k2⟩:=arg_slice w_u100 (by rw[w_c108];decide) (by rw[w_b108];decide) w_opens108 (hval 2 100 v2 rfl rfl) h2 (hwt (j:=2) rfl rfl)
 obtain⟨x2,q2,rfl⟩:=slice_of w_of108 hl2 he2
 refine⟨rfl,_,⟨rfl,fun i d u e1 e2=>?_⟩,m_LeavesShelves hh x0 x1 x2 q2.1 (fun t h=>(q2.2 t h).2.2.2.2.2.1)⟩
 match i,e1,e2 with
 |0,e1,e2=>cases e1;cases e2;exact k0 _ fun _ h=>h
 |1,e1,e2=>cases e1;cases e2;exact k1 _ fun _ h=>h
 |2,e1,e2=>cases e1;cases e2;exact k2 _ fun _ h=>h
theorem holds (hh:Maps Tryz.prog 14 [] (wB true)):YtmbbepdbjeciaaaGreat.Rows.LeavesShelvesSaid:=
 OpenClaim.holds_of_wide 12 Tryz.f12 rfl rfl rfl rfl rfl rfl rfl ⟨rfl,rfl,rfl,rfl,rfl⟩ rfl rfl rfl rfl rfl (by kernel_rfl) Tryz.func12 (by kernel_rfl)
  (of_decide_eq_true (by kernel_rfl)) (by unfold Func.isWrapper;rw[if_neg (of_decide_eq_false (by kernel_rfl))];exact⟨rfl,rfl⟩)
  (fun os started H enc _=>by
   refine returnsInHanded_of_change_sized (C:=Tryz.checked) (s:=YtmbbepdbjeciaaaGreat.Rows.leavesShelvesSpec) (conds:=YtmbbepdbjeciaaaGreat.Rows.leavesShelvesRow.domain) (apart:=false) p_own started (by kernel_rfl) Tryz.func12
    (ChangeSpec.witness6 (enc:=enc) (C:=Tryz.checked) false ⟨#[],#[.agg #[.int .i64 0,.int .i64 0,.int .i64 0],.int .i64 0,.slice none 0 0],[]⟩ 8 (by kernel_rfl) (by kernel_rfl) (by kernel_rfl) (by kernel_rfl)) ?_
   intro W base args ds gs before hval hW _ hsz _
   obtain⟨p,q,hA,hV,_⟩:=id hW
   have hgs:gs=[]:=by
    cases gs with
    |nil=>rfl
    |cons=>exact hV.elim
   subst hgs
   obtain⟨hl,xs,hx,hm⟩:=law hh hval hA (by rw[zN] at hsz;exact hsz)
   refine law_true (tb:=4) p_laid (fun t ht=>?_) rfl w_u4 rfl hW (fun gs hg=>?_) hx hm
   ·have hp:Tryz.f12.params.toList=[23,3,100]:=rfl
    rw[hp] at ht
    simp only[zH,zai,or_false] at ht
    rcases ht with rfl|rfl|rfl<;>exact⟨by kernel_rfl,of_decide_eq_true (by kernel_rfl)⟩
   ·subst hg
    match ds,hl with
    |[d1,d2,d3],_=>rfl)
end Go.DL.RowLeavesShelves
