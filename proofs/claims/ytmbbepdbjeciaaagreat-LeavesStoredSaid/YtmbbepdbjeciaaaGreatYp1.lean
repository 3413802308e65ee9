/- Data compared. -/
import Derived.Test.YtmbbepdbjeciaaaGreatZs
import Derived.Test.YtmbbepdbjeciaaaGreatZx
import Derived.Test.YtmbbepdbjeciaaaGreatE5
import Derived.Test.YtmbbepdbjeciaaaGreatYu1
import Derived.Test.YtmbbepdbjeciaaaGreatE6
import Derived.Test.YtmbbepdbjeciaaaGreatP1
set_option maxRecDepth 100000
set_option maxHeartbeats 16000000
namespace Go.DL
open Go.Proofs Go
theorem m_same1 (a b:List Int)(hl:a.length≤4611686018427387904)(hl':b.length≤4611686018427387904):Maps Tryz.prog 138 [.sl (a.map eI),.sl (b.map eI)] (wB (decide (a=b))):=by
 refine Maps.vt pok Tryz.f138 (n:=8) (rs:=[.tmp 4]) rfl rfl rfl rfl rfl rfl fun g=>?_
 repeat (any_goals (first|(apply w_any;(first|refine RT.nil ?_|refine RT.mvA ?_|refine RT.asA ?_|refine RT.callM rfl (m_equal a b hl hl') rfl rfl ?_))|(apply v_any;(first|refine VT.seq rfl ?_|refine VT.reg rfl ?_|refine VT.ret rfl ?_))|(with_reducible refine d_kEr ?_;refine kEr rfl ?_)))
 rfl
theorem m_eqf (a b:List (List Int))(hl:a.length≤4611686018427387904)(hl':b.length≤4611686018427387904)(ha:∀x,x∈a→x.length≤4611686018427387904)(hb:∀x,x∈b→x.length≤4611686018427387904):Maps Tryz.prog 137 [.sl (a.map eRow),.sl (b.map eRow),.fn (.func 138) [] []] (wB (decide (a=b))):=by
 refine Maps.vt pok Tryz.f137 (n:=32) (rs:=[.tmp 6]) rfl rfl rfl rfl rfl rfl fun g=>?_
 by_cases he:a.length=b.length
 ·repeat (any_goals (first|(apply w_any;(first|refine RT.nil ?_|refine RT.mvA ?_|refine RT.asA ?_|refine RT.bnA ?_|refine RT.clA ?_))|(apply v_any;(first|refine VT.seq rfl ?_|refine VT.reg rfl ?_|refine VT.block rfl ?_|refine VT.skip rfl ?_|refine VT.condN rfl rfl (by first|assumption|omega) ?_))))
  refine VT.loop (fun j al H g'=>∃k:Nat,j=a.length-k∧k≤a.length∧a.take k=b.take k∧al=[(1,.sl (b.map eRow)),(2,.fn (.func 138) [] []),(15,.sl (a.map eRow)),(16,wI a.length),(17,wI k)]∧H=[]∧g'=g) rfl
   ⟨_,_,_,⟨0,rfl,Nat.zero_le _,rfl,rfl,rfl,rfl⟩,fgA⟩ ?_
  rintro j al H g' ⟨k,rfl,hk,hn,rfl,rfl,rfl⟩
  by_cases hlt:k < a.length
  ·have hlt2:k < b.length:=by omega
   have hs:=m_same1 a[k] b[k] (ha _ (List.getElem_mem hlt)) (hb _ (List.getElem_mem hlt2))
   by_cases hc:a[k]=b[k]
   ·rw[decide_eq_true hc] at hs
    repeat (any_goals (first|(apply w_any;(first|refine RT.nil ?_|refine RT.mvA ?_|refine RT.asA ?_|refine RT.ldA ?_|refine RT.bnA ?_|refine RT.callM rfl (hs) rfl rfl ?_|refine RT.ixA ?_|refine RT.unA ?_))|(apply v_any;(first|refine VT.seq rfl ?_|refine VT.reg rfl ?_|refine VT.condF rfl rfl ?_|refine VT.block rfl ?_|refine VT.skip rfl ?_|refine VT.condY rfl rfl (by first|assumption|omega) ?_))|with_reducible (refine kLn ?_)))
    exact⟨a.length-(k+1),by omega,_,_,⟨k+1,rfl,hlt,by rw[List.take_succ_eq_append_getElem hlt,List.take_succ_eq_append_getElem hlt2,hn,hc],rfl,rfl,rfl⟩,fgA⟩
   ·rw[decide_eq_false hc] at hs
    repeat (any_goals (first|(apply w_any;(first|refine RT.nil ?_|refine RT.mvA ?_|refine RT.asA ?_|refine RT.ldA ?_|refine RT.bnA ?_|refine RT.callM rfl (hs) rfl rfl ?_|refine RT.ixA ?_|refine RT.unA ?_))|(apply v_any;(first|refine VT.seq rfl ?_|refine VT.reg rfl ?_|refine VT.condT rfl rfl ?_|refine VT.block rfl ?_|refine VT.skip rfl ?_|refine VT.ret rfl ?_|refine VT.condY rfl rfl (by first|assumption|omega) ?_))|(with_reducible first|refine kSr ?_|refine kBr ?_|refine kLr ?_)|(with_reducible refine d_kEr ?_;refine kEr rfl ?_)))
    have:a≠b:=fun h=>hc (by subst h;rfl)
    rw[decide_eq_false this];rfl
  ·repeat (any_goals (first|(apply w_any;(first|refine RT.nil ?_|refine RT.asA ?_|refine RT.bnA ?_))|(apply v_any;(first|refine VT.seq rfl ?_|refine VT.reg rfl ?_|refine VT.exit rfl ?_|refine VT.ret rfl ?_|refine VT.condN rfl rfl (by first|assumption|omega) ?_))|(with_reducible refine d_kEr ?_;refine kEr rfl ?_)))
   rw[List.take_of_length_le (by omega),List.take_of_length_le (by omega)] at hn
   rw[decide_eq_true hn];rfl
 ·repeat (any_goals (first|(apply w_any;(first|refine RT.nil ?_|refine RT.mvA ?_|refine RT.asA ?_|refine RT.bnA ?_|refine RT.clA ?_))|(apply v_any;(first|refine VT.seq rfl ?_|refine VT.reg rfl ?_|refine VT.ret rfl ?_|refine VT.condY rfl rfl (by first|assumption|omega) ?_))|with_reducible (refine kSr ?_)|(with_reducible refine d_kEr ?_;refine kEr rfl ?_)))
  have:a≠b:=fun h=>he (by rw[h])
  rw[decide_eq_false this];rfl
theorem m_sameData (a b:List (List Int))(hl:a.length≤4611686018427387904)(hl':b.length≤4611686018427387904)(ha:∀x,x∈a→x.length≤4611686018427387904)(hb:∀x,x∈b→x.length≤4611686018427387904):Maps Tryz.prog 85 [.sl (a.map eRow),.sl (b.map eRow)] (wB (decide (a=b))):=by
 refine Maps.vt pok Tryz.f85 (n:=8) (rs:=[.tmp 4]) rfl rfl rfl rfl rfl rfl fun g=>?_
 repeat (any_goals (first|(apply w_any;(first|refine RT.nil ?_|refine RT.mvA ?_|refine RT.asA ?_|refine RT.callM rfl (m_eqf a b hl hl' ha hb) rfl rfl ?_))|(apply v_any;(first|refine VT.seq rfl ?_|refine VT.reg rfl ?_|refine VT.ret rfl ?_))|(with_reducible refine d_kEr ?_;refine kEr rfl ?_)))
 rfl
end Go.DL

/- The leaf of which there are most, in the program. -/
set_option maxRecDepth 100000
set_option maxHeartbeats 16000000
namespace Go.DL
open Go.Proofs Go
theorem m_most1 (x y:Leaf)(hx:x.Words.length≤4611686018427387904)(hy:y.Words.length≤4611686018427387904):Maps Tryz.prog 173 ([.agg (eLeaf y)]++[.rp (eLeaf x)]) (wB (decide (y.Words=x.Words))):=by
 refine Maps.vt pok Tryz.f173 (n:=9) (rs:=[.tmp 3]) rfl rfl rfl rfl rfl rfl fun g=>?_
 repeat (any_goals (first|(apply w_any;(first|refine RT.nil ?_|refine RT.asA ?_|refine RT.ldA ?_|refine RT.faA ?_|refine RT.callM rfl (m_equal y.Words x.Words hy hx) rfl rfl ?_|refine RT.nwA ?_))|(apply v_any;(first|refine VT.seq rfl ?_|refine VT.reg rfl ?_|refine VT.ret rfl ?_))|(with_reducible refine d_kEr ?_;refine kEr rfl ?_)))
 rfl
def eOut (st:DM.MSt Leaf):List D:=if st.first=0 then [wI 0,.nil] else eLeaf st.out
abbrev mL (l:List Leaf)(k:Nat):DM.MSt Leaf:=DM.mS Leaf.Words ⟨0,[]⟩ l k
theorem m_most0:Maps Tryz.prog 151 [.sl []] (.tup [.agg [wI 0,.fl []],wB false]):=by
 refine Maps.vt pok Tryz.f151 (n:=52) (rs:=[.cell 2 80,.tmp 3]) rfl rfl rfl rfl rfl rfl fun g=>?_
 repeat (any_goals (first|(apply w_any;(first|refine RT.nil ?_|refine RT.mvA ?_|refine RT.asA ?_|refine RT.v (f_lenM (f:=eLeaf) (l:=[]) rfl rfl) ?_|refine RT.nwA ?_))|(apply v_any;(first|refine VT.seq rfl ?_|refine VT.reg rfl ?_|refine VT.block rfl ?_))))
 refine VT.loop (fun j a H g'=>j=0∧a=[(2,.mp 0 0 0),(4,.mp 1 0 0),(5,wI 0),(6,wI 0),(14,wI 0),(15,wI 0)]∧H=[.live 2 [[wI 0,.nil]],.live 2 [[wI 0,.nil]]]∧g'=g) rfl ⟨_,_,_,⟨rfl,rfl,rfl,rfl⟩,Wk.keep kpX⟩ ?_
 rintro j a H g' ⟨rfl,rfl,rfl,rfl⟩
 repeat (any_goals (first|(apply w_any;(first|refine RT.nil ?_|refine RT.mvA ?_|refine RT.asA ?_|refine RT.ldA ?_|refine RT.bnA ?_|refine RT.stA ?_))|(apply v_any;(first|refine VT.seq rfl ?_|refine VT.reg rfl ?_|refine VT.condF rfl rfl ?_|refine VT.exit rfl ?_|refine VT.ret rfl ?_))|(with_reducible refine d_kEr ?_;refine kEr rfl ?_)))
 rfl
theorem cntL_succ {l:List Leaf}{w:List Int}{k:Nat}(h:k < l.length):(l.take (k+1)).countP (fun y=>decide (y.Words=w))=(l.take k).countP (fun y=>decide (y.Words=w))+if l[k].Words=w then 1 else 0:=by
 rw[List.take_succ_eq_append_getElem h,List.countP_append,List.countP_singleton]
 simp
theorem c_most {H:List Blk}{b m:Nat}{l:List Leaf}(hb:H[b]? = some (.live 2 (l.map eLeaf)))(hm:m=l.length)(hl:l.length≤1000)(hw:∀x,x∈l→x.Words.length≤4611686018427387904):
  CallSp Tryz.prog 151 [.ms b 0 m m] H fun d H'=>d=.tup [.agg (eOut (mL l m)),wB (decide ((mL l m).second < (mL l m).first))]∧Pre H H':=by
 refine CallSp.vt pok Tryz.f151 (n:=52) (rs:=[.cell 2 80,.tmp 3]) rfl rfl rfl rfl rfl rfl rfl fun g=>?_
 have hbl:=hg_lt hb
 repeat (any_goals (first|(apply w_any;(first|refine RT.nil ?_|refine RT.mvA ?_|refine RT.asA ?_|refine RT.clA ?_|(apply w_al;(first|refine RT.new (s:=H.length) rfl (f_allocL (z:=[wI 0,.nil]) (m:=2) rfl rfl) rfl ?_|refine RT.new (s:=H.length+1) (by simp) (f_allocL (z:=[wI 0,.nil]) (m:=2) rfl rfl) rfl ?_))))|(apply v_any;(first|refine VT.seq rfl ?_|refine VT.reg rfl ?_|refine VT.block rfl ?_))))
 refine VT.loop (fun j a H2 g'=>∃(i:Nat),j=m-i∧i≤m∧Pre H H2∧H2[H.length]? = some (.live 2 [[wI 0,.nil]])∧H2[H.length+1]? = some (.live 2 [eOut (mL l i)])∧a=[(0,.ms b 0 m m),(2,.mp H.length 0 0),(4,.mp (H.length+1) 0 0),(5,wI ((mL l i).first:Nat)),(6,wI ((mL l i).second:Nat)),(13,.ms b 0 m m),(14,wI m),(15,wI i)]∧g'=g) rfl
  ⟨_,_,(H++[.live 2 [[wI 0,.nil]]])++[.live 2 [[wI 0,.nil]]],⟨0,rfl,Nat.zero_le _,(by repeat (first|assumption|exact Pre.refl _|refine Pre.app ?_ _|refine Pre.set ?_ (by first|assumption|omega) _)),hgX,hg_at (t:=0) (by simp) rfl,rfl,rfl⟩,Wk.keep kpX⟩ ?_
 rintro j a H2 g' ⟨i,rfl,hi,hP,h2,h4,rfl,rfl⟩
 have hPl:=hP.len
 have hlt4:=hg_lt h4
 have hbb:=hP.get hb
 by_cases hlt:i < m
 ·obtain⟨x,hx⟩:∃x,l[i]? = some x:=⟨_,List.getElem?_eq_getElem (by omega)⟩
  have hxg:l[i]=x:=(List.getElem?_eq_some_iff.1 hx).2
  have hxw:=hw x (List.mem_of_getElem? hx)
  have hs:mL l (i+1)=DM.mStep Leaf.Words (DM.cnt Leaf.Words l) (l.take i) (mL l i) l[i]:=DM.mS_succ Leaf.Words (z:=⟨0,[]⟩) (l:=l) (k:=i) (by omega)
  rw[hxg] at hs
  have hc:=m_has_Leaf (p:=fun y=>decide (y.Words=x.Words)) (F:=173) (cs:=[.rp (eLeaf x)]) (l:=l.take i) (by simp;omega) rfl fun y hy=>m_most1 x y hxw (hw y (List.mem_of_mem_take hy))
  have hsn:([.ms b 0 i m,.fn (.func 173) [] [.mp H2.length 0 0]]:List D).map (snap (fun b=>((H2++[Blk.live 2 [[wI 0,.nil]]]).set H2.length (Blk.live 2 [eLeaf x]))[b]?) 5)=[.sl ((l.take i).map eLeaf),.fn (.func 173) [] [.rp (eLeaf x)]]:=by
   have q1:((H2++[Blk.live 2 [[wI 0,.nil]]]).set H2.length (Blk.live 2 [eLeaf x]))[b]? = some (.live 2 (l.map eLeaf)):=hgX
   have q2:((H2++[Blk.live 2 [[wI 0,.nil]]]).set H2.length (Blk.live 2 [eLeaf x]))[H2.length]? = some (.live 2 [eLeaf x]):=hgX
   generalize (H2++[Blk.live 2 [[wI 0,.nil]]]).set H2.length (Blk.live 2 [eLeaf x])=H3 at q1 q2
   have e1:=snap_take (f:=eLeaf) (lk:=fun b=>H3[b]?) (i:=i) (cap:=m) (k:=4) q1 (by omega) fun x=>rfl
   have e2:=snap_mp (lk:=fun b=>H3[b]?) (i:=0) (f:=0) (k:=3) (e:=eLeaf x) (e':=eLeaf x) q2 rfl rfl
   rw[List.map_cons,e1,List.map_cons,List.map_nil]
   exact congrArg (fun q=>[D.sl ((l.take i).map eLeaf),D.fn (.func 173) [] [q]]) e2
  cases hany:(l.take i).any (fun y=>decide (y.Words=x.Words)) with
  |true=>
   rw[hany] at hc
   unfold DM.mStep at hs
   rw[if_pos hany] at hs
   repeat (any_goals (first|(apply w_any;(first|refine RT.nil ?_|refine RT.mvA ?_|refine RT.asA ?_|refine RT.v (f_ldOW (e:=eLeaf x) rfl hgX (map_get hx) rfl rfl rfl) ?_|refine RT.bnA ?_|(refine d_call ?_;refine RT.callM rfl hc hsn rfl ?_)|refine RT.ixH ?_|refine RT.stH ?_|refine RT.new (s:=H2.length) rfl (f_allocL (z:=[wI 0,.nil]) (m:=2) rfl rfl) rfl ?_|refine RT.v (f_slHiO (hi:=i) rfl rfl rfl (by omega) rfl hgX) ?_|refine RT.v (f_mkf (ds:=[]) (es:=[.mp H2.length 0 0]) rfl rfl) ?_))|(apply v_any;(first|refine VT.seq rfl ?_|refine VT.reg rfl ?_|refine VT.condT rfl rfl ?_|refine VT.block rfl ?_|refine VT.skip rfl ?_|refine VT.exit rfl ?_|refine VT.condY rfl rfl (by first|assumption|omega) ?_))|with_reducible (refine kLn ?_)))
   exact⟨m-(i+1),by omega,_,_,⟨i+1,rfl,hlt,(by repeat (first|assumption|exact Pre.refl _|refine Pre.app ?_ _|refine Pre.set ?_ (by first|assumption|omega) _)),hgX,by rw[hs];exact hgX,by rw[hs],rfl⟩,Wk.keep kpX⟩
  |false=>
   rw[hany] at hc
   unfold DM.mStep at hs
   rw[if_neg (by rw[hany];exact Bool.false_ne_true)] at hs
   repeat (any_goals (first|(apply w_any;(first|refine RT.nil ?_|refine RT.mvA ?_|refine RT.asA ?_|refine RT.v (f_ldOW (e:=eLeaf x) rfl hgX (map_get hx) rfl rfl rfl) ?_|refine RT.bnA ?_|(apply w_cl;(first|(refine d_call ?_;refine RT.callM rfl hc hsn rfl ?_)|refine RT.clA ?_))|refine RT.ixH ?_|refine RT.stH ?_|refine RT.new (s:=H2.length) rfl (f_allocL (z:=[wI 0,.nil]) (m:=2) rfl rfl) rfl ?_|refine RT.v (f_slHiO (hi:=i) rfl rfl rfl (by omega) rfl hgX) ?_|refine RT.v (f_mkf (ds:=[]) (es:=[.mp H2.length 0 0]) rfl rfl) ?_))|(apply v_any;(first|refine VT.seq rfl ?_|refine VT.reg rfl ?_|refine VT.condF rfl rfl ?_|refine VT.block rfl ?_|refine VT.skip rfl ?_|refine VT.condY rfl rfl (by first|assumption|omega) ?_))))
   refine VT.loop (fun j a H3 g2=>∃(k:Nat),j=m-k∧k≤m∧Pre H H3∧H3[H.length]? = some (.live 2 [[wI 0,.nil]])∧H3[H.length+1]? = some (.live 2 [eOut (mL l i)])∧H3[H2.length]? = some (.live 2 [eLeaf x])∧a=[(0,.ms b 0 m m),(2,.mp H.length 0 0),(4,.mp (H.length+1) 0 0),(5,wI ((mL l i).first:Nat)),(6,wI ((mL l i).second:Nat)),(8,.mp H2.length 0 0),(9,.fn (.func 173) [] [.mp H2.length 0 0]),(10,wI ((l.take k).countP (fun y=>decide (y.Words=x.Words)):Nat)),(13,.ms b 0 m m),(14,wI m),(15,wI i),(26,.ms b 0 m m),(27,wI m),(28,wI k)]∧g2=g') rfl
    ⟨_,_,(H2++[Blk.live 2 [[wI 0,.nil]]]).set H2.length (Blk.live 2 [eLeaf x]),⟨0,rfl,Nat.zero_le _,(by repeat (first|assumption|exact Pre.refl _|refine Pre.app ?_ _|refine Pre.set ?_ (by first|assumption|omega) _)),hgX,hgX,hgX,rfl,rfl⟩,Wk.keep kpX⟩ ?_
   rintro j a H3 g2 ⟨k,rfl,hk,hP3,h2',h4',h8,rfl,rfl⟩
   have hP3l:=hP3.len
   have hlt4':=hg_lt h4'
   have hlt8:=hg_lt h8
   have hbb3:=hP3.get hb
   have hcb:(l.take k).countP (fun y=>decide (y.Words=x.Words))≤1000:=Nat.le_trans List.countP_le_length (by rw[List.length_take];omega)
   by_cases hlk:k < m
   ·obtain⟨y,hy⟩:∃y,l[k]? = some y:=⟨_,List.getElem?_eq_getElem (by omega)⟩
    have hyg:l[k]=y:=(List.getElem?_eq_some_iff.1 hy).2
    have hcs:=cntL_succ (l:=l) (w:=x.Words) (k:=k) (by omega)
    rw[hyg] at hcs
    have hm1:=m_most1 x y hxw (hw y (List.mem_of_getElem? hy))
    have hsn2:([.agg (eLeaf y),.mp H2.length 0 0]:List D).map (snap (fun b=>((H3++[Blk.live 2 [[wI 0,.nil]]]).set H3.length (Blk.live 2 [eLeaf y]))[b]?) 5)=[.agg (eLeaf y),.rp (eLeaf x)]:=by
     have q2:((H3++[Blk.live 2 [[wI 0,.nil]]]).set H3.length (Blk.live 2 [eLeaf y]))[H2.length]? = some (.live 2 [eLeaf x]):=hgX
     generalize (H3++[Blk.live 2 [[wI 0,.nil]]]).set H3.length (Blk.live 2 [eLeaf y])=H4 at q2
     have e2:=snap_mp (lk:=fun b=>H4[b]?) (i:=0) (f:=0) (k:=4) (e:=eLeaf x) (e':=eLeaf x) q2 rfl rfl
     exact congrArg (fun q=>[D.agg (eLeaf y),q]) e2
    by_cases hyx:y.Words=x.Words
    ·rw[decide_eq_true hyx] at hm1
     rw[if_pos hyx] at hcs
     repeat (any_goals (first|(apply w_any;(first|refine RT.nil ?_|refine RT.mvA ?_|refine RT.asA ?_|(apply w_ld;(first|refine RT.v (f_ldOW (e:=eLeaf y) rfl hgX (map_get hy) rfl rfl rfl) ?_|refine RT.ldH ?_))|refine RT.bnA ?_|(refine d_call ?_;refine RT.callM rfl hm1 hsn2 rfl ?_)|refine RT.ixH ?_|refine RT.stH ?_|refine RT.new (s:=H3.length) rfl (f_allocL (z:=[wI 0,.nil]) (m:=2) rfl rfl) rfl ?_))|(apply v_any;(first|refine VT.seq rfl ?_|refine VT.reg rfl ?_|refine VT.condT rfl rfl ?_|refine VT.block rfl ?_|refine VT.skip rfl ?_|refine VT.condY rfl rfl (by first|assumption|omega) ?_))|with_reducible (refine kLn ?_)))
     exact⟨m-(k+1),by omega,_,_,⟨k+1,rfl,hlk,(by repeat (first|assumption|exact Pre.refl _|refine Pre.app ?_ _|refine Pre.set ?_ (by first|assumption|omega) _)),hgX,hgX,hgX,by rw[hcs],rfl⟩,Wk.keep kpX⟩
    ·rw[decide_eq_false hyx] at hm1
     rw[if_neg hyx] at hcs
     repeat (any_goals (first|(apply w_any;(first|refine RT.nil ?_|refine RT.mvA ?_|(apply w_ld;(first|refine RT.v (f_ldOW (e:=eLeaf y) rfl hgX (map_get hy) rfl rfl rfl) ?_|refine RT.ldH ?_))|refine RT.bnA ?_|(refine d_call ?_;refine RT.callM rfl hm1 hsn2 rfl ?_)|refine RT.ixH ?_|refine RT.stH ?_|refine RT.new (s:=H3.length) rfl (f_allocL (z:=[wI 0,.nil]) (m:=2) rfl rfl) rfl ?_))|(apply v_any;(first|refine VT.seq rfl ?_|refine VT.reg rfl ?_|refine VT.condF rfl rfl ?_|refine VT.block rfl ?_|refine VT.skip rfl ?_|refine VT.condY rfl rfl (by first|assumption|omega) ?_))|with_reducible (refine kLn ?_)))
     exact⟨m-(k+1),by omega,_,_,⟨k+1,rfl,hlk,(by repeat (first|assumption|exact Pre.refl _|refine Pre.app ?_ _|refine Pre.set ?_ (by first|assumption|omega) _)),hgX,hgX,hgX,by rw[hcs],rfl⟩,Wk.keep kpX⟩
   ·obtain rfl:k=l.length:=by omega
    rw[List.take_length] at hcb ⊢
    have hcn:DM.cnt Leaf.Words l x.Words=l.countP (fun y=>decide (y.Words=x.Words)):=rfl
    try rw[hxg] at hs
    rw[hcn] at hs
    generalize l.countP (fun y=>decide (y.Words=x.Words))=q at hs hcb ⊢
    by_cases hq:(mL l i).first < q
    ·rw[if_pos hq] at hs
     generalize mL l i=st at hs h4' hq ⊢
     obtain⟨c0,c1,hce⟩:∃c0 c1,eOut st=[c0,c1]:=by
      unfold eOut;split<;>exact⟨_,_,rfl⟩
     rw[hce] at h4'
     repeat (any_goals (first|(apply w_any;(first|refine RT.nil ?_|refine RT.mvA ?_|refine RT.asA ?_|refine RT.ldH ?_|(apply w_bn;(first|refine RT.v (f_gtrT rfl rfl (by omega)) ?_|refine RT.bnA ?_))|refine RT.stH ?_))|(apply v_any;(first|refine VT.seq rfl ?_|refine VT.reg rfl ?_|refine VT.condT rfl rfl ?_|refine VT.exit rfl ?_|refine VT.condN rfl rfl (by first|assumption|omega) ?_))|with_reducible (refine kLn ?_)))
     exact⟨m-(i+1),by omega,_,_,⟨i+1,rfl,hlt,(by repeat (first|assumption|exact Pre.refl _|refine Pre.app ?_ _|refine Pre.set ?_ (by first|assumption|omega) _)),hgX,by rw[hs];unfold eOut;rw[if_neg (by show ¬q=0;omega)];exact hgX,by rw[hs],rfl⟩,Wk.keep kpX⟩
    ·rw[if_neg hq] at hs
     generalize mL l i=st at hs h4' hq ⊢
     repeat (any_goals (first|(apply w_any;(first|refine RT.nil ?_|refine RT.mvA ?_|refine RT.asA ?_|(apply w_bn;(first|refine RT.v (f_gtrF rfl rfl (by omega)) ?_|refine RT.bnA ?_))|refine RT.clA ?_))|(apply v_any;(first|refine VT.seq rfl ?_|refine VT.reg rfl ?_|refine VT.condF rfl rfl ?_|refine VT.exit rfl ?_|refine VT.condN rfl rfl (by first|assumption|omega) ?_))|with_reducible (refine kLn ?_)))
     rw[←castMax]
     exact⟨m-(i+1),by omega,_,_,⟨i+1,rfl,hlt,(by repeat (first|assumption|exact Pre.refl _|refine Pre.app ?_ _|refine Pre.set ?_ (by first|assumption|omega) _)),hgX,by rw[hs];exact h4',by rw[hs],rfl⟩,Wk.keep kpX⟩
 ·obtain rfl:i=m:=by omega
  generalize mL l i=st at h4 ⊢
  by_cases hz:st.first=0
  ·have hce:eOut st=[wI 0,.nil]:=if_pos hz
   rw[hce] at h4 ⊢
   repeat (any_goals (first|(apply w_any;(first|refine RT.nil ?_|refine RT.mvA ?_|refine RT.asA ?_|refine RT.ldH ?_|refine RT.bnA ?_|refine RT.stH ?_))|(apply v_any;(first|refine VT.seq rfl ?_|refine VT.reg rfl ?_|refine VT.exit rfl ?_|refine VT.ret rfl ?_|refine VT.condN rfl rfl (by first|assumption|omega) ?_))))
   refine kEr (resA_ct (e:=[wI 0,.nil]) rfl (hg_self (by omega)) rfl rfl rfl rfl) ⟨?_,(by repeat (first|assumption|exact Pre.refl _|refine Pre.app ?_ _|refine Pre.set ?_ (by first|assumption|omega) _))⟩
   exact congrArg (fun x=>D.tup [_,wB x]) (decide_eq_decide.2 (by omega))
  ·have hce:eOut st=eLeaf st.out:=if_neg hz
   rw[hce] at h4 ⊢
   repeat (any_goals (first|(apply w_any;(first|refine RT.nil ?_|refine RT.mvA ?_|refine RT.asA ?_|refine RT.ldH ?_|refine RT.bnA ?_|refine RT.stH ?_))|(apply v_any;(first|refine VT.seq rfl ?_|refine VT.reg rfl ?_|refine VT.exit rfl ?_|refine VT.ret rfl ?_|refine VT.condN rfl rfl (by first|assumption|omega) ?_))))
   refine kEr (resA_ct (e:=eLeaf st.out) rfl (hg_self (by omega)) rfl rfl rfl rfl) ⟨?_,(by repeat (first|assumption|exact Pre.refl _|refine Pre.app ?_ _|refine Pre.set ?_ (by first|assumption|omega) _))⟩
   exact congrArg (fun x=>D.tup [_,wB x]) (decide_eq_decide.2 (by omega))
end Go.DL

/- Leaves copied, by number. -/
set_option maxRecDepth 100000
set_option maxHeartbeats 16000000
namespace Go.DL
open Go.Proofs Go
def sortLf (l:List Leaf):List Leaf:=l.mergeSort fun a b=>decide (a.Number≤b.Number)
theorem sortLf_perm (l:List Leaf):(sortLf l).Perm l:=List.mergeSort_perm _ _
theorem sortLf_srt (l:List Leaf):(sortLf l).Pairwise fun x y=>x.Number≤y.Number:=by
 have h:=List.pairwise_mergeSort (le:=fun a b:Leaf=>decide (a.Number≤b.Number)) (fun a b c h1 h2=>by
  simp only[decide_eq_true_eq] at *;omega) (fun a b=>by
  simp only[Bool.or_eq_true,decide_eq_true_eq];omega) l
 exact h.imp fun h=>by simpa using h
theorem sortLf_id {l:List Leaf}(h:l.Pairwise fun x y=>x.Number < y.Number):sortLf l=l:=
 (DM.srt_one (key:=Leaf.Number) (h.imp fun h=>by omega) (sortLf_srt l) (sortLf_perm l).symm (h.imp fun h=>by omega)).symm
theorem m_copied (l:List Leaf)(hl:l.length≤1000)(hw:∀x,x∈l→x.Words.length≤1000)(hn:∀x,x∈l→0≤x.Number∧x.Number≤1000)(hd:l.Pairwise fun x y=>x.Number≠y.Number):
  Maps Tryz.prog 116 [.sl (l.map eLeaf)] (.fl ((sortLf l).map eLeaf)):=by
 refine Maps.vt pok Tryz.f116 (n:=25) (rs:=[.tmp 2]) rfl rfl rfl rfl rfl rfl fun g=>?_
 repeat (any_goals (first|(apply w_any;(first|refine RT.nil ?_|refine RT.mvA ?_|refine RT.asA ?_|refine RT.clA ?_))|(apply v_any;(first|refine VT.seq rfl ?_|refine VT.reg rfl ?_|refine VT.block rfl ?_))))
 refine VT.phantom (i:=3) (s:=0) 2 rfl rfl rfl ?_
 refine VT.loop (fun j a H g'=>∃(i b:Nat) (ql:List (Nat × Leaf)),j=l.length-i∧i≤l.length∧OL 0 H b ql∧ql.map (·.2)=l.take i∧a=[(3,.ms b 0 i i),(6,.sl (l.map eLeaf)),(7,wI l.length),(8,wI i)]∧g'=g) rfl
  ⟨_,_,[.live 2 []],⟨0,0,[],rfl,Nat.zero_le _,⟨rfl,Nat.le_refl _,fun i q h=>by simp at h,fun i j q r h=>by simp at h⟩,rfl,rfl,rfl⟩,Wk.keep kpX⟩ ?_
 rintro j a H g' ⟨i,b,ql,rfl,hi,hO,hq,rfl,rfl⟩
 have hqi:ql.length=i:=by
  have:=congrArg List.length hq
  rw[List.length_map,List.length_take] at this;omega
 have hrows:=hO.rows
 have hbl:=hO.lt
 by_cases hlt:i < l.length
 ·have hwi:=hw l[i] (List.getElem_mem hlt)
  obtain⟨x,hx⟩:∃x,x=l[i]:=⟨_,rfl⟩
  obtain⟨H2,hH2⟩:∃H2,H2=(H++[Blk.live 2 [[wI 0,.nil]]]).set H.length (Blk.live 2 [eLeaf l[i]]):=⟨_,rfl⟩
  have hrows2:H2[b]? = some (.live 2 (ql.map eOL)):=by rw[hH2];exact hgX
  have hx2:H2[H.length]? = some (.live 2 [eLeaf l[i]]):=by rw[hH2];exact hgX
  have hO2:OL 0 H2 b ql:=by
   rw[hH2]
   exact (hO.app [Blk.live 2 [[wI 0,.nil]]]).other (by omega) (fun i q hq=>by have:=hg_lt (hO.row i q hq).1;omega) _
  have hbl2:=hg_lt hrows2
  have hx2l:=hg_lt hx2
  have hb0:=hO.kb
  repeat (any_goals (first|(apply w_any;(first|refine RT.nil ?_|refine RT.mvA ?_|refine RT.ldA ?_|refine RT.bnA ?_|refine RT.ixA ?_|refine RT.wr (f_stA rfl hgX rfl rfl rfl rfl rfl (by first|decide|exact Nat.le_refl _) rfl) (Eq.trans rfl hH2.symm) ?_|refine RT.new (s:=H.length) rfl (f_allocL (z:=[wI 0,.nil]) (m:=2) rfl rfl) rfl ?_))|(apply v_any;(first|refine VT.seq rfl ?_|refine VT.reg rfl ?_|refine VT.block rfl ?_|refine VT.skip rfl ?_|refine VT.drawS [b] 1 [none,none,none,none,none,none,none,none,some 0,none] [(3,[1,2,3],none),(3,[1,2,3],none),(3,[1,2,3],none),(3,[1,2,3],none),(3,[1,2,3],none),(0,[1,2,3],none),(3,[2,3],none),(1,[2,3],none),(2,[3],some 0),(3,[],none)] 4 rfl (by first|(simp;done)|(simp;omega)) (by first|(simp;done)|(simp;omega)) mixedOk rfl (by decide +kernel) (by decide +kernel) (by decide +kernel) rfl (H1:=H2++[.free,.free,.free,.free]) rfl ?_|refine VT.condY rfl rfl (by first|assumption|omega) ?_))|(apply s_any;(first|refine ST.done (dropLn (H2.set b .dead) [_,_,_] .free) ?_|refine ST.mvA ?_|refine ST.asA ?_|refine ST.ldH ?_|refine ST.faA ?_|(apply s_cl;(first|refine ST.callAt rfl (s':=H2.length+0) rfl (CallAt.of (off:=0) (len:=l[i].Words.length) (cap:=l[i].Words.length) (sz:=1) (es:=l[i].Words.map eI) (fun H hsub=>c_clone (o:=l[i].Words) (.inr (.inl ⟨_,rfl⟩)) (elems_sl _ _) (by omega)) (eI_low _ _)) (setLen (i:=0) (T':=[.live 1 (l[i].Words.map eI),.free,.free,.free]) rfl rfl) ?_|refine ST.ap (q:=0) (b:=b) rfl rfl (s':=H2.length+2) rfl (f_appT (f:=eOL) (o:=ql) (v:=[(H2.length+0,l[i])]) (mm:=i+1) (by':=32) rfl rfl hgX (List.take_of_length_le (by rw[List.length_map];omega)) (by rw[List.length_map];omega) hgX hqi.symm rfl (by simp[hqi]) rfl (by decide) rfl rfl (fun _=>⟨rfl,rfl⟩) (by simp;omega) (by simp;omega)) (killLen (T':=[.live 1 (l[i].Words.map eI),.live 2 [eOL (H2.length+0,l[i])],.live 2 ((ql++[(H2.length+0,l[i])]).map eOL),.free]) hbl2 rfl rfl) ?_))|refine ST.new rfl (s':=H2.length+1) rfl (f_bslA1 rfl rfl rfl rfl rfl rfl) (setLen (i:=1) (T':=[.live 1 (l[i].Words.map eI),.live 2 [eOL (H2.length+0,l[i])],.free,.free]) rfl rfl) ?_|refine ST.v (f_build (d:=.agg [wI l[i].Number,.ms (H2.length+0) 0 l[i].Words.length l[i].Words.length]) rfl) ?_))|with_reducible (refine kLn ?_)))
  refine⟨l.length-(i+1),by omega,_,_,⟨i+1,H2.length+2,ql++[(H2.length+0,l[i])],rfl,hlt,hO2.push (t:=0) (t':=2) (by omega) (by decide) rfl rfl,?_,rfl,rfl⟩,Wk.keep kpX⟩
  rw[List.map_append,hq,List.take_add_one,List.getElem?_eq_getElem hlt];rfl
 ·obtain rfl:i=l.length:=by omega
  rw[List.take_length] at hq
  rw[←hqi]
  repeat (any_goals (first|(apply w_any;(first|refine RT.nil ?_|refine RT.mvA ?_|refine RT.bnA ?_|(refine d_call ?_;refine RT.callG rfl ((c_sortLf (cap:=ql.length) hrows (by omega) (fun q hq2=>hn q.2 (by rw[←hq];exact List.mem_map.2 ⟨q,hq2,rfl⟩))).mono ?_))))|(apply v_any;(first|refine VT.seq rfl ?_|refine VT.reg rfl ?_|refine VT.exit rfl ?_|refine VT.condN rfl rfl (by first|assumption|omega) ?_))))
  rintro d H4 ⟨rfl,y,hy,hp,rfl⟩
  change RT _ _ _ _ ((23,D.tup [])::_) _ _ _
  repeat (any_goals (first|(apply w_any;(first|refine RT.nil ?_|refine RT.mvA ?_|refine RT.asA ?_))|(apply v_any;(first|refine VT.seq rfl ?_|refine VT.reg rfl ?_|refine VT.ret rfl ?_))|(with_reducible refine d_kEr ?_;refine kEr rfl ?_)))
  have hyr:∀q,q∈y→(H.set b (.live 2 (y.map eOL)))[q.1]? = some (.live 1 (q.2.Words.map eI)):=fun q hq2=>by
   obtain⟨k,hk,hkq⟩:=List.getElem_of_mem (hp.subset hq2)
   obtain⟨r1,_,r3⟩:=hO.row k q (by rw[List.getElem?_eq_getElem hk,hkq])
   exact hg_ne r1 (Ne.symm r3)
  have e1:=snapR_OL (lk:=fun k=>(H.set b (.live 2 (y.map eOL)))[k]?) (b:=b) (n:=ql.length) (hg_self hbl) hyr hp.length_eq.symm 2
  refine Eq.trans e1 (congrArg (fun x:List Leaf=>D.fl (x.map eLeaf)) ?_)
  have hpl:(y.map (·.2)).Perm l:=by have:=hp.map (fun q:Nat × Leaf=>q.2);rwa [hq] at this
  exact (DM.srt_one (key:=Leaf.Number) (sortLf_srt l) (List.pairwise_map.2 hy) ((sortLf_perm l).trans hpl.symm) (((sortLf_perm l).pairwise_iff (fun h=>Ne.symm h)).2 hd)).symm
end Go.DL

/- Join of the program: the leaves that copies have in common. -/
set_option maxRecDepth 100000
set_option maxHeartbeats 16000000
namespace Go.DL
open Go.Proofs Go
abbrev selP (p:List Leaf)(n:Int):List Leaf:=p.filter fun y=>decide (y.Number=n)
theorem selP_snoc (p:List Leaf)(x:Leaf)(n:Int):selP (p++[x]) n=if x.Number=n then selP p n++[x] else selP p n:=by
 unfold selP
 rw[List.filter_append]
 by_cases h:x.Number=n
 ·rw[if_pos h,List.filter_cons,if_pos (by simpa using h)];rfl
 ·rw[if_neg h,List.filter_cons,if_neg (by simpa using h)];simp
structure JM (K:Nat)(H:List Blk)(kv:KV)(f:Int→Nat)(p:List Leaf):Prop where
 get:∀n,aget kv n=if selP p n=[] then none else some (.ms (f n) 0 (selP p n).length (selP p n).length)
 row:∀n,selP p n≠[]→H[f n]? = some (.live 2 ((selP p n).map eLeaf))∧K≤f n
 inj:∀n m,selP p n≠[]→selP p m≠[]→f n=f m→n=m
section
variable {K:Nat}{H H2 T:List Blk}{kv:KV}{f:Int→Nat}{p:List Leaf}{b:Nat}{x:Blk}
theorem JM.nil (K:Nat)(H:List Blk)(f:Int→Nat):JM K H [] f []:=⟨fun n=>rfl,fun n h=>absurd rfl h,fun n m h=>absurd rfl h⟩
theorem JM.app (h:JM K H kv f p)(T:List Blk):JM K (H++T) kv f p:=⟨h.get,fun n hn=>⟨hg_app T (h.row n hn).1,(h.row n hn).2⟩,h.inj⟩
theorem JM.low (h:JM K H kv f p)(hb:b < K)(x:Blk):JM K (H.set b x) kv f p:=⟨h.get,fun n hn=>⟨hg_ne (h.row n hn).1 (by have:=(h.row n hn).2;omega),(h.row n hn).2⟩,h.inj⟩
theorem JM.high (h:JM K H kv f p)(T:List Blk)(x:Blk):JM K ((H++T).set H.length x) kv f p:=⟨h.get,fun n hn=>⟨hg_ne (hg_app T (h.row n hn).1) (by have:=hg_lt (h.row n hn).1;omega),(h.row n hn).2⟩,h.inj⟩
theorem JM.pre (h:JM K H kv f p)(hP:Pre H H2):JM K H2 kv f p:=⟨h.get,fun n hn=>⟨hP.get (h.row n hn).1,(h.row n hn).2⟩,h.inj⟩
theorem JM.push (h:JM K H kv f p){y:Leaf}{t:Nat}(hK:K≤H.length)(hT:T[t]? = some (.live 2 ((selP p y.Number++[y]).map eLeaf)))(hH2:H2.length=H.length)
  (hk:∀n,n≠y.Number→selP p n≠[]→H2[f n]? = H[f n]?):
  JM K (H2++T) (aset kv y.Number (.ms (H.length+t) 0 ((selP p y.Number).length+1) ((selP p y.Number).length+1))) (fun n=>if n=y.Number then H.length+t else f n) (p++[y]):=by
 refine⟨fun n=>?_,fun n hn=>?_,fun n m hn hm e=>?_⟩
 ·rw[aget_set,selP_snoc]
  by_cases e:n=y.Number
  ·subst e
   simp
  ·have e':¬y.Number=n:=fun h=>e h.symm
   simp only[if_neg e,if_neg e']
   exact h.get n
 ·rw[selP_snoc] at hn ⊢
  by_cases e:n=y.Number
  ·subst e
   simp only[if_true]
   exact⟨hg_at hH2 hT,by omega⟩
  ·have e':¬y.Number=n:=fun h=>e h.symm
   rw[if_neg e'] at hn ⊢
   rw[if_neg e]
   obtain⟨h1,h2⟩:=h.row n hn
   exact⟨hg_app _ ((hk n e hn).trans h1),h2⟩
 ·rw[selP_snoc] at hn hm
  have lt:∀k,k≠y.Number→(if y.Number=k then selP p k++[y] else selP p k)≠[]→f k < H.length:=fun k hk' hk2=>by
   rw[if_neg (fun h=>hk' h.symm)] at hk2
   exact hg_lt (h.row k hk2).1
  by_cases e1:n=y.Number<;>by_cases e2:m=y.Number
  ·rw[e1,e2]
  ·simp only[if_pos e1,if_neg e2] at e
   have:=lt m e2 hm
   omega
  ·simp only[if_neg e1,if_pos e2] at e
   have:=lt n e1 hn
   omega
  ·simp only[if_neg e1,if_neg e2] at e
   rw[if_neg (fun h=>e1 h.symm)] at hn
   rw[if_neg (fun h=>e2 h.symm)] at hm
   exact h.inj n m hn hm e
end
theorem mL_pick (cs:List (List Leaf))(n:Int):jPick cs n=if (mL (selL cs n) (selL cs n).length).second < (mL (selL cs n) (selL cs n).length).first then [(mL (selL cs n) (selL cs n).length).out] else []:=by
 have hb:=DM.both_ways Leaf.Words (z:=⟨0,[]⟩) (l:=selL cs n)
 have e1:rF cs n cs.flatten=DM.rS Leaf.Words ⟨0,[]⟩ (selL cs n):=rfl
 have hm:=DM.mS_end Leaf.Words (z:=⟨0,[]⟩) (l:=selL cs n)
 have hr:=DM.rS_end Leaf.Words (z:=⟨0,[]⟩) (l:=selL cs n)
 unfold jPick
 rw[e1]
 change _=if (DM.mS Leaf.Words ⟨0,[]⟩ (selL cs n) (selL cs n).length).second < (DM.mS Leaf.Words ⟨0,[]⟩ (selL cs n) (selL cs n).length).first then [(DM.mS Leaf.Words ⟨0,[]⟩ (selL cs n) (selL cs n).length).out] else []
 by_cases h:(DM.mS Leaf.Words ⟨0,[]⟩ (selL cs n) (selL cs n).length).second < (DM.mS Leaf.Words ⟨0,[]⟩ (selL cs n) (selL cs n).length).first
 ·rw[if_pos h,if_pos (hb.1.1 h)]
  have w1:=hm.1 h
  have w2:=hr.1 (hb.1.1 h)
  have hw:=hb.2 h
  have num:∀x,x∈selL cs n→x.Number=n:=fun x hx=>of_decide_eq_true (List.mem_filter.1 hx).2
  have n1:=num _ w1.1
  have n2:=num _ w2.1
  generalize (DM.mS Leaf.Words ⟨0,[]⟩ (selL cs n) (selL cs n).length).out=u at hw n1
  generalize (DM.rS Leaf.Words ⟨0,[]⟩ (selL cs n)).best=v at hw n2
  obtain⟨un,uw⟩:=u
  obtain⟨vn,vw⟩:=v
  simp only at hw n1 n2
  rw[hw,n1,n2]
 ·rw[if_neg h,if_neg (fun k=>h (hb.1.2 k))]
theorem mL_first {l:List Leaf}(h:l≠[]):0 < (mL l l.length).first∧(mL l l.length).out∈l:=by
 have hi:=DM.MInv.all Leaf.Words (z:=⟨0,[]⟩) (l:=l) l.length (Nat.le_refl _)
 rw[List.take_length] at hi
 obtain⟨h1,h2⟩:=hi.out h
 have:=DM.cnt_pos Leaf.Words h1
 exact⟨by show 0 < (DM.mS Leaf.Words ⟨0,[]⟩ l l.length).first;omega,h1⟩
theorem jPick_num {cs:List (List Leaf)}{n:Int}{x:Leaf}(h:x∈jPick cs n):x.Number=n∧x∈cs.flatten:=by
 have ha:=rF_att (cs:=cs) (n:=n) cs.flatten
 unfold jPick at h
 split at h
 ·rename_i hp
  rw[List.mem_singleton.1 h]
  exact⟨(ha.2 hp.1).2,(ha.2 hp.1).1⟩
 ·cases h
theorem joinL_srt (cs:List (List Leaf)):∀N,(joinL cs N).Pairwise (fun x y=>x.Number < y.Number)∧∀x,x∈joinL cs N→(1≤x.Number∧x.Number≤N)∧x∈cs.flatten
 |0=>⟨List.Pairwise.nil,fun x h=>by cases h⟩
 |N+1=>by
  obtain⟨i1,i2⟩:=joinL_srt cs N
  rw[joinL_succ]
  refine⟨List.pairwise_append.2 ⟨i1,?_,fun x hx y hy=>?_⟩,fun x hx=>?_⟩
  ·have:=jPick_len cs ((N:Int)+1)
   match jPick cs ((N:Int)+1),this with
   |[],_=>exact List.Pairwise.nil
   |[_],_=>exact List.pairwise_singleton _ _
  ·have:=(i2 x hx).1
   have:=(jPick_num hy).1
   omega
  ·rcases List.mem_append.1 hx with hx|hx
   ·have:=(i2 x hx)
    exact⟨by omega,this.2⟩
   ·have:=(jPick_num hx)
    exact⟨by omega,this.2⟩
end Go.DL
