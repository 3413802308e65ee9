/- slices.Chunk. -/
import Derived.Test.YtmbbepdbjeciaaaGreatYv7
import Derived.Test.YtmbbepdbjeciaaaGreatYp1
import Derived.Test.YtmbbepdbjeciaaaGreatZy
import Derived.Test.YtmbbepdbjeciaaaGreatYu1
set_option maxRecDepth 100000
set_option maxHeartbeats 16000000
namespace Go.DL
open Go.Proofs Go
section
variable {P:Program}{H:List Blk}{s n:Nat}{al:AL}{tx te:TypeId}{x y z u:Operand}{a b c:Int}
theorem f_sl3L {α:Type}{f:α→List D}{l:List α}{lo hi sz:Nat}(hx:unfl (evA n al x)=.sl (l.map f))(hy:evA n al y=wI a)(hz:evA n al z=wI b)(hu:evA n al u=wI c)(ha:a=lo)(hb:b=hi)(hc:c=hi)(h1:lo < hi)(h2:hi≤l.length)
  (he:elemT P tx=some (te,sz)) (hf:∀w,(f w).length=sz):Val P H s n al (.slice tx x (some y) (some z) (some u)) (.sl (((l.take hi).drop lo).map f)):=by
 subst ha;subst hb;subst hc
 refine⟨?_⟩
 simp only[stepD,ev_T,sliceD,he,hx,Option.map_some,hy,hz,hu,bndD,intD,Option.isSome_some,reduceCtorEq,and_false,if_false]
 rw[if_neg (by omega),if_pos ⟨by omega,by omega,by omega,by rw[List.length_map];omega,by rw[List.all_map,List.all_eq_true];intro x _;simp[hf]⟩]
 simp[keepD,List.map_drop,List.map_take]
theorem f_arrP {len:Nat}{l:List Int}(hx:unfl (evA n al x)=.sl (l.map eI))(hu:P.underlying tx=some (.array len te))(h0:0 < len)(h1:len≤l.length):Val P H s n al (.sliceToArrayPointer tx x) (.rp (l.map wI)):=by
 refine⟨?_⟩
 have e:(l.map eI).flatten=l.map wI:=by
  clear hx h1
  induction l with
  |nil=>rfl
  |cons x r ih=>simp only[List.map_cons,List.flatten_cons,ih];rfl
 simp only[stepD,ev_T,arrPtrD,hu,hx]
 rw[if_pos ⟨h0,by rw[List.length_map];exact h1,by rw[List.all_map,List.all_eq_true];intro x _;rfl⟩,e]
 rfl
theorem f_minL {tys:Array TypeId}(hx:evA n al x=wI a)(hy:evA n al y=wI b)(h:a≤b):Val P H s n al (.call { callee:=.builtin .min,args:=#[x,y],argTypes:=tys }) (wI a):=by
 have h1:=f_min (P:=P) (H:=H) (s:=s) hx hy (tys:=tys)
 rwa [Int.min_eq_left h] at h1
end
def cseq (w:List Int)(n:Nat):List (List D):=(List.range n).map fun i=>[D.sl (((w.take (i*7+7)).drop (i*7)).map eI)]
theorem cseq_len (w:List Int)(n:Nat):(cseq w n).length=n:=by simp[cseq]
theorem cseq_get (w:List Int){n i:Nat}(h:i < n):(cseq w n)[i]? = some [D.sl (((w.take (i*7+7)).drop (i*7)).map eI)]:=by
 simp only[cseq,List.getElem?_map,List.getElem?_range h,Option.map_some]
theorem c_chunk {H:List Blk}{b k n c:Nat}:CallSp Tryz.prog 90 [.ms b k n c,wI 7] H fun d H'=>d=.fn (.func 141) [] [.mp H.length 0 0,.mp (H.length+1) 0 0]∧H'=H++[.live 1 [[.ms b k n c]],.live 1 [[wI 7]]]:=by
 refine CallSp.vt pok Tryz.f90 (n:=9) (rs:=[.tmp 4]) rfl rfl rfl rfl rfl rfl rfl fun g=>?_
 have hb7:(H++[.live 1 [[.ms b k n c]],.live 1 [[wI 7]]])[H.length+1]? = some (.live 1 [[wI 7]]):=hg_at (t:=1) rfl rfl
 repeat (any_goals (first|(apply w_any;(first|refine RT.nil ?_|refine RT.asA ?_|refine RT.v (f_ldO rfl hb7 rfl rfl rfl) ?_|refine RT.bnA ?_|(apply w_bx;(first|refine RT.new (s:=H.length+1) (by simp) (f_boxV rfl rfl rfl) (H':=H++[.live 1 [[.ms b k n c]],.live 1 [[wI 7]]]) (by rw[List.append_assoc];rfl) ?_|refine RT.nwA ?_))|refine RT.msA ?_))|(apply v_any;(first|refine VT.seq rfl ?_|refine VT.reg rfl ?_|refine VT.condF rfl rfl ?_|refine VT.skip rfl ?_|refine VT.ret rfl ?_))|(with_reducible refine d_kEr ?_;refine kEr rfl ?_)))
 exact⟨rfl,rfl⟩
theorem i_chunk (w:List Int)(n:Nat)(hw:w.length=7*n)(hn:n≤1000):Iter Tryz.prog 141 [] [.rp [.sl (w.map eI)],.rp [wI 7]] (cseq w n):=by
 refine Iter.vt pok Tryz.f141 (n:=31) rfl rfl rfl rfl (fun _=>rfl) rfl fun y=>?_
 repeat (any_goals (first|(apply w_any;(first|refine RT.nil ?_|refine RT.asA ?_))|(apply v_any;(first|refine VT.seq rfl ?_|refine VT.reg rfl ?_|refine VT.block rfl ?_))))
 refine VT.loop (fun j a H g'=>∃i:Nat,j=n-i∧i≤n∧a=[(0,.fn (.yield y) [] []),(1,.rp [.sl (w.map eI)]),(2,.rp [wI 7]),(4,wI (i*7:Nat))]∧H=[]∧g'=(i,false)) rfl
  ⟨_,_,_,⟨0,rfl,Nat.zero_le _,rfl,rfl,rfl⟩,fgA⟩ ?_
 rintro j a H g' ⟨i,rfl,hi,rfl,rfl,rfl⟩
 by_cases hlt:i < n
 ·have hlen:(w.drop (i*7)).length=7*n-i*7:=by rw[List.length_drop,hw]
  repeat (any_goals (first|(apply w_any;(first|refine RT.nil ?_|refine RT.mvA ?_|refine RT.asA ?_|refine RT.ldA ?_|refine RT.bnA ?_|refine RT.clA ?_|refine RT.unA ?_|refine RT.v (f_sl3L (lo:=i*7) (hi:=i*7+7) rfl rfl rfl rfl rfl (by omega) (by omega) (by omega) (by omega) rfl (fun _=>rfl)) ?_|refine RT.yield rfl ⟨rfl,i,rfl,cseq_get w hlt,?_,?_⟩))|(apply v_any;(first|refine VT.seq rfl ?_|refine VT.reg rfl ?_|refine VT.condT rfl rfl ?_|refine VT.condF rfl rfl ?_|refine VT.block rfl ?_|refine VT.skip rfl ?_|refine VT.ret rfl ?_|refine VT.draw [(0,[]),(0,[]),(0,[]),(0,[]),(0,[]),(0,[]),(0,[])] 1 mixedOk rfl (by decide +kernel) (by decide +kernel) (by decide +kernel) nrX nrX ?_|refine VT.condY rfl rfl (by first|assumption|omega) ?_))|(apply q_any;(first|refine PT.done nrX ?_|refine PT.mvA ?_|refine PT.asA ?_|refine PT.ldA ?_|(apply q_cl;(first|(refine p_call ?_;refine PT.v (f_minL rfl rfl (by omega)) ?_)|refine PT.clA ?_))|refine PT.msA ?_))|(with_reducible first|refine kSr ?_|refine kBr ?_|refine kLn ?_|refine kLr ?_)|(with_reducible refine d_kEr ?_;refine kEr rfl ?_)))
  ·exact⟨n-(i+1),by omega,_,_,⟨i+1,rfl,hlt,rfl,rfl,rfl⟩,fgA⟩
  ·exact .inr rfl
 ·repeat (any_goals (first|(apply w_any;(first|refine RT.nil ?_|refine RT.mvA ?_|refine RT.ldA ?_|refine RT.bnA ?_|refine RT.clA ?_))|(apply v_any;(first|refine VT.seq rfl ?_|refine VT.reg rfl ?_|refine VT.exit rfl ?_|refine VT.condN rfl rfl (by first|assumption|omega) ?_))|(with_reducible first|refine kSe ?_|refine kBe ?_|refine kLe ?_)|(with_reducible refine d_kEn ?_;refine kEn rfl ?_)))
  exact .inl (by rw[cseq_len];exact congrArg (·,false) (by omega))
end Go.DL

/- Reading: what both programs answer. -/
set_option maxRecDepth 100000
set_option maxHeartbeats 16000000
namespace Go.DL
open Go.Proofs Go
def linesOf (w:List Int)(n:Nat):List Line:=(List.range n).map fun i=>lineOfS ((w.drop (1+i*7)).take 7)
theorem linesOf_succ (w:List Int)(n:Nat):linesOf w (n+1)=linesOf w n++[lineOfS ((w.drop (1+n*7)).take 7)]:=by simp[linesOf,List.range_succ]
theorem linesOf_len (w:List Int)(n:Nat):(linesOf w n).length=n:=by simp[linesOf]
def ReadS (s:Shape)(d:List (List Int)):List Line × Int:=
 if CheckS s=0 then (if DataS s d=true then
  (if 60 < d.flatten.getD 0 0∨(d.flatten.length:Int) < 1+7*d.flatten.getD 0 0 then ([],7)
   else if (WriteS s (linesOf d.flatten (d.flatten.getD 0 0).toNat))=(d,0) then (linesOf d.flatten (d.flatten.getD 0 0).toNat,0) else ([],7)) else ([],1)) else ([],1)
theorem getD_dt (w:List Int)(o j:Nat)(hj:j < 7):((w.drop o).take 7).getD j 0=w.getD (o+j) 0:=by
 simp only[List.getD_eq_getElem?_getD,List.getElem?_take,if_pos hj,List.getElem?_drop]
theorem lineOf_dt (w:List Int)(o:Nat):lineOfS ((w.drop o).take 7)=⟨(w.getD (o+0) 0*65521+w.getD (o+1) 0)*65521+w.getD (o+2) 0,w.getD (o+3) 0,w.getD (o+4) 0,w.getD (o+5) 0*65521+w.getD (o+6) 0⟩:=by
 unfold lineOfS
 rw[getD_dt w o 0 (by decide),getD_dt w o 1 (by decide),getD_dt w o 2 (by decide),getD_dt w o 3 (by decide),getD_dt w o 4 (by decide),getD_dt w o 5 (by decide),getD_dt w o 6 (by decide)]
theorem WriteS_small (s:Shape)(l:List Line):(WriteS s l).1.length≤1000∧∀x,x∈(WriteS s l).1→x.length≤1000:=by
 have h0:((([]:List (List Int)),(1:Int)).1.length≤1000∧∀x,x∈(([]:List (List Int)),(1:Int)).1→x.length≤1000):=⟨by decide,fun x h=>by cases h⟩
 unfold WriteS
 rcases CheckS_cases s with⟨e,h⟩|⟨e,h⟩
 ·rw[if_pos e]
  split
  ·unfold writeS
   by_cases hf:(wordsS l).length≤s.Data.toNat*s.Width.toNat
   ·rw[if_pos hf]
    obtain⟨⟨h1,h2⟩,_,h4,h5⟩:=h
    refine⟨by simp[rowsOf];omega,fun x hx=>?_⟩
    obtain⟨k,_,rfl⟩:=List.mem_map.1 hx
    rw[List.length_drop,List.length_take,Nat.succ_mul];omega
   ·rw[if_neg hf];exact h0
  ·exact h0
 ·rw[if_neg (by omega)];exact h0
theorem snapRLn {lk:Nat→Option Blk}{b m cap k:Nat}{o:List Line}(h:lk b=some (.live 4 (o.map eLine)))(hm:m=o.length):snapR lk (k+1) (.ms b 0 m cap)=.fl (o.map eLine):=by
 subst hm
 simp only[snapR,h,Nat.zero_add,List.length_map,Nat.le_refl,if_true,List.drop_zero]
 rw[List.take_of_length_le (by simp),if_pos (List.all_eq_true.2 fun e he=>by obtain⟨x,_,rfl⟩:=List.mem_map.1 he;cases k<;>rfl),List.map_map]
 exact congrArg D.fl (List.map_congr_left fun x _=>by cases k<;>rfl)
end Go.DL

/- Read of the program. -/
set_option maxRecDepth 100000
set_option maxHeartbeats 16000000
namespace Go.DL
open Go.Proofs Go
theorem m_Read (s:Shape)(d:List (List Int))(hl:d.length≤4611686018427387904)(hd:∀x,x∈d→x.length≤4611686018427387904):Maps Tryz.prog 36 [dSh s,.sl (d.map eRow)] (.tup [.fl ((ReadS s d).1.map eLine),wI (ReadS s d).2]):=by
 refine Maps.vt pok Tryz.f36 (n:=71) (rs:=[.tmp 4,.tmp 5]) rfl rfl rfl rfl rfl rfl fun g=>?_
 have hk:=m_Check s
 have ha:=m_dataOf s d hl hd
 unfold ReadS
 rcases CheckS_cases s with⟨e,h⟩|⟨e,h⟩
 ·rw[e] at hk ⊢
  rw[if_pos rfl]
  cases qd:DataS s d with
  |true=>
   rw[qd] at ha
   rw[if_pos rfl]
   have hdw:=dataW_of h qd
   have hdl:(d.length:Int)=s.Data:=by
    unfold DataS at qd
    rw[Bool.and_eq_true,decide_eq_true_eq] at qd
    exact qd.1
   have hD1:1≤d.length:=by have:=h.1.1;omega
   obtain⟨W,hW⟩:∃W:Nat,s.Width.toNat=W:=⟨_,rfl⟩
   rw[hW] at hdw
   have hW1:1≤W:=by have:=h.2.2.1;omega
   have hW2:W≤32:=by have:=h.2.2.2;omega
   have hlen:d.flatten.length=d.length*W:=by
    rw[List.length_flatten,show d.map List.length=List.replicate d.length W from by
     refine List.eq_replicate_iff.2 ⟨by simp,fun x hx=>?_⟩
     obtain⟨r,hr,rfl⟩:=List.mem_map.1 hx
     exact (hdw.2 r hr).1]
    simp
   have hkw:d.length*W≤640:=Nat.mul_le_mul hdw.1 hW2
   have hk1:1≤d.length*W:=Nat.mul_le_mul hD1 hW1
   have hcc:=c_concat (H:=[.live 3 [eShape s]]) d W hdw.1 (fun r hr=>(hdw.2 r hr).1) hD1 hW1 hW2
   have hwW:∀j,0≤d.flatten.getD j 0∧d.flatten.getD j 0≤65520:=fun j=>by
    rw[List.getD_eq_getElem?_getD]
    cases hj:d.flatten[j]? with
    |none=>exact⟨Int.le_refl _,by decide⟩
    |some x=>
     obtain⟨r,hr,hx⟩:=List.mem_flatten.1 (List.mem_of_getElem? hj)
     exact (hdw.2 r hr).2 x hx
   generalize hw:d.flatten=w at hcc hlen hwW ⊢
   obtain⟨n,hn⟩:∃n:Nat,w.getD 0 0=n:=Int.eq_ofNat_of_zero_le (hwW 0).1
   rw[hn,Int.toNat_natCast]
   have hn2:=(hwW 0).2
   rw[hn] at hn2
   have hw0:w[0]? = some (n:Int):=by
    rw[List.getElem?_eq_getElem (by omega)]
    rw[←hn,List.getD_eq_getElem?_getD,List.getElem?_eq_getElem (by omega)];rfl
   by_cases h60:60 < (n:Int)
   ·rw[if_pos (.inl h60)]
    repeat (any_goals (first|(apply w_any;(first|refine RT.nil ?_|refine RT.gn rfl rfl ?_|refine RT.mvA ?_|refine RT.asA ?_|(apply w_ld;(first|refine RT.v (f_ldWE rfl rfl rfl hw0) ?_|refine RT.ldA ?_))|(apply w_bn;(first|refine RT.v (f_gtrT rfl rfl (by omega)) ?_|refine RT.bnA ?_))|(apply w_cl;(first|(refine d_call ?_;refine RT.callS rfl hcc rfl (d2:=.ms 2 0 w.length w.length) rfl (H2:=[.live 3 [eShape s],.dead,.live 1 (w.map eI)]) rfl ?_)|refine RT.callM rfl (hk) rfl rfl ?_|refine RT.callM rfl (ha) rfl rfl ?_))|refine RT.pkA ?_|refine RT.v (f_ixO0 (k:=0) rfl rfl rfl rfl rfl (by omega)) ?_|refine RT.unA ?_|refine RT.nwA ?_))|(apply v_any;(first|refine VT.seq rfl ?_|refine VT.reg rfl ?_|refine VT.condT rfl rfl ?_|refine VT.condF rfl rfl ?_|refine VT.skip rfl ?_|refine VT.ret rfl ?_))|with_reducible (refine kSr ?_)|(with_reducible refine d_kEr ?_;refine kEr rfl ?_)))
    rfl
   ·by_cases hbig:(w.length:Int) < 1+7*(n:Int)
    ·rw[if_pos (.inr hbig)]
     repeat (any_goals (first|(apply w_any;(first|refine RT.nil ?_|refine RT.gy rfl ?_|refine RT.mvA ?_|refine RT.asA ?_|(apply w_ld;(first|refine RT.v (f_ldWE rfl rfl rfl hw0) ?_|refine RT.ldA ?_))|(apply w_bn;(first|refine RT.v (f_gtrF rfl rfl (by omega)) ?_|refine RT.v (f_gtrT rfl rfl (by omega)) ?_|refine RT.bnA ?_))|(apply w_cl;(first|(refine d_call ?_;refine RT.callS rfl hcc rfl (d2:=.ms 2 0 w.length w.length) rfl (H2:=[.live 3 [eShape s],.dead,.live 1 (w.map eI)]) rfl ?_)|refine RT.callM rfl (hk) rfl rfl ?_|refine RT.callM rfl (ha) rfl rfl ?_|refine RT.clA ?_))|refine RT.pkA ?_|refine RT.v (f_ixO0 (k:=0) rfl rfl rfl rfl rfl (by omega)) ?_|refine RT.unA ?_|refine RT.nwA ?_))|(apply v_any;(first|refine VT.seq rfl ?_|refine VT.reg rfl ?_|refine VT.condT rfl rfl ?_|refine VT.condF rfl rfl ?_|refine VT.skip rfl ?_|refine VT.ret rfl ?_))|with_reducible (refine kSr ?_)|(with_reducible refine d_kEr ?_;refine kEr rfl ?_)))
     rfl
    ·rw[if_neg (by omega)]
     repeat (any_goals (first|(apply w_any;(first|refine RT.nil ?_|refine RT.gy rfl ?_|refine RT.mvA ?_|refine RT.asA ?_|(apply w_ld;(first|refine RT.v (f_ldWE rfl rfl rfl hw0) ?_|refine RT.ldA ?_))|(apply w_bn;(first|refine RT.v (f_gtrF rfl rfl (by omega)) ?_|refine RT.bnA ?_))|(apply w_cl;(first|(refine d_call ?_;refine RT.callS rfl hcc rfl (d2:=.ms 2 0 w.length w.length) rfl (H2:=[.live 3 [eShape s],.dead,.live 1 (w.map eI)]) rfl ?_)|(refine d_call ?_;refine RT.callS rfl (c_chunk (H:=[.live 3 [eShape s],.dead,.live 1 (w.map eI),.live 1 [[.nil]]]) (b:=2) (k:=1) (n:=1+7*n-1) (c:=w.length-1)) rfl rfl rfl ?_)|refine RT.callM rfl (hk) rfl rfl ?_|refine RT.callM rfl (ha) rfl rfl ?_|refine RT.clA ?_))|refine RT.pkA ?_|refine RT.v (f_ixO0 (k:=0) rfl rfl rfl rfl rfl (by omega)) ?_|refine RT.unA ?_|refine RT.nwA ?_|refine RT.v (f_slB (lo:=1) (hi:=1+7*n) rfl rfl rfl rfl (by omega) (by omega) (by omega) rfl rfl) ?_))|(apply v_any;(first|refine VT.seq rfl ?_|refine VT.reg rfl ?_|refine VT.condF rfl rfl ?_|refine VT.block rfl ?_|refine VT.skip rfl ?_))))
     obtain⟨w',hw'⟩:∃w',w'=(w.take (1+7*n)).drop 1:=⟨_,rfl⟩
     have hwl:w'.length=7*n:=by rw[hw',List.length_drop,List.length_take];omega
     have hck:∀i,i < n→(w'.take (i*7+7)).drop (i*7)=[w.getD (1+i*7+0) 0,w.getD (1+i*7+1) 0,w.getD (1+i*7+2) 0,w.getD (1+i*7+3) 0,w.getD (1+i*7+4) 0,w.getD (1+i*7+5) 0,w.getD (1+i*7+6) 0]:=fun i hi=>by
      have hg:∀j,j < 7→((w'.take (i*7+7)).drop (i*7))[j]? = some (w.getD (1+i*7+j) 0):=fun j hj=>by
       rw[List.getElem?_drop,List.getElem?_take,if_pos (by omega),hw',List.getElem?_drop,List.getElem?_take,if_pos (by omega),show 1+(i*7+j)=1+i*7+j by omega,List.getD_eq_getElem?_getD,List.getElem?_eq_getElem (by omega)];rfl
      have hl7:((w'.take (i*7+7)).drop (i*7)).length=7:=by rw[List.length_drop,List.length_take,hwl];omega
      generalize (w'.take (i*7+7)).drop (i*7)=c at hg hl7
      match c,hl7 with
      |[x0,x1,x2,x3,x4,x5,x6],_=>
       have g0:=hg 0 (by decide);have g1:=hg 1 (by decide);have g2:=hg 2 (by decide);have g3:=hg 3 (by decide);have g4:=hg 4 (by decide);have g5:=hg 5 (by decide);have g6:=hg 6 (by decide)
       simp only[List.getElem?_cons_zero,List.getElem?_cons_succ,Option.some.injEq] at g0 g1 g2 g3 g4 g5 g6
       rw[g0,g1,g2,g3,g4,g5,g6]
     refine VT.range (cseq w' n) [2,4,5] (fun i H=>H[0]? = some (.live 3 [eShape s])∧∃c,H[3]? = some (.live 1 [[c]])∧((i=0∧c=.nil)∨(0 < i∧∃q,c=.ms q 0 i i∧4≤q∧H[q]? = some (.live 4 ((linesOf w i).map eLine))))) rfl rfl rfl rfl rfl ?_ (i_chunk w' n hwl (by omega)) ?_ ?_ ?_ ?_
     ·have hb:sel [2,4,5] ([Blk.live 3 [eShape s],.dead,.live 1 (w.map eI),.live 1 [[.nil]]]++[.live 1 [[.ms 2 1 (1+7*n-1) (w.length-1)]],.live 1 [[wI 7]]]) 2=some (.live 1 (w.map eI)):=rfl
      have hms:snap (sel [2,4,5] ([Blk.live 3 [eShape s],.dead,.live 1 (w.map eI),.live 1 [[.nil]]]++[.live 1 [[.ms 2 1 (1+7*n-1) (w.length-1)]],.live 1 [[wI 7]]])) 4 (.ms 2 1 (1+7*n-1) (w.length-1))=.sl (w'.map eI):=by
       simp only[snap,hb]
       rw[if_pos (by rw[List.length_map];omega),show 1+(1+7*n-1)=1+7*n by omega,←List.map_take,←List.map_drop,←hw',eI_map _ _ fun x=>rfl]
      exact congrArg (fun x=>[D.rp [x],D.rp [wI 7]]) hms
     ·intro i args hg
      have hi:i < n:=by rw[←cseq_len w' n];exact (List.getElem?_eq_some_iff.1 hg).1
      rw[cseq_get w' hi] at hg;cases hg;exact⟨rfl,rfl⟩
     ·exact⟨rfl,.nil,rfl,.inl ⟨rfl,rfl⟩⟩
     ·intro i args H hg hJ
      have hi:i < n:=by rw[←cseq_len w' n];exact (List.getElem?_eq_some_iff.1 hg).1
      rw[cseq_get w' hi,hck i hi] at hg;cases hg
      obtain⟨hb0,c,hb3,hc⟩:=hJ
      have hH3:=hg_lt hb3
      have b0:=hwW (1+i*7+0)
      have b1:=hwW (1+i*7+1)
      have b2:=hwW (1+i*7+2)
      have b5:=hwW (1+i*7+5)
      have b6:=hwW (1+i*7+6)
      have hlo:=m_lineOf (w.getD (1+i*7+0) 0) (w.getD (1+i*7+1) 0) (w.getD (1+i*7+2) 0) (w.getD (1+i*7+3) 0) (w.getD (1+i*7+4) 0) (w.getD (1+i*7+5) 0) (w.getD (1+i*7+6) 0) b0 b1 b2 b5 b6
      have hx:=lineOf_dt w (1+i*7)
      have hx2:lineOfS [w.getD (1+i*7+0) 0,w.getD (1+i*7+1) 0,w.getD (1+i*7+2) 0,w.getD (1+i*7+3) 0,w.getD (1+i*7+4) 0,w.getD (1+i*7+5) 0,w.getD (1+i*7+6) 0]=lineOfS ((w.drop (1+i*7)).take 7):=hx.symm
      rw[hx2] at hlo
      have hls:=linesOf_succ w i
      generalize lineOfS ((w.drop (1+i*7)).take 7)=x at hlo hls
      repeat (any_goals (first|(apply w_any;(first|refine RT.nil ?_|refine RT.asA ?_))|refine VT.reg rfl ?_))
      refine⟨rfl,?_⟩
      rcases hc with⟨rfl,rfl⟩|⟨hi0,q,rfl,hq4,hq⟩
      ·repeat (any_goals (first|(apply v_any;(first|refine VT.block rfl ?_|refine VT.drawS [3] 1 [none,none,none,none,none,none,none,some 0] [(4,[1,2,3,4],none),(4,[1,2,3,4],none),(4,[1,2,3,4],none),(4,[1,2,3,4],none),(0,[1,2,3,4],none),(1,[2,3,4],none),(2,[3,4],none),(3,[4],some 0)] 5 rfl (by first|(simp;done)|(simp;omega)) (by first|(simp;done)|(simp;omega)) mixedOk rfl (by decide +kernel) (by decide +kernel) (by decide +kernel) rfl (H1:=H++[.free,.free,.free,.free,.free]) rfl ?_))|(apply s_any;(first|refine ST.done (dropLn (H.set 3 _) [_,_,_,_] .free) ?_|refine ST.mvA ?_|(apply s_ld;(first|refine ST.v (f_ldO rfl hgX rfl rfl rfl) ?_|refine ST.v (f_ldA rfl rfl rfl rfl rfl) ?_))|(apply s_cl;(first|refine ST.callM (d:=.agg (eLine x)) rfl hlo rfl rfl ?_|refine ST.apN rfl rfl (s':=H.length+2) (k:=.live 4 ([x].map eLine)) (m:=1) (H':=H++[.free,.live 4 [eLine x],.live 4 ([x].map eLine),.free,.free]) (by exact f_appT0 (f:=eLine) (v:=[x]) (mm:=1) (by':=32) rfl rfl hgX rfl rfl rfl (by decide) rfl rfl (fun _=>⟨rfl,rfl⟩) (by simp) (by simp)) (by exact setLen (i:=2) (T':=[.free,.live 4 [eLine x],.live 4 ([x].map eLine),.free,.free]) rfl rfl) ?_))|refine ST.wr (q:=0) (b:=3) rfl rfl (f_stV (d:=.ms (H.length+2) 0 1 1) rfl hgX rfl rfl rfl rfl rfl) (List.set_append_left _ _ hH3) ?_|refine ST.new rfl (s':=H.length+1) rfl (f_bslA1 rfl rfl rfl rfl rfl rfl) (setLen (i:=1) (T':=[.free,.live 4 [eLine x],.free,.free,.free]) rfl rfl) ?_|refine ST.v (f_arrP (l:=[w.getD (1+0*7+0) 0,w.getD (1+0*7+1) 0,w.getD (1+0*7+2) 0,w.getD (1+0*7+3) 0,w.getD (1+0*7+4) 0,w.getD (1+0*7+5) 0,w.getD (1+0*7+6) 0]) rfl rfl (by decide) (Nat.le_refl 7)) ?_))|with_reducible (refine kBn ?_)))
       exact⟨hg_app _ (hg_ne hb0 (by decide)),_,hg_app _ (hg_self hH3),.inr ⟨Nat.succ_pos _,H.length+2,rfl,by omega,by rw[hls];exact hg_at (t:=2) (by simp) rfl⟩⟩
      ·have hql:=hg_lt hq
       have hll:=linesOf_len w i
       repeat (any_goals (first|(apply v_any;(first|refine VT.block rfl ?_|refine VT.drawS [q,3] 2 [none,none,none,none,none,none,some 0,some 1] [(4,[2,3,4,5],none),(4,[2,3,4,5],none),(4,[2,3,4,5],none),(4,[2,3,4,5],none),(0,[2,3,4,5],none),(1,[3,4,5],none),(2,[4,5],some 0),(3,[5],some 1)] 5 rfl (by first|(simp;done)|(simp;omega)) (by first|(simp;done)|(simp;omega)) mixedOk rfl (by decide +kernel) (by decide +kernel) (by decide +kernel) rfl (H1:=H++[.free,.free,.free,.free,.free]) rfl ?_))|(apply s_any;(first|refine ST.done (dropLn ((H.set q .dead).set 3 _) [_,_,_,_] .free) ?_|refine ST.mvA ?_|(apply s_ld;(first|refine ST.v (f_ldO rfl hgX rfl rfl rfl) ?_|refine ST.v (f_ldA rfl rfl rfl rfl rfl) ?_))|(apply s_cl;(first|refine ST.callM (d:=.agg (eLine x)) rfl hlo rfl rfl ?_|refine ST.ap (q:=0) (b:=q) rfl rfl (s':=H.length+2) rfl (k:=.live 4 ((linesOf w i++[x]).map eLine)) (m:=i+1) (H':=H.set q .dead++[.free,.live 4 [eLine x],.live 4 ((linesOf w i++[x]).map eLine),.free,.free]) (by exact f_appT (f:=eLine) (o:=linesOf w i) (v:=[x]) (mm:=i+1) (by':=32) rfl rfl hgX (List.take_of_length_le (by rw[List.length_map];omega)) (by rw[List.length_map];omega) hgX (by omega) rfl (by simp[hll]) rfl (by decide) rfl rfl (fun _=>⟨rfl,rfl⟩) (by simp;omega) (by simp;omega)) (by exact killLen (T':=[.free,.live 4 [eLine x],.live 4 ((linesOf w i++[x]).map eLine),.free,.free]) hql rfl rfl) ?_))|refine ST.wr (q:=1) (b:=3) rfl rfl (f_stV (d:=.ms (H.length+2) 0 (i+1) (i+1)) rfl hgX rfl rfl rfl rfl rfl) (List.set_append_left _ _ (by rw[List.length_set];exact hH3)) ?_|refine ST.new rfl (s':=H.length+1) rfl (f_bslA1 rfl rfl rfl rfl rfl rfl) (setLen (i:=1) (T':=[.free,.live 4 [eLine x],.free,.free,.free]) rfl rfl) ?_|refine ST.v (f_arrP (l:=[w.getD (1+i*7+0) 0,w.getD (1+i*7+1) 0,w.getD (1+i*7+2) 0,w.getD (1+i*7+3) 0,w.getD (1+i*7+4) 0,w.getD (1+i*7+5) 0,w.getD (1+i*7+6) 0]) rfl rfl (by decide) (Nat.le_refl 7)) ?_))|with_reducible (refine kBn ?_)))
       exact⟨hg_app _ (hg_ne (hg_ne hb0 (by omega)) (by decide)),_,hg_app _ (hg_self (by rw[List.length_set];exact hH3)),.inr ⟨Nat.succ_pos _,H.length+2,rfl,by omega,by rw[hls];exact hg_at (t:=2) (by simp) rfl⟩⟩
     ·intro H hJ
      rw[cseq_len] at hJ
      obtain⟨hb0,c,hb3,hc⟩:=hJ
      have hll:=linesOf_len w n
      have hcS:snap (fun b=>H[b]?) 5 c=.sl ((linesOf w n).map eLine):=by
       rcases hc with⟨rfl,rfl⟩|⟨_,q,rfl,_,hq⟩
       ·rfl
       ·exact snapLn (k:=4) hq hll.symm
      have hcR:snapR (fun b=>H[b]?) 4 c=.fl ((linesOf w n).map eLine):=by
       rcases hc with⟨rfl,rfl⟩|⟨_,q,rfl,_,hq⟩
       ·rfl
       ·exact snapRLn (k:=3) hq hll.symm
      generalize linesOf w n=L at hcS hcR hll ⊢
      have hcl:=m_CheckLines L (by omega)
      have hsn1:([c]:List D).map (snap (fun b=>H[b]?) 5)=[.sl (L.map eLine)]:=congrArg (fun x=>[x]) hcS
      have hsn2:([.agg (eShape s),c]:List D).map (snap (fun b=>H[b]?) 5)=[dSh s,.sl (L.map eLine)]:=congrArg (fun x=>[dSh s,x]) hcS
      have hsz:=WriteS_small s L
      unfold WriteS at hsz ⊢
      rw[if_pos e] at hsz
      rw[if_pos e]
      by_cases hz:CheckLinesS L=0
      ·rw[hz] at hcl
       rw[if_pos hz]
       have hok:=(checkLines_iff L).1 hz
       have hwr:=m_write s h L hok.1 hok.ok
       cases hws:writeS s L with
       |none=>
        rw[hws] at hwr
        change Maps _ _ _ (D.tup [.fl [],wB false]) at hwr
        rw[if_neg (fun h=>by cases h)]
        repeat (any_goals (first|(apply w_any;(first|refine RT.nil ?_|refine RT.gn rfl rfl ?_|refine RT.mvA ?_|refine RT.asA ?_|(apply w_ld;(first|refine RT.v (f_ldO rfl hb3 rfl rfl rfl) ?_|refine RT.v (f_ldOW rfl hb0 rfl rfl rfl rfl) ?_))|refine RT.bnA ?_|(apply w_cl;(first|(refine d_call ?_;refine RT.callM rfl hcl hsn1 rfl ?_)|(refine d_call ?_;refine RT.callM rfl hwr hsn2 rfl ?_)))|refine RT.pkA ?_|refine RT.exA ?_|refine RT.unA ?_))|(apply v_any;(first|refine VT.seq rfl ?_|refine VT.reg rfl ?_|refine VT.condT rfl rfl ?_|refine VT.condF rfl rfl ?_|refine VT.skip rfl ?_|refine VT.ret rfl ?_))|with_reducible (refine kSr ?_)|(with_reducible refine d_kEr ?_;refine kEr rfl ?_)))
        rfl
       |some r=>
        rw[hws] at hwr
        change Maps _ _ _ (D.tup [.fl (r.map eRow),wB true]) at hwr
        rw[if_pos hz,hws] at hsz
        obtain⟨hz1,hz2⟩:=hsz
        dsimp only at hz1 hz2
        have hsd:=m_sameData r d (by omega) hl (fun x hx=>by have:=hz2 x hx;omega) hd
        by_cases hrd:r=d
        ·rw[decide_eq_true hrd] at hsd
         rw[if_pos (by rw[hrd])]
         repeat (any_goals (first|(apply w_any;(first|refine RT.nil ?_|refine RT.gy rfl ?_|refine RT.mvA ?_|(apply w_as;(first|refine RT.v (f_as (d:=c) rfl) ?_|refine RT.asA ?_))|(apply w_ld;(first|refine RT.v (f_ldO rfl hb3 rfl rfl rfl) ?_|refine RT.v (f_ldOW rfl hb0 rfl rfl rfl rfl) ?_))|refine RT.bnA ?_|(apply w_cl;(first|(refine d_call ?_;refine RT.callM rfl hcl hsn1 rfl ?_)|(refine d_call ?_;refine RT.callM rfl hwr hsn2 rfl ?_)|refine RT.callM rfl (hsd) rfl rfl ?_))|refine RT.pkA ?_|refine RT.exA ?_|refine RT.unA ?_))|(apply v_any;(first|refine VT.seq rfl ?_|refine VT.reg rfl ?_|refine VT.condF rfl rfl ?_|refine VT.skip rfl ?_|refine VT.ret rfl ?_))|(with_reducible refine d_kEr ?_;refine kEr rfl ?_)))
         exact congrArg (fun x=>D.tup [x,wI 0]) hcR
        ·rw[decide_eq_false hrd] at hsd
         rw[if_neg (fun h=>hrd (congrArg Prod.fst h))]
         repeat (any_goals (first|(apply w_any;(first|refine RT.nil ?_|refine RT.gy rfl ?_|refine RT.mvA ?_|refine RT.asA ?_|(apply w_ld;(first|refine RT.v (f_ldO rfl hb3 rfl rfl rfl) ?_|refine RT.v (f_ldOW rfl hb0 rfl rfl rfl rfl) ?_))|refine RT.bnA ?_|(apply w_cl;(first|(refine d_call ?_;refine RT.callM rfl hcl hsn1 rfl ?_)|(refine d_call ?_;refine RT.callM rfl hwr hsn2 rfl ?_)|refine RT.callM rfl (hsd) rfl rfl ?_))|refine RT.pkA ?_|refine RT.exA ?_|refine RT.unA ?_))|(apply v_any;(first|refine VT.seq rfl ?_|refine VT.reg rfl ?_|refine VT.condT rfl rfl ?_|refine VT.condF rfl rfl ?_|refine VT.skip rfl ?_|refine VT.ret rfl ?_))|with_reducible (refine kSr ?_)|(with_reducible refine d_kEr ?_;refine kEr rfl ?_)))
         rfl
      ·rw[if_neg hz,if_neg (fun h=>hz (congrArg Prod.snd h))]
       repeat (any_goals (first|(apply w_any;(first|refine RT.nil ?_|refine RT.asA ?_|refine RT.v (f_ldO rfl hb3 rfl rfl rfl) ?_|refine RT.bnA ?_|(refine d_call ?_;refine RT.callM rfl hcl hsn1 rfl ?_)))|(apply v_any;(first|refine VT.seq rfl ?_|refine VT.reg rfl ?_|refine VT.ret rfl ?_|refine VT.condY rfl rfl (by first|assumption|omega) ?_))|with_reducible (refine kSr ?_)|(with_reducible refine d_kEr ?_;refine kEr rfl ?_)))
       rfl
  |false=>
   rw[qd] at ha
   rw[if_neg (by simp)]
   repeat (any_goals (first|(apply w_any;(first|refine RT.nil ?_|refine RT.mvA ?_|refine RT.asA ?_|refine RT.ldA ?_|refine RT.bnA ?_|(apply w_cl;(first|refine RT.callM rfl (hk) rfl rfl ?_|refine RT.callM rfl (ha) rfl rfl ?_))|refine RT.unA ?_|refine RT.nwA ?_))|(apply v_any;(first|refine VT.seq rfl ?_|refine VT.reg rfl ?_|refine VT.condT rfl rfl ?_|refine VT.condF rfl rfl ?_|refine VT.skip rfl ?_|refine VT.ret rfl ?_))|with_reducible (refine kSr ?_)|(with_reducible refine d_kEr ?_;refine kEr rfl ?_)))
   rfl
 ·rw[e] at hk ⊢
  rw[if_neg (by decide)]
  repeat (any_goals (first|(apply w_any;(first|refine RT.nil ?_|refine RT.mvA ?_|refine RT.asA ?_|refine RT.ldA ?_|refine RT.bnA ?_|refine RT.callM rfl (hk) rfl rfl ?_|refine RT.nwA ?_))|(apply v_any;(first|refine VT.seq rfl ?_|refine VT.reg rfl ?_|refine VT.condT rfl rfl ?_|refine VT.ret rfl ?_))|with_reducible (refine kSr ?_)|(with_reducible refine d_kEr ?_;refine kEr rfl ?_)))
  rfl
end Go.DL

/- LeavesBooks, plain: Read of Write; Known on a later day; Merge in either order, and once more. -/
set_option maxRecDepth 100000
set_option maxHeartbeats 4000000
namespace Go.DL
open Go.Proofs Go
theorem line_back {x:Line}(h:lineV x=true):lineOfS (wordsOf x)=x:=by
 obtain⟨a,b,c,d⟩:=x
 simp only[lineOfS,wordsOf,List.getD_cons_zero,List.getD_cons_succ]
 congr 1
 ·omega
 ·omega
theorem flat7:∀(l:List Line) (i:Nat) (x:Line) (T:List Int),l[i]? = some x→((l.flatMap wordsOf++T).drop (i*7)).take 7=wordsOf x
 |[],_,_,_,h=>by simp at h
 |y::l,0,x,T,h=>by
  simp only[List.getElem?_cons_zero,Option.some.injEq] at h
  subst h
  rw[Nat.zero_mul,List.drop_zero,List.flatMap_cons,List.append_assoc,List.take_append_of_le_length (by simp[wordsOf])]
  rfl
 |y::l,i+1,x,T,h=>by
  rw[List.getElem?_cons_succ] at h
  have ih:=flat7 l i x T h
  rw[List.flatMap_cons,List.append_assoc]
  have e:(wordsOf y++(l.flatMap wordsOf++T)).drop ((i+1)*7)=(l.flatMap wordsOf++T).drop (i*7):=by
   rw[List.drop_append]
   have e1:(wordsOf y).length=7:=rfl
   rw[e1,List.drop_of_length_le (by rw[e1];omega),List.nil_append]
   congr 1;omega
  rw[e];exact ih
theorem lines_back {l:List Line}(h:∀x,x∈l→lineV x=true)(T:List Int):linesOf (wordsS l++T) l.length=l:=by
 refine List.ext_getElem? fun i=>?_
 unfold linesOf
 by_cases hi:i < l.length
 ·obtain⟨x,hx⟩:∃x,l[i]? = some x:=⟨_,List.getElem?_eq_getElem hi⟩
  rw[List.getElem?_map,List.getElem?_range hi,hx,Option.map_some]
  have e:((wordsS l++T).drop (1+i*7)).take 7=wordsOf x:=by
   have:(wordsS l++T).drop (1+i*7)=(l.flatMap wordsOf++T).drop (i*7):=by
    show (((l.length:Int)::l.flatMap wordsOf)++T).drop (1+i*7)=_
    rw[Nat.add_comm,List.cons_append,List.drop_succ_cons]
   rw[this];exact flat7 l i x T hx
  rw[e,line_back (h x (List.mem_of_getElem? hx))]
 ·rw[List.getElem?_eq_none (by simp;omega),List.getElem?_eq_none (by omega)]
theorem rows_flat {W:Nat}{w:List Int}:∀D:Nat,D*W≤w.length→(rowsOf D W w).flatten=w.take (D*W)
 |0,_=>by simp[rowsOf]
 |D+1,h=>by
  have h2:D*W≤(D+1)*W:=Nat.mul_le_mul_right _ (by omega)
  rw[rowsOf_succ,List.flatten_append,rows_flat D (by omega),List.flatten_cons,List.flatten_nil,List.append_nil]
  have e:w.take (D*W)=(w.take ((D+1)*W)).take (D*W):=by rw[List.take_take,Nat.min_eq_left h2]
  rw[e,List.take_append_drop]
theorem pad_mem {n:Nat}{w:List Int}(h:∀x,x∈w→W x):∀x,x∈padS n w→W x:=by
 intro x hx
 rcases List.mem_append.1 hx with hx|hx
 ·exact h x hx
 ·rw[List.eq_of_mem_replicate hx];exact⟨by decide,by decide⟩
theorem read_write {s:Shape}{l:List Line}(h:(WriteS s l).2=0):ReadS s (WriteS s l).1=(l,0):=by
 have hW:WriteS s l=((WriteS s l).1,0):=by rw[←h]
 generalize hr:(WriteS s l).1=r at hW ⊢
 rcases CheckS_cases s with⟨e,hk⟩|⟨e,hk⟩
 ·unfold WriteS at hW
  rw[e,if_pos rfl] at hW
  by_cases h2:CheckLinesS l=0
  ·rw[if_pos h2] at hW
   have hok:=(checkLines_iff l).1 h2
   unfold writeS at hW
   by_cases hfit:(wordsS l).length≤s.Data.toNat*s.Width.toNat
   ·rw[if_pos hfit] at hW
    simp only[Prod.mk.injEq,and_true] at hW
    have hpl:=padS_len hfit
    have hfl:r.flatten=padS (s.Data.toNat*s.Width.toNat) (wordsS l):=by
     rw[←hW,rows_flat _ (by rw[hpl];exact Nat.le_refl _),List.take_of_length_le (by rw[hpl];exact Nat.le_refl _)]
    have hlen:(wordsS l).length=1+7*l.length:=by
     show (l.flatMap wordsOf).length+1=_
     rw[words_len];omega
    have h0:r.flatten.getD 0 0=(l.length:Int):=by rw[hfl];rfl
    have hn:r.flatten.length=s.Data.toNat*s.Width.toNat:=by rw[hfl,hpl]
    have hD:DataS s r=true:=by
     have hrows:r=rowsOf s.Data.toNat s.Width.toNat (padS (s.Data.toNat*s.Width.toNat) (wordsS l)):=hW.symm
     have hk1:=hk
     obtain⟨⟨q1,q2⟩,q3,q4,q5⟩:=hk
     have hm:=pad_mem (n:=s.Data.toNat*s.Width.toNat) (words_W hok)
     unfold DataS
     rw[Bool.and_eq_true,decide_eq_true_eq,List.all_eq_true]
     refine⟨?_,fun x hx=>?_⟩
     ·rw[hrows];unfold rowsOf;rw[List.length_map,List.length_range];omega
     ·rw[hrows] at hx
      unfold rowsOf at hx
      obtain⟨k,hk,rfl⟩:=List.mem_map.1 hx
      have hk2:=List.mem_range.1 hk
      have hl:=row_len hpl hk2
      unfold rowOk
      rw[Bool.and_eq_true,decide_eq_true_eq,List.all_eq_true]
      exact⟨by rw[hl];exact Int.toNat_of_nonneg (by omega),fun a ha=>decide_eq_true (hm a (List.mem_of_mem_take (List.mem_of_mem_drop ha)))⟩
    unfold ReadS
    rw[e,if_pos rfl,if_pos hD,h0,hn,if_neg (by have:=hok.1;omega),hfl,Int.toNat_natCast]
    have hb:=lines_back hok.2.1 (List.replicate (s.Data.toNat*s.Width.toNat-(wordsS l).length) 0)
    change linesOf (padS _ (wordsS l)) l.length=l at hb
    rw[hb,if_pos ?_]
    unfold WriteS
    rw[e,if_pos rfl,if_pos h2]
    unfold writeS
    rw[if_pos hfit]
    simp only[hW]
   ·rw[if_neg hfit] at hW
    simp at hW
  ·rw[if_neg h2] at hW
   simp only[Prod.mk.injEq] at hW
   exact absurd hW.2 h2
 ·unfold WriteS at hW
  rw[e,if_neg (by decide)] at hW
  simp at hW
theorem NoFk.sub {a b:List Line}(h:NoFk a)(hs:∀x,x∈b→x∈a):NoFk b:=fun x hx y hy=>h x (hs x hx) y (hs y hy)
end Go.DL

/- Shelves: Store of both. -/
set_option maxRecDepth 100000
set_option maxHeartbeats 16000000
namespace Go.DL
open Go.Proofs Go
section
variable {H H' H2:List Blk}{lab lab' lab2:Lab}{sd c p cb i:Nat}{v:D}{l:List (Nat × Leaf)}{s:Shape}{rows:List (D × List (Nat × Leaf))}
theorem ShAt.setRow (h:ShAt H lab sd p cb s rows)(hi:i < rows.length)(hcs:H'[cb]? = some (.live 1 ((rows.map fun r=>[r.1]).set i [v])))(hk:∀b x,H[b]? = some x→b≠cb→(lab b).1=sd→(lab b).2.1≠i+1→H'[b]? = some x)
  (hl:∀b,b < H.length→lab' b=lab b) (hrow:RowAt H' lab' sd i v l):ShAt H' lab' sd p cb s (rows.set i (v,l)):=by
 have hpl:=hg_lt h.hd
 have hcl:=hg_lt h.cs
 have hpc:p≠cb:=fun e=>by
  have h1:=h.lp;have h2:=h.lc
  rw[e,h2] at h1;simp at h1
 refine⟨?_,?_,(hl p hpl).trans h.lp,(hl cb hcl).trans h.lc,fun k r hr=>?_⟩
 ·rw[List.length_set]
  exact hk p _ h.hd hpc (by rw[h.lp]) (by rw[h.lp];simp)
 ·rw[hcs,List.map_set]
 ·by_cases e:i=k
  ·subst e
   rw[List.getElem?_set_self hi] at hr
   cases hr;exact hrow
  ·rw[List.getElem?_set_ne e] at hr
   refine (h.row k r hr).keep fun b x hb h1 h2=>⟨hk b x hb (fun e2=>?_) h1 (by omega),hl b (hg_lt hb)⟩
   rw[e2,h.lc] at h2;simp at h2
theorem FrL.trans (h:FrL H H' lab lab' sd)(k:FrL H' H2 lab' lab2 sd):FrL H H2 lab lab2 sd:=
 ⟨Nat.le_trans h.len k.len,fun b hb=>(k.lb b (Nat.lt_of_lt_of_le hb h.len)).trans (h.lb b hb),fun b hb hn=>(k.same b (Nat.lt_of_lt_of_le hb h.len) (by rw[h.lb b hb];exact hn)).trans (h.same b hb hn)⟩
end
section
variable {H:List Blk}{lab:Lab}{sd p cb s' n c:Nat}{al:AL}{x:Operand}{s:Shape}{rows:List (D × List (Nat × Leaf))}
theorem f_ldSh (h:ShAt H lab sd p cb s rows)(hx:evA n al x=.mp p 0 0):Val Tryz.prog H s' n al (.load 23 x) (dSh s):=f_ldOA (m:=3) hx h.hd rfl rfl rfl (Nat.le_succ 3)
theorem f_ldCs (h:ShAt H lab sd p cb s rows)(hx:evA n al x=.mp p 0 3):Val Tryz.prog H s' n al (.load 74 x) (.ms cb 0 rows.length rows.length):=f_ldO hx h.hd rfl rfl rfl
end
theorem WriteS_dataW {s:Shape}{l:List Line}(h:(WriteS s l).2=0):CkOk s∧dataW s.Width.toNat (WriteS s l).1:=by
 unfold WriteS at h ⊢
 rcases CheckS_cases s with⟨e,hk⟩|⟨e,hk⟩
 ·rw[if_pos e] at h ⊢
  by_cases h2:CheckLinesS l=0
  ·rw[if_pos h2] at h ⊢
   have hok:=(checkLines_iff l).1 h2
   refine⟨hk,?_⟩
   unfold writeS at h ⊢
   by_cases hf:(wordsS l).length≤s.Data.toNat*s.Width.toNat
   ·rw[if_pos hf]
    obtain⟨⟨h1,h3⟩,_,h4,h5⟩:=hk
    refine⟨by simp[rowsOf];omega,fun r hr=>?_⟩
    obtain⟨k,hk,rfl⟩:=List.mem_map.1 hr
    rw[List.mem_range] at hk
    exact⟨row_len (padS_len hf) hk,fun x hx=>pad_mem (words_W hok) x (List.mem_of_mem_take (List.mem_of_mem_drop hx))⟩
   ·rw[if_neg hf] at h;cases h
  ·rw[if_neg h2] at h;exact absurd h h2
 ·rw[if_neg (by omega)] at h;cases h
theorem row_new {H H':List Blk}{lab:Lab}{sd i r o N w:Nat}{d:List (List Int)}(hro:r < o)(hr:H'[H.length+r]? = some (.live 2 ((wlQ (H.length+o) N w d).map eOL)))(hws:∀q,q∈wlQ (H.length+o) N w d→H'[q.1]? = some (.live 1 (q.2.Words.map eI))):
  RowAt H' (fun b=>if b < H.length then lab b else if b < H.length+o then (sd,i+1,0) else (sd,i+1,((b-(H.length+o):Nat):Int)+1)) sd i (.ms (H.length+r) 0 N N) (wlQ (H.length+o) N w d):=by
 refine⟨.inr ⟨H.length+r,N,_,by rw[wlQ_len],hr,?_,by simp,by rw[wlQ_len];exact Nat.le_refl _,fun e he=>?_,?_⟩,fun q hq=>⟨hws q hq,?_⟩,?_⟩
 ·rw[List.take_of_length_le (by simp)]
 ·obtain⟨q,_,rfl⟩:=List.mem_map.1 he
  exact⟨rfl,rfl⟩
 ·simp only[show ¬H.length+r < H.length by omega,show H.length+r < H.length+o by omega,if_false,if_true]
 ·obtain⟨k,hk,rfl⟩:=wlQ_words hq
  simp only[show ¬H.length+o+k < H.length by omega,show ¬H.length+o+k < H.length+o by omega,if_false]
  rw[show H.length+o+k-(H.length+o)=k by omega]
 ·rw[wlQ,List.pairwise_map]
  exact List.Pairwise.imp (fun {a b} h=>by simp only;omega) List.pairwise_lt_range
theorem ShAt.stored {H T:List Blk}{lab:Lab}{sd p cb i r o N w:Nat}{s:Shape}{d:List (List Int)}{rows:List (D × List (Nat × Leaf))}(h:ShAt H lab sd p cb s rows)(hi:i < rows.length)(hro:r < o)(hr:(H++T)[H.length+r]? = some (.live 2 ((wlQ (H.length+o) N w d).map eOL)))(hws:∀q,q∈wlQ (H.length+o) N w d→(H++T)[q.1]? = some (.live 1 (q.2.Words.map eI))):
  ∃lab',ShAt ((H++T).set cb (.live 1 ((rows.map fun r=>[r.1]).set i [.ms (H.length+r) 0 N N]))) lab' sd p cb s (rows.set i (.ms (H.length+r) 0 N N,wlQ (H.length+o) N w d))∧FrL H ((H++T).set cb (.live 1 ((rows.map fun r=>[r.1]).set i [.ms (H.length+r) 0 N N]))) lab lab' sd:=by
 have hcl:=hg_lt h.cs
 have hcl2:cb < (H++T).length:=by rw[List.length_append];omega
 refine⟨fun b=>if b < H.length then lab b else if b < H.length+o then (sd,i+1,0) else (sd,i+1,((b-(H.length+o):Nat):Int)+1),h.setRow hi (hg_self hcl2) (fun b x hb hne _ _=>hg_ne (hg_app T hb) (Ne.symm hne)) (fun b hb=>if_pos hb) (row_new hro (hg_ne hr (by omega)) fun q hq=>?_),⟨by simp,fun b hb=>if_pos hb,fun b hb hn=>?_⟩⟩
 ·obtain⟨k,hk,hq2⟩:=wlQ_words hq
  have:q.1=H.length+o+k:=by rw[hq2]
  exact hg_ne (hws q hq) (by omega)
 ·rw[List.getElem?_set_ne (fun e=>hn (by rw[←e,h.lc])),List.getElem?_append_left hb]
def StoQ (H:List Blk)(lab:Lab)(sd p cb:Nat)(s:Shape)(rows:List (D × List (Nat × Leaf)))(l:List Line)(d:D)(H':List Blk):Prop:=
 d=wI (WriteS s l).2∧∃lab' rows',ShAt H' lab' sd p cb s rows'∧FrL H H' lab lab' sd∧
  lvsOf rows'=if (WriteS s l).2=0 then List.replicate rows.length (wholeL (s.Data+s.Checks).toNat s.Width.toNat (WriteS s l).1) else lvsOf rows
theorem c_Store {H:List Blk}{lab:Lab}{sd p cb:Nat}{s:Shape}{rows:List (D × List (Nat × Leaf))}(h:ShAt H lab sd p cb s rows)(hn:rows.length≤5)(l:List Line)(hl:l.length≤4611686018427387904):
  CallSp Tryz.prog 57 [.mp p 0 0,.sl (l.map eLine)] H (StoQ H lab sd p cb s rows l):=by
 refine CallSp.vt pok Tryz.f57 (n:=41) (rs:=[.tmp 4]) rfl rfl rfl rfl rfl rfl rfl fun g=>?_
 have hw:=m_Write s l hl
 have hhd:=h.hd
 have hWd:=fun e=>WriteS_dataW (s:=s) (l:=l) e
 unfold StoQ
 generalize WriteS s l=R at hw hWd ⊢
 obtain⟨r,e⟩:=R
 dsimp only at hw hWd ⊢
 by_cases he:e=0
 ·subst he
  obtain⟨hck,hdw⟩:=hWd rfl
  repeat (any_goals (first|(apply w_any;(first|refine RT.nil ?_|refine RT.mvA ?_|refine RT.asA ?_|(apply w_ld;(first|refine RT.v (f_ldSh h rfl) ?_|refine RT.v (f_ldCs h rfl) ?_))|refine RT.faA ?_|refine RT.bnA ?_|(apply w_cl;(first|refine RT.callM rfl (hw) rfl rfl ?_|refine RT.clA ?_))|refine RT.exA ?_|refine RT.v (f_nc (d:=.mp p 0 0) rfl rfl) ?_))|(apply v_any;(first|refine VT.seq rfl ?_|refine VT.reg rfl ?_|refine VT.condF rfl rfl ?_|refine VT.block rfl ?_|refine VT.skip rfl ?_))))
  obtain⟨n0,hn0⟩:∃n0,n0=rows.length:=⟨_,rfl⟩
  rw[←hn0]
  refine VT.loop (fun j a H2 g'=>∃(i:Nat) (lab2:Lab) (rows2:List (D × List (Nat × Leaf))),j=n0-i∧i≤n0∧rows2.length=n0∧ShAt H2 lab2 sd p cb s rows2∧FrL H H2 lab lab2 sd∧(∀k,k < i→(lvsOf rows2)[k]? = some (wholeL (s.Data+s.Checks).toNat s.Width.toNat r))∧a=[(0,.mp p 0 0),(5,.fl (r.map eRow)),(24,wI n0),(25,wI i)]∧g'=g) rfl
   ⟨_,_,H,⟨0,lab,rows,rfl,Nat.zero_le _,hn0.symm,h,FrL.refl _ _ _,fun k hk=>absurd hk (Nat.not_lt_zero k),rfl,rfl⟩,Wk.keep kpX⟩ ?_
  rintro j a H2 g' ⟨i,lab2,rows2,rfl,hi,hr2,h2,hf2,hdone,rfl,rfl⟩
  have hl2:(lvsOf rows2).length=n0:=by rw[lvsOf,List.length_map];exact hr2
  by_cases hlt:i < n0
  ·repeat (any_goals (first|(apply w_any;(first|refine RT.nil ?_|refine RT.mvA ?_|refine RT.asA ?_|refine RT.bnA ?_))|(apply v_any;(first|refine VT.seq rfl ?_|refine VT.reg rfl ?_|refine VT.block rfl ?_|refine VT.skip rfl ?_|refine VT.drawX 10 H2 mixedOk rfl rfl (by decide +kernel) (fun _ _ _ h=>h) (fun _ _ _ h=>h) rfl ?_|refine VT.condY rfl rfl (by first|assumption|omega) ?_))|(apply q_any;(first|refine PT.mvA ?_|(apply q_ld;(first|refine PT.v (f_ldCs h2 rfl) ?_|refine PT.v (f_ldSh h2 rfl) ?_))|refine PT.faA ?_|refine PT.v (f_nc (d:=.mp p 0 0) rfl rfl) ?_|refine PT.nil (XC.call rfl ((c_whole hck hdw (x:=.fl (r.map eRow)) rfl).mono ?_))))))
   rintro d4 H4 ⟨T,r0,o0,rfl,rfl,hrow,hro,hws⟩
   refine⟨fun b sz es hb=>hg_app T hb,fun b c es hb=>hg_app T hb,?_⟩
   have hcb:=hg_app T h2.cs
   have hcbl:=hg_lt h2.cs
   obtain⟨q,hq⟩:∃q,rows2[i]? = some q:=⟨_,List.getElem?_eq_getElem (by omega)⟩
   have hqm:(rows2.map fun r=>[r.1])[i]? = some [q.1]:=by rw[List.getElem?_map,hq];rfl
   repeat (any_goals (first|(apply w_any;(first|refine RT.nil ?_|refine RT.mvA ?_|refine RT.bnA ?_|refine RT.ixH ?_|refine RT.wr (f_stV (d:=.ms (H2.length+r0) 0 (s.Data+s.Checks).toNat (s.Data+s.Checks).toNat) rfl hcb hqm rfl rfl rfl rfl) rfl ?_))|refine VT.reg rfl ?_|with_reducible (refine kLn ?_)))
   obtain⟨lab3,q1,q2⟩:=h2.stored (i:=i) (by omega) hro hrow hws
   refine⟨n0-(i+1),by omega,_,_,⟨i+1,lab3,_,rfl,hlt,by rw[List.length_set];exact hr2,q1,hf2.trans q2,fun k hk=>?_,rfl,rfl⟩,Wk.keep kpX⟩
   rw[lvsOf,List.map_set,wlQ_snd]
   by_cases e:i=k
   ·subst e;rw[List.getElem?_set_self (by have:=hl2;rw[lvsOf] at this;omega)]
   ·rw[List.getElem?_set_ne e];exact hdone k (by omega)
  ·obtain rfl:i=n0:=by omega
   repeat (any_goals (first|(apply w_any;(first|refine RT.nil ?_|refine RT.asA ?_|refine RT.bnA ?_))|(apply v_any;(first|refine VT.seq rfl ?_|refine VT.reg rfl ?_|refine VT.exit rfl ?_|refine VT.ret rfl ?_|refine VT.condN rfl rfl (by first|assumption|omega) ?_))|(with_reducible refine d_kEr ?_;refine kEr rfl ?_)))
   refine⟨rfl,lab2,rows2,h2,hf2,?_⟩
   rw[if_pos rfl]
   refine List.ext_getElem? fun k=>?_
   by_cases hk:k < i
   ·rw[hdone k hk,List.getElem?_replicate,if_pos hk]
   ·rw[List.getElem?_eq_none (by omega),List.getElem?_eq_none (by simp;omega)]
 ·repeat (any_goals (first|(apply w_any;(first|refine RT.nil ?_|refine RT.mvA ?_|refine RT.asA ?_|refine RT.v (f_ldSh h rfl) ?_|refine RT.faA ?_|refine RT.bnA ?_|refine RT.callM rfl (hw) rfl rfl ?_|refine RT.exA ?_|refine RT.v (f_nc (d:=.mp p 0 0) rfl rfl) ?_))|(apply v_any;(first|refine VT.seq rfl ?_|refine VT.reg rfl ?_|refine VT.ret rfl ?_|refine VT.condY rfl rfl (by first|assumption|omega) ?_))|with_reducible (refine kSr ?_)|(with_reducible refine d_kEr ?_;refine kEr rfl ?_)))
  exact⟨rfl,lab,rows,h,FrL.refl _ _ _,(if_neg he).symm⟩
theorem FrL.app (H T:List Blk)(lab:Lab)(sd:Nat):FrL H (H++T) lab lab sd:=⟨by simp,fun _ _=>rfl,fun b hb _=>List.getElem?_append_left hb⟩
end Go.DL
