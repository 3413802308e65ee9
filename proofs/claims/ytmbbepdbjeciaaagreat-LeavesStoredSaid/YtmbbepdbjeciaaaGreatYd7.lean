/- LeavesStored: the law. -/
import Derived.Test.YtmbbepdbjeciaaaGreatZf
import Derived.Test.YtmbbepdbjeciaaaGreatE6
set_option maxRecDepth 100000
set_option maxHeartbeats 16000000
namespace Go.DL
open Go.Proofs Go
def harmT (t:Step):Step:={ t with Kind:=if t.Kind=2 then 2 else 3 }
theorem harmT_tear {s:Shape}{cs:List (List Leaf)}{t:Step}(h:t.Kind=2):StepS s cs (harmT t)=TearS cs t.Copy t.Number:=by
 unfold StepS harmT
 rw[if_pos h];rfl
theorem harmT_blot {s:Shape}{cs:List (List Leaf)}{t:Step}(h:¬t.Kind=2):StepS s cs (harmT t)=BlotS s cs t.Copy t.Number t.At t.Word:=by
 unfold StepS harmT
 rw[if_neg h];rfl
abbrev eLvG (l:List Leaf):List D:=[.fl (l.map eLeaf)]
theorem snap_rowsG {lk:Nat→Option Blk}{b m cap k:Nat}{cs:List (List Leaf)}(h:lk b=some (.live 1 (cs.map eLvG)))(hm:m=cs.length):snap lk (k+2) (.ms b 0 m cap)=.sl (cs.map eLvs):=by
 subst hm
 simp only[snap,h,Nat.zero_add,List.length_map,Nat.le_refl,if_true,List.drop_zero]
 rw[List.take_of_length_le (by simp),List.map_map]
 exact congrArg D.sl (List.map_congr_left fun x _=>rfl)
theorem wrongN_succ {B J:List Leaf}{q:Nat}{x:Leaf}(h:J[q]? = some x):wrongN B (J.take (q+1))=wrongN B (J.take q)+if badM B x=true then 1 else 0:=by
 have hq:q < J.length:=(List.getElem?_eq_some_iff.1 h).1
 rw[wrongN,List.take_succ_eq_append_getElem hq,List.countP_append,wrongN]
 have e:J[q]=x:=by rw[List.getElem?_eq_getElem hq] at h;exact Option.some.inj h
 rw[e,List.countP_cons,List.countP_nil,Nat.zero_add]
theorem m_LeavesStored (hh:Maps Tryz.prog 14 [] (wB true))(s:Shape)(n:Int)(l:List Line)(st:List Step)(hl:l.length≤4611686018427387904)(hst:st.length≤4611686018427387904):
  Maps Tryz.prog 13 [dSh s,wI n,.sl (l.map eLine),.sl (st.map eStep)] (wB true):=by
 refine Maps.vt pok Tryz.f13 (n:=193) (rs:=[.tmp 8]) rfl rfl rfl rfl rfl rfl fun g=>?_
 have h1:=m_small1 s
 have h2:=m_lines l hl
 cases q1:SmallS s with
 |false=>
  rw[q1] at h1
  repeat (any_goals (first|(apply w_any;(first|refine RT.nil ?_|refine RT.gn rfl rfl ?_|refine RT.mvA ?_|refine RT.asA ?_|refine RT.ldA ?_|(apply w_cl;(first|refine RT.callM rfl (hh) rfl rfl ?_|refine RT.callM rfl (h1) rfl rfl ?_))|refine RT.pkA ?_|refine RT.unA ?_|refine RT.nwA ?_))|(apply v_any;(first|refine VT.seq rfl ?_|refine VT.reg rfl ?_|refine VT.condT rfl rfl ?_|refine VT.ret rfl ?_))|with_reducible (refine kSr ?_)|(with_reducible refine d_kEr ?_;refine kEr rfl ?_)))
  rfl
 |true=>
  rw[q1] at h1
  cases q2:linesS l with
  |false=>
   rw[q2] at h2
   repeat (any_goals (first|(apply w_any;(first|refine RT.nil ?_|(apply w_g;(first|refine RT.gy rfl ?_|refine RT.gn rfl rfl ?_))|refine RT.mvA ?_|refine RT.asA ?_|refine RT.ldA ?_|(apply w_cl;(first|refine RT.callM rfl (hh) rfl rfl ?_|refine RT.callM rfl (h1) rfl rfl ?_|refine RT.callM rfl (h2) rfl rfl ?_))|refine RT.pkA ?_|refine RT.unA ?_|refine RT.nwA ?_))|(apply v_any;(first|refine VT.seq rfl ?_|refine VT.reg rfl ?_|refine VT.condT rfl rfl ?_|refine VT.ret rfl ?_))|with_reducible (refine kSr ?_)|(with_reducible refine d_kEr ?_;refine kEr rfl ?_)))
   rfl
  |true=>
  rw[q2] at h2
  by_cases h12:(12:Int) < st.length
  ·repeat (any_goals (first|(apply w_any;(first|refine RT.nil ?_|refine RT.gy rfl ?_|refine RT.mvA ?_|refine RT.asA ?_|refine RT.ldA ?_|refine RT.v (f_gtrT rfl rfl (by omega)) ?_|(apply w_cl;(first|refine RT.callM rfl (hh) rfl rfl ?_|refine RT.callM rfl (h1) rfl rfl ?_|refine RT.callM rfl (h2) rfl rfl ?_|refine RT.clA ?_))|refine RT.pkA ?_|refine RT.unA ?_|refine RT.nwA ?_))|(apply v_any;(first|refine VT.seq rfl ?_|refine VT.reg rfl ?_|refine VT.condT rfl rfl ?_|refine VT.ret rfl ?_))|with_reducible (refine kSr ?_)|(with_reducible refine d_kEr ?_;refine kEr rfl ?_)))
   rfl
  ·repeat (any_goals (first|(apply w_any;(first|refine RT.nil ?_|refine RT.gy rfl ?_|refine RT.mvA ?_|refine RT.asA ?_|refine RT.ldA ?_|refine RT.v (f_gtrF rfl rfl (by omega)) ?_|(apply w_cl;(first|(refine d_call ?_;refine RT.callG rfl ((c_New s n).mono ?_))|refine RT.callM rfl (hh) rfl rfl ?_|refine RT.callM rfl (h1) rfl rfl ?_|refine RT.callM rfl (h2) rfl rfl ?_|refine RT.clA ?_))|refine RT.pkA ?_|refine RT.unA ?_|refine RT.nwA ?_))|(apply v_any;(first|refine VT.seq rfl ?_|refine VT.reg rfl ?_|refine VT.condF rfl rfl ?_|refine VT.skip rfl ?_))))
   rintro d1 H1 (⟨e0,rfl,T1,rfl⟩|⟨e0,px,cbx,T1,rfl,rfl,p1,p2,p3,p4,p5⟩)
   ·generalize NewS s n=e at e0
    repeat (any_goals (first|(apply w_any;(first|refine RT.nil ?_|(apply w_g;(first|refine RT.gy rfl ?_|refine RT.gn rfl rfl ?_))|refine RT.mvA ?_|refine RT.asA ?_|refine RT.v (f_neqT rfl rfl e0) ?_|refine RT.pkA ?_|refine RT.exA ?_))|(apply v_any;(first|refine VT.seq rfl ?_|refine VT.reg rfl ?_|refine VT.condT rfl rfl ?_|refine VT.ret rfl ?_))|with_reducible (refine kSr ?_)|(with_reducible refine d_kEr ?_;refine kEr rfl ?_)))
    rfl
   ·have hk:CkOk s∧1≤n∧n≤5:=by
     unfold NewS at e0
     rcases CheckS_cases s with⟨e,hk⟩|⟨e,hk⟩
     ·rw[if_pos e] at e0
      by_cases hn:1≤n∧n≤5
      ·exact⟨hk,hn⟩
      ·rw[if_neg hn] at e0;cases e0
     ·rw[if_neg (by omega),e] at e0;cases e0
    obtain⟨hk,hn1,hn5⟩:=hk
    have hs12:=small_12 hk q1
    have z1:=hg_lt p4
    have z2:=hg_lt p5
    have hp0:1≤px:=by simpa using p1
    have hc0:1≤cbx:=by simpa using p2
    obtain⟨N,hN⟩:∃N:Nat,n=N:=Int.eq_ofNat_of_zero_le (by omega)
    have hnN:n.toNat=N:=by omega
    rw[hnN] at p4 p5
    obtain⟨LB,hLB⟩:∃LB:Lab,LB=fun b=>if b=px then (0,0,0) else if b=cbx then (0,0,1) else (2,0,0):=⟨_,rfl⟩
    have hl0:LB 0=(2,0,0):=by rw[hLB];simp only[show ¬0=px by omega,show ¬0=cbx by omega,if_false]
    have hx:=ShAt.made (lab:=LB) (sd:=0) p4 p5 (by rw[hLB];exact if_pos rfl) (by rw[hLB];simp only[if_neg (Ne.symm p3),if_true])
    have hso0:StOk s (lvsOf (List.replicate N (D.nil,([]:List (Nat × Leaf))))):=by
     rw[lvs_made]
     refine⟨by rw[List.length_replicate];omega,fun l hl=>?_⟩
     rw[List.eq_of_mem_replicate hl]
     exact (wholeL_cop hk []).sub (List.nil_sublist _)
    have g0:([Blk.live (0+1+1+1) [eShape s]]++T1)[0]? = some (.live 3 [eShape s]):=rfl
    have hrl0:(List.replicate N (D.nil,([]:List (Nat × Leaf)))).length=N:=List.length_replicate
    have hcst:=(c_Store hx (by omega) l hl).mono fun _ _=>stp_store
    generalize (List.replicate N (D.nil,([]:List (Nat × Leaf))))=rows0 at hx hso0 hrl0 hcst
    generalize ([Blk.live (0+1+1+1) [eShape s]]++T1)=Hn at hx g0 hcst ⊢
    clear p4 p5
    repeat (any_goals (first|(apply w_any;(first|refine RT.nil ?_|refine RT.gy rfl ?_|refine RT.mvA ?_|refine RT.asA ?_|refine RT.v (f_neqF rfl rfl rfl) ?_|(refine d_call ?_;refine RT.callG rfl (hcst.mono ?_))|refine RT.pkA ?_|refine RT.exA ?_|refine RT.eqlP (z:=false) rfl rfl ?_))|(apply v_any;(first|refine VT.seq rfl ?_|refine VT.reg rfl ?_|refine VT.condF rfl rfl ?_|refine VT.skip rfl ?_))))
    rintro d2 H2 ⟨rfl,lab2,rows2,hx2,hf2,hlv2⟩
    by_cases hw:(WriteS s l).2=0
    rotate_left
    ·have e2:(StoreS s (lvsOf rows0) l).2=(WriteS s l).2:=rfl
     rw[e2]
     generalize (WriteS s l).2=e at hw
     repeat (any_goals (first|(apply w_any;(first|refine RT.nil ?_|refine RT.mvA ?_|refine RT.asA ?_|refine RT.v (f_neqT rfl rfl hw) ?_))|(apply v_any;(first|refine VT.seq rfl ?_|refine VT.reg rfl ?_|refine VT.condT rfl rfl ?_|refine VT.ret rfl ?_))|with_reducible (refine kSr ?_)|(with_reducible refine d_kEr ?_;refine kEr rfl ?_)))
     rfl
    have e2:(StoreS s (lvsOf rows0) l).2=0:=hw
    rw[e2]
    obtain⟨B,hB⟩:∃B,B=wholeL (s.Data+s.Checks).toNat s.Width.toNat (WriteS s l).1:=⟨_,rfl⟩
    have hs2:lvsOf rows2=List.replicate N B:=by
     rw[hlv2,StoreS,if_pos hw,lvsOf,List.length_map,hrl0,hB]
    have hBc:CopOk s B:=by rw[hB];exact wholeL_cop hk _
    have hso2:StOk s (lvsOf rows2):=by
     rw[hs2]
     exact⟨by rw[List.length_replicate];omega,fun x hx=>by rw[List.eq_of_mem_replicate hx];exact hBc⟩
    have hlen2:(lvsOf rows2).length=N:=by rw[hs2,List.length_replicate]
    have g2:H2[0]? = some (.live 3 [eShape s]):=(hf2.same 0 (hg_lt g0) (by rw[hl0];decide)).trans g0
    have l2:lab2 0=(2,0,0):=(hf2.lb 0 (hg_lt g0)).trans hl0
    have hcp:=m_Copy s hk (lvsOf rows2) hso2.len hso2.ok 0
    have hcB:CopyS (lvsOf rows2) 0=B:=by
     rw[CopyS,if_pos (by omega),hs2,List.getD_eq_getElem?_getD,List.getElem?_replicate,if_pos (by show 0 < N;omega)];rfl
    rw[hcB] at hcp
    have hsn2:([.mp px 0 0,wI 0]:List D).map (snap (fun b=>H2[b]?) 5)=[.rp (eSh s (lvsOf rows2)),wI 0]:=by
     rw[List.map_cons,hx2.snap];rfl
    repeat (any_goals (first|(apply w_any;(first|refine RT.nil ?_|refine RT.mvA ?_|refine RT.asA ?_|refine RT.v (f_neqF rfl rfl rfl) ?_|(refine d_call ?_;refine RT.callM rfl hcp hsn2 rfl ?_)))|(apply v_any;(first|refine VT.seq rfl ?_|refine VT.reg rfl ?_|refine VT.condF rfl rfl ?_|refine VT.block rfl ?_|refine VT.skip rfl ?_))))
    refine VT.loop (fun j a H g'=>∃(i:Nat) (lab:Lab) (rows:List (D × List (Nat × Leaf))),j=st.length-i∧i≤st.length∧ShAt H lab 0 px cbx s rows∧StOk s (lvsOf rows)∧(lvsOf rows).length=N∧H[0]? = some (.live 3 [eShape s])∧lab 0=(2,0,0)∧a=[(1,wI N),(2,.sl (l.map eLine)),(3,.sl (st.map eStep)),(4,.mp 0 0 0),(9,wB true),(10,.mp px 0 0),(12,.fl (B.map eLeaf)),(13,wI i)]∧g'=g) rfl
     ⟨_,_,H2,⟨0,lab2,rows2,rfl,Nat.zero_le _,hx2,hso2,hlen2,g2,l2,rfl,rfl⟩,Wk.keep kpX⟩ ?_
    clear hx2 hso2 hlen2 g2 l2 hf2 hlv2 hcp hcB hsn2 hs2
    rintro j a H g' ⟨i,lab,rows,rfl,hi,hx,hso,hlen,g2,l2,rfl,rfl⟩
    have hrl:rows.length=N:=by rwa [lvsOf,List.length_map] at hlen
    have hll:∀l,l∈lvsOf rows→l.length≤1000:=fun l hl=>by
     have:=((hso.ok l hl).lvs hk).len
     omega
    by_cases hlt:i < st.length
    ·obtain⟨t,ht⟩:∃t,st[i]? = some t:=⟨_,List.getElem?_eq_getElem hlt⟩
     by_cases hk2:t.Kind=2
     ·have hct:=c_Tear hx (by omega) hll t.Copy t.Number
      rw[←harmT_tear (s:=s) hk2] at hct
      have hsok:=hso.step hk (harmT t)
      have hlen3:=StepS_len s (lvsOf rows) (harmT t)
      repeat (any_goals (first|(apply w_any;(first|refine RT.nil ?_|refine RT.mvA ?_|refine RT.ldA ?_|refine RT.faA ?_|(apply w_bn;(first|refine RT.v (f_lssT rfl rfl (by omega)) ?_|refine RT.v (f_eqlT rfl rfl hk2) ?_))|refine RT.clA ?_|refine RT.v (f_ixQ rfl rfl rfl ht rfl rfl) ?_))|(apply v_any;(first|refine VT.seq rfl ?_|refine VT.reg rfl ?_|refine VT.condT rfl rfl ?_|refine VT.block rfl ?_|refine VT.skip rfl ?_|refine VT.drawX 11 [] mixedOk rfl rfl (by decide +kernel) (fun _ _ _ h=>by simp at h) (fun _ _ _ h=>by simp at h) rfl ?_))|(apply q_any;(first|refine PT.mvA ?_|refine PT.ldA ?_|refine PT.faA ?_|refine PT.v (f_ixQ rfl rfl rfl ht rfl rfl) ?_|refine PT.nil (XC.call rfl (hct.mono ?_))))))
      rintro d3 H4 ⟨rfl,lab4,rows4,hx4,hf4,hlv4⟩
      refine⟨fun b sz es hb=>(by simp at hb),fun b c es hb=>(by simp at hb),?_⟩
      repeat (any_goals (first|(apply w_any;(first|refine RT.nil ?_|refine RT.mvA ?_|refine RT.asA ?_|refine RT.bnA ?_))|refine VT.reg rfl ?_|with_reducible (refine kLn ?_)))
      exact⟨st.length-(i+1),by omega,_,_,⟨i+1,lab4,rows4,rfl,hlt,hx4,by rw[hlv4];exact hsok,by rw[hlv4,hlen3];exact hlen,(hf4.same 0 (hg_lt g2) (by rw[l2];decide)).trans g2,(hf4.lb 0 (hg_lt g2)).trans l2,rfl,rfl⟩,Wk.keep kpX⟩
     ·have hwd:0≤s.Width∧s.Width≤1000:=by
       obtain⟨_,_,w1,w2⟩:=hk
       omega
      have hwl:∀l,l∈lvsOf rows→∀x,x∈l→(x.Words.length:Int)=s.Width:=fun l hl x hx=>((hso.ok l hl).wl x hx).1
      have hct:=c_Blot hx (by omega) hll hwd hwl t.Copy t.Number t.At t.Word
      rw[←harmT_blot hk2] at hct
      have hsok:=hso.step hk (harmT t)
      have hlen3:=StepS_len s (lvsOf rows) (harmT t)
      repeat (any_goals (first|(apply w_any;(first|refine RT.nil ?_|refine RT.mvA ?_|refine RT.ldA ?_|refine RT.faA ?_|(apply w_bn;(first|refine RT.v (f_lssT rfl rfl (by omega)) ?_|refine RT.v (f_eqlF rfl rfl hk2) ?_))|refine RT.clA ?_|refine RT.v (f_ixQ rfl rfl rfl ht rfl rfl) ?_))|(apply v_any;(first|refine VT.seq rfl ?_|refine VT.reg rfl ?_|refine VT.condT rfl rfl ?_|refine VT.condF rfl rfl ?_|refine VT.block rfl ?_|refine VT.skip rfl ?_|refine VT.drawX 21 [] mixedOk rfl rfl (by decide +kernel) (fun _ _ _ h=>by simp at h) (fun _ _ _ h=>by simp at h) rfl ?_))|(apply q_any;(first|refine PT.mvA ?_|refine PT.ldA ?_|(apply q_fa;(first|refine PT.v (f_fa (ds:=[wI t.Word,.sl (t.Lines.map eLine)]) rfl rfl (Nat.succ_ne_zero _) rfl) ?_|refine PT.faA ?_))|refine PT.v (f_ixQ rfl rfl rfl ht rfl rfl) ?_|refine PT.nil (XC.call rfl (hct.mono ?_))))))
      rintro d3 H4 ⟨rfl,lab4,rows4,hx4,hf4,hlv4⟩
      refine⟨fun b sz es hb=>(by simp at hb),fun b c es hb=>(by simp at hb),?_⟩
      repeat (any_goals (first|(apply w_any;(first|refine RT.nil ?_|refine RT.mvA ?_|refine RT.asA ?_|refine RT.bnA ?_))|refine VT.reg rfl ?_|with_reducible (refine kLn ?_)))
      exact⟨st.length-(i+1),by omega,_,_,⟨i+1,lab4,rows4,rfl,hlt,hx4,by rw[hlv4];exact hsok,by rw[hlv4,hlen3];exact hlen,(hf4.same 0 (hg_lt g2) (by rw[l2];decide)).trans g2,(hf4.lb 0 (hg_lt g2)).trans l2,rfl,rfl⟩,Wk.keep kpX⟩
    ·obtain rfl:i=st.length:=by omega
     repeat (any_goals (first|(apply w_any;(first|refine RT.nil ?_|refine RT.mvA ?_|refine RT.asA ?_|refine RT.v (f_lssF rfl rfl (by omega)) ?_|refine RT.clA ?_))|(apply v_any;(first|refine VT.seq rfl ?_|refine VT.reg rfl ?_|refine VT.condF rfl rfl ?_|refine VT.block rfl ?_|refine VT.exit rfl ?_))))
     refine VT.phantom (i:=14) (s:=H.length) (H':=H++[.live 1 []]) 1 rfl rfl rfl ?_
     obtain⟨cs,hcs⟩:∃cs,cs=lvsOf rows:=⟨_,rfl⟩
     rw[←hcs] at hso hlen hll
     have hN5:N≤5:=by omega
     refine VT.loop (fun j a H3 gx=>∃(i b:Nat),j=N-i∧i≤N∧(∀k,k < H.length→H3[k]? = H[k]?)∧H.length≤b∧H3[b]? = some (.live 1 ((cs.take i).map eLvG))∧a=[(1,wI N),(2,.sl (l.map eLine)),(4,.mp 0 0 0),(9,wB true),(10,.mp px 0 0),(12,.fl (B.map eLeaf)),(14,.ms b 0 i i),(15,wI i)]∧gx=g') rfl
      ⟨_,_,H++[.live 1 []],⟨0,H.length,rfl,Nat.zero_le _,fun k hk=>List.getElem?_append_left hk,Nat.le_refl _,hg_new,rfl,rfl⟩,Wk.keep kpX⟩ ?_
     rintro j a H3 gx ⟨i,b,rfl,hi,hpre,hbge,hb,rfl,rfl⟩
     have hx3:ShAt H3 lab 0 px cbx s rows:=hx.keep fun b x hb _=>⟨(hpre b (hg_lt hb)).trans hb,rfl⟩
     have g3:=(hpre 0 (hg_lt g2)).trans g2
     have hbl:=hg_lt hb
     by_cases hlt:i < N
     ·have hic:i < cs.length:=by omega
      have hcp:=m_Copy s hk cs hso.len hso.ok i
      have hci:CopyS cs i=cs[i]:=by
       rw[CopyS,if_pos (by omega),Int.toNat_natCast];simp[List.getD,hic]
      rw[hci] at hcp
      have hsn:([.mp px 0 0,wI i]:List D).map (snap (fun b=>H3[b]?) 5)=[.rp (eSh s cs),wI i]:=by
       rw[List.map_cons,hx3.snap,hcs];rfl
      have htl:(cs.take i).length=i:=by rw[List.length_take];omega
      repeat (any_goals (first|(apply w_any;(first|refine RT.nil ?_|refine RT.mvA ?_|refine RT.asA ?_|(apply w_bn;(first|refine RT.v (f_lssT rfl rfl (by omega)) ?_|refine RT.bnA ?_))|(apply w_cl;(first|(refine d_call ?_;refine RT.callM rfl hcp hsn rfl ?_)|refine RT.ap (s:=H3.length+1) (by simp) (f_appT (f:=eLvG) (o:=cs.take i) (v:=[cs[i]]) (mm:=i+1) (by':=24) rfl rfl hgX (List.take_of_length_le (by rw[List.length_map];omega)) (by rw[List.length_map];omega) hgX htl.symm rfl (by rw[htl];rfl) rfl (by decide) rfl rfl (fun _=>⟨rfl,rfl⟩) (by rw[htl];simp;omega) (by rw[htl];simp;omega)) (ap2 hbl _ _) ?_))|refine RT.new (s:=H3.length) rfl (f_bslC1 (d:=.fl (cs[i].map eLeaf)) rfl rfl rfl rfl rfl) rfl ?_))|(apply v_any;(first|refine VT.seq rfl ?_|refine VT.reg rfl ?_|refine VT.condT rfl rfl ?_|refine VT.block rfl ?_|refine VT.skip rfl ?_))|with_reducible (refine kLn ?_)))
      refine⟨N-(i+1),by omega,_,_,⟨i+1,H3.length+1,rfl,hlt,fun k hk=>?_,?_,?_,rfl,rfl⟩,Wk.keep kpX⟩
      ·rw[List.getElem?_append_left (by rw[List.length_set];omega),List.getElem?_set_ne (by omega)]
       exact hpre k hk
      ·omega
      ·rw[List.take_succ_eq_append_getElem hic]
       exact hg_at (t:=1) (by simp) rfl
     ·obtain rfl:i=N:=by omega
      rw[←hlen,List.take_length] at hb
      have hjn:=JoinS_of hk hso.len hso.ok
      have hj:=m_Join s cs (by omega) (fun l hl=>by have:=hll l hl;omega) (fun l hl x hx=>by
       have:=((hso.ok l hl).wl x hx).1
       obtain⟨_,_,w1,w2⟩:=hk
       omega)
      rw[hjn] at hj
      dsimp only at hj
      have hsnJ:([.agg (eShape s),.ms b 0 i i]:List D).map (snap (fun b=>H3[b]?) 5)=[dSh s,.sl (cs.map eLvs)]:=by
       have e1:snap (fun b=>H3[b]?) 5 (.ms b 0 i i)=.sl (cs.map eLvs):=snap_rowsG (k:=3) hb hlen.symm
       rw[List.map_cons,List.map_cons,List.map_nil,e1];rfl
      have hJc:=joinL_cop hk hso
      have hstl:=stored_law hk hs12 hw hso
      rw[←hB] at hstl
      have hBl:B.length=(s.Data+s.Checks).toNat:=by rw[hB];simp[wholeL]
      have hL:=m_Lines s hk hs12 cs hso.len hso.ok
      generalize hJ:joinL cs (s.Data+s.Checks).toNat=J at hj hJc hstl
      have hJ12:J.length≤12:=by have:=hJc.len;omega
      have hsnL:([.mp px 0 0]:List D).map (snap (fun b=>H3[b]?) 5)=[.rp (eSh s cs)]:=by
       rw[List.map_cons,hx3.snap,hcs];rfl
      repeat (any_goals (first|(apply w_any;(first|refine RT.nil ?_|refine RT.mvA ?_|refine RT.asA ?_|refine RT.ldH ?_|(apply w_bn;(first|refine RT.v (f_lssF rfl rfl (by omega)) ?_|refine RT.v (f_neqF rfl rfl rfl) ?_))|(refine d_call ?_;refine RT.callM rfl hj hsnJ rfl ?_)|refine RT.exA ?_))|(apply v_any;(first|refine VT.seq rfl ?_|refine VT.reg rfl ?_|refine VT.condF rfl rfl ?_|refine VT.block rfl ?_|refine VT.skip rfl ?_|refine VT.exit rfl ?_))))
      refine VT.loop (fun j a H4 gy=>∃(q:Nat),j=J.length-q∧q≤J.length∧a=[(2,.sl (l.map eLine)),(4,.mp 0 0 0),(9,wB true),(10,.mp px 0 0),(12,.fl (B.map eLeaf)),(16,.fl (J.map eLeaf)),(18,wI (wrongN B (J.take q):Nat)),(19,wI q)]∧H4=H3∧gy=gx) rfl
       ⟨_,_,H3,⟨0,rfl,Nat.zero_le _,rfl,rfl,rfl⟩,Wk.keep kpX⟩ ?_
      rintro j a H4 gy ⟨q,rfl,hq,rfl,rfl,rfl⟩
      by_cases hlq:q < J.length
      ·obtain⟨x,hxq⟩:∃x,J[q]? = some x:=⟨_,List.getElem?_eq_getElem hlq⟩
       have hxn:=hJc.num x (List.mem_of_getElem? hxq)
       have hxw:=(hJc.wl x (List.mem_of_getElem? hxq)).1
       obtain⟨y,hy⟩:∃y,B[(x.Number-1).toNat]? = some y:=⟨_,List.getElem?_eq_getElem (by omega)⟩
       have hyw:=(hBc.wl y (List.mem_of_getElem? hy)).1
       have hws:=wrongN_succ (B:=B) hxq
       have hbx:badM B x=!decide (y.Words=x.Words):=by
        rw[badM,List.getD_eq_getElem?_getD,hy];rfl
       have hwle:wrongN B (J.take q)≤12:=by
        have:wrongN B (J.take q)≤(J.take q).length:=List.countP_le_length
        rw[List.length_take] at this;omega
       obtain⟨_,_,w1,w2⟩:=id hk
       have hsm:=m_same x.Words y.Words (by omega) (by omega)
       by_cases hbad:x.Words=y.Words
       ·rw[decide_eq_true hbad] at hsm
        have hw1:wrongN B (J.take (q+1))=wrongN B (J.take q):=by
         rw[hws,hbx,decide_eq_true hbad.symm];rfl
        repeat (any_goals (first|(apply w_any;(first|refine RT.nil ?_|refine RT.gy rfl ?_|refine RT.mvA ?_|refine RT.asA ?_|refine RT.ldA ?_|refine RT.faA ?_|(apply w_bn;(first|refine RT.v (f_lssT rfl rfl (by omega)) ?_|refine RT.v (f_lssF rfl rfl (by omega)) ?_|refine RT.v (f_gtrF rfl rfl (by omega)) ?_|refine RT.bnA ?_))|refine RT.clA ?_|refine RT.pkA ?_|refine RT.v (f_ixQ rfl rfl rfl hxq rfl rfl) ?_))|(apply v_any;(first|refine VT.seq rfl ?_|refine VT.reg rfl ?_|refine VT.condT rfl rfl ?_|refine VT.condF rfl rfl ?_|refine VT.block rfl ?_|refine VT.skip rfl ?_|refine VT.draw [(0,[]),(0,[]),(0,[]),(0,[]),(0,[]),(0,[]),(0,[]),(0,[]),(0,[]),(0,[]),(0,[]),(0,[]),(0,[]),(0,[]),(0,[]),(0,[]),(0,[])] 1 mixedOk rfl (by decide +kernel) (by decide +kernel) (by decide +kernel) nrX nrX ?_))|(apply q_any;(first|refine PT.done ((dropLn H4 [] .free).trans (List.append_nil _)) ?_|refine PT.mvI (mask_app (H0:=H4) (T:=[_]) rfl) ?_|refine PT.ldI (mask_app (H0:=H4) (T:=[_]) rfl) ?_|refine PT.faI (mask_app (H0:=H4) (T:=[_]) rfl) ?_|refine PT.bnI (mask_app (H0:=H4) (T:=[_]) rfl) ?_|refine PT.callI (mask_app (H0:=H4) (T:=[_]) rfl) rfl (hsm) nrX rfl ?_|(apply q_ix;(first|refine PT.vI (mask_app (H0:=H4) (T:=[_]) rfl) (f_ixQ rfl rfl rfl hxq rfl rfl) ?_|refine PT.vI (mask_app (H0:=H4) (T:=[_]) rfl) (f_ixQ (k:=(x.Number-1).toNat) rfl rfl (by omega) hy rfl rfl) ?_))|refine PT.unI (mask_app (H0:=H4) (T:=[_]) rfl) ?_))|with_reducible (refine kLn ?_)))
        exact⟨J.length-(q+1),by omega,[(2,.sl (l.map eLine)),(4,.mp 0 0 0),(9,wB true),(10,.mp px 0 0),(12,.fl (B.map eLeaf)),(16,.fl (J.map eLeaf)),(18,wI (wrongN B (J.take q):Nat)),(19,wI (q+1:Nat))],_,⟨q+1,rfl,hlq,by rw[hw1],rfl,rfl⟩,Wk.keep kpX⟩
       ·rw[decide_eq_false hbad] at hsm
        have hw1:wrongN B (J.take (q+1))=wrongN B (J.take q)+1:=by
         rw[hws,hbx,decide_eq_false (fun e=>hbad e.symm)];rfl
        repeat (any_goals (first|(apply w_any;(first|refine RT.nil ?_|refine RT.gy rfl ?_|refine RT.mvA ?_|refine RT.asA ?_|refine RT.ldA ?_|refine RT.faA ?_|(apply w_bn;(first|refine RT.v (f_lssT rfl rfl (by omega)) ?_|refine RT.v (f_lssF rfl rfl (by omega)) ?_|refine RT.v (f_gtrF rfl rfl (by omega)) ?_|refine RT.bnA ?_))|refine RT.clA ?_|refine RT.pkA ?_|refine RT.v (f_ixQ rfl rfl rfl hxq rfl rfl) ?_))|(apply v_any;(first|refine VT.seq rfl ?_|refine VT.reg rfl ?_|refine VT.condT rfl rfl ?_|refine VT.condF rfl rfl ?_|refine VT.block rfl ?_|refine VT.skip rfl ?_|refine VT.draw [(0,[]),(0,[]),(0,[]),(0,[]),(0,[]),(0,[]),(0,[]),(0,[]),(0,[]),(0,[]),(0,[]),(0,[]),(0,[]),(0,[]),(0,[]),(0,[]),(0,[])] 1 mixedOk rfl (by decide +kernel) (by decide +kernel) (by decide +kernel) nrX nrX ?_))|(apply q_any;(first|refine PT.done ((dropLn H4 [] .free).trans (List.append_nil _)) ?_|refine PT.mvI (mask_app (H0:=H4) (T:=[_]) rfl) ?_|refine PT.ldI (mask_app (H0:=H4) (T:=[_]) rfl) ?_|refine PT.faI (mask_app (H0:=H4) (T:=[_]) rfl) ?_|refine PT.bnI (mask_app (H0:=H4) (T:=[_]) rfl) ?_|refine PT.callI (mask_app (H0:=H4) (T:=[_]) rfl) rfl (hsm) nrX rfl ?_|(apply q_ix;(first|refine PT.vI (mask_app (H0:=H4) (T:=[_]) rfl) (f_ixQ rfl rfl rfl hxq rfl rfl) ?_|refine PT.vI (mask_app (H0:=H4) (T:=[_]) rfl) (f_ixQ (k:=(x.Number-1).toNat) rfl rfl (by omega) hy rfl rfl) ?_))|refine PT.unI (mask_app (H0:=H4) (T:=[_]) rfl) ?_))|with_reducible (refine kLn ?_)))
        exact⟨J.length-(q+1),by omega,[(2,.sl (l.map eLine)),(4,.mp 0 0 0),(9,wB true),(10,.mp px 0 0),(12,.fl (B.map eLeaf)),(16,.fl (J.map eLeaf)),(18,wI (wrongN B (J.take q)+1:Nat)),(19,wI (q+1:Nat))],_,⟨q+1,rfl,hlq,by rw[hw1],rfl,rfl⟩,Wk.keep kpX⟩
      ·obtain rfl:q=J.length:=by omega
       rw[List.take_length]
       have hwle:wrongN B J≤J.length:=List.countP_le_length
       obtain⟨⟨d1,d2⟩,_⟩:=id hk
       by_cases hfew:(J.length:Int) < s.Data+2*(wrongN B J:Int)
       ·repeat (any_goals (first|(apply w_any;(first|refine RT.nil ?_|refine RT.mvA ?_|refine RT.asA ?_|refine RT.ldH ?_|refine RT.faA ?_|(apply w_bn;(first|refine RT.v (f_lssF rfl rfl (by omega)) ?_|refine RT.v (f_lssT rfl rfl hfew) ?_|refine RT.bnA ?_))|refine RT.clA ?_))|(apply v_any;(first|refine VT.seq rfl ?_|refine VT.reg rfl ?_|refine VT.condT rfl rfl ?_|refine VT.condF rfl rfl ?_|refine VT.exit rfl ?_|refine VT.ret rfl ?_))|with_reducible (refine kSr ?_)|(with_reducible refine d_kEr ?_;refine kEr rfl ?_)))
        rfl
       ·have hst2:=hstl (by omega)
        rw[hst2] at hL
        dsimp only at hL
        have hsl:=m_SameLines l l hl hl
        rw[decide_eq_true rfl] at hsl
        repeat (any_goals (first|(apply w_any;(first|refine RT.nil ?_|refine RT.gy rfl ?_|refine RT.mvA ?_|refine RT.asA ?_|refine RT.ldH ?_|refine RT.faA ?_|(apply w_bn;(first|refine RT.v (f_lssF rfl rfl (by omega)) ?_|refine RT.v (f_eqlT rfl rfl rfl) ?_|refine RT.bnA ?_))|(apply w_cl;(first|(refine d_call ?_;refine RT.callM rfl hL hsnL rfl ?_)|refine RT.callM rfl (hsl) rfl rfl ?_|refine RT.clA ?_))|refine RT.pkA ?_|refine RT.exA ?_))|(apply v_any;(first|refine VT.seq rfl ?_|refine VT.reg rfl ?_|refine VT.condF rfl rfl ?_|refine VT.skip rfl ?_|refine VT.exit rfl ?_|refine VT.ret rfl ?_))|(with_reducible refine d_kEr ?_;refine kEr rfl ?_)))
        rfl
end Go.DL
