/- Plain arithmetic modulo 65521: powers, inverses, Euclid. No program stands here. -/
import Derived.Test.YtmbbepdbjeciaaaGreatK1
namespace Go.DM
theorem small_pow:∀n:Nat,n < 257→n≠0→n ^ (2*32760)%65521=1:=by decide +kernel
theorem small_div:∀n:Nat,n < 257→2≤n→65521%n≠0:=by decide +kernel
theorem sq_mod {m r:Nat}(h:m+r=65521):m*m%65521=r*r%65521:=by
 have h1:m*m+m*r=m*65521:=by rw[←Nat.mul_add,h]
 have h2:m*r+r*r=65521*r:=by rw[←zad,h]
 have h3:m*m+r*65521=r*r+m*65521:=by omega
 have h4:(m*m+r*65521)%65521=(r*r+m*65521)%65521:=by rw[h3]
 simpa using h4
theorem pow_cong {a b:Nat}(h:a%65521=b%65521)(n:Nat):a ^ n%65521=b ^ n%65521:=by
 rw[Nat.pow_mod,h,←Nat.pow_mod]
theorem fermat_of (k:Nat)(small:∀n:Nat,n < 257→n≠0→n ^ (2*k)%65521=1):∀n:Nat,0 < n→n < 65521→n ^ (2*k)%65521=1:=fun n=>by
 induction n using Nat.strongRecOn with
 |_ n ih=>
  intro h0 h1
  rcases zZ n 257 with hs|hs
  ·exact small n hs (by omega)
  ·have hd:=zbP 65521 n
   have hr:65521%n < n:=zbq _ h0
   have hq:65521 / n < 257:=by
    rw[Nat.div_lt_iff_lt_mul h0];omega
   have hq0:0 < 65521 / n:=Nat.div_pos (by omega) h0
   generalize hqe:65521 / n=q at*
   generalize hre:65521%n=r at*
   have hr0:0 < r:=by
    rcases zag r with e|e
    ·exfalso
     subst e
     rcases zZ q 2 with h2|h2
     ·have:q=1:=by omega
      subst this;omega
     ·refine small_div q hq h2 ?_
      rw[←hd,za6,zbn];exact Nat.mul_mod_right _ _
    ·exact e
   have i1:=ih r hr hr0 (by omega)
   have i2:=small q hq (by omega)
   have e1:(n*q) ^ (2*k)%65521=r ^ (2*k)%65521:=by
    have hm:=sq_mod hd
    have e2:∀x:Nat,x ^ (2*k)=(x*x) ^ k:=fun x=>by rw[Nat.pow_mul,Nat.pow_two]
    rw[e2 (n*q),e2 r]
    exact pow_cong hm _
   rw[Nat.mul_pow,zbE,i2,Nat.mul_one,Nat.mod_mod,i1] at e1
   exact e1
def powN (n e:Nat):Nat:=n ^ e%65521
theorem powN_lt (n e:Nat):powN n e < 65521:=zbq _ (by decide)
theorem mul_powN {n e k:Nat}(he:e+1=2*k)(small:∀n:Nat,n < 257→n≠0→n ^ (2*k)%65521=1)(h0:0 < n)(h1:n < 65521):n*powN n e%65521=1:=by
 rw[powN,zbE,Nat.mod_mod,←zbE,←Nat.pow_succ',Nat.succ_eq_add_one,he]
 exact fermat_of k small n h0 h1
def invN (n:Nat):Nat:=powN n 65519
theorem invN_lt (n:Nat):invN n < 65521:=powN_lt n _
theorem mul_invN {n:Nat}(h0:0 < n)(h1:n < 65521):n*invN n%65521=1:=
 mul_powN (k:=32760) rfl small_pow h0 h1
theorem inv_unique {n a b:Nat}(ha:a < 65521)(hb:b < 65521)(h1:n*a%65521=1)(h2:n*b%65521=1):a=b:=by
 have e1:a*(n*b)%65521=a:=by rw[zbE,h2,Nat.mul_one,Nat.mod_mod,Nat.mod_eq_of_lt ha]
 have e2:b*(n*a)%65521=b:=by rw[zbE,h1,Nat.mul_one,Nat.mod_mod,Nat.mod_eq_of_lt hb]
 have e3:a*(n*b)=b*(n*a):=by
  rw[Nat.mul_left_comm a n b,Nat.mul_left_comm b n a,zbn a b]
 rw[←e1,e3,e2]
theorem gcd_one {n:Nat}(h0:0 < n)(h1:n < 65521):Nat.gcd n 65521=1:=by
 have hd1:Nat.gcd n 65521 ∣ n:=Nat.gcd_dvd_left _ _
 have hd2:Nat.gcd n 65521 ∣ 65521:=Nat.gcd_dvd_right _ _
 have h:=mul_invN h0 h1
 have h2:Nat.gcd n 65521 ∣ n*invN n%65521:=(Nat.dvd_mod_iff hd2).2 (Nat.dvd_trans hd1 (Nat.dvd_mul_right _ _))
 rw[h] at h2
 exact Nat.dvd_one.1 h2
structure Euc (n:Nat)(a b:Nat)(x y:Int):Prop where
 pos:0 < a
 cx:(x*n-a)%65521=0
 cy:(y*n-b)%65521=0
 gcd:Nat.gcd a b=Nat.gcd n 65521
 big:x.natAbs*b+y.natAbs*a≤65521
 la:a≤65521
 lb:b≤65521
 lx:x.natAbs≤65521
theorem Euc.ly {n a b:Nat}{x y:Int}(h:Euc n a b x y):y.natAbs≤65521:=by
 have h1:=h.big
 have h2:=Nat.le_mul_of_pos_right y.natAbs h.pos
 omega
theorem Euc.start {n:Nat}(h0:0 < n)(h1:n < 65521):Euc n n 65521 1 0:=
 ⟨h0,by simp,by simp,rfl,by simp,by omega,by decide,by decide⟩
theorem Euc.step {n a b:Nat}{x y:Int}(h:Euc n a b x y)(hb:b≠0):Euc n b (a%b) y (x-(a / b:Nat)*y):=by
 have hd:=zbP a b
 have hlt:a%b < b:=zbq _ (Nat.pos_of_ne_zero hb)
 refine⟨Nat.pos_of_ne_zero hb,h.cy,?_,?_,?_,h.lb,by have:=h.lb;omega,h.ly⟩
 ·have e:((x-((a / b:Nat):Int)*y)*n-((a%b:Nat):Int))=(x*n-a)-((a / b:Nat):Int)*(y*n-b):=by
   have hd':(a:Int)=b*((a / b:Nat):Int)+((a%b:Nat):Int):=by exact_mod_cast hd.symm
   generalize ((a / b:Nat):Int)=q at*
   generalize ((a%b:Nat):Int)=r at*
   rw[hd',Int.sub_mul,Int.mul_sub,Int.mul_comm q (b:Int),←Int.mul_assoc]
   omega
  have h1:=h.cx
  have h2:=h.cy
  rw[e,Int.sub_emod,h1,Int.mul_emod,h2];simp
 ·rw[←h.gcd,Nat.gcd_comm a b,Nat.gcd_rec b a,Nat.gcd_comm]
 ·have h1:(x-((a / b:Nat):Int)*y).natAbs≤x.natAbs+(a / b)*y.natAbs:=by
   have:=Int.natAbs_sub_le x (((a / b:Nat):Int)*y)
   rw[Int.natAbs_mul,Int.natAbs_natCast] at this
   exact this
  have h2:(x-((a / b:Nat):Int)*y).natAbs*b≤(x.natAbs+(a / b)*y.natAbs)*b:=zL _ h1
  have h3:=h.big
  have e1:(x.natAbs+(a / b)*y.natAbs)*b=x.natAbs*b+y.natAbs*(b*(a / b)):=by
   rw[zad]
   congr 1
   rw[zbn (a / b) y.natAbs,Nat.mul_assoc,zbn (a / b) b]
  have e2:y.natAbs*a=y.natAbs*(b*(a / b))+y.natAbs*(a%b):=by rw[←Nat.mul_add,hd]
  omega
theorem Euc.last {n a:Nat}{x y:Int}(h0:0 < n)(h1:n < 65521)(h:Euc n a 0 x y):x%65521=invN n:=by
 have ha:a=1:=by have:=h.gcd;rw[Nat.gcd_zero_right,gcd_one h0 h1] at this;exact this
 subst ha
 have hx:0≤x%65521:=Int.emod_nonneg _ (by decide)
 have hx2:x%65521 < 65521:=Int.emod_lt_of_pos _ (by decide)
 obtain⟨m,hm⟩:=zF hx
 rw[hm]
 congr 1
 refine inv_unique (n:=n) (by omega) (invN_lt n) ?_ (mul_invN h0 h1)
 have h2:=h.cx
 have h3:(x*n)%65521=1:=by omega
 rw[Int.mul_emod,hm] at h3
 have h4:((n*m%65521:Nat):Int)=1:=by
  rw[←h3,Int.natCast_emod,zay,Int.mul_comm (m:Int),Int.mul_emod]
  simp[Int.mul_emod]
 exact_mod_cast h4
theorem pow_even {out base n:Nat}(h:n%2=0):out*(base*base%65521) ^ (n / 2)%65521=out*base ^ n%65521:=by
 have e:base ^ n=(base*base) ^ (n / 2):=by
  rw[←Nat.pow_two,←Nat.pow_mul];congr 1;omega
 rw[zbE,←Nat.pow_mod,←zbE,e]
theorem pow_odd {out base n:Nat}(h:n%2=1):(out*base%65521)*(base*base%65521) ^ (n / 2)%65521=out*base ^ n%65521:=by
 have e:base ^ n=base*(base*base) ^ (n / 2):=by
  rw[←Nat.pow_two,←Nat.pow_mul,←Nat.pow_succ'];congr 1;omega
 rw[zbE,Nat.mod_mod,←Nat.pow_mod,←zbE,e,Nat.mul_assoc]
end Go.DM
/- Polynomials as lists of words: products with x less a word, and what goes through points. No program stands here. -/
namespace Go.DM
def mulX (r:Int):Int→List Int→List Int
 |p,[]=>[p%65521]
 |p,n::c=>((p-r*n)%65521)::mulX r n c
def times (c:List Int)(r:Int):List Int:=mulX r 0 c
theorem mulX_length (r:Int):∀(c:List Int) (p:Int),(mulX r p c).length=c.length+1
 |[],p=>rfl
 |n::c,p=>by simp[mulX,mulX_length r c n]
theorem times_length (c:List Int)(r:Int):(times c r).length=c.length+1:=mulX_length r c 0
theorem mulX_W (r:Int):∀(c:List Int) (p:Int),∀x,x∈mulX r p c→0≤x∧x≤65520
 |[],p,x,h=>by simp only[mulX,zC] at h;omega
 |n::c,p,x,h=>by
  simp only[mulX,zH] at h
  rcases h with h|h
  ·omega
  ·exact mulX_W r c n x h
theorem times_W (c:List Int)(r:Int):∀x,x∈times c r→0≤x∧x≤65520:=mulX_W r c 0
theorem mulX_snoc (r:Int):∀(l:List Int) (p:Int),∃d e,d.length=l.length∧mulX r p l=d++[e%65521]∧∀x,mulX r p (l++[x])=d++[(e-r*x)%65521,x%65521]
 |[],p=>⟨[],p,rfl,rfl,fun _=>rfl⟩
 |n::l,p=>by
  obtain⟨d,e,h1,h2,h3⟩:=mulX_snoc r l n
  exact⟨((p-r*n)%65521)::d,e,by simp[h1],by simp[mulX,h2],fun x=>by simp[mulX,h3]⟩
def tI (c:List Int)(r:Int)(k:Nat):List Int:=mulX r 0 (c.take k)++List.replicate (c.length-k) 0
theorem tI_length (c:List Int)(r:Int){k:Nat}(hk:k≤c.length):(tI c r k).length=c.length+1:=by
 simp[tI,mulX_length];omega
theorem tI_zero (c:List Int)(r:Int):tI c r 0=List.replicate (c.length+1) 0:=by
 simp[tI,mulX,zaW]
theorem tI_last (c:List Int)(r:Int){k:Nat}(hk:c.length≤k):tI c r k=times c r:=by
 simp[tI,times,zg hk,Nat.sub_eq_zero_of_le hk]
theorem tI_step (c:List Int)(r:Int){k:Nat}(hk:k < c.length):∃d a b rest,d.length=k∧tI c r k=d++a::b::rest∧b=0∧(0≤a∧a≤65520)∧
  tI c r (k+1)=d++((a-r*c[k])%65521)::(c[k]%65521)::rest:=by
 obtain⟨d,e,h1,h2,h3⟩:=mulX_snoc r (c.take k) 0
 have hr:c.length-k=(c.length-(k+1))+1:=by omega
 refine⟨d,e%65521,0,List.replicate (c.length-(k+1)) 0,by simp[h1];omega,?_,rfl,by omega,?_⟩
 ·rw[tI,h2,hr,zaW];simp
 ·rw[tI,zo hk,h3]
  have:(e%65521-r*c[k])%65521=(e-r*c[k])%65521:=by omega
  rw[this];simp
theorem set2 {α:Type}(d rest:List α)(a b v w:α):((d++a::b::rest).set (d.length+1) v).set d.length w=d++w::v::rest:=by
 rw[zal _ _ (by omega)]
 have:d.length+1-d.length=1:=by omega
 rw[this,zal _ _ (zf _),zaT];rfl
theorem get2 {α:Type}(d rest:List α)(a b:α)(h:d.length+1 < (d++a::b::rest).length):(d++a::b::rest)[d.length+1]=b:=by
 rw[zbM (by omega)];simp[show d.length+1-d.length=1 by omega]
theorem get1 {α:Type}(d rest:List α)(a:α)(h:d.length < (d++a::rest).length):(d++a::rest)[d.length]=a:=by
 rw[zbM (by omega)];simp
def addP (f:Int)(o p:List Int):List Int:=List.zipWith (fun o p=>(o+f*p)%65521) o p
def aI (f:Int)(o p:List Int)(k:Nat):List Int:=addP f (o.take k) (p.take k)++o.drop k
theorem addP_length {f:Int}{o p:List Int}(h:o.length=p.length):(addP f o p).length=o.length:=by simp[addP,h]
theorem addP_W {f:Int}:∀{o p:List Int},∀x,x∈addP f o p→0≤x∧x≤65520
 |[],_,x,h=>by simp[addP] at h
 |_::_,[],x,h=>by simp[addP] at h
 |a::o,b::p,x,h=>by
  simp only[addP,List.zipWith_cons_cons,zH] at h
  rcases h with h|h
  ·omega
  ·exact addP_W (o:=o) (p:=p) x h
theorem aI_zero (f:Int)(o p:List Int):aI f o p 0=o:=by simp[aI,addP]
theorem aI_last {f:Int}{o p:List Int}{k:Nat}(h:o.length=p.length)(hk:o.length≤k):aI f o p k=addP f o p:=by
 simp[aI,zg hk,zg (show p.length≤k by omega),zab hk]
theorem aI_step {f:Int}{o p:List Int}{k:Nat}(h:o.length=p.length)(hk:k < o.length):∃d rest,d.length=k∧aI f o p k=d++o[k]::rest∧aI f o p (k+1)=d++((o[k]+f*p[k])%65521)::rest:=by
 refine⟨addP f (o.take k) (p.take k),o.drop (k+1),by rw[addP_length (by simp[h])];simp;omega,?_,?_⟩
 ·rw[aI,zO hk]
 ·rw[aI,zo hk,zo (by omega),addP,List.zipWith_append (by simp;omega)]
  simp[addP]
theorem aI_length {f:Int}{o p:List Int}{k:Nat}(h:o.length=p.length)(hk:k≤o.length):(aI f o p k).length=o.length:=by
 simp[aI,addP,h];omega
theorem set1 {α:Type}(d rest:List α)(a v:α):(d++a::rest).set d.length v=d++v::rest:=by
 rw[zal _ _ (zf _),zaT];rfl
def invI (x:Int):Int:=(invN x.toNat:Nat)
theorem invI_W (x:Int):0≤invI x∧invI x≤65520:=by have:=invN_lt x.toNat;unfold invI;omega
def pthS (xs:List Int)(i:Nat):Nat→List Int × Int
 |0=>([1],1)
 |k+1=>if k=i then pthS xs i k else (times (pthS xs i k).1 (xs.getD k 0),((pthS xs i k).2*((xs.getD i 0-xs.getD k 0)%65521))%65521)
theorem pthS_W (xs:List Int)(i:Nat):∀k,(∀x,x∈(pthS xs i k).1→0≤x∧x≤65520)∧0≤(pthS xs i k).2∧(pthS xs i k).2≤65520
 |0=>⟨fun x h=>by simp only[pthS,zC] at h;omega,by show (0:Int)≤1;decide,by show (1:Int)≤65520;decide⟩
 |k+1=>by
  unfold pthS
  split
  ·exact pthS_W xs i k
  ·exact⟨times_W _ _,by simp only;omega⟩
theorem pthS_len (xs:List Int)(i:Nat):∀k,(pthS xs i k).1.length=if k≤i then k+1 else k
 |0=>by simp[pthS]
 |k+1=>by
  unfold pthS
  have ih:=pthS_len xs i k
  by_cases h:k=i
  ·rw[if_pos h,ih];subst h;simp
  ·rw[if_neg h]
   simp only[times_length,ih]
   by_cases h1:k≤i
   ·rw[if_pos h1,if_pos (by omega)]
   ·rw[if_neg h1,if_neg (by omega)]
def thrS (xs ys:List Int):Nat→List Int
 |0=>List.replicate xs.length 0
 |i+1=>addP ((ys.getD i 0*invI (pthS xs i xs.length).2)%65521) (thrS xs ys i) (pthS xs i xs.length).1
theorem thrS_len (xs ys:List Int):∀i,i≤xs.length→(thrS xs ys i).length=xs.length
 |0,_=>by simp[thrS]
 |i+1,h=>by
  have ih:=thrS_len xs ys i (by omega)
  rw[thrS,addP_length,ih]
  rw[ih,pthS_len,if_neg (by omega)]
theorem thrS_W (xs ys:List Int):∀i,∀x,x∈thrS xs ys i→0≤x∧x≤65520
 |0,x,h=>by simp only[thrS,zaM] at h;omega
 |i+1,x,h=>addP_W x h
def through (xs ys:List Int):List Int:=thrS xs ys xs.length
theorem get1' {α:Type}{q d rest:List α}{a:α}{k:Nat}(he:q=d++a::rest)(hd:d.length=k)(h:k < q.length):q[k]=a:=by
 subst he;subst hd;exact get1 _ _ _ _
theorem set1' {α:Type}{q d rest:List α}{a:α}{k:Nat}(v:α)(he:q=d++a::rest)(hd:d.length=k):q.set k v=d++v::rest:=by
 subst he;subst hd;exact set1 _ _ _ _
end Go.DM
/- Interpolation modulo 65521: the polynomial through points has their values there, and it is the only one of its length. No program stands here. -/
namespace Go.DM
def Cg (a b:Int):Prop:=∃k:Int,a=b+65521*k
theorem Cg.refl (a:Int):Cg a a:=⟨0,by omega⟩
theorem Cg.of_eq {a b:Int}(h:a=b):Cg a b:=h ▸ .refl a
theorem Cg.symm {a b:Int}(h:Cg a b):Cg b a:=by obtain⟨k,h⟩:=h;exact⟨-k,by omega⟩
theorem Cg.trans {a b c:Int}(h:Cg a b)(g:Cg b c):Cg a c:=by obtain⟨k,h⟩:=h;obtain⟨l,g⟩:=g;exact⟨k+l,by omega⟩
theorem Cg.add {a b c d:Int}(h:Cg a b)(g:Cg c d):Cg (a+c) (b+d):=by obtain⟨k,h⟩:=h;obtain⟨l,g⟩:=g;exact⟨k+l,by omega⟩
theorem Cg.sub {a b c d:Int}(h:Cg a b)(g:Cg c d):Cg (a-c) (b-d):=by obtain⟨k,h⟩:=h;obtain⟨l,g⟩:=g;exact⟨k-l,by omega⟩
theorem Cg.mul {a b c d:Int}(h:Cg a b)(g:Cg c d):Cg (a*c) (b*d):=by
 obtain⟨k,h⟩:=h;obtain⟨l,g⟩:=g;exact⟨b*l+k*d+65521*k*l,by grind⟩
theorem Cg.mod (a:Int):Cg (a%65521) a:=⟨-(a / 65521),by omega⟩
theorem cg_iff {a b:Int}:Cg a b↔a%65521=b%65521:=⟨fun⟨k,h⟩=>by omega,fun h=>⟨a / 65521-b / 65521,by omega⟩⟩
theorem Cg.word {a b:Int}(h:Cg a b)(ha:0≤a∧a≤65520)(hb:0≤b∧b≤65520):a=b:=by obtain⟨k,h⟩:=h;omega
theorem mul_invI {a:Int}(h0:0 < a)(h1:a≤65520):Cg (a*invI a) 1:=by
 obtain⟨n,rfl⟩:=zF (show 0≤a by omega)
 have h:=mul_invN (n:=n) (by omega) (by omega)
 rw[cg_iff]
 show ((n:Int)*((invN (n:Int).toNat:Nat):Int))%65521=1%65521
 rw[zM]
 have:((n*invN n%65521:Nat):Int)=1:=by rw[h];rfl
 rw[←zay]
 omega
theorem mul_zero {a b:Int}(h:Cg (a*b) 0)(ha:¬Cg a 0):Cg b 0:=by
 have h0:0 < a%65521:=by
  rcases Int.lt_or_le 0 (a%65521) with x|x
  ·exact x
  ·exact absurd (cg_iff.2 (by omega)) ha
 have hi:=mul_invI h0 (by omega)
 have h2:Cg (a*invI (a%65521)) 1:=(((Cg.mod a).symm).mul (.refl _)).trans hi
 have h3:Cg (a*invI (a%65521)*b) (1*b):=h2.mul (.refl _)
 have h4:Cg (a*b*invI (a%65521)) (0*invI (a%65521)):=h.mul (.refl _)
 have e:a*invI (a%65521)*b=a*b*invI (a%65521):=by grind
 rw[e] at h3
 have h5:=h3.symm.trans h4
 simpa using h5
def evP:List Int→Int→Int
 |[],_=>0
 |a::c,x=>a+x*evP c x
theorem evP_zero (x:Int):∀n,evP (List.replicate n 0) x=0
 |0=>rfl
 |n+1=>by simp[zaW,evP,evP_zero x n]
def Apart (xs:List Int):Prop:=(∀x,x∈xs→0≤x∧x≤65520)∧∀i j:Nat,i < j→j < xs.length→xs.getD i 0≠xs.getD j 0
theorem Apart.ne {xs:List Int}(h:Apart xs){i j:Nat}(hi:i < xs.length)(hj:j < xs.length)(hn:i≠j):¬Cg (xs.getD i 0-xs.getD j 0) 0:=by
 intro hc
 have wi:=h.1 (xs.getD i 0) (by simp[List.getD,hi])
 have wj:=h.1 (xs.getD j 0) (by simp[List.getD,hj])
 have e:xs.getD i 0=xs.getD j 0:=by obtain⟨k,hk⟩:=hc;omega
 rcases Nat.lt_or_gt_of_ne hn with x|x
 ·exact h.2 i j x hj e
 ·exact h.2 j i x hi e.symm
theorem through_len (xs ys:List Int):(through xs ys).length=xs.length:=thrS_len _ _ _ (zf _)
theorem through_W (xs ys:List Int):∀x,x∈through xs ys→0≤x∧x≤65520:=thrS_W xs ys _
def sdiv:List Int→Int→List Int
 |[],_=>[]
 |[_],_=>[]
 |_::b::c,r=>evP (b::c) r::sdiv (b::c) r
theorem sdiv_len (r:Int):∀c:List Int,(sdiv c r).length=c.length-1
 |[]=>rfl
 |[_]=>rfl
 |a::b::c=>by simp[sdiv,sdiv_len r (b::c)]
theorem sdiv_ev (r x:Int):∀c:List Int,evP c x=evP c r+(x-r)*evP (sdiv c r) x
 |[]=>by simp[sdiv,evP]
 |[a]=>by simp[sdiv,evP]
 |a::b::c=>by
  have ih:=sdiv_ev r x (b::c)
  show a+x*evP (b::c) x=a+r*evP (b::c) r+(x-r)*(evP (b::c) r+x*evP (sdiv (b::c) r) x)
  rw[ih];grind
theorem sdiv_zero (r:Int):∀c:List Int,Cg (evP c r) 0→(∀a,a∈sdiv c r→Cg a 0)→∀a,a∈c→Cg a 0
 |[],_,_,_,h=>by cases h
 |[a],h,_,x,hx=>by
  simp only[zC] at hx
  subst hx
  simpa[evP] using h
 |a::b::c,h,hs,x,hx=>by
  have h1:Cg (evP (b::c) r) 0:=hs _ (by simp[sdiv])
  have ih:=sdiv_zero r (b::c) h1 (fun y hy=>hs y (by simp[sdiv,hy]))
  rcases zH.1 hx with e|e
  ·subst e
   have h2:Cg (x+r*evP (b::c) r) 0:=h
   have h3:=h2.sub ((Cg.refl r).mul h1)
   have e1:x+r*evP (b::c) r-r*evP (b::c) r=x:=by omega
   rw[e1] at h3
   simpa using h3
  ·exact ih x e
theorem roots_zero:∀(xs c:List Int),c.length≤xs.length→Apart xs→(∀x,x∈xs→Cg (evP c x) 0)→∀a,a∈c→Cg a 0
 |[],c,hl,_,_=>by
  have:c=[]:=zU (by simpa using hl)
  subst this
  intro a h;cases h
 |r::xs,c,hl,hA,hr=>by
  have hA':Apart xs:=⟨fun x hx=>hA.1 x (zG _ hx),fun i j h1 h2=>by
   have:=hA.2 (i+1) (j+1) (by omega) (by simpa using h2)
   simpa using this⟩
  refine sdiv_zero r c (hr r (zB ..)) (roots_zero xs (sdiv c r) (by rw[sdiv_len];simp at hl;omega) hA' fun x hx=>?_)
  have h1:=hr x (zG _ hx)
  rw[sdiv_ev r x c] at h1
  have h2:=h1.sub (hr r (zB ..))
  have e:evP c r+(x-r)*evP (sdiv c r) x-evP c r=(x-r)*evP (sdiv c r) x:=by omega
  rw[e] at h2
  refine mul_zero h2 fun h3=>?_
  obtain⟨i,hi⟩:=List.getElem?_of_mem hx
  have hi':i < xs.length:=(za.1 hi).1
  have h4:=hA.ne (i:=i+1) (j:=0) (by simpa using hi') (by simp) (by omega)
  apply h4
  simpa[List.getD,hi] using h3
theorem evP_sub (x:Int):∀{c d:List Int},c.length=d.length→evP (List.zipWith (·-·) c d) x=evP c x-evP d x
 |[],[],_=>by simp[evP]
 |a::c,b::d,h=>by
  have ih:=evP_sub x (c:=c) (d:=d) (by simpa using h)
  show (a-b)+x*evP (List.zipWith (·-·) c d) x=(a+x*evP c x)-(b+x*evP d x)
  rw[ih];grind
 |[],_::_,h=>by simp at h
 |_::_,[],h=>by simp at h
theorem only_one {xs c d:List Int}(hl:c.length=d.length)(hx:c.length≤xs.length)(hA:Apart xs)(hc:∀a,a∈c→0≤a∧a≤65520)(hd:∀a,a∈d→0≤a∧a≤65520)
  (h:∀x,x∈xs→Cg (evP c x) (evP d x)):c=d:=by
 have hz:=roots_zero xs (List.zipWith (·-·) c d) (by simp;omega) hA fun x hx'=>by
  rw[evP_sub x hl]
  have:=(h x hx').sub (Cg.refl (evP d x))
  simpa using this
 refine zaz hl fun i h1 h2=>?_
 have:=hz (c[i]-d[i]) (zav.2 ⟨i,by simp;omega,by simp⟩)
 have w1:=hc c[i] (zi h1)
 have w2:=hd d[i] (zi h2)
 obtain⟨k,hk⟩:=this
 omega
end Go.DM
/- Berlekamp and Welch: what points with few faults tell. No program stands here. -/
namespace Go.DM
def addL:List Int→List Int→List Int
 |[],b=>b
 |a,[]=>a
 |x::a,y::b=>(x+y)::addL a b
def smul (s:Int)(a:List Int):List Int:=a.map (s*·)
def zeK:List Int→List Int→List Int
 |[],E=>List.replicate (E.length-1) 0
 |c::cs,E=>addL (smul c E) (0::zeK cs E)
theorem addL_len:∀a b:List Int,(addL a b).length=max a.length b.length
 |[],b=>by simp[addL]
 |x::a,[]=>by simp[addL]
 |x::a,y::b=>by simp[addL,addL_len a b]
theorem evP_addL (x:Int):∀a b:List Int,evP (addL a b) x=evP a x+evP b x
 |[],b=>by simp[addL,evP]
 |_::_,[]=>by simp[addL,evP]
 |a::as,b::bs=>by
  show (a+b)+x*evP (addL as bs) x=_
  rw[evP_addL x as bs];simp only[evP];grind
theorem evP_smul (s x:Int):∀a:List Int,evP (smul s a) x=s*evP a x
 |[]=>by simp[smul,evP]
 |a::as=>by
  show s*a+x*evP (smul s as) x=_
  rw[evP_smul s x as];simp only[evP];grind
theorem mulP_len {E:List Int}(hE:0 < E.length):∀c:List Int,(zeK c E).length=c.length+(E.length-1)
 |[]=>by simp[zeK]
 |c::cs=>by
  rw[zeK,addL_len,z4,mulP_len hE cs]
  simp[smul];omega
theorem evP_mulP (E:List Int)(x:Int):∀c:List Int,evP (zeK c E) x=evP c x*evP E x
 |[]=>by simp[zeK,evP,evP_zero]
 |c::cs=>by
  rw[zeK,evP_addL,evP_smul]
  show c*evP E x+(0+x*evP (zeK cs E) x)=(c+x*evP cs x)*evP E x
  rw[evP_mulP E x cs];grind
theorem apart_iff {xs:List Int}:Apart xs↔(∀x,x∈xs→0≤x∧x≤65520)∧xs.Nodup:=by
 unfold Apart
 refine and_congr_right fun _=>?_
 rw[List.nodup_iff_pairwise_ne,zaZ]
 constructor
 ·intro h i j hi hj hij
  have:=h i j hij hj
  simpa[List.getD,hi,hj] using this
 ·intro h i j hij hj
  have hi:i < xs.length:=by omega
  have:=h i j hi hj hij
  simpa[List.getD,hi,hj] using this
theorem Apart.sub {xs ys:List Int}(h:Apart xs)(hs:ys.Sublist xs):Apart ys:=
 apart_iff.2 ⟨fun x hx=>h.1 x (hs.subset hx),(apart_iff.1 h).2.sublist hs⟩
instance (a b:Int):Decidable (Cg a b):=decidable_of_iff _ cg_iff.symm
def hits (c:List Int)(p:Int × Int):Bool:=decide (Cg (evP c p.1) p.2)
def faults (c:List Int)(ps:List (Int × Int)):Nat:=(ps.filter fun p=>!hits c p).length
theorem hits_faults (c:List Int)(ps:List (Int × Int)):(ps.filter (hits c)).length+faults c ps=ps.length:=by
 unfold faults
 induction ps with
 |nil=>rfl
 |cons p ps ih=>
  cases h:hits c p<;>simp[zbK,h]<;>omega
structure Good (k e:Nat)(ps:List (Int × Int))(c:List Int):Prop where
 len:c.length=k
 W:∀a,a∈c→0≤a∧a≤65520
 few:faults c ps≤e
theorem Good.one {k e:Nat}{ps:List (Int × Int)}(hA:Apart (ps.map Prod.fst))(hL:k+2*e≤ps.length){c d:List Int}(hc:Good k e ps c)(hd:Good k e ps d):c=d:=by
 have h1:(ps.filter fun p=>hits c p&&hits d p).length+(faults c ps+faults d ps)≥ps.length:=by
  have hl:∀qs:List (Int × Int),(qs.filter fun p=>hits c p&&hits d p).length+(faults c qs+faults d qs)≥qs.length:=by
   intro qs
   unfold faults
   induction qs with
   |nil=>simp
   |cons p qs ih=>cases h1:hits c p<;>cases h2:hits d p<;>simp[zbK,h1,h2]<;>omega
  exact hl ps
 have h2:=hc.few
 have h3:=hd.few
 refine only_one (xs:=(ps.filter fun p=>hits c p&&hits d p).map Prod.fst) (by rw[hc.len,hd.len]) (by rw[hc.len,ze];omega) (hA.sub (List.filter_sublist.map _)) hc.W hd.W fun x hx=>?_
 obtain⟨p,hp,rfl⟩:=zt.1 hx
 have hp2:=(zar.1 hp).2
 simp only[hits,zJ,decide_eq_true_eq] at hp2
 exact hp2.1.trans hp2.2.symm
structure Key (k e:Nat)(ps:List (Int × Int))(q E:List Int):Prop where
 ql:q.length=k+e
 el:E.length=e+1
 mon:E.getD e 0=1
 at_:∀p,p∈ps→Cg (evP q p.1) (p.2*evP E p.1)
theorem Key.mul {k e:Nat}{ps:List (Int × Int)}{q E c:List Int}(hA:Apart (ps.map Prod.fst))(hL:k+2*e≤ps.length)(h:Key k e ps q E)(hc:Good k e ps c):∀a,a∈List.zipWith (·-·) q (zeK c E)→Cg a 0:=by
 have hml:(zeK c E).length=k+e:=by rw[mulP_len (by rw[h.el];omega),hc.len,h.el];omega
 have hh:=hits_faults c ps
 have hf:=hc.few
 refine roots_zero ((ps.filter (hits c)).map Prod.fst) _ (by simp[h.ql,hml];omega) (hA.sub (List.filter_sublist.map _)) fun x hx=>?_
 obtain⟨p,hp,rfl⟩:=zt.1 hx
 obtain⟨hp1,hp2⟩:=zar.1 hp
 rw[evP_sub _ (by rw[h.ql,hml]),evP_mulP]
 have h1:=h.at_ p hp1
 have h2:Cg (evP c p.1) p.2:=by simpa[hits] using hp2
 have h3:=h1.sub (h2.mul (Cg.refl (evP E p.1)))
 simpa using h3
theorem monic_roots {e:Nat}{E:List Int}(el:E.length=e+1)(mon:E.getD e 0=1){xs:List Int}(hA:Apart xs)(hr:∀x,x∈xs→Cg (evP E x) 0):xs.length≤e:=by
 rcases zZ e xs.length with h|h
 ·have h1:=roots_zero xs E (by omega) hA hr (E.getD e 0) (by simp[List.getD,el])
  rw[mon,cg_iff] at h1
  simp at h1
 ·exact h
theorem Key.good {k e:Nat}{ps:List (Int × Int)}{q E c:List Int}(hA:Apart (ps.map Prod.fst))(h:Key k e ps q E)(cl:c.length=k)(cW:∀a,a∈c→0≤a∧a≤65520)
  (hm:∀x,Cg (evP q x) (evP c x*evP E x)):Good k e ps c:=by
 refine⟨cl,cW,?_⟩
 have h1:=monic_roots h.el h.mon (xs:=(ps.filter fun p=>!hits c p).map Prod.fst) (hA.sub (List.filter_sublist.map _)) fun x hx=>by
  obtain⟨p,hp,rfl⟩:=zt.1 hx
  obtain⟨hp1,hp2⟩:=zar.1 hp
  have h2:=(hm p.1).symm.trans (h.at_ p hp1)
  have h3:Cg ((evP c p.1-p.2)*evP E p.1) 0:=by
   have:=h2.sub (Cg.refl (p.2*evP E p.1))
   rw[Int.sub_self] at this
   have e1:(evP c p.1-p.2)*evP E p.1=evP c p.1*evP E p.1-p.2*evP E p.1:=by grind
   rw[e1];exact this
  refine mul_zero h3 fun h4=>?_
  have h5:Cg (evP c p.1) p.2:=by
   have:=h4.add (Cg.refl p.2)
   simpa using this
  simp[hits,h5] at hp2
 simpa[faults] using h1
def ze2:List Int→Nat→List Int
 |[],0=>[1]
 |[],n+1=>zeK (ze2 [] n) [0,1]
 |r::rs,n=>zeK (ze2 rs n) [-r,1]
theorem last_mul (r:Int):∀c:List Int,0 < c.length→(zeK c [r,1]).getD c.length 0=c.getD (c.length-1) 0
 |[],h=>by simp at h
 |[a],_=>by simp[zeK,addL,smul]
 |a::b::c,_=>by
  have ih:=last_mul r (b::c) (by simp)
  have hl:=mulP_len (E:=[r,1]) (by simp) (b::c)
  simp only[zeK,smul,zy,z8,addL] at ih hl ⊢
  simpa using ih
theorem rootsP_mon:∀(rs:List Int) (n:Nat),(ze2 rs n).length=rs.length+n+1∧(ze2 rs n).getD (rs.length+n) 0=1
 |[],0=>by simp[ze2]
 |[],n+1=>by
  obtain⟨h1,h2⟩:=rootsP_mon [] n
  refine⟨by rw[ze2,mulP_len (by simp),h1];simp,?_⟩
  have:=last_mul 0 (ze2 [] n) (by omega)
  rw[h1] at this
  rw[ze2,show ([]:List Int).length+(n+1)=[].length+n+1 by omega,this]
  simpa using h2
 |r::rs,n=>by
  obtain⟨h1,h2⟩:=rootsP_mon rs n
  refine⟨by rw[ze2,mulP_len (by simp),h1];simp;omega,?_⟩
  have:=last_mul (-r) (ze2 rs n) (by omega)
  rw[h1] at this
  rw[ze2,show (r::rs).length+n=rs.length+n+1 by simp;omega,this]
  simpa using h2
theorem rootsP_root (x:Int):∀(rs:List Int) (n:Nat),x∈rs→evP (ze2 rs n) x=0
 |[],_,h=>by cases h
 |r::rs,n,h=>by
  rw[ze2,evP_mulP]
  rcases zH.1 h with e|e
  ·subst e
   have e1:evP [-x,1] x=0:=by simp[evP];omega
   rw[e1];simp
  ·rw[rootsP_root x rs n e];simp
theorem Good.key {k e:Nat}{ps:List (Int × Int)}{c:List Int}(hc:Good k e ps c):∃q E,Key k e ps q E:=by
 let bad:=(ps.filter fun p=>!hits c p).map Prod.fst
 have hb:bad.length≤e:=by simpa[bad,faults] using hc.few
 obtain⟨h1,h2⟩:=rootsP_mon bad (e-bad.length)
 rw[show bad.length+(e-bad.length)=e by omega] at h1 h2
 refine⟨zeK c (ze2 bad (e-bad.length)),ze2 bad (e-bad.length),by rw[mulP_len (by omega),hc.len,h1];omega,h1,h2,fun p hp=>?_⟩
 rw[evP_mulP]
 by_cases hh:hits c p=true
 ·have:Cg (evP c p.1) p.2:=by simpa[hits] using hh
  exact this.mul (.refl _)
 ·have:evP (ze2 bad (e-bad.length)) p.1=0:=rootsP_root _ _ _ (zt.2 ⟨p,zar.2 ⟨hp,by simpa using hh⟩,rfl⟩)
  rw[this];simp;exact .refl _
end Go.DM
/- Division of polynomials by one whose last coefficient is 1. No program stands here. -/
namespace Go.DM
theorem getD_addL:∀(a b:List Int) (j:Nat),(addL a b).getD j 0=a.getD j 0+b.getD j 0
 |[],b,j=>by simp[addL]
 |_::_,[],j=>by simp[addL]
 |a::as,b::bs,0=>by simp[addL]
 |a::as,b::bs,j+1=>by
  have:=getD_addL as bs j
  simpa[addL] using this
theorem getD_smul (s:Int)(a:List Int)(j:Nat):(smul s a).getD j 0=s*a.getD j 0:=by
 simp only[smul,zc,zl]
 cases a[j]? <;> simp
theorem getD_mulP (c:Int)(cs E:List Int)(j:Nat):(zeK (c::cs) E).getD j 0=c*E.getD j 0+(match j with|0=>0|i+1=>(zeK cs E).getD i 0):=by
 rw[zeK,getD_addL,getD_smul]
 cases j<;>simp
theorem getD_nil (E:List Int)(j:Nat):(zeK [] E).getD j 0=0:=by
 simp only[zeK,zc,zY]
 split<;>rfl
theorem getD_snoc (z:Int)(E:List Int):∀(g:List Int) (j:Nat),(zeK (g++[z]) E).getD j 0=(zeK g E).getD j 0+(if g.length≤j then z*E.getD (j-g.length) 0 else 0)
 |[],j=>by
  rw[List.nil_append,getD_mulP,getD_nil]
  cases j with
  |zero=>simp
  |succ j=>simp only[getD_nil];simp
 |c::g,j=>by
  rw[List.cons_append,getD_mulP,getD_mulP]
  cases j with
  |zero=>simp
  |succ j=>
   simp only[getD_snoc z E g j,z4]
   by_cases h:g.length≤j
   ·rw[if_pos h,if_pos (by omega),show j+1-(g.length+1)=j-g.length by omega];omega
   ·rw[if_neg h,if_neg (by omega)];omega
theorem div_zero {e:Nat}{b:List Int}(bl:b.length=e+1)(mon:b.getD e 0=1):∀(n:Nat) (f:List Int),f.length=n→(∀j,e≤j→Cg ((zeK f b).getD j 0) 0)→∀a,a∈f→Cg a 0
 |0,f,hl,_,a,ha=>by
  rw[zU hl] at ha;cases ha
 |n+1,f,hl,h,a,ha=>by
  obtain⟨g,z,rfl⟩:∃g z,f=g++[z]:=⟨f.dropLast,f.getLast (by intro e;subst e;simp at hl),(zbA _).symm⟩
  have hg:g.length=n:=by simpa using hl
  have hz:Cg z 0:=by
   have h1:=h (g.length+e) (by omega)
   rw[getD_snoc,if_pos (by omega),show g.length+e-g.length=e by omega,mon,Int.mul_one] at h1
   have h2:(zeK g b).getD (g.length+e) 0=0:=by
    have:=mulP_len (E:=b) (by omega) g
    rw[zc,zs (by omega)];rfl
   rw[h2,Int.zero_add] at h1
   exact h1
  rcases zK.1 ha with h1|h1
  ·refine div_zero bl mon n g hg (fun j hj=>?_) a h1
   have h2:=h j hj
   rw[getD_snoc] at h2
   have h3:Cg (if g.length≤j then z*b.getD (j-g.length) 0 else 0) 0:=by
    split
    ·have:=hz.mul (Cg.refl (b.getD (j-g.length) 0));simpa using this
    ·exact .refl _
   have:=h2.sub h3
   simpa using this
  ·rw[zC.1 h1];exact hz
def allX:List Int:=(List.range 65521).map fun i:Nat=>(i:Int)
theorem allX_apart:Apart allX:=apart_iff.2 ⟨fun x hx=>by
  obtain⟨i,hi,rfl⟩:=zt.1 hx
  rw[zP] at hi;omega,by
  unfold allX
  rw[List.nodup_iff_pairwise_ne,zaJ]
  exact List.Pairwise.imp (fun h e=>h (by exact_mod_cast e)) (List.nodup_iff_pairwise_ne.1 List.nodup_range)⟩
theorem coefs_of {q:List Int}(hl:q.length≤65521)(h:∀x,Cg (evP q x) 0):∀a,a∈q→Cg a 0:=
 roots_zero allX q (by rw[allX,ze,zbp];exact hl) allX_apart fun x _=>h x
theorem zero_ev (x:Int):∀{q:List Int},(∀a,a∈q→Cg a 0)→Cg (evP q x) 0
 |[],_=>.refl _
 |a::q,h=>by
  have h1:=h a (zB ..)
  have h2:=zero_ev x fun b hb=>h b (zG _ hb)
  have:=h1.add ((Cg.refl x).mul h2)
  simpa[evP] using this
theorem div_ok {k e:Nat}{a b out rest c:List Int}(hs:k+e≤65521)(bl:b.length=e+1)(mon:b.getD e 0=1)(al:a.length=k+e)(ol:out.length=k)(oW:∀z,z∈out→0≤z∧z≤65520)(rl:rest.length=k+e)(rW:∀z,z∈rest→0≤z∧z≤65520)
  (hr:∀j,e≤j→rest.getD j 0=0) (hd:∀x,Cg (evP a x) (evP rest x+evP b x*evP out x)) (cl:c.length=k) (cW:∀z,z∈c→0≤z∧z≤65520) (hc:∀z,z∈List.zipWith (·-·) a (zeK c b)→Cg z 0):
  out=c∧∀z,z∈rest→z=0:=by
 have ml:∀f:List Int,f.length=k→(zeK f b).length=k+e:=fun f hf=>by rw[mulP_len (by omega),hf,bl];omega
 let f:=List.zipWith (·-·) c out
 have fl:f.length=k:=by simp[f,cl,ol]
 have h1:∀x,Cg (evP rest x) (evP (zeK f b) x):=fun x=>by
  have h2:=zero_ev x hc
  rw[evP_sub x (by rw[al,ml c cl]),evP_mulP] at h2
  rw[evP_mulP,evP_sub x (by rw[cl,ol])]
  have h3:=(hd x).symm.trans (show Cg (evP a x) (evP c x*evP b x) by have:=h2.add (Cg.refl (evP c x*evP b x));simpa using this)
  have h4:=h3.sub (Cg.refl (evP b x*evP out x))
  have e1:evP rest x+evP b x*evP out x-evP b x*evP out x=evP rest x:=by omega
  rw[e1] at h4
  have e2:(evP c x-evP out x)*evP b x=evP c x*evP b x-evP b x*evP out x:=by grind
  rw[e2];exact h4
 have h2:∀z,z∈List.zipWith (·-·) rest (zeK f b)→Cg z 0:=coefs_of (by simp[rl,ml f fl];omega) fun x=>by
  rw[evP_sub x (by rw[rl,ml f fl])]
  have:=(h1 x).sub (Cg.refl (evP (zeK f b) x))
  rw[Int.sub_self] at this
  exact this
 have h3:∀j,Cg (rest.getD j 0) ((zeK f b).getD j 0):=fun j=>by
  have e3:=ml f fl
  by_cases hj:j < k+e
  ·have:=h2 (rest[j]'(by omega)-(zeK f b)[j]'(by omega)) (zav.2 ⟨j,by simp;omega,by simp⟩)
   simp only[zc,zb (show j < rest.length by omega),zb (show j < (zeK f b).length by omega),zao]
   have h5:=this.add (Cg.refl ((zeK f b)[j]'(by omega)))
   simpa using h5
  ·simp only[zc,zs (show rest.length≤j by omega),zs (show (zeK f b).length≤j by omega)]
   exact .refl _
 have h4:=div_zero bl mon k f fl fun j hj=>by
  have:=h3 j
  rw[hr j hj] at this
  exact this.symm
 refine⟨zaz (by rw[ol,cl]) fun i g1 g2=>?_,fun z hz=>?_⟩
 ·have:=h4 (c[i]-out[i]) (zav.2 ⟨i,by omega,by simp[f]⟩)
  have w1:=cW c[i] (zi g2)
  have w2:=oW out[i] (zi g1)
  obtain⟨q,hq⟩:=this
  omega
 ·have h5:=coefs_of (q:=rest) (by omega) (fun x=>(h1 x).trans (by
   rw[evP_mulP]
   have:=(zero_ev x h4).mul (Cg.refl (evP b x))
   simpa using this)) z hz
  exact h5.word (rW z hz) (by omega)
end Go.DM
/- Linear equations modulo 65521, solved by elimination. No program stands here. -/
namespace Go.DM
def zeh:List Int→List Int→Int
 |r::rs,x::xs=>r*x+zeh rs xs
 |_,_=>0
def Holds (n:Nat)(r x:List Int):Prop:=Cg (zeh r x) (r.getD n 0)
def Sol (n:Nat)(M:List (List Int))(x:List Int):Prop:=x.length=n∧∀r,r∈M→Holds n r x
def ent (M:List (List Int))(i j:Nat):Int:=(M.getD i []).getD j 0
def scaleR (s:Int)(r:List Int):List Int:=r.map fun a=>a*s%65521
def elimR (f:Int)(u r:List Int):List Int:=List.zipWith (fun a b=>(a-f*b)%65521) r u
theorem dotP_scale (s:Int):∀(r x:List Int),Cg (zeh (scaleR s r) x) (s*zeh r x)
 |[],_=>by simp[scaleR,zeh];exact .refl _
 |_::_,[]=>by simp[scaleR,zeh];exact .refl _
 |a::r,x::xs=>by
  have ih:=dotP_scale s r xs
  have h1:=((Cg.mod (a*s)).mul (Cg.refl x)).add ih
  refine h1.trans (.of_eq ?_)
  simp only[zeh];grind
theorem getD_scale (s:Int)(r:List Int)(j:Nat):(scaleR s r).getD j 0=r.getD j 0*s%65521:=by
 simp only[scaleR,zc,zl]
 cases r[j]? <;> simp
theorem dotP_elim (f:Int):∀(u r x:List Int),u.length=r.length→Cg (zeh (elimR f u r) x) (zeh r x-f*zeh u x)
 |[],[],_,_=>by simp[elimR,zeh];exact .refl _
 |_::_,_::_,[],_=>by simp[elimR,zeh];exact .refl _
 |b::u,a::r,x::xs,h=>by
  have ih:=dotP_elim f u r xs (by simpa using h)
  have h1:=((Cg.mod (a-f*b)).mul (Cg.refl x)).add ih
  refine h1.trans (.of_eq ?_)
  simp only[zeh];grind
 |[],_::_,_,h=>by simp at h
 |_::_,[],_,h=>by simp at h
theorem getD_elim (f:Int){u r:List Int}(h:u.length=r.length)(j:Nat):(elimR f u r).getD j 0=(r.getD j 0-f*u.getD j 0)%65521:=by
 simp only[elimR,zc,List.getElem?_zipWith]
 by_cases hj:j < r.length
 ·simp[hj,show j < u.length by omega]
 ·simp[zs (show r.length≤j by omega),zs (show u.length≤j by omega)]
theorem holds_scale {n:Nat}{s t:Int}(ht:Cg (s*t) 1)(r x:List Int):Holds n (scaleR s r) x↔Holds n r x:=by
 unfold Holds
 rw[getD_scale]
 constructor
 ·intro h
  have h1:=((dotP_scale s r x).symm.trans (h.trans (Cg.mod _)))
  have h2:=h1.mul (Cg.refl t)
  have h3:Cg (s*t*zeh r x) (s*t*r.getD n 0):=by
   refine (Cg.of_eq ?_).trans (h2.trans (.of_eq ?_))<;>grind
  have h4:=(ht.mul (Cg.refl (zeh r x))).symm.trans (h3.trans (ht.mul (Cg.refl (r.getD n 0))))
  simpa using h4
 ·intro h
  refine (dotP_scale s r x).trans (Cg.trans ?_ (Cg.mod _).symm)
  rw[Int.mul_comm (r.getD n 0)]
  exact (Cg.refl s).mul h
theorem holds_elim {n:Nat}{f:Int}{u r x:List Int}(hl:u.length=r.length)(hu:Holds n u x):Holds n (elimR f u r) x↔Holds n r x:=by
 unfold Holds at hu ⊢
 rw[getD_elim f hl]
 have h0:=dotP_elim f u r x hl
 have h1:=(Cg.refl f).mul hu
 constructor
 ·intro h
  have h2:=h0.symm.trans (h.trans (Cg.mod _))
  have h3:=h2.add h1
  refine (Cg.of_eq ?_).trans (h3.trans (.of_eq ?_))<;>omega
 ·intro h
  exact h0.trans ((h.sub h1).trans (Cg.mod _).symm)
structure Elim (L n:Nat)(M0:List (List Int))(c used:Nat)(at':List Int)(M:List (List Int)):Prop where
 ml:M.length=L
 rl:∀r,r∈M→r.length=n+1∧∀a,a∈r→0≤a∧a≤65520
 ul:used≤L
 cl:c≤n
 al:at'.length=n
 a0:∀j,j < n→(at'.getD j 0=0∨(j < c∧∃r,r < used∧at'.getD j 0=(r:Int)+1))
 has:∀r,r < used→∃j,j < c∧at'.getD j 0=(r:Int)+1
 inj:∀{j q:Nat},j < n→q < n→at'.getD j 0=at'.getD q 0→at'.getD j 0≠0→j=q
 piv:∀j r,j < c→r < used→at'.getD j 0=(r:Int)+1→∀i,i < L→ent M i j=if i=r then 1 else 0
 low:∀i j,used≤i→i < L→j < c→ent M i j=0
 sol:∀x,Sol n M x↔Sol n M0 x
theorem ent_mem {M:List (List Int)}{i:Nat}(h:i < M.length):M.getD i []∈M:=by
 simp[zc,zb h]
theorem dot_one:∀(r x:List Int) (q:Nat),q < r.length→q < x.length→(∀j,j≠q→r.getD j 0*x.getD j 0=0)→zeh r x=r.getD q 0*x.getD q 0
 |[],_,_,h,_,_=>by simp at h
 |_::_,[],_,_,h,_=>by simp at h
 |a::r,b::x,0,_,_,h=>by
  have h1:zeh r x=0:=by
   have:∀(r x:List Int),(∀j,r.getD j 0*x.getD j 0=0)→zeh r x=0:=by
    intro r
    induction r with
    |nil=>intro x _;simp[zeh]
    |cons a r ih=>
     intro x hx
     cases x with
     |nil=>simp[zeh]
     |cons b x=>
      have h0:=hx 0
      have h1:=ih x fun j=>by have:=hx (j+1);simpa using this
      simp only[zeh,h1];simpa using h0
   exact this r x fun j=>by have:=h (j+1) (by omega);simpa using this
  simp[zeh,h1]
 |a::r,b::x,q+1,h1,h2,h=>by
  have h0:=h 0 (by omega)
  have ih:=dot_one r x q (by simpa using h1) (by simpa using h2) fun j hj=>by have:=h (j+1) (by omega);simpa using this
  simp only[List.getD_cons_zero] at h0
  simp only[zeh,ih,h0];simp
theorem dot_zero:∀(r x:List Int),(∀j,j < x.length→r.getD j 0=0)→zeh r x=0
 |[],_,_=>by simp[zeh]
 |_::_,[],_=>by simp[zeh]
 |a::r,b::x,h=>by
  have h0:=h 0 (by simp)
  have ih:=dot_zero r x fun j hj=>by have:=h (j+1) (by simpa using hj);simpa using this
  simp only[List.getD_cons_zero] at h0
  simp[zeh,h0,ih]
def readX (n:Nat)(at':List Int)(M:List (List Int)):List Int:=(List.range n).map fun j=>if 0 < at'.getD j 0 then ent M (at'.getD j 0-1).toNat n else 0
theorem Elim.no {L n:Nat}{M0 M:List (List Int)}{used:Nat}{at':List Int}(h:Elim L n M0 n used at' M){i:Nat}(h1:used≤i)(h2:i < L)(h3:ent M i n≠0):∀x,¬Sol n M0 x:=fun x hx=>by
 obtain⟨hl,hh⟩:=(h.sol x).2 hx
 have hm:=ent_mem (M:=M) (i:=i) (by rw[h.ml];exact h2)
 have h4:=hh _ hm
 unfold Holds at h4
 rw[dot_zero _ _ fun j hj=>h.low i j h1 h2 (by omega)] at h4
 obtain⟨hr,hW⟩:=h.rl _ hm
 have h5:ent M i n∈M.getD i []:=by
  simp only[ent,zc (l:=M.getD i [])]
  rw[zb (by omega)]
  exact zi _
 have h6:=hW _ h5
 exact h3 (h4.symm.word h6 (by omega))
theorem Elim.yes {L n:Nat}{M0 M:List (List Int)}{used:Nat}{at':List Int}(h:Elim L n M0 n used at' M)(h3:∀i,used≤i→i < L→ent M i n=0):Sol n M0 (readX n at' M)∧∀a,a∈readX n at' M→0≤a∧a≤65520:=by
 have hx:∀j,j < n→(readX n at' M).getD j 0=if 0 < at'.getD j 0 then ent M (at'.getD j 0-1).toNat n else 0:=fun j hj=>by
  simp[readX,zc,hj]
 have hlen:(readX n at' M).length=n:=by simp[readX]
 refine⟨(h.sol _).1 ⟨hlen,fun r hr=>?_⟩,fun a ha=>?_⟩
 ·obtain⟨i,hi,rfl⟩:=zav.1 hr
  have hiL:i < L:=by rw[←h.ml];exact hi
  have e:M[i]=M.getD i []:=by simp[zc,hi]
  have hrl:=(h.rl _ hr).1
  unfold Holds
  by_cases hu:i < used
  ·obtain⟨q,hq,hat⟩:=h.has i hu
   rw[dot_one _ _ q (by omega) (by omega) fun j hj=>?_]
   ·have h1:=h.piv q i hq hu hat i hiL
    rw[if_pos rfl] at h1
    have h2:(M[i]).getD q 0=1:=by rw[e];exact h1
    rw[h2,hx q hq,if_pos (by omega),hat,show ((i:Int)+1-1).toNat=i by omega,Int.one_mul,ent,e]
    exact .refl _
   ·by_cases hjn:j < n
    ·rw[hx j hjn]
     rcases h.a0 j hjn with h0|⟨_,r',hr',hat'⟩
     ·rw[if_neg (by omega),Int.mul_zero]
     ·have hne:i≠r':=fun e'=>by
       subst e'
       have hp1:=h.piv q i hq hu hat
       have hp2:=h.piv j i hjn hr' hat'
       exact hj (h.inj hjn hq (hat'.trans hat.symm) (by omega))
      have h1:=h.piv j r' hjn hr' hat' i hiL
      rw[if_neg hne] at h1
      have h2:(M[i]).getD j 0=0:=by rw[e];exact h1
      rw[h2,Int.zero_mul]
    ·have:(readX n at' M).getD j 0=0:=by
      rw[zc,zs (by omega)];rfl
     rw[this,Int.mul_zero]
  ·rw[dot_zero _ _ fun j hj=>?_]
   ·have:=h3 i (by omega) hiL
    rw[ent,←e] at this
    rw[this];exact .refl _
   ·have:=h.low i j (by omega) hiL (by omega)
    rw[ent,←e] at this
    exact this
 ·obtain⟨j,hj,rfl⟩:=zt.1 ha
  rw[zP] at hj
  split
  ·rename_i hp
   rcases h.a0 j hj with h0|⟨_,r',hr',hat'⟩
   ·omega
   ·rw[hat',show ((r':Int)+1-1).toNat=r' by omega]
    have hm:=ent_mem (M:=M) (i:=r') (by have:=h.ul;rw[h.ml];omega)
    obtain⟨hr,hW⟩:=h.rl _ hm
    refine hW _ ?_
    simp only[ent,zc (l:=M.getD r' [])]
    rw[zb (by omega)]
    exact zi _
  ·omega
end Go.DM
/- Elimination, column by column. No program stands here. -/
namespace Go.DM
theorem Elim.start {L n:Nat}{M:List (List Int)}(ml:M.length=L)(rl:∀r,r∈M→r.length=n+1∧∀a,a∈r→0≤a∧a≤65520):Elim L n M 0 0 (List.replicate n 0) M:=by
 have hz:∀j,(List.replicate n (0:Int)).getD j 0=0:=fun j=>by
  simp only[zc,zY];split<;>rfl
 exact⟨ml,rl,zj _,zj _,by simp,fun j _=>.inl (hz j),fun r h=>absurd h (zap _),fun {j q} _ _ _ h=>absurd (hz j) h,fun j r h=>absurd h (zap _),fun i j _ _ h=>absurd h (zap _),fun _=>Iff.rfl⟩
theorem Elim.none {L n c used:Nat}{M0 M:List (List Int)}{at':List Int}(h:Elim L n M0 c used at' M)(hc:c < n):at'.getD c 0=0:=by
 rcases h.a0 c hc with e|⟨e,_⟩
 ·exact e
 ·omega
theorem Elim.skip {L n c used:Nat}{M0 M:List (List Int)}{at':List Int}(h:Elim L n M0 c used at' M)(hc:c < n)(hz:∀i,used≤i→i < L→ent M i c=0):Elim L n M0 (c+1) used at' M:=by
 have hn:=h.none hc
 refine⟨h.ml,h.rl,h.ul,hc,h.al,fun j hj=>?_,fun r hr=>?_,h.inj,fun j r hj hr ha=>?_,fun i j h1 h2 h3=>?_,h.sol⟩
 ·rcases h.a0 j hj with e|⟨e,q⟩
  ·exact .inl e
  ·exact .inr ⟨by omega,q⟩
 ·obtain⟨j,h1,h2⟩:=h.has r hr
  exact⟨j,by omega,h2⟩
 ·by_cases hjc:j=c
  ·subst hjc;omega
  ·exact h.piv j r (by omega) hr ha
 ·by_cases hjc:j=c
  ·subst hjc;exact hz i h1 h2
  ·exact h.low i j h1 h2 (by omega)
def origR (M:List (List Int))(used p i:Nat):List Int:=if i=used then M.getD p [] else if i=p then M.getD used [] else M.getD i []
def pivR (M:List (List Int))(c p:Nat):List Int:=scaleR (invI (ent M p c)) (M.getD p [])
def rowA (M:List (List Int))(c used p i:Nat):List Int:=if i=used then pivR M c p else elimR ((origR M used p i).getD c 0) (pivR M c p) (origR M used p i)
def stepM (L:Nat)(M:List (List Int))(c used p:Nat):List (List Int):=(List.range L).map (rowA M c used p)
theorem stepM_get {L:Nat}{M:List (List Int)}{c used p i:Nat}(h:i < L):(stepM L M c used p).getD i []=rowA M c used p i:=by
 simp[stepM,zc,h]
section
variable {L n c used p:Nat}{M0 M:List (List Int)}{at':List Int}
theorem Elim.row (h:Elim L n M0 c used at' M){i:Nat}(hi:i < L):(M.getD i []).length=n+1∧∀j,0≤ent M i j∧ent M i j≤65520:=by
 obtain⟨h1,h2⟩:=h.rl _ (ent_mem (M:=M) (i:=i) (by rw[h.ml];exact hi))
 refine⟨h1,fun j=>?_⟩
 by_cases hj:j < n+1
 ·refine h2 _ ?_
  simp only[ent,zc (l:=M.getD i [])]
  rw[zb (by omega)]
  exact zi _
 ·have:ent M i j=0:=by
   simp only[ent,zc (l:=M.getD i [])]
   rw[zs (by omega)];rfl
  omega
theorem Elim.orig (h:Elim L n M0 c used at' M)(hp1:used≤p)(hp2:p < L){i:Nat}(hi:i < L):(origR M used p i).length=n+1∧∀j,0≤(origR M used p i).getD j 0∧(origR M used p i).getD j 0≤65520:=by
 unfold origR
 split
 ·exact h.row hp2
 ·split
  ·exact h.row (by omega)
  ·exact h.row hi
theorem Elim.pivot (h:Elim L n M0 c used at' M)(hc:c < n)(hp1:used≤p)(hp2:p < L)(hne:ent M p c≠0):Elim L n M0 (c+1) (used+1) (at'.set c ((used:Int)+1)) (stepM L M c used p):=by
 have hn:=h.none hc
 obtain⟨pl,pw⟩:=h.row hp2
 have hu:(pivR M c p).length=n+1:=by rw[pivR,scaleR,ze];exact pl
 have hinv:Cg (ent M p c*invI (ent M p c)) 1:=mul_invI (by have:=pw c;omega) (pw c).2
 have uj:∀j,(pivR M c p).getD j 0=ent M p j*invI (ent M p c)%65521:=fun j=>getD_scale _ _ _
 have u0:∀j,j < c→(pivR M c p).getD j 0=0:=fun j hj=>by
  rw[uj,h.low p j hp1 hp2 hj];simp
 have uc:(pivR M c p).getD c 0=1:=by
  rw[uj];have:=cg_iff.1 hinv;omega
 have hol:∀i,i < L→(pivR M c p).length=(origR M used p i).length:=fun i hi=>by rw[hu,(h.orig hp1 hp2 hi).1]
 have aj:∀i j,i < L→(rowA M c used p i).getD j 0=if i=used then (pivR M c p).getD j 0 else ((origR M used p i).getD j 0-(origR M used p i).getD c 0*(pivR M c p).getD j 0)%65521:=fun i j hi=>by
  unfold rowA
  split
  ·rfl
  ·exact getD_elim _ (hol i hi) j
 have en:∀i j,i < L→ent (stepM L M c used p) i j=(rowA M c used p i).getD j 0:=fun i j hi=>by rw[ent,stepM_get hi]
 have atg:∀j,(at'.set c ((used:Int)+1)).getD j 0=if j=c then (used:Int)+1 else at'.getD j 0:=fun j=>by
  simp only[zc,zX]
  by_cases hjc:c=j
  ·subst hjc
   rw[if_pos rfl,if_pos (by rw[h.al];exact hc),if_pos rfl];rfl
  ·rw[if_neg hjc,if_neg (fun e=>hjc e.symm)]
 have old:∀i j,i < L→i≠used→j < c→(rowA M c used p i).getD j 0=(origR M used p i).getD j 0:=fun i j hi hiu hj=>by
  rw[aj i j hi,if_neg hiu,u0 j hj]
  have:=((h.orig hp1 hp2 hi).2 j)
  rw[Int.mul_zero,Int.sub_zero];omega
 have new:∀i,i < L→(rowA M c used p i).getD c 0=if i=used then 1 else 0:=fun i hi=>by
  rw[aj i c hi,uc]
  split
  ·rfl
  ·rw[Int.mul_one,Int.sub_self];rfl
 refine⟨by simp[stepM],fun r hr=>?_,by omega,hc,by rw[zE,h.al],fun j hj=>?_,fun r hr=>?_,fun {j q} hj hq he h0=>?_,fun j r hj hr ha i hi=>?_,fun i j h1 h2 h3=>?_,fun x=>?_⟩
 ·obtain⟨i,hi,rfl⟩:=zt.1 hr
  rw[zP] at hi
  unfold rowA
  split
  ·refine⟨hu,fun a ha=>?_⟩
   obtain⟨b,_,rfl⟩:=zt.1 ha
   omega
  ·refine⟨by rw[elimR,List.length_zipWith,←hol i hi,hu];simp,fun a ha=>?_⟩
   obtain⟨k,hk,rfl⟩:=zav.1 ha
   simp only[elimR,List.getElem_zipWith]
   omega
 ·rw[atg]
  split
  ·exact .inr ⟨by omega,used,by omega,rfl⟩
  ·rcases h.a0 j hj with e|⟨e,r,h1,h2⟩
   ·exact .inl e
   ·exact .inr ⟨by omega,r,by omega,h2⟩
 ·by_cases hru:r=used
  ·subst hru
   exact⟨c,by omega,by rw[atg,if_pos rfl]⟩
  ·obtain⟨j,h1,h2⟩:=h.has r (by omega)
   exact⟨j,by omega,by rw[atg,if_neg (by omega)];exact h2⟩
 ·rw[atg,atg] at he
  rw[atg] at h0
  have hb:∀j,j < n→j≠c→at'.getD j 0=(used:Int)+1→False:=fun j hj hjc e=>by
   rcases h.a0 j hj with e'|⟨_,r,h1,h2⟩
   ·omega
   ·omega
  by_cases h1:j=c
  ·by_cases h2:q=c
   ·omega
   ·rw[if_pos h1,if_neg h2] at he
    exact (hb q hq h2 he.symm).elim
  ·by_cases h2:q=c
   ·rw[if_neg h1,if_pos h2] at he
    exact (hb j hj h1 he).elim
   ·rw[if_neg h1,if_neg h2] at he
    rw[if_neg h1] at h0
    exact h.inj hj hq he h0
 ·rw[en i j hi]
  rw[atg] at ha
  by_cases hjc:j=c
  ·rw[if_pos hjc] at ha
   obtain rfl:r=used:=by omega
   subst hjc
   exact new i hi
  ·rw[if_neg hjc] at ha
   have hru:r < used:=by
    rcases h.a0 j (by omega) with e|⟨_,r',h1,h2⟩
    ·omega
    ·omega
   have hp:=h.piv j r (by omega) hru ha
   by_cases hiu:i=used
   ·rw[aj i j hi,if_pos hiu,u0 j (by omega),if_neg (by omega)]
   ·rw[old i j hi hiu (by omega)]
    unfold origR
    rw[if_neg hiu]
    by_cases hip:i=p
    ·rw[if_pos hip,if_neg (by omega)]
     exact h.low used j (zf _) (by omega) (by omega)
    ·rw[if_neg hip];exact hp i hi
 ·rw[en i j h2]
  by_cases hjc:j=c
  ·subst hjc
   rw[new i h2,if_neg (by omega)]
  ·rw[old i j h2 (by omega) (by omega)]
   unfold origR
   rw[if_neg (by omega)]
   by_cases hip:i=p
   ·rw[if_pos hip]
    exact h.low used j (zf _) (by omega) (by omega)
   ·rw[if_neg hip]
    exact h.low i j (by omega) h2 (by omega)
 ·rw[←h.sol x]
  unfold Sol
  refine and_congr_right fun _=>?_
  have hpiv:Holds n (pivR M c p) x↔Holds n (M.getD p []) x:=holds_scale (t:=ent M p c) (by rw[Int.mul_comm];exact hinv) _ _
  have hmem:∀i,i < L→M.getD i []∈M:=fun i hi=>ent_mem (by rw[h.ml];exact hi)
  constructor
  ·intro hh r hr
   have h1:∀i,i < L→Holds n (rowA M c used p i) x:=fun i hi=>hh _ (zt.2 ⟨i,zP.2 hi,rfl⟩)
   have hu1:Holds n (pivR M c p) x:=by
    have:=h1 used (by omega)
    rwa [rowA,if_pos rfl] at this
   have ho:∀i,i < L→i≠used→Holds n (origR M used p i) x:=fun i hi hiu=>by
    have:=h1 i hi
    rw[rowA,if_neg hiu] at this
    exact (holds_elim (hol i hi) hu1).1 this
   obtain⟨i,hi,rfl⟩:=zav.1 hr
   rw[h.ml] at hi
   have e:M[i]=M.getD i []:=by simp[zc,h.ml,hi]
   rw[e]
   by_cases hip:i=p
   ·subst hip;exact hpiv.1 hu1
   ·by_cases hiu:i=used
    ·have:=ho p hp2 (by omega)
     rw[origR,if_neg (by omega),if_pos rfl] at this
     rw[hiu];exact this
    ·have:=ho i hi hiu
     rwa [origR,if_neg hiu,if_neg hip] at this
  ·intro hh r hr
   obtain⟨i,hi,rfl⟩:=zt.1 hr
   rw[zP] at hi
   have hu1:Holds n (pivR M c p) x:=hpiv.2 (hh _ (hmem p hp2))
   unfold rowA
   split
   ·exact hu1
   ·rename_i hiu
    refine (holds_elim (hol i hi) hu1).2 ?_
    unfold origR
    rw[if_neg hiu]
    split
    ·exact hh _ (hmem used (by omega))
    ·exact hh _ (hmem i hi)
end
end Go.DM
/- Berlekamp and Welch: the equations, and what solving and dividing them tells. No program stands here. -/
namespace Go.DM
def pw (x:Int)(j:Nat):Int:=((powN x.toNat j:Nat):Int)
theorem pw_cg {x:Int}(hx:0≤x)(j:Nat):Cg (pw x j) (x ^ j):=by
 obtain⟨n,rfl⟩:=zF hx
 rw[cg_iff,pw,zM,powN,Int.natCast_emod,Int.natCast_pow]
 simp
theorem pw_W (x:Int)(j:Nat):0≤pw x j∧pw x j≤65520:=by
 have:=powN_lt x.toNat j
 unfold pw;omega
def keyRow (k e:Nat)(p:Int × Int):List Int:=(List.range (k+e)).map (pw p.1)++((List.range e).map (fun j=>-p.2*pw p.1 j%65521)++[p.2*pw p.1 e%65521])
theorem keyRow_len (k e:Nat)(p:Int × Int):(keyRow k e p).length=k+2*e+1:=by simp[keyRow];omega
theorem keyRow_W (k e:Nat)(p:Int × Int):∀a,a∈keyRow k e p→0≤a∧a≤65520:=fun a ha=>by
 rcases zK.1 ha with h|h
 ·obtain⟨j,_,rfl⟩:=zt.1 h
  exact pw_W _ _
 ·rcases zK.1 h with h|h
  ·obtain⟨j,_,rfl⟩:=zt.1 h
   omega
  ·rw[zC.1 h];omega
theorem dotP_append:∀(a q b z:List Int),a.length=q.length→zeh (a++b) (q++z)=zeh a q+zeh b z
 |[],[],_,_,_=>by simp[zeh]
 |a::as,q::qs,b,z,h=>by
  have:=dotP_append as qs b z (by simpa using h)
  simp only[List.cons_append,zeh,this];omega
 |[],_::_,_,_,h=>by simp at h
 |_::_,[],_,_,h=>by simp at h
theorem dot_pw {x:Int}(hx:0≤x)(f:Int)(g:Nat→Int)(hg:∀j,Cg (g j) (f*x ^ j)):∀(q:List Int) (s:Nat),Cg (zeh ((List.range' s q.length).map g) q) (f*x ^ s*evP q x)
 |[],s=>by simp[zeh,evP];exact .refl _
 |a::q,s=>by
  have ih:=dot_pw hx f g hg q (s+1)
  simp only[z4,List.range'_succ,zy,zeh,evP]
  refine (((hg s).mul (Cg.refl a)).add ih).trans (.of_eq ?_)
  rw[Int.pow_succ];grind
theorem evP_snoc (z x:Int):∀l:List Int,evP (l++[z]) x=evP l x+x ^ l.length*z
 |[]=>by simp[evP]
 |a::l=>by
  simp only[List.cons_append,evP,evP_snoc z x l,z4,Int.pow_succ]
  grind
theorem keyRow_iff {k e:Nat}{p:Int × Int}(hx:0≤p.1){q z:List Int}(hq:q.length=k+e)(hz:z.length=e):Holds (k+2*e) (keyRow k e p) (q++z)↔Cg (evP q p.1) (p.2*evP (z++[1]) p.1):=by
 have h1:zeh (keyRow k e p) (q++z)=zeh ((List.range (k+e)).map (pw p.1)) q+zeh ((List.range e).map (fun j=>-p.2*pw p.1 j%65521)++[p.2*pw p.1 e%65521]) z:=dotP_append _ _ _ _ (by simp[hq])
 have h2:zeh ((List.range e).map (fun j=>-p.2*pw p.1 j%65521)++[p.2*pw p.1 e%65521]) z=zeh ((List.range e).map (fun j=>-p.2*pw p.1 j%65521)) z:=by
  have:=dotP_append ((List.range e).map (fun j=>-p.2*pw p.1 j%65521)) z [p.2*pw p.1 e%65521] [] (by simp[hz])
  rw[zN] at this
  rw[this];simp[zeh]
 have h3:Cg (zeh ((List.range (k+e)).map (pw p.1)) q) (evP q p.1):=by
  have:=dot_pw hx 1 (pw p.1) (fun j=>by rw[Int.one_mul];exact pw_cg hx j) q 0
  rw[←za7,hq] at this
  simpa using this
 have h4:Cg (zeh ((List.range e).map (fun j=>-p.2*pw p.1 j%65521)) z) (-p.2*evP z p.1):=by
  have:=dot_pw hx (-p.2) (fun j=>-p.2*pw p.1 j%65521) (fun j=>(Cg.mod _).trans ((Cg.refl (-p.2)).mul (pw_cg hx j))) z 0
  rw[←za7,hz] at this
  simpa using this
 have h5:(keyRow k e p).getD (k+2*e) 0=p.2*pw p.1 e%65521:=by
  have:k+2*e=((List.range (k+e)).map (pw p.1)).length+(((List.range e).map (fun j=>-p.2*pw p.1 j%65521)).length+0):=by simp;omega
  rw[keyRow,this,zc,zu (by omega),Nat.add_sub_cancel_left,zu (by omega),Nat.add_sub_cancel_left]
  rfl
 have h6:Cg (p.2*pw p.1 e%65521) (p.2*p.1 ^ e):=(Cg.mod _).trans ((Cg.refl p.2).mul (pw_cg hx e))
 unfold Holds
 rw[h1,h2,h5,evP_snoc,hz,Int.mul_one]
 have h7:=h3.add h4
 constructor
 ·intro h
  have h8:=(h7.symm.trans h).trans h6
  have h9:=h8.add (Cg.refl (p.2*evP z p.1))
  refine (Cg.of_eq ?_).trans (h9.trans (.of_eq ?_))<;>grind
 ·intro h
  refine h7.trans (Cg.trans ?_ h6.symm)
  have h9:=h.sub (Cg.refl (p.2*evP z p.1))
  refine (Cg.of_eq ?_).trans (h9.trans (.of_eq ?_))<;>grind
theorem sol_key {k e:Nat}{ps:List (Int × Int)}(hp:∀p,p∈ps→0≤p.1){x:List Int}(h:Sol (k+2*e) (ps.map (keyRow k e)) x):Key k e ps (x.take (k+e)) (x.drop (k+e)++[1]):=by
 obtain⟨hl,hh⟩:=h
 have hz:(x.drop (k+e)).length=e:=by simp;omega
 refine⟨by simp;omega,by simp;omega,?_,fun p hpp=>?_⟩
 ·rw[zc,zu (by omega),hz,zaT];rfl
 ·refine (keyRow_iff (k:=k) (e:=e) (hp p hpp) (by simp;omega) hz).1 ?_
  rw[za1]
  exact hh _ (zt.2 ⟨p,hpp,rfl⟩)
theorem key_sol {k e:Nat}{ps:List (Int × Int)}(hp:∀p,p∈ps→0≤p.1){q E:List Int}(h:Key k e ps q E):Sol (k+2*e) (ps.map (keyRow k e)) (q++E.take e):=by
 have hE:E=E.take e++[1]:=by
  have h1:E.drop e=[E.getD e 0]:=by
   have hl:=h.el
   rw[zO (by omega),zab (by omega),zc,zb (by omega)];rfl
  rw[h.mon] at h1
  rw[←h1,za1]
 have hz:(E.take e).length=e:=by have:=h.el;simp;omega
 refine⟨by rw[zw,h.ql,hz];omega,fun r hr=>?_⟩
 obtain⟨p,hpp,rfl⟩:=zt.1 hr
 refine (keyRow_iff (hp p hpp) h.ql hz).2 ?_
 rw[←hE]
 exact h.at_ p hpp
open Classical in
noncomputable def decS (k e:Nat)(ps:List (Int × Int)):Option (List Int):=if h:∃c,Good k e ps c then some h.choose else none
theorem decS_some {k e:Nat}{ps:List (Int × Int)}{c:List Int}(hA:Apart (ps.map Prod.fst))(hL:k+2*e≤ps.length)(h:Good k e ps c):decS k e ps=some c:=by
 have hx:∃c,Good k e ps c:=⟨c,h⟩
 rw[decS,dif_pos hx]
 exact congrArg some (Good.one hA hL hx.choose_spec h)
theorem decS_none {k e:Nat}{ps:List (Int × Int)}(h:∀c,¬Good k e ps c):decS k e ps=none:=by
 rw[decS,dif_neg fun⟨c,hc⟩=>h c hc]
theorem decS_good {k e:Nat}{ps:List (Int × Int)}{c:List Int}(h:decS k e ps=some c):Good k e ps c:=by
 unfold decS at h
 split at h
 ·rename_i hx
  cases h
  exact hx.choose_spec
 ·cases h
theorem dec_no {k e:Nat}{ps:List (Int × Int)}(hp:∀p,p∈ps→0≤p.1)(h:∀x,¬Sol (k+2*e) (ps.map (keyRow k e)) x):decS k e ps=none:=
 decS_none fun c hc=>by
  obtain⟨q,E,hk⟩:=hc.key
  exact h _ (key_sol hp hk)
theorem dec_yes {k e:Nat}{ps:List (Int × Int)}{x out rest:List Int}(hA:Apart (ps.map Prod.fst))(hL:k+2*e≤ps.length)(hs:k+e≤65521)(h:Sol (k+2*e) (ps.map (keyRow k e)) x)
  (ol:out.length=k) (oW:∀z,z∈out→0≤z∧z≤65520) (rl:rest.length=k+e) (rW:∀z,z∈rest→0≤z∧z≤65520) (hr:∀j,e≤j→rest.getD j 0=0)
  (hd:∀y,Cg (evP (x.take (k+e)) y) (evP rest y+evP (x.drop (k+e)++[1]) y*evP out y)):
  ((∀z,z∈rest→z=0)→decS k e ps=some out)∧(¬(∀z,z∈rest→z=0)→decS k e ps=none):=by
 have hp:∀p,p∈ps→0≤p.1:=fun p hpp=>(hA.1 p.1 (zt.2 ⟨p,hpp,rfl⟩)).1
 have hk:=sol_key hp h
 refine⟨fun hz=>decS_some hA hL (hk.good hA ol oW fun y=>?_),fun hz=>decS_none fun c hc=>hz ?_⟩
 ·have h0:Cg (evP rest y) 0:=zero_ev y fun a ha=>by rw[hz a ha];exact .refl _
  have h1:=(hd y).trans (h0.add (Cg.refl _))
  refine h1.trans (.of_eq ?_)
  grind
 ·exact (div_ok hs hk.el hk.mon hk.ql ol oW rl rW hr hd hc.len hc.W (hk.mul hA hL hc)).2
end Go.DM
/- Division as the program does it: place by place from above. No program stands here. -/
namespace Go.DM
def subP (f:Int):List Int→List Int→List Int
 |[],r=>r
 |_,[]=>[]
 |b::bs,r::rs=>(r-f*b)%65521::subP f bs rs
def subA (f:Int)(b:List Int):Nat→List Int→List Int
 |0,r=>subP f b r
 |_+1,[]=>[]
 |i+1,r::rs=>r::subA f b i rs
theorem subP_len (f:Int):∀b r:List Int,(subP f b r).length=r.length
 |[],_=>rfl
 |_::_,[]=>rfl
 |b::bs,r::rs=>by simp[subP,subP_len f bs rs]
theorem subA_len (f:Int)(b:List Int):∀(i:Nat) (r:List Int),(subA f b i r).length=r.length
 |0,r=>subP_len f b r
 |_+1,[]=>rfl
 |i+1,r::rs=>by simp[subA,subA_len f b i rs]
theorem subP_W (f:Int):∀b r:List Int,(∀a,a∈r→0≤a∧a≤65520)→∀a,a∈subP f b r→0≤a∧a≤65520
 |[],_,h=>h
 |_::_,[],_=>fun a ha=>by simp[subP] at ha
 |b::bs,r::rs,h=>fun a ha=>by
  rcases zH.1 ha with e|e
  ·rw[e];omega
  ·exact subP_W f bs rs (fun x hx=>h x (zG _ hx)) a e
theorem subA_W (f:Int)(b:List Int):∀(i:Nat) (r:List Int),(∀a,a∈r→0≤a∧a≤65520)→∀a,a∈subA f b i r→0≤a∧a≤65520
 |0,r,h=>subP_W f b r h
 |_+1,[],_=>fun a ha=>by simp[subA] at ha
 |i+1,r::rs,h=>fun a ha=>by
  rcases zH.1 ha with e|e
  ·rw[e];exact h r (zB ..)
  ·exact subA_W f b i rs (fun x hx=>h x (zG _ hx)) a e
theorem subP_ev (f x:Int):∀b r:List Int,b.length≤r.length→Cg (evP (subP f b r) x) (evP r x-f*evP b x)
 |[],r,_=>by simp[subP,evP];exact .refl _
 |_::_,[],h=>by simp at h
 |b::bs,r::rs,h=>by
  have ih:=subP_ev f x bs rs (by simpa using h)
  have h1:=(Cg.mod (r-f*b)).add ((Cg.refl x).mul ih)
  refine h1.trans (.of_eq ?_)
  simp only[evP];grind
theorem subA_ev (f x:Int)(b:List Int):∀(i:Nat) (r:List Int),i+b.length≤r.length→Cg (evP (subA f b i r) x) (evP r x-f*x ^ i*evP b x)
 |0,r,h=>by
  have:=subP_ev f x b r (by omega)
  simpa[subA] using this
 |i+1,[],h=>by simp at h
 |i+1,r::rs,h=>by
  have ih:=subA_ev f x b i rs (by simp at h;omega)
  have h1:=(Cg.refl r).add ((Cg.refl x).mul ih)
  refine h1.trans (.of_eq ?_)
  simp only[evP,Int.pow_succ];grind
theorem subP_get (f:Int):∀(b r:List Int) (j:Nat),b.length≤r.length→(subP f b r).getD j 0=if j < b.length then (r.getD j 0-f*b.getD j 0)%65521 else r.getD j 0
 |[],r,j,_=>by simp[subP]
 |_::_,[],_,h=>by simp at h
 |b::bs,r::rs,0,_=>by simp[subP]
 |b::bs,r::rs,j+1,h=>by
  have ih:=subP_get f bs rs j (by simpa using h)
  simpa[subP] using ih
theorem subA_get (f:Int)(b:List Int):∀(i:Nat) (r:List Int) (j:Nat),i+b.length≤r.length→(subA f b i r).getD j 0=if i≤j∧j < i+b.length then (r.getD j 0-f*b.getD (j-i) 0)%65521 else r.getD j 0
 |0,r,j,h=>by
  rw[subA,subP_get f b r j (by omega)];simp
 |i+1,[],j,h=>by simp at h
 |i+1,r::rs,0,h=>by simp[subA]
 |i+1,r::rs,j+1,h=>by
  have ih:=subA_get f b i rs j (by simp at h;omega)
  simp only[subA,List.getD_cons_succ,ih]
  by_cases hc:i≤j∧j < i+b.length
  ·rw[if_pos hc,if_pos (by omega),show j+1-(i+1)=j-i by omega]
  ·rw[if_neg hc,if_neg (by omega)]
theorem ext_getD {a b:List Int}(hl:a.length=b.length)(h:∀j,j < a.length→a.getD j 0=b.getD j 0):a=b:=
 zaz hl fun i h1 h2=>by
  have:=h i h1
  simpa[zc,h1,h2] using this
theorem subA_nil (f:Int):∀(i:Nat) (r:List Int),subA f [] i r=r
 |0,_=>rfl
 |_+1,[]=>rfl
 |i+1,r::rs=>by rw[subA,subA_nil f i rs]
theorem subA_step (f:Int){b r:List Int}{i q:Nat}(h:i+b.length≤r.length)(hq:q < b.length):(subA f (b.take q) i r).set (i+q) ((r.getD (i+q) 0-f*b.getD q 0)%65521)=subA f (b.take (q+1)) i r:=by
 refine ext_getD (by rw[zE,subA_len,subA_len]) fun j hj=>?_
 rw[zE,subA_len] at hj
 have l1:(b.take q).length=q:=by simp;omega
 have l2:(b.take (q+1)).length=q+1:=by simp;omega
 rw[subA_get f _ i r j (by omega),l2]
 simp only[zc,zX,subA_len]
 by_cases hji:i+q=j
 ·subst hji
  rw[if_pos rfl,if_pos hj,if_pos (by omega),show i+q-i=q by omega,zbt (by omega)];rfl
 ·rw[if_neg hji]
  have:=subA_get f (b.take q) i r j (by omega)
  simp only[zc,l1] at this
  rw[this]
  by_cases hc:i≤j∧j < i+q
  ·rw[if_pos hc,if_pos (by omega),zbt (by omega),zbt (by omega)]
  ·rw[if_neg hc,if_neg (by omega)]
theorem subA_same (f:Int){b r:List Int}{i q:Nat}(h:i+b.length≤r.length)(hq:q < b.length):(subA f (b.take q) i r).getD (i+q) 0=r.getD (i+q) 0:=by
 have l1:(b.take q).length=q:=by simp;omega
 rw[subA_get f _ i r _ (by omega),l1,if_neg (by omega)]
def dvS (k e:Nat)(a b:List Int):Nat→List Int × List Int
 |0=>(List.replicate k 0,a)
 |m+1=>((dvS k e a b m).1.set (k-(m+1)) ((dvS k e a b m).2.getD (k-(m+1)+e) 0),subA ((dvS k e a b m).2.getD (k-(m+1)+e) 0) b (k-(m+1)) (dvS k e a b m).2)
theorem evP_set (x v:Int):∀(l:List Int) (i:Nat),i < l.length→l.getD i 0=0→evP (l.set i v) x=evP l x+v*x ^ i
 |[],i,h,_=>by simp at h
 |a::l,0,_,h0=>by
  simp only[List.getD_cons_zero] at h0
  simp only[List.set_cons_zero,evP,h0];grind
 |a::l,i+1,h,h0=>by
  have ih:=evP_set x v l i (by simpa using h) (by simpa using h0)
  simp only[List.set_cons_succ,evP,ih,Int.pow_succ];grind
structure Dv (k e:Nat)(a b:List Int)(m:Nat)(o r:List Int):Prop where
 ol:o.length=k
 oW:∀z,z∈o→0≤z∧z≤65520
 o0:∀j,j < k-m→o.getD j 0=0
 rl:r.length=k+e
 rW:∀z,z∈r→0≤z∧z≤65520
 r0:∀j,k-m+e≤j→r.getD j 0=0
 ev:∀x,Cg (evP a x) (evP r x+evP b x*evP o x)
theorem dv_ok {k e:Nat}{a b:List Int}(al:a.length=k+e)(aW:∀z,z∈a→0≤z∧z≤65520)(bl:b.length=e+1)(mon:b.getD e 0=1):∀m,m≤k→Dv k e a b m (dvS k e a b m).1 (dvS k e a b m).2
 |0,_=>by
  have hz:∀j,(List.replicate k (0:Int)).getD j 0=0:=fun j=>by
   simp only[zc,zY];split<;>rfl
  refine⟨by simp[dvS],fun z h=>?_,fun j _=>hz j,al,aW,fun j hj=>?_,fun x=>?_⟩
  ·have:=(zaM.1 h).2;omega
  ·show a.getD j 0=0;rw[zc,zs (by omega)];rfl
  ·rw[dvS];simp only[evP_zero];simp;exact .refl _
 |m+1,hm=>by
  have ih:=dv_ok al aW bl mon m (by omega)
  generalize hd:dvS k e a b m=d at ih
  obtain⟨o,r⟩:=d
  simp only at ih
  have e1:(dvS k e a b (m+1))=(o.set (k-(m+1)) (r.getD (k-(m+1)+e) 0),subA (r.getD (k-(m+1)+e) 0) b (k-(m+1)) r):=by simp only[dvS,hd]
  rw[e1]
  have hfit:k-(m+1)+b.length≤r.length:=by have:=ih.rl;omega
  have hf:0≤r.getD (k-(m+1)+e) 0∧r.getD (k-(m+1)+e) 0≤65520:=by
   refine ih.rW _ ?_
   have:=ih.rl
   rw[zc,zb (by omega)]
   exact zi _
  have hol:=ih.ol
  refine⟨by simp[ih.ol],fun z hz=>?_,fun j hj=>?_,by simp[subA_len,ih.rl],subA_W _ _ _ _ ih.rW,fun j hj=>?_,fun x=>?_⟩
  ·rcases zaG hz with h|h
   ·exact ih.oW z h
   ·rw[h];exact hf
  ·rw[zc,zr (by omega),←zc]
   exact ih.o0 j (by omega)
  ·simp only at hj ⊢
   rw[subA_get _ _ _ _ _ hfit]
   split
   ·have ej:j=k-(m+1)+e:=by omega
    subst ej
    rw[show k-(m+1)+e-(k-(m+1))=e by omega,mon,Int.mul_one,Int.sub_self];rfl
   ·rename_i hc
    exact ih.r0 j (by omega)
  ·have h1:=ih.ev x
   have h2:=subA_ev (r.getD (k-(m+1)+e) 0) x b (k-(m+1)) r hfit
   have h3:=evP_set x (r.getD (k-(m+1)+e) 0) o (k-(m+1)) (by omega) (ih.o0 _ (by omega))
   simp only
   rw[h3]
   have h4:=(h2.add (Cg.refl (evP b x*(evP o x+r.getD (k-(m+1)+e) 0*x ^ (k-(m+1)))))).symm
   refine (h1.trans (.of_eq ?_)).trans h4
   grind
end Go.DM
/- Sorting by insertion; lists of what is wrong, in order. No program stands here. -/
namespace Go.DM
def Srt (l:List Int):Prop:=l.Pairwise (·≤·)
theorem Srt.ins {L:List Int}{v:Int}{j:Nat}(hs:Srt L)(h1:∀y,y∈L.take j→y≤v)(h2:∀y,y∈L.drop j→v≤y):Srt (L.take j++v::L.drop j):=by
 have h:Srt (L.take j++L.drop j):=by rw[za1];exact hs
 unfold Srt at h ⊢
 rw[zau] at h ⊢
 obtain⟨a,b,c⟩:=h
 refine⟨a,zam.2 ⟨h2,b⟩,fun x hx y hy=>?_⟩
 rcases zH.1 hy with rfl|hy
 ·exact h1 x hx
 ·exact c x hx y hy
theorem Srt.one {a b:List Int}(ha:Srt a)(hb:Srt b)(h:a.Perm b):a=b:=h.eq_of_pairwise (fun x y _ _ h1 h2=>Int.le_antisymm h1 h2) ha hb
theorem Srt.below {L:List Int}{v:Int}{j:Nat}(hs:Srt L)(hj:0 < j)(hl:j≤L.length)(h:L.getD (j-1) 0≤v):∀y,y∈L.take j→y≤v:=by
 intro y hy
 obtain⟨i,hi,rfl⟩:=zaH hy
 have hi':i < j:=by simp at hi;omega
 rw[List.getElem_take]
 have hlast:L.getD (j-1) 0=L[j-1]:=by rw[zc,zb (by omega)];rfl
 rw[hlast] at h
 by_cases he:i=j-1
 ·subst he;exact h
 ·exact Int.le_trans (zaZ.1 hs i (j-1) (by omega) (by omega) (by omega)) h
section
variable {α:Type}(num:α→Int)(bad:α→Bool)
def wrongS (l:List α)(N:Nat):List Int:=(List.range N).flatMap fun n:Nat=>(l.filter fun x=>decide (num x=(n:Int)+1)&&bad x).map num
theorem wrongS_succ (l:List α)(N:Nat):wrongS num bad l (N+1)=wrongS num bad l N++(l.filter fun x=>decide (num x=(N:Int)+1)&&bad x).map num:=by
 simp[wrongS,zat]
theorem filter_or {α:Type}{p q:α→Bool}:∀{l:List α},(∀x,x∈l→¬(p x=true∧q x=true))→(l.filter fun x=>p x||q x).Perm (l.filter p++l.filter q)
 |[],_=>List.Perm.refl _
 |x::l,h=>by
  have ih:=filter_or (p:=p) (q:=q) fun y hy=>h y (zG _ hy)
  have hx:=h x (zB ..)
  cases hp:p x with
  |true=>
   have hq:q x=false:=by
    cases hq:q x with
    |true=>exact absurd ⟨hp,hq⟩ hx
    |false=>rfl
   rw[zba (by simp[hp]),zba (by simp[hp]),zaR (p:=q) (by simp[hq])]
   exact ih.cons x
  |false=>
   cases hq:q x with
   |true=>
    rw[zba (by simp[hq]),zaR (p:=p) (by simp[hp]),zba (p:=q) (by simp[hq])]
    exact (ih.cons x).trans List.perm_middle.symm
   |false=>
    rw[zaR (by simp[hp,hq]),zaR (p:=p) (by simp[hp]),zaR (p:=q) (by simp[hq])]
    exact ih
theorem wrong_perm (l:List α):∀N:Nat,(wrongS num bad l N).Perm ((l.filter fun x=>decide (1≤num x∧num x≤(N:Int))&&bad x).map num)
 |0=>by
  have:(l.filter fun x=>decide (1≤num x∧num x≤((0:Nat):Int))&&bad x)=[]:=List.filter_eq_nil_iff.2 fun x _=>by
   simp only[zJ,decide_eq_true_eq];omega
  rw[this];exact List.Perm.refl _
 |N+1=>by
  rw[wrongS_succ]
  refine ((wrong_perm l N).append_right _).trans ?_
  rw[←zW]
  refine List.Perm.map num ?_
  have e:(fun x=>decide (1≤num x∧num x≤((N+1:Nat):Int))&&bad x)=fun x=>(decide (1≤num x∧num x≤(N:Int))&&bad x)||(decide (num x=(N:Int)+1)&&bad x):=by
   funext x
   cases bad x with
   |false=>simp
   |true=>
    rw[zbB]
    simp only[Bool.and_true,zbm,decide_eq_true_eq]
    omega
  rw[e]
  exact (filter_or fun x _ h=>by
   simp only[zJ,decide_eq_true_eq] at h
   omega).symm
theorem wrong_srt (l:List α):∀N:Nat,Srt (wrongS num bad l N)∧∀y,y∈wrongS num bad l N→y≤(N:Int)
 |0=>⟨zbb,fun y hy=>by simp[wrongS] at hy⟩
 |N+1=>by
  obtain⟨h1,h2⟩:=wrong_srt l N
  have hm:∀y,y∈(l.filter fun x=>decide (num x=(N:Int)+1)&&bad x).map num→y=(N:Int)+1:=fun y hy=>by
   obtain⟨x,hx,rfl⟩:=zt.1 hy
   have:=(zar.1 hx).2
   simp only[zJ,decide_eq_true_eq] at this
   exact this.1
  rw[wrongS_succ]
  refine⟨zau.2 ⟨h1,?_,fun x hx y hy=>?_⟩,fun y hy=>?_⟩
  ·refine zaZ.2 fun i j hi hj _=>?_
   rw[hm _ (zi hi),hm _ (zi hj)]
   exact Int.le_refl _
  ·rw[hm y hy];have:=h2 x hx;omega
  ·rcases zK.1 hy with h|h
   ·have:=h2 y h;omega
   ·rw[hm y h];omega
theorem wrong_eq {l:List α}{N:Nat}{w:List Int}(h:∀x,x∈l→1≤num x∧num x≤(N:Int))(hs:Srt w)(hp:w.Perm ((l.filter bad).map num)):w=wrongS num bad l N:=by
 have e:(l.filter fun x=>decide (1≤num x∧num x≤(N:Int))&&bad x)=l.filter bad:=List.filter_congr fun x hx=>by
  rw[decide_eq_true (h x hx)];rfl
 have h2:=wrong_perm num bad l N
 rw[e] at h2
 exact hs.one (wrong_srt num bad l N).1 (hp.trans h2.symm)
theorem wrong_len (l:List α)(N:Nat):(wrongS num bad l N).length≤l.length:=by
 rw[(wrong_perm num bad l N).length_eq,ze]
 exact za2 _ _
end
end Go.DM
/- Votes: whoever has strictly more than any other one; the two ways of finding it. No program. -/
namespace Go.DM
section
variable {α β:Type}[DecidableEq β](w:α→β)
def cnt (l:List α)(b:β):Nat:=l.countP fun y=>decide (w y=b)
theorem cnt_pos {l:List α}{x:α}(h:x∈l):0 < cnt w l (w x):=List.countP_pos_iff.2 ⟨x,h,decide_eq_true rfl⟩
def IsWin (l:List α)(x:α):Prop:=x∈l∧∀y∈l,w y≠w x→cnt w l (w y) < cnt w l (w x)
theorem IsWin.same {l:List α}{x y:α}(h:IsWin w l x)(k:IsWin w l y):w x=w y:=by
 by_cases e:w x=w y
 ·exact e
 ·have h1:=h.2 y k.1 (Ne.symm e)
  have h2:=k.2 x h.1 e
  omega
theorem snocInd {α:Type}{P:List α→Prop}(h0:P [])(h1:∀l x,P l→P (l++[x]))(l:List α):P l:=by
 rw[←List.reverse_reverse l]
 induction l.reverse with
 |nil=>exact h0
 |cons x r ih=>rw[List.reverse_cons];exact h1 _ _ ih
structure MSt (α:Type) where
 out:α
 first:Nat
 second:Nat
def mStep (c:β→Nat)(seen:List α)(st:MSt α)(x:α):MSt α:=
 if seen.any (fun y=>decide (w y=w x))=true then st
 else if st.first < c (w x) then ⟨x,c (w x),st.first⟩ else ⟨st.out,st.first,max st.second (c (w x))⟩
def mS (z:α)(l:List α):Nat→MSt α
 |0=>⟨z,0,0⟩
 |k+1=>match l[k]? with
  |some x=>mStep w (cnt w l) (l.take k) (mS z l k) x
  |none=>mS z l k
theorem mS_succ {z:α}{l:List α}{k:Nat}(h:k < l.length):mS w z l (k+1)=mStep w (cnt w l) (l.take k) (mS w z l k) l[k]:=by
 simp only[mS,zb h]
structure MInv (l p:List α)(st:MSt α):Prop where
 le:∀y∈p,cnt w l (w y)≤st.first
 se:∀y∈p,w y≠w st.out→cnt w l (w y)≤st.second
 sf:st.second≤st.first
 out:p≠[]→st.out∈p∧st.first=cnt w l (w st.out)
 att:st.second=0∨∃y∈p,w y≠w st.out∧cnt w l (w y)=st.second
 nil:p=[]→st.first=0∧st.second=0
theorem MInv.step {l p:List α}{st:MSt α}(h:MInv w l p st){x:α}(hx:x∈l)(hp:∀y∈p,y∈l):MInv w l (p++[x]) (mStep w (cnt w l) p st x):=by
 have hpos:=cnt_pos w hx
 unfold mStep
 split
 ·rename_i hs
  obtain⟨y,hy,e⟩:=zbw.1 hs
  have e:w y=w x:=of_decide_eq_true e
  have hne:p≠[]:=fun e=>by subst e;cases hy
  refine⟨fun z hz=>?_,fun z hz hn=>?_,h.sf,fun _=>⟨zaj _ (h.out hne).1,(h.out hne).2⟩,h.att.imp id fun⟨z,hz,k⟩=>⟨z,zaj _ hz,k⟩,fun e=>by simp at e⟩
  ·rcases zK.1 hz with hz|hz
   ·exact h.le z hz
   ·rw[zC.1 hz,←e];exact h.le y hy
  ·rcases zK.1 hz with hz|hz
   ·exact h.se z hz hn
   ·rw[zC.1 hz,←e] at hn ⊢;exact h.se y hy hn
 ·rename_i hs
  have hns:∀y∈p,w y≠w x:=fun y hy e=>hs (zbw.2 ⟨y,hy,decide_eq_true e⟩)
  split
  ·rename_i hlt
   refine⟨fun z hz=>?_,fun z hz hn=>?_,Nat.le_of_lt hlt,fun _=>⟨zbi _ (zC.2 rfl),rfl⟩,?_,fun e=>by simp at e⟩
   ·rcases zK.1 hz with hz|hz
    ·have:=h.le z hz;dsimp only;omega
    ·rw[zC.1 hz];exact zf _
   ·rcases zK.1 hz with hz|hz
    ·exact h.le z hz
    ·rw[zC.1 hz] at hn;exact absurd rfl hn
   ·by_cases hp0:p=[]
    ·exact .inl (h.nil hp0).1
    ·obtain⟨h1,h2⟩:=h.out hp0
     exact .inr ⟨st.out,zaj _ h1,hns _ h1,h2.symm⟩
  ·rename_i hlt
   have hp0:p≠[]:=fun e=>by have:=(h.nil e).1;omega
   obtain⟨h1,h2⟩:=h.out hp0
   refine⟨fun z hz=>?_,fun z hz hn=>?_,?_,fun _=>⟨zaj _ h1,h2⟩,?_,fun e=>by simp at e⟩
   ·rcases zK.1 hz with hz|hz
    ·exact h.le z hz
    ·rw[zC.1 hz];dsimp only;omega
   ·rcases zK.1 hz with hz|hz
    ·have:=h.se z hz hn;dsimp only;omega
    ·rw[zC.1 hz];dsimp only;omega
   ·have:=h.sf;dsimp only;omega
   ·dsimp only
    by_cases hm:st.second≤cnt w l (w x)
    ·exact .inr ⟨x,zbi _ (zC.2 rfl),fun e=>hns _ h1 e.symm,by omega⟩
    ·rcases h.att with e|⟨z,hz,k1,k2⟩
     ·omega
     ·exact .inr ⟨z,zaj _ hz,k1,by omega⟩
theorem MInv.all {z:α}{l:List α}:∀k,k≤l.length→MInv w l (l.take k) (mS w z l k)
 |0,_=>⟨fun y h=>by simp at h,fun y h=>by simp at h,zf _,fun h=>absurd rfl h,.inl rfl,fun _=>⟨rfl,rfl⟩⟩
 |k+1,hk=>by
  rw[mS_succ w hk,zo hk]
  exact (MInv.all k (Nat.le_of_succ_le hk)).step w (zi _) fun y hy=>z9 hy
theorem mS_end {z:α}{l:List α}:((mS w z l l.length).second < (mS w z l l.length).first→IsWin w l (mS w z l l.length).out)∧(¬(mS w z l l.length).second < (mS w z l l.length).first→∀x,¬IsWin w l x):=by
 have h:=MInv.all w (z:=z) (l:=l) l.length (zf _)
 rw[z0] at h
 generalize mS w z l l.length=st at h
 refine⟨fun hlt=>?_,fun hge x hx=>?_⟩
 ·have h0:l≠[]:=fun e=>by have:=h.nil e;omega
  obtain⟨h1,h2⟩:=h.out h0
  exact⟨h1,fun y hy hn=>by have:=h.se y hy hn;omega⟩
 ·have h0:l≠[]:=fun e=>by subst e;exact absurd hx.1 (by simp)
  obtain⟨h1,h2⟩:=h.out h0
  have h3:=h.sf
  by_cases e:w x=w st.out
  ·have hp:=cnt_pos w h1
   rcases h.att with h4|⟨y,hy,h5,h6⟩
   ·omega
   ·have:=hx.2 y hy (by rw[e];exact h5)
    rw[e] at this;omega
  ·have h4:=hx.2 st.out h1 (Ne.symm e)
   have h5:=h.le x hx.1
   omega
structure RSt (α:Type) where
 best:α
 most:Nat
 equal:Bool
def rStep (c:β→Nat)(st:RSt α)(x:α):RSt α:=
 if st.most < c (w x) then ⟨x,c (w x),false⟩ else if c (w x)=st.most∧w x≠w st.best then ⟨st.best,st.most,true⟩ else st
structure RInv (l p:List α)(st:RSt α):Prop where
 le:∀y∈p,cnt w l (w y)≤st.most
 out:p≠[]→st.best∈p∧st.most=cnt w l (w st.best)
 nil:p=[]→st.most=0∧st.equal=false
 eq:st.equal=true↔∃y∈p,w y≠w st.best∧cnt w l (w y)=st.most
theorem RInv.step {l p:List α}{st:RSt α}(h:RInv w l p st){x:α}(hx:x∈l):RInv w l (p++[x]) (rStep w (cnt w l) st x):=by
 have hpos:=cnt_pos w hx
 unfold rStep
 split
 ·rename_i hlt
  refine⟨fun z hz=>?_,fun _=>⟨zbi _ (zC.2 rfl),rfl⟩,fun e=>by simp at e,⟨fun e=>(zbh e).elim,?_⟩⟩
  ·rcases zK.1 hz with hz|hz
   ·have:=h.le z hz;dsimp only;omega
   ·rw[zC.1 hz];exact zf _
  ·rintro⟨y,hy,h1,h2⟩
   rcases zK.1 hy with hy|hy
   ·have:=h.le y hy;dsimp only at h2;omega
   ·rw[zC.1 hy] at h1;exact absurd rfl h1
 ·rename_i hlt
  have hp0:p≠[]:=fun e=>by have:=(h.nil e).1;omega
  obtain⟨h1,h2⟩:=h.out hp0
  split
  ·rename_i he
   obtain⟨he,hn⟩:=he
   refine⟨fun z hz=>?_,fun _=>⟨zaj _ h1,h2⟩,fun e=>by simp at e,⟨fun _=>⟨x,zbi _ (zC.2 rfl),hn,he⟩,fun _=>rfl⟩⟩
   rcases zK.1 hz with hz|hz
   ·exact h.le z hz
   ·rw[zC.1 hz];dsimp only;omega
  ·rename_i he
   refine⟨fun z hz=>?_,fun _=>⟨zaj _ h1,h2⟩,fun e=>by simp at e,h.eq.trans ⟨?_,?_⟩⟩
   ·rcases zK.1 hz with hz|hz
    ·exact h.le z hz
    ·rw[zC.1 hz];omega
   ·rintro⟨y,hy,k⟩;exact⟨y,zaj _ hy,k⟩
   ·rintro⟨y,hy,k1,k2⟩
    rcases zK.1 hy with hy|hy
    ·exact⟨y,hy,k1,k2⟩
    ·rw[zC.1 hy] at k1 k2;exact absurd ⟨k2,k1⟩ he
theorem RInv.all {l:List α}:∀(q p:List α) (st:RSt α),p++q=l→RInv w l p st→RInv w l l (q.foldl (rStep w (cnt w l)) st)
 |[],p,st,e,h=>by rw[zN] at e;subst e;exact h
 |x::q,p,st,e,h=>by
  rw[List.foldl_cons]
  exact RInv.all q (p++[x]) _ (by rw[←e];simp) (h.step w (by rw[←e];simp))
def rS (z:α)(l:List α):RSt α:=l.foldl (rStep w (cnt w l)) ⟨z,0,false⟩
theorem rS_end {z:α}{l:List α}:((0 < (rS w z l).most∧(rS w z l).equal=false)→IsWin w l (rS w z l).best)∧(¬(0 < (rS w z l).most∧(rS w z l).equal=false)→∀x,¬IsWin w l x):=by
 have h:RInv w l l (rS w z l):=RInv.all w l [] _ rfl ⟨fun y h=>(by cases h),fun h=>absurd rfl h,fun _=>⟨rfl,rfl⟩,⟨fun e=>(zbh e).elim,fun⟨y,h,_⟩=>(by cases h)⟩⟩
 generalize rS w z l=st at h
 refine⟨fun⟨hm,he⟩=>?_,fun hge x hx=>?_⟩
 ·have h0:l≠[]:=fun e=>by have:=(h.nil e).1;omega
  obtain⟨h1,h2⟩:=h.out h0
  refine⟨h1,fun y hy hn=>?_⟩
  have h3:=h.le y hy
  have h4:¬cnt w l (w y)=st.most:=fun e=>by
   have:=h.eq.2 ⟨y,hy,hn,e⟩
   rw[he] at this;exact zbh this
  omega
 ·have h0:l≠[]:=fun e=>by subst e;exact absurd hx.1 (by simp)
  obtain⟨h1,h2⟩:=h.out h0
  have hp:=cnt_pos w h1
  have he:st.equal=true:=by
   cases e:st.equal with
   |true=>rfl
   |false=>exact absurd ⟨by omega,e⟩ hge
  obtain⟨y,hy,h3,h4⟩:=h.eq.1 he
  by_cases e:w x=w st.best
  ·have:=hx.2 y hy (by rw[e];exact h3)
   rw[e] at this;omega
  ·have h5:=hx.2 st.best h1 (Ne.symm e)
   have h6:=h.le x hx.1
   omega
theorem both_ways {z:α}{l:List α}:((mS w z l l.length).second < (mS w z l l.length).first↔(0 < (rS w z l).most∧(rS w z l).equal=false))∧((mS w z l l.length).second < (mS w z l l.length).first→w (mS w z l l.length).out=w (rS w z l).best):=by
 obtain⟨a1,a2⟩:=mS_end w (z:=z) (l:=l)
 obtain⟨b1,b2⟩:=rS_end w (z:=z) (l:=l)
 have e:(mS w z l l.length).second < (mS w z l l.length).first↔(0 < (rS w z l).most∧(rS w z l).equal=false):=
  ⟨fun h=>Classical.byContradiction fun k=>b2 k _ (a1 h),fun h=>Classical.byContradiction fun k=>a2 k _ (b1 h)⟩
 exact⟨e,fun h=>(a1 h).same w (b1 (e.1 h))⟩
end
end Go.DM
/- A sorted list is one, where keys differ. No program. -/
namespace Go.DM
theorem srt_one {α:Type}{key:α→Int}:∀{a b:List α},a.Pairwise (fun x y=>key x≤key y)→b.Pairwise (fun x y=>key x≤key y)→a.Perm b→a.Pairwise (fun x y=>key x≠key y)→a=b
 |[],b,_,_,hp,_=>hp.nil_eq
 |x::r,b,ha,hb,hp,hn=>by
  cases b with
  |nil=>exact absurd hp.symm.nil_eq (by simp)
  |cons y s=>
   obtain⟨h1,h2⟩:=zam.1 ha
   obtain⟨k1,k2⟩:=zam.1 hb
   obtain⟨n1,n2⟩:=zam.1 hn
   have hxb:x∈y::s:=hp.subset (zB ..)
   have hya:y∈x::r:=hp.symm.subset (zB ..)
   have e:x=y:=by
    rcases zH.1 hya with e|hy
    ·exact e.symm
    ·rcases zH.1 hxb with e|hx
     ·exact e
     ·have:=h1 y hy
      have:=k1 x hx
      have:=n1 y hy
      omega
   subst e
   rw[srt_one h2 k2 hp.cons_inv n2]
end Go.DM
