/- Parts. -/
import Derived.Shelf.SlGeneric
import Derived.Shelf.Strconv.Itoa0
import Derived.Ground.NamesProg
import Derived.Shelf.Strconv.Itoa3
import Derived.Test.YtpkocnpamcchcaaGreatDoorProg
import Derived.Test.YtpkocnpamcchcaaGreatDoorL00
set_option maxRecDepth 100000
set_option maxHeartbeats 40000000
set_option linter.all false
namespace Go.Proofs
open Go.Shelf Tryz
def Tryz.lenL_ren:Go.Shelf.Ren:=⟨fun|129=>163|n=>n,fun|53=>47|3=>3|4=>4|46=>162|5=>5|9=>9|n=>n,fun|n=>n⟩
theorem Tryz.lenL:Go.Proofs.Lays.n129 prog Tryz.lenL_ren:={
 mixed:=kR
 f129:=func163.trans (congrArg some kR)
 t3:=underlying3
 a3:=Tryz.isAgg3
 z3:=Tryz.sizeOf3
 v3:=Tryz.zeroValue3
 t4:=underlying4
 a4:=Tryz.isAgg4
 z4:=Tryz.sizeOf4
 v4:=Tryz.zeroValue4
 t5:=underlying5
 a5:=Tryz.isAgg5
 z5:=Tryz.sizeOf5
 v5:=Tryz.zeroValue5
 t9:=underlying9
 a9:=Tryz.isAgg9
 z9:=Tryz.sizeOf9
 v9:=Tryz.zeroValue9
 t46:=underlying162
 a46:=Tryz.isAgg162
 z46:=Tryz.sizeOf162
 v46:=Tryz.zeroValue162
 t53:=underlying47
 a53:=Tryz.isAgg47
 z53:=Tryz.sizeOf47
 v53:=Tryz.zeroValue47 }
end Go.Proofs
namespace Go.Roa
def iF(a:List Nat):Nat->Nat
 | 0=>0
 | k+1=>iF a k+(if k=0\/a.getD k 0≠a.getD (k-1) 0+1 then 1 else 0)
def bump(l:List (Nat×Nat)):List (Nat×Nat) :=
 match l.getLast? with
 | none=>[]
 | some p=>l.dropLast++[(p.1,p.2+1)]
theorem tH(l:List (Nat×Nat))(p:Nat×Nat):bump (l++[p])=l++[(p.1,p.2+1)]:=by simp[bump]
def eQ(a:List Nat):Nat->List (Nat×Nat)
 | 0=>[]
 | k+1=>if 0<k/\a.getD k 0=a.getD (k-1) 0+1 then bump (eQ a k) else eQ a k++[(a.getD k 0,0)]
theorem rM(a:List Nat):∀k,0<k->∃A p,eQ a k=A++[p]/\p.1+p.2=a.getD (k-1) 0
 | 0,h=>absurd h (Nat.lt_irrefl 0)
 | k+1,_=>by
   unfold eQ
   split
   ·rename_i h;obtain⟨A,p,e,b⟩:=rM a k h.1;refine⟨A,(p.1,p.2+1),by rw[e,tH],?_⟩;simp only[Nat.add_sub_cancel];omega
   ·exact⟨_,_,rfl,sP⟩
theorem oH(a:List Nat):∀k,(eQ a k).length=iF a k
 | 0=>rfl
 | k+1=>by
   have c:=oH a k;unfold eQ iF
   by_cases b:0<k/\a.getD k 0=a.getD (k-1) 0+1
   ·rw[if_pos b,if_neg (λhh=>hh.elim (λh1=>oM) (λh1=>h1 b.2))];obtain⟨A,p,e,_⟩:=rM a k b.1;rw[<-c,e,tH];simp
   ·rw[if_neg b,if_pos (by
     by_cases d:k=0
     ·exact .inl d
     ·exact .inr λh1=>b ⟨oM,h1⟩),lg,c]
    rfl
theorem uK(a:List Nat)(B:Nat)(c:∀x∈a,x<B):∀k,k<=a.length->∀p∈eQ a k,p.1+p.2<B
 | 0,_,p,b=>by cases b
 | k+1,hk,p,b=>by
   have d:=uK a B c k oM;have f:a.getD k 0<B:=by
    have:a.getD k 0=a[k]:=(by simp[show k<a.length from oM]);rw[this];exact c _ (ll _)
   unfold eQ at b
   split at b
   ·rename_i h;obtain⟨A,i,e,g⟩:=rM a k h.1;rw[e,tH]at b
    rcases lx.1 b with b|b
    ·exact d p (by rw[e];exact List.mem_append_left _ b)
    ·simp only[lm]at b;subst b;simp only;omega
   ·rcases lx.1 b with b|b
    ·exact d p b
    ·simp only[lm]at b;subst b
     simpa using f
def cO:List Nat->List Nat->List Nat
 | [],[]=>[]
 | x::r,[]=>x::cO r []
 | [],y::s=>y::cO [] s
 | x::r,y::s=>if x<y then x::cO r (y::s) else if y<x then y::cO (x::r) s else x::cO r s
termination_by a b=>a.length+b.length
theorem Kw:cO [] []=[]:=by simp[cO]
theorem u4(x:Nat)(r:List Nat):cO (x::r) []=x::cO r []:=by simp[cO]
theorem uY(y:Nat)(s:List Nat):cO [] (y::s)=y::cO [] s:=by simp[cO]
theorem uZ(x y:Nat)(r s:List Nat)(h:x<y):cO (x::r) (y::s)=x::cO r (y::s):=by rw[cO,if_pos h]
theorem u6(x y:Nat)(r s:List Nat)(h:y<x):cO (x::r) (y::s)=y::cO (x::r) s:=by rw[cO,if_neg oM,if_pos h]
theorem u7(x:Nat)(r s:List Nat):cO (x::r) (x::s)=x::cO r s:=by rw[cO,if_neg oM,if_neg oM]
theorem Bd(a b:List Nat):(cO a b).length<=a.length+b.length:=by
 induction a,b using cO.induct with
 | case1=>simp[cO]
 | case2 x r ih=>rw[u4];simp at ih|-;omega
 | case3 y s ih=>rw[uY];simp at ih|-;omega
 | case4 x r y s h ih=>rw[uZ _ _ _ _ h];simp at ih|-;omega
 | case5 x r y s h1 h2 ih=>rw[u6 _ _ _ _ h2];simp at ih|-;omega
 | case6 x r y s h1 h2 ih =>
   have:x=y:=oM;subst this;rw[u7];simp at ih|-;omega
theorem Be(P:Nat->Prop)(a b:List Nat)(d:∀x∈a,P x)(e:∀x∈b,P x):∀x∈cO a b,P x:=by
 induction a,b using cO.induct with
 | case1=>simp[cO]
 | case2 x r ih =>
   rw[u4];intro z c
   rcases ln.1 c with rfl|c
   ·exact d _ sP
   ·exact ih (λz h=>d z (by simp[h])) e z c
 | case3 y s ih =>
   rw[uY];intro z c
   rcases ln.1 c with rfl|c
   ·exact e _ sP
   ·exact ih d (λz h=>e z (by simp[h])) z c
 | case4 x r y s h ih =>
   rw[uZ _ _ _ _ h];intro z c
   rcases ln.1 c with rfl|c
   ·exact d _ sP
   ·exact ih (λz h=>d z (by simp[h])) e z c
 | case5 x r y s h1 h2 ih =>
   rw[u6 _ _ _ _ h2];intro z c
   rcases ln.1 c with rfl|c
   ·exact e _ sP
   ·exact ih d (λz h=>e z (by simp[h])) z c
 | case6 x r y s h1 h2 ih =>
   have:x=y:=oM;subst this;rw[u7];intro z c
   rcases ln.1 c with rfl|c
   ·exact d _ sP
   ·exact ih (λz h=>d z (by simp[h])) (λz h=>e z (by simp[h])) z c
def dI(r:List (Nat×Nat)):List Nat:=r.flatMap λp=>[p.1,p.1+p.2+1]
theorem ja:∀r:List (Nat×Nat),(dI r).length=2*r.length
 | []=>rfl
 | p::r=>by
   have:=ja r;simp only[dI,lN,lg,lw,lB]at this|-;omega
def du(a:List Nat)(b:Nat):Nat->Nat->Nat
 | 0,i=>i
 | f+1,i=>if i<a.length/\a.getD i 0<=b then du a b f (i+1) else i
theorem uB(a:List Nat)(b:Nat):∀f i,i<=du a b f i
 | 0,i=>lc _
 | f+1,i=>by
   unfold du
   split
   ·have:=uB a b f (i+1);omega
   ·exact lc _
theorem uA(a:List Nat)(b:Nat):∀f i,i<=a.length->du a b f i<=a.length
 | 0,i,h=>h
 | f+1,i,h=>by
   unfold du
   split
   ·rename_i hc;exact uA a b f (i+1) oM
   ·exact h
theorem pW(a:List Nat)(b:Nat):∀f i,i<=a.length->a.length<=i+f->du a b f i<a.length->b<a.getD (du a b f i) 0
 | 0,i,h,h2,h3=>by unfold du at h3;omega
 | f+1,i,h,h2,h3=>by
   unfold du at h3|-
   split at h3<;>rename_i hc
   ·rw[if_pos hc];exact pW a b f (i+1) oM oM h3
   ·rw[if_neg hc];have:¬ a.getD i 0<=b:=λh4=>hc ⟨h3,h4⟩;omega
def dy(a b:List Nat)(i k:Nat):Nat:=min (if i<a.length then a.getD i 0 else 65537) (if k<b.length then b.getD k 0 else 65537)
def hE(g:Bool->Bool->Bool)(a b:List Nat):Nat->Nat->Nat->Bool->Nat->List (Nat×Nat)->List (Nat×Nat)
 | 0,_,_,_,_,r=>r
 | f+1,i,k,on,lo,r =>
   if i<a.length\/k<b.length then
    let at_:=dy a b i k
    let i':=du a at_ (a.length-i) i
    let k':=du b at_ (b.length-k) k
    let now:=g (i'%2==1) (k'%2==1)
    if now=on then hE g a b f i' k' on lo r
    else hE g a b f i' k' now at_ (if on then r++[(lo,at_-lo-1)] else r)
   else r
def edges(g:Bool->Bool->Bool)(a b:List Nat):List (Nat×Nat):=hE g a b (a.length+b.length) 0 0 false 0 []
theorem BB{a b:List Nat}{B:Nat}(f:∀x∈a,x<=B)(d:∀x∈b,x<=B){i k:Nat}(c:i<a.length\/k<b.length)(g:B<=65536):dy a b i k<=B:=by
 unfold dy
 rcases c with c|c
 ·have:a.getD i 0<=B:=by
   have e:a.getD i 0=a[i]:=(by simp[c]);rw[e];exact f _ (ll _)
  rw[if_pos c];omega
 ·have:b.getD k 0<=B:=by
   have e:b.getD k 0=b[k]:=(by simp[c]);rw[e];exact d _ (ll _)
  rw[if_pos c];omega
theorem DI{a b:List Nat}{B:Nat}(q:∀x∈a,x<=B)(t:∀x∈b,x<=B)(y:B<=65536){i k:Nat}(hi:i<=a.length)(o:k<=b.length)(c:i<a.length\/k<b.length) :
 i<=du a (dy a b i k) (a.length-i) i/\du a (dy a b i k) (a.length-i) i<=a.length/\k<=du b (dy a b i k) (b.length-k) k/\du b (dy a b i k) (b.length-k) k<=b.length/\i+k<du a (dy a b i k) (a.length-i) i+du b (dy a b i k) (b.length-k) k:=by
 have w:=uB a (dy a b i k) (a.length-i) i;have r:=uA a (dy a b i k) (a.length-i) i hi;have u:=uB b (dy a b i k) (b.length-k) k;have p:=uA b (dy a b i k) (b.length-k) k o;refine⟨w,r,u,p,?_⟩;have l:=pW a (dy a b i k) (a.length-i) i hi oM;have j:=pW b (dy a b i k) (b.length-k) k o oM;generalize du a (dy a b i k) (a.length-i) i=f at *;generalize du b (dy a b i k) (b.length-k) k=g at *
 by_cases s:f=i
 ·by_cases v:g=k
  ·subst s;subst v
   exfalso
   unfold dy at l j
   rcases c with c|c
   ·have d:=l c;rw[if_pos c]at d j
    by_cases m:g<b.length
    ·have h:=j m;rw[if_pos m]at d h;omega
    ·rw[if_neg m]at d;have:a.getD f 0<=B:=by
         have e:a.getD f 0=a[f]:=(by simp[c]);rw[e];exact q _ (ll _)
     omega
   ·have h:=j c;rw[if_pos c]at h l
    by_cases n:f<a.length
    ·have d:=l n;rw[if_pos n]at d h;omega
    ·rw[if_neg n]at h;have:b.getD g 0<=B:=by
         have e:b.getD g 0=b[g]:=(by simp[c]);rw[e];exact t _ (ll _)
     omega
  ·omega
 ·omega
theorem DJ{a b:List Nat}{i k:Nat}(hi:i<=a.length)(j:k<=b.length){B:Nat}(m:dy a b i k<=B)(l:B<=65536):dy a b i k<dy a b (du a (dy a b i k) (a.length-i) i) (du b (dy a b i k) (b.length-k) k):=by
 have h:=pW a (dy a b i k) (a.length-i) i hi oM;have f:=pW b (dy a b i k) (b.length-k) k j oM;generalize dy a b i k=t at *;generalize du a t (a.length-i) i=g at *;generalize du b t (b.length-k) k=e at *;unfold dy
 by_cases d:g<a.length
 ·rw[if_pos d];have:=h d
  by_cases c:e<b.length
  ·rw[if_pos c];have:=f c;omega
  ·rw[if_neg c];omega
 ·rw[if_neg d]
  by_cases c:e<b.length
  ·rw[if_pos c];have:=f c;omega
  ·rw[if_neg c];omega
theorem tq(g:Bool->Bool->Bool){a b:List Nat}{B:Nat}(l:∀x∈a,x<=B)(n:∀x∈b,x<=B)(c:B<=65536):∀(f i k:Nat) (on:Bool) (lo:Nat) (r:List (Nat×Nat)),i<=a.length->k<=b.length->(on=true->(i<a.length\/k<b.length)->lo<dy a b i k)->(∀p∈r,p.1+p.2+1<=B) ->
 (∀p∈hE g a b f i k on lo r,p.1+p.2+1<=B)/\2*(hE g a b f i k on lo r).length<=2*r.length+(a.length-i)+(b.length-k)+(if on then 1 else 0)
 | 0,i,k,on,lo,r,_,_,_,hr=>⟨hr,by simp only[hE];omega⟩
 | f+1,i,k,on,lo,r,hi,hk,hlo,hr=>by
   unfold hE
   by_cases m:i<a.length\/k<b.length
   ·rw[if_pos m];simp only[];have v:=BB l n m c;obtain⟨s1,s2,s3,s4,s5⟩:=DI l n c hi hk m;have u:=DJ hi hk v c;have s:=λe=>hlo e m;generalize w:dy a b i k=t at *;generalize du a t (a.length-i) i=d at *;generalize du b t (b.length-k) k=j at *
    by_cases o:g (d%2==1) (j%2==1)=on
    ·rw[if_pos o];have:=tq g l n c f d j on lo r s2 s4 (λe _=>LK (s e) u) hr;refine⟨this.1,lk this.2 oM⟩
    ·rw[if_neg o]
     cases on with
     | true =>
       have q:g (d%2==1) (j%2==1)=false:=(by simpa using o);rw[q];have:=tq g l n c f d j false t (r++[(lo,t-lo-1)]) s2 s4 (λe=>by cases e) (λp h=>by
        rcases lx.1 h with h|h
        ·exact hr p h
        ·simp only[lm]at h;subst h;have:=s rfl;simp only;omega)
       simp only[if_true,lY,if_false,lg,lw,lB]at this|-;refine⟨this.1,lk this.2 oM⟩
     | false =>
       have q:g (d%2==1) (j%2==1)=true:=(by simpa using o);rw[q];have:=tq g l n c f d j true t r s2 s4 (λ_ _=>u) hr;simp only[if_true,lY,if_false]at this|-;refine⟨this.1,lk this.2 oM⟩
   ·rw[if_neg m];exact⟨hr,oM⟩
theorem DG(g:Bool->Bool->Bool){r a:List (Nat×Nat)}{B:Nat}(j:∀p∈r,p.1+p.2+1<=B)(f:∀p∈a,p.1+p.2+1<=B)(i:B<=65536):(∀p∈edges g (dI r) (dI a),p.1+p.2+1<=B)/\(edges g (dI r) (dI a)).length<=r.length+a.length:=by
 have d:∀(l:List (Nat×Nat)),(∀p∈l,p.1+p.2+1<=B)->∀x∈dI l,x<=B:=λl h x c=>by
  obtain⟨p,b,c⟩:=List.mem_flatMap.1 c;have:=h p b;simp only[ln,lL,or_false]at c;omega
 have:=tq g (d r j) (d a f) i ((dI r).length+(dI a).length) 0 0 false 0 [] (lj _) (lj _) (λe=>by cases e) (λp b=>by cases b);rw[ja,ja]at this;simp only[lB,Nat.sub_zero,lY,if_false]at this;refine⟨by unfold edges;rw[ja,ja];exact this.1,?_⟩;unfold edges;rw[ja,ja];omega
def dP(a:Nat->Nat):Nat->Nat->List Nat
 | 0,_=>[]
 | f+1,x=>if x=0 then [] else a x::dP a f (x &&& (x-1))
theorem qF(a:Nat->Nat):∀f x,(dP a f x).length<=f
 | 0,_=>lc _
 | f+1,x=>by
   unfold dP
   split
   ·exact lj _
   ·have:=qF a f (x &&& (x-1));simp;omega
theorem wP{b:Nat->Nat}{B:Nat}(c:∀x,x≠0->b x<B):∀f x,∀y∈dP b f x,y<B
 | 0,_,y,a=>by cases a
 | f+1,x,y,a=>by
   unfold dP at a
   split at a
   ·cases a
   ·rename_i h
    rcases ln.1 a with rfl|a
    ·exact c x h
    ·exact wP c f _ y a
theorem DK{x j:Nat}:2^j ∣ x<->∀i,i<j->x.testBit i=false:=by
 rw[Nat.dvd_iff_mod_eq_zero];constructor
 ·intro a i hi;have b:=Nat.testBit_mod_two_pow x j i;rw[a]at b;simp[hi]at b;exact b
 ·intro a;apply Nat.eq_of_testBit_eq;intro i;rw[Nat.testBit_mod_two_pow,Nat.zero_testBit]
  by_cases hi:i<j
  ·simp[hi,a i hi]
  ·simp[hi]
theorem MX{x j:Nat}(d:x≠0)(b:2^j ∣ x):2^(j+1) ∣ x &&& (x-1):=by
 rw[DK];intro i hi;rw[Nat.testBit_and]
 by_cases f:i<j
 ·rw[DK.1 b i f,Bool.false_and]
 ·have e:i=j:=oM;subst e;obtain⟨a,rfl⟩:=b;have l:a≠0:=λe=>d (by rw[e,Nat.mul_zero]);have c:0<2^i:=Nat.pow_pos dC;have g:(2^i*a)/2^i=a:=Nat.mul_div_cancel_left _ c;have k:(2^i*a-1)/2^i=a-1:=by
   obtain⟨p,rfl⟩:∃p,a=p+1:=⟨a-1,oM⟩;rw[Nat.mul_add,Lb,show 2^i*p+2^i-1=2^i*p+(2^i-1) from oM,Nat.mul_add_div c,Nat.div_eq_of_lt oM];omega
  rw[Nat.testBit_eq_decide_div_mod_eq,Nat.testBit_eq_decide_div_mod_eq,g,k]
  by_cases h:a%2=1
  ·have:(a-1)%2=0:=oM;simp[this]
  ·simp[h]
theorem O7{x:Nat}(a:x<2^64)(b:2^64 ∣ x):x=0:=Nat.eq_zero_of_dvd_of_lt b a
def kN(a:List Nat):Nat:=a.foldl (λx v=>x ||| (1 <<< v)) 0
def g9(x lo hi:Nat):Nat:=x ^^^ ((((2^64-1) >>> (64-(hi-lo))) <<< lo)%2^64)
theorem qj{x y:Nat}(h:x<2^64)(k:y<2^64):x ||| y<2^64:=Nat.or_lt_two_pow h k
theorem Bq(a:List Nat)(b:∀x∈a,x<64):kN a<2^64:=by
 have:∀(l:List Nat) (x:Nat),x<2^64->(∀v∈l,v<64)->l.foldl (λx v=>x ||| (1 <<< v)) x<2^64:=by
  intro l
  induction l with
  | nil=>intro x b _;exact b
  | cons v r ih =>
    intro x d c;refine ih _ (qj d ?_) λu hu=>c u (by simp[hu]);rw[Nat.one_shiftLeft];exact Nat.pow_lt_pow_right dC (c v sP)
 exact this a 0 dC b
theorem Dc{x lo hi:Nat}(h:x<2^64):g9 x lo hi<2^64:=Nat.xor_lt_two_pow h (Nat.mod_lt _ dC)
inductive ap
 | arr (a:List Nat)
 | wrd (x:Nat)
 | run (r:List (Nat×Nat))
structure EJ where
 pop:Nat->Nat
 tz:Nat->Nat
 pop_lt:∀x,pop x<=127
 tz_lt:∀x,x≠0->tz x<64
variable (T:EJ)
def ap.len:ap->Nat
 | .arr a=>a.length
 | .wrd x=>T.pop x
 | .run r=>(r.map λp=>p.2+1).sum
def ap.many:ap->Nat
 | .arr a=>iF a a.length
 | .wrd x=>T.pop (x &&& (18446744073709551615-x*2%18446744073709551616))
 | .run r=>r.length
def jh(r:List (Nat×Nat)):List Nat:=r.flatMap λp=>List.range' p.1 (p.2+1)
def ap.list:ap->List Nat
 | .arr a=>a
 | .wrd x=>dP T.tz 64 x
 | .run r=>jh r
def ap.runs:ap->List (Nat×Nat)
 | .run r=>r
 | .arr a=>eQ a a.length
 | .wrd x=>eQ (dP T.tz 64 x) (dP T.tz 64 x).length
def ap.word:ap->Nat
 | .arr a=>kN a
 | .wrd x=>x
 | .run r=>r.foldl (λx p=>g9 x p.1 (p.1+p.2+1)) 0
def ap.kind:ap->Nat
 | .arr _=>1
 | .wrd _=>2
 | .run _=>3
def least(n:Nat):Nat:=if n<=4096 then 2*n else 8192
def iU(n r:Nat):Nat:=if 2+4*r<least n then 3 else if n<=4096 then 1 else 2
def ap.turn(c:ap)(k:Nat):ap:=if k=c.kind then c else if k=3 then .run (c.runs T) else if k=1 then .arr (c.list T) else .wrd c.word
def ap.canon(c:ap):ap:=c.turn T (iU (c.len T) (c.many T))
def eJ(a b:Bool):Bool:=a||b
def ap.or_:ap->ap->ap
 | .arr a,.arr b=>.arr (cO a b)
 | .run r,.run s=>.run (edges eJ (dI r) (dI s))
 | c,d=>.wrd (c.word ||| d.word)
def ap.or(c d:ap):ap:=(c.or_ d).canon T
def ap.Good:ap->Prop
 | .arr a=>∀x∈a,x<64
 | .wrd x=>x<2^64
 | .run r=>∀p∈r,p.1+p.2+1<=64
def ap.W:ap->Nat
 | .arr a=>a.length
 | .wrd _=>129
 | .run r=>2*r.length+1
def ap.NotW:ap->Prop
 | .wrd _=>False
 | _=>True
theorem sy:∀r:List (Nat×Nat),(jh r).length=(r.map λp=>p.2+1).sum
 | []=>rfl
 | p::r=>by
   have:=sy r;simp only[jh,lN,lg,List.length_range',lG,List.sum_cons]at this|-;omega
theorem B0{r:List (Nat×Nat)}{B:Nat}(b:∀p∈r,p.1+p.2+1<=B):∀x∈jh r,x<B:=by
 intro x a;obtain⟨p,c,a⟩:=List.mem_flatMap.1 a;have:=b p c;rw[List.mem_range'_1]at a;omega
theorem nU(a:List Nat):∀k,iF a k<=k
 | 0=>lc _
 | k+1=>by
   have:=nU a k;unfold iF
   split<;>omega
theorem uq(r:List (Nat×Nat)){B:Nat}(a:∀p∈r,p.2+1<=B):(r.map λp=>p.2+1).sum<=r.length*B:=by
 induction r with
 | nil=>simp
 | cons p r ih =>
   have c:=ih λq hq=>a q (by simp[hq]);have b:=a p sP;simp only[lG,List.sum_cons,lw,lH,Nat.one_mul];omega
theorem Ff(n r:Nat):(iU n r=3/\2+4*r<least n)\/(iU n r=1/\n<=4096/\¬ 2+4*r<least n)\/(iU n r=2/\4096<n/\¬ 2+4*r<least n):=by
 unfold iU
 by_cases a:2+4*r<least n
 ·exact .inl ⟨if_pos a,a⟩
 ·by_cases b:n<=4096
  ·exact .inr (.inl ⟨by rw[if_neg a,if_pos b],b,a⟩)
  ·exact .inr (.inr ⟨by rw[if_neg a,if_neg b],oM,a⟩)
theorem D7(c:ap)(h:c.Good)(j:c.W<=3000):(c.canon T).Good/\(c.canon T).NotW/\(c.canon T).W<=c.W:=by
 have d:=Ff (c.len T) (c.many T);unfold ap.canon;generalize iU (c.len T) (c.many T)=K at d|-
 cases c with
 | arr a =>
   simp only[ap.W,ap.len,ap.many]at j d;have l:=nU a a.length
   rcases d with⟨rfl,b⟩ | ⟨rfl,f,b⟩ | ⟨rfl,f,b⟩
   ·have e:(ap.arr a).turn T 3=.run (eQ a a.length):=rfl;rw[e];unfold least at b;rw[if_pos oM]at b;refine⟨λp g=>?_,trivial,?_⟩
    ·have:=uK a 64 h a.length (lc _) p g;omega
    ·simp only[ap.W,oH];omega
   ·exact⟨h,trivial,lc _⟩
   ·omega
 | wrd x =>
   have g:=T.pop_lt x;simp only[ap.len,ap.many]at d;have k:=qF T.tz 64 x;have i:=wP T.tz_lt 64 x
   rcases d with⟨rfl,b⟩ | ⟨rfl,f,b⟩ | ⟨rfl,f,b⟩
   ·have e:(ap.wrd x).turn T 3=.run (eQ (dP T.tz 64 x) (dP T.tz 64 x).length):=rfl;rw[e];refine⟨λp g=>?_,trivial,?_⟩
    ·have:=uK _ 64 i _ (lc _) p g;omega
    ·have:=nU (dP T.tz 64 x) (dP T.tz 64 x).length;simp only[ap.W,oH];omega
   ·have e:(ap.wrd x).turn T 1=.arr (dP T.tz 64 x):=rfl;rw[e];exact⟨i,trivial,by simp only[ap.W];omega⟩
   ·omega
 | run r =>
   simp only[ap.W,ap.len,ap.many]at j d
   rcases d with⟨rfl,b⟩ | ⟨rfl,f,b⟩ | ⟨rfl,f,b⟩
   ·exact⟨h,trivial,lc _⟩
   ·have e:(ap.run r).turn T 1=.arr (jh r):=rfl;rw[e];unfold least at b;rw[if_pos f]at b;refine⟨B0 h,trivial,?_⟩;simp only[ap.W,sy];omega
   ·unfold least at b;rw[if_neg oM]at b;omega
theorem word_lt(c:ap)(b:c.Good):c.word<2^64:=by
 cases c with
 | arr a=>exact Bq a b
 | wrd x=>exact b
 | run r =>
   have:∀(l:List (Nat×Nat)) (x:Nat),x<2^64->l.foldl (λx p=>g9 x p.1 (p.1+p.2+1)) x<2^64:=by
    intro l
    induction l with
    | nil=>intro x b;exact b
    | cons v r ih=>intro x d;exact ih _ (Dc d)
   exact this r 0 dC
theorem AZ(c d:ap)(f:c.Good)(e:d.Good)(i:c.NotW)(g:d.NotW)(j:c.W+d.W<=2800):(c.or T d).Good/\(c.or T d).NotW/\(c.or T d).W<=max 129 (c.W+d.W):=by
 have h:(c.or_ d).Good/\(c.or_ d).W<=max 129 (c.W+d.W):=by
  cases c with
  | wrd x=>exact i.elim
  | arr a =>
    cases d with
    | wrd x=>exact g.elim
    | arr b =>
      refine⟨Be (· < 64) a b f e,?_⟩;have:=Bd a b;simp only[ap.or_,ap.W];omega
    | run s=>exact⟨qj (word_lt _ f) (word_lt _ e),by simp only[ap.or_,ap.W];omega⟩
  | run r =>
    cases d with
    | wrd x=>exact g.elim
    | arr b=>exact⟨qj (word_lt _ f) (word_lt _ e),by simp only[ap.or_,ap.W];omega⟩
    | run s =>
      have:=DG eJ f e dC;refine⟨this.1,?_⟩;simp only[ap.or_,ap.W];omega
 have:=D7 T _ h.1 oM;exact⟨this.1,this.2.1,by unfold ap.or;omega⟩
def gz(l:List Nat):Option ap:=if l=[] then none else some ((ap.arr l).canon T)
def fc(s:Option ap):ap:=s.getD (.arr [])
def jz(s o:Option ap):Option ap:=if s=none/\o=none then none else if 0<((fc s).or T (fc o)).len T then some ((fc s).or T (fc o)) else none
structure eh(s:Option ap)(B:Nat):Prop where
 good:∀c,s=some c->c.Good
 notW:∀c,s=some c->c.NotW
 w:∀c,s=some c->c.W<=B
theorem eh.con{s:Option ap}{B:Nat}(h:eh s B):(fc s).Good/\(fc s).NotW/\(fc s).W<=B:=by
 cases s with
 | none=>exact⟨λx hx=>(nomatch hx),trivial,lj _⟩
 | some c=>exact⟨h.good c rfl,h.notW c rfl,h.w c rfl⟩
theorem eh.mono{b:Option ap}{B d:Nat}(a:eh b B)(f:B<=d):eh b d:=⟨a.good,a.notW,λc e=>lk (a.w c e) f⟩
theorem rI(B:Nat):eh none B:=⟨λ_ e=>(nomatch e),λ_ e=>(nomatch e),λ_ e=>(nomatch e)⟩
theorem KR(l:List Nat)(a:∀x∈l,x<64)(b:l.length<=3000):eh (gz T l) l.length:=by
 unfold gz
 split
 ·exact rI _
 ·have:=D7 T (.arr l) a b;exact⟨λc e=>(by cases e;exact this.1),λc e=>(by cases e;exact this.2.1),λc e=>(by cases e;exact this.2.2)⟩
theorem Ku{a b:Option ap}{A B:Nat}(d:eh a A)(h:eh b B)(k:A+B<=2800):eh (jz T a b) (max 129 (A+B)):=by
 unfold jz
 split
 ·exact rI _
 ·split
  ·obtain⟨i,a2,a3⟩:=d.con;obtain⟨f,g,j⟩:=h.con;have:=AZ T _ _ i f a2 g oM;exact⟨λc e=>(by cases e;exact this.1),λc e=>(by cases e;exact this.2.1),λc e=>(by cases e;exact lk this.2.2 oM)⟩
  ·exact rI _
end Go.Roa
namespace Go.Proofs
open Go.Shelf Tryz
def Tryz.itoaL_ren:Go.Shelf.Ren:=⟨fun|171=>68|243=>110|246=>156|283=>188|284=>189|285=>190|286=>191|129=>163|317=>224|318=>225|319=>226|320=>227|337=>265|338=>266|n=>n,fun|3=>3|9=>9|2=>2|4=>4|171=>255|0=>0|53=>47|37=>31|5=>5|173=>257|212=>290|51=>81|20=>20|213=>291|46=>162|232=>340|233=>341|n=>n,fun|17=>0|18=>1|19=>2|n=>n⟩
theorem Tryz.itoaL:Go.Proofs.LaysM.n171 prog Tryz.itoaL_ren:={
 mixed:=kR
 f129:=func163.trans (congrArg some kR)
 f171:=func68.trans (congrArg some kR)
 f243:=func110.trans (congrArg some kR)
 f246:=func156.trans (congrArg some kR)
 f283:=func188.trans (congrArg some kR)
 f284:=func189.trans (congrArg some kR)
 f285:=func190.trans (congrArg some kR)
 f286:=func191.trans (congrArg some kR)
 f317:=func224.trans (congrArg some kR)
 f318:=func225.trans (congrArg some kR)
 f319:=func226.trans (congrArg some kR)
 f320:=func227.trans (congrArg some kR)
 f337:=func265.trans (congrArg some kR)
 f338:=func266.trans (congrArg some kR)
 t0:=underlying0
 a0:=Tryz.isAgg0
 z0:=Tryz.sizeOf0
 v0:=Tryz.zeroValue0
 t2:=underlying2
 a2:=Tryz.isAgg2
 z2:=Tryz.sizeOf2
 v2:=Tryz.zeroValue2
 t3:=underlying3
 a3:=Tryz.isAgg3
 z3:=Tryz.sizeOf3
 v3:=Tryz.zeroValue3
 t4:=underlying4
 a4:=Tryz.isAgg4
 z4:=Tryz.sizeOf4
 v4:=Tryz.zeroValue4
 t5:=underlying5
 a5:=Tryz.isAgg5
 z5:=Tryz.sizeOf5
 v5:=Tryz.zeroValue5
 t9:=underlying9
 a9:=Tryz.isAgg9
 z9:=Tryz.sizeOf9
 v9:=Tryz.zeroValue9
 t20:=underlying20
 a20:=Tryz.isAgg20
 z20:=Tryz.sizeOf20
 v20:=Tryz.zeroValue20
 t37:=underlying31
 a37:=Tryz.isAgg31
 z37:=Tryz.sizeOf31
 v37:=Tryz.zeroValue31
 t46:=underlying162
 a46:=Tryz.isAgg162
 z46:=Tryz.sizeOf162
 v46:=Tryz.zeroValue162
 t51:=underlying81
 a51:=Tryz.isAgg81
 z51:=Tryz.sizeOf81
 v51:=Tryz.zeroValue81
 t53:=underlying47
 a53:=Tryz.isAgg47
 z53:=Tryz.sizeOf47
 v53:=Tryz.zeroValue47
 t171:=underlying255
 a171:=Tryz.isAgg255
 z171:=Tryz.sizeOf255
 v171:=Tryz.zeroValue255
 t173:=underlying257
 a173:=Tryz.isAgg257
 z173:=Tryz.sizeOf257
 v173:=Tryz.zeroValue257
 t212:=underlying290
 a212:=Tryz.isAgg290
 z212:=Tryz.sizeOf290
 v212:=Tryz.zeroValue290
 t213:=underlying291
 a213:=Tryz.isAgg291
 z213:=Tryz.sizeOf291
 t232:=underlying340
 a232:=Tryz.isAgg340
 z232:=Tryz.sizeOf340
 v232:=Tryz.zeroValue340
 t233:=underlying341
 a233:=Tryz.isAgg341
 z233:=Tryz.sizeOf341
 v233:=Tryz.zeroValue341
 g17:=kR
 g18:=kR
 g19:=kR
 i0:=kR
 i2:=kR
 i3:=kR
 i4:=kR
 i5:=kR
 i9:=kR
 i20:=kR
 i37:=kR
 i46:=kR
 i51:=kR
 i53:=kR
 i171:=kR
 i173:=kR
 i212:=kR
 i232:=kR
 i233:=kR
 m17:=kR
 m18:=kR
 m19:=by kernel_rfl }
end Go.Proofs
