/- Parts. -/
import Derived.Shelf.SlGeneric
import Derived.Shelf.SlSortCmp.NoneTotal
import Derived.Ground.SlsfProg
import Derived.Test.YtpkocnpamcchcaaGreatDoorProg
import Derived.Test.YtpkocnpamcchcaaGreatDoorL00
set_option maxRecDepth 100000
set_option maxHeartbeats 40000000
set_option linter.all false
namespace Go.Proofs
open Go.Shelf Tryz
def Tryz.sortV_ren:Go.Shelf.Ren:=⟨fun|6=>117|15=>159|14=>158|28=>200|29=>163|20=>192|21=>193|22=>194|23=>195|24=>196|25=>197|26=>198|27=>199|46=>228|47=>229|48=>230|49=>231|50=>232|57=>267|n=>n,fun|22=>56|24=>72|25=>123|3=>3|39=>162|0=>0|53=>81|55=>47|4=>4|46=>261|45=>260|50=>135|5=>5|9=>9|66=>292|70=>296|76=>325|77=>326|n=>n,fun|n=>n⟩
theorem Tryz.sortV:Go.Proofs.SlLaysF0.n6 prog Tryz.sortV_ren:={
 mixed:=kR
 f6:=⟨Tryz.f117.name,dC,func117.trans (congrArg some kR)⟩
 f14:=⟨Tryz.f158.name,dC,func158.trans (congrArg some kR)⟩
 f15:=func159.trans (congrArg some kR)
 f20:=⟨Tryz.f192.name,dC,func192.trans (congrArg some kR)⟩
 f21:=⟨Tryz.f193.name,dC,func193.trans (congrArg some kR)⟩
 f22:=⟨Tryz.f194.name,dC,func194.trans (congrArg some kR)⟩
 f23:=⟨Tryz.f195.name,dC,func195.trans (congrArg some kR)⟩
 f24:=⟨Tryz.f196.name,dC,func196.trans (congrArg some kR)⟩
 f25:=⟨Tryz.f197.name,dC,func197.trans (congrArg some kR)⟩
 f26:=⟨Tryz.f198.name,dC,func198.trans (congrArg some kR)⟩
 f27:=⟨Tryz.f199.name,dC,func199.trans (congrArg some kR)⟩
 f28:=func200.trans (congrArg some kR)
 f29:=func163.trans (congrArg some kR)
 f46:=⟨Tryz.f228.name,dC,func228.trans (congrArg some kR)⟩
 f47:=func229.trans (congrArg some kR)
 f48:=func230.trans (congrArg some kR)
 f49:=⟨Tryz.f231.name,dC,func231.trans (congrArg some kR)⟩
 f50:=⟨Tryz.f232.name,dC,func232.trans (congrArg some kR)⟩
 f57:=⟨Tryz.f267.name,dC,func267.trans (congrArg some kR)⟩
 t0:=underlying0
 a0:=Tryz.isAgg0
 z0:=Tryz.sizeOf0
 v0:=Tryz.zeroValue0
 t3:=underlying3
 a3:=Tryz.isAgg3
 z3:=Tryz.sizeOf3
 v3:=Tryz.zeroValue3
 t4:=underlying4
 a4:=Tryz.isAgg4
 z4:=Tryz.sizeOf4
 v4:=Tryz.zeroValue4
 t5:=underlying5
 a5:=Tryz.isAgg5
 z5:=Tryz.sizeOf5
 v5:=Tryz.zeroValue5
 t9:=underlying9
 a9:=Tryz.isAgg9
 z9:=Tryz.sizeOf9
 v9:=Tryz.zeroValue9
 t22:=underlying56
 a22:=Tryz.isAgg56
 z22:=Tryz.sizeOf56
 v22:=Tryz.zeroValue56
 t25:=underlying123
 a25:=Tryz.isAgg123
 z25:=Tryz.sizeOf123
 v25:=Tryz.zeroValue123
 t39:=underlying162
 a39:=Tryz.isAgg162
 z39:=Tryz.sizeOf162
 v39:=Tryz.zeroValue162
 t45:=underlying260
 a45:=Tryz.isAgg260
 z45:=Tryz.sizeOf260
 v45:=Tryz.zeroValue260
 t46:=underlying261
 a46:=Tryz.isAgg261
 z46:=Tryz.sizeOf261
 v46:=Tryz.zeroValue261
 t50:=underlying135
 a50:=Tryz.isAgg135
 z50:=Tryz.sizeOf135
 v50:=Tryz.zeroValue135
 t53:=underlying81
 a53:=Tryz.isAgg81
 z53:=Tryz.sizeOf81
 v53:=Tryz.zeroValue81
 t55:=underlying47
 a55:=Tryz.isAgg47
 z55:=Tryz.sizeOf47
 v55:=Tryz.zeroValue47
 t66:=underlying292
 a66:=Tryz.isAgg292
 z66:=Tryz.sizeOf292
 v66:=Tryz.zeroValue292
 t70:=underlying296
 a70:=Tryz.isAgg296
 z70:=Tryz.sizeOf296
 v70:=Tryz.zeroValue296
 t76:=underlying325
 a76:=Tryz.isAgg325
 z76:=Tryz.sizeOf325
 v76:=Tryz.zeroValue325
 t77:=underlying326
 a77:=Tryz.isAgg326
 z77:=Tryz.sizeOf326
 v77:=Tryz.zeroValue326 }
end Go.Proofs
namespace Go.Sym
section
variable {α:Type} (lt:α->α->Bool)
structure cF:Prop where
 asym:∀a b,lt a b=true->lt b a=false
 trans:∀a b c,lt b a=false->lt c b=false->lt c a=false
def jC(a b:α):Bool:=!lt a b && !lt b a
def bO(l:List α):Prop:=l.Pairwise λa b=>lt b a=false
def b9(l a:List α):Prop:=∀x,l.filter (jC lt x)=a.filter (jC lt x)
end
section
variable {α:Type} {lt:α->α->Bool}
theorem cF.irr(h:cF lt)(a:α):lt a a=false:=by
 cases e:lt a a
 ·rfl
 ·have:=h.asym a a e;rw[e]at this;exact this
theorem cF.lt_le(d:cF lt){a b c:α}(g:lt a b=true)(f:lt c b=false):lt a c=true:=by
 cases e:lt a c
 ·have:=d.trans b c a f e;rw[g]at this
  cases this
 ·rfl
theorem cF.le_lt(d:cF lt){a b c:α}(g:lt b a=false)(f:lt b c=true):lt a c=true:=by
 cases e:lt a c
 ·have:=d.trans c a b e g;rw[f]at this
  cases this
 ·rfl
theorem te{a b:α}:jC lt a b=true<->lt a b=false/\lt b a=false:=by simp[jC]
theorem b9.refl(l:List α):b9 lt l l:=λ_=>rfl
theorem b9.symm{l a:List α}(b:b9 lt l a):b9 lt a l:=λx=>(b x).symm
theorem b9.trans{l b a:List α}(c:b9 lt l b)(k:b9 lt b a):b9 lt l a:=λx=>(c x).trans (k x)
theorem b9.app{a d b c:List α}(e:b9 lt a d)(k:b9 lt b c):b9 lt (a++b) (d++c):=λx=>by rw[List.filter_append,List.filter_append,e x,k x]
theorem uo(d:cF lt){X a:List α}(c:∀x∈X,∀y∈a,lt y x=true):b9 lt (X++a) (a++X):=λz=>by
 rw[List.filter_append,List.filter_append]
 rcases hX:X.filter (jC lt z) with _ | ⟨x,g⟩
 ·simp
 rcases hY:a.filter (jC lt z) with _ | ⟨y,f⟩
 ·simp
 have mx:x∈X.filter (jC lt z):=by rw[hX];simp
 have my:y∈a.filter (jC lt z):=by rw[hY];simp
 rw[List.mem_filter,te]at mx my;have e:=c x mx.1 y my.1;have b:=d.lt_le e (show lt z x=false from mx.2.1);rw[my.2.2]at b
 cases b
theorem b9.mem{l b:List α}(a:cF lt)(d:b9 lt l b)(x:α)(e:x∈l):x∈b:=by
 have c:x∈l.filter (jC lt x):=by rw[List.mem_filter,te];exact⟨e,a.irr x,a.irr x⟩
 rw[d x]at c;exact(List.mem_filter.1 c).1
theorem b9.nil{l:List α}(c:cF lt)(b:b9 lt [] l):l=[]:=by
 cases l with
 | nil=>rfl
 | cons a r=>exact absurd (b.symm.mem c a sP) sP
theorem yt(d:cF lt):∀(l e:List α),bO lt l->bO lt e->b9 lt l e->l=e
 | [],e,_,_,h=>(h.nil d).symm
 | a::r,[],_,_,h=>absurd (h.mem d a sP) sP
 | a::r,b::r',hs,hs',h=>by
   have m:∀x∈a::r,lt x a=false:=λx c=>by
     rcases ln.1 c with rfl|c
     ·exact d.irr _
     ·exact(Lo.1 hs).1 x c
   have j:∀x∈b::r',lt x b=false:=λx c=>by
     rcases ln.1 c with rfl|c
     ·exact d.irr _
     ·exact(Lo.1 hs').1 x c
   have g:lt a b=false:=j a (h.mem d a sP);have i:lt b a=false:=m b (h.symm.mem d b sP);have f:=h a;have k:jC lt a a=true:=te.2 ⟨d.irr a,d.irr a⟩;have n:jC lt a b=true:=te.2 ⟨g,i⟩;rw[List.filter_cons_of_pos k,List.filter_cons_of_pos n]at f;obtain⟨rfl,_⟩:=List.cons.inj f
   congr 1
   refine yt d r r' (Lo.1 hs).2 (Lo.1 hs').2 λx=>?_;have c:=h x;rw[List.filter_cons,List.filter_cons]at c
   split at c
   ·exact(List.cons.inj c).2
   ·exact c
theorem bO.take{l:List α}(h:bO lt l)(n:Nat):bO lt (l.take n):=List.Pairwise.sublist (List.take_sublist n l) h
theorem bO.drop{l:List α}(h:bO lt l)(n:Nat):bO lt (l.drop n):=List.Pairwise.sublist (List.drop_sublist n l) h
theorem gR{A B:List α}:bO lt (A++B)<->bO lt A/\bO lt B/\∀a∈A,∀b∈B,lt b a=false:=List.pairwise_append
def ga(lt:α->α->Bool)(l a:List α):Prop:=bO lt a/\b9 lt l a
theorem ga.mem{l c:List α}(b:cF lt)(a:ga lt l c)(x:α):x∈c<->x∈l:=⟨a.2.symm.mem b x,a.2.mem b x⟩
theorem ut(e:cF lt){L1 L2 R1 R2 P Q:List α}(l:bO lt (L1++L2))(m:bO lt (R1++R2))(h:∀x∈L2,∀y∈R1,lt y x=true)(o:∀x∈L1,∀y∈R2,lt y x=false)
 (g:ga lt (L1++R1) P) (f:ga lt (L2++R2) Q):ga lt (L1++L2++(R1++R2)) (P++Q):=by
 obtain⟨r,s,n⟩:=gR.1 l;obtain⟨t,u,j⟩:=gR.1 m;constructor
 ·refine gR.2 ⟨g.1,f.1,λa c b d=>?_⟩;have k:=(g.mem e a).1 c;have p:=(f.mem e b).1 d
  rcases lx.1 k with c|c<;>rcases lx.1 p with d|d
  ·exact n a c b d
  ·exact o a c b d
  ·exact e.asym _ _ (h b d a c)
  ·exact j a c b d
 ·have q:b9 lt (L2++R1) (R1++L2):=uo e h;have i:b9 lt (L1++L2++(R1++R2)) (L1++R1++(L2++R2)):=by
   have:=((b9.refl L1).app q).app (b9.refl (lt:=lt) R2)
   simpa[lr]using this
  exact i.trans (g.2.app f.2)
end
section
variable {α:Type}
def aB(d:List α)(i j:Nat):List α:=(d.drop i).take (j-i)
theorem im(d:List α)(i j:Nat)(a:i<=j)(b:j<=d.length):(aB d i j).length=j-i:=by simp[aB];omega
theorem jT(d:List α)(i:Nat):aB d i i=[]:=by simp[aB]
theorem eD(d:List α)(i j k:Nat)(c:i<=j)(b:j<=k):aB d i j++aB d j k=aB d i k:=by
 unfold aB;have e:d.drop j=(d.drop i).drop (j-i):=by rw[List.drop_drop];congr 1;omega
 have a:k-i=(j-i)+(k-j):=oM;rw[e,a,List.take_add]
theorem uH(d:List α)(i j:Nat)(b:j<=d.length)(k:Nat)(a:k<(aB d i j).length):(aB d i j)[k]=d[i+k]'(by simp[aB]at a;omega):=by
 simp[aB]
theorem mz{d:List α}{i j:Nat}(c:j<=d.length){x:α}(b:x∈aB d i j):∃k,i<=k/\k<j/\∃a:k<d.length,d[k]=x:=by
 obtain⟨k,a,rfl⟩:=lU b;have e:k<j-i:=by simp[aB]at a;omega
 exact⟨i+k,oM,oM,oM,(uH d i j c k a).symm⟩
variable {lt:α->α->Bool}
theorem mw{d:List α}{i j:Nat}(b:j<=d.length)(c:bO lt (aB d i j))(p a:Nat)(h:i<=p)(e:p<a)(g:a<j):lt (d[a]'oM) (d[p]'oM)=false:=by
 have f:=im d i j oM b;have:=List.pairwise_iff_getElem.1 c (p-i) (a-i) oM oM oM;rw[uH d i j b,uH d i j b]at this
 simpa[show i+(p-i)=p from oM,show i+(a-i)=a from oM]using this
structure oa(lt:α->α->Bool)(d:List α)(a m b s:Nat):Prop where
 lo:(if (a+b)/2<m then (a+b)/2+m-b else a)<=s
 hi:s<=(if (a+b)/2<m then (a+b)/2 else m)
 above:s<(if (a+b)/2<m then (a+b)/2 else m)->∃(h1:(a+b)/2+m-1-s<d.length) (h2:s<d.length),lt d[(a+b)/2+m-1-s] d[s]=true
 below:(if (a+b)/2<m then (a+b)/2+m-b else a)<s->∃(h1:(a+b)/2+m-s<d.length) (h2:s-1<d.length),lt d[(a+b)/2+m-s] d[s-1]=false
theorem pm(f:cF lt){d:List α}{a m b c:Nat}(H:a<m)(G:m<b)(l:b<=d.length)(s:bO lt (aB d a m))(v:bO lt (aB d m b))(D:oa lt d a m b c) :
 a<=c/\c<=m/\m<=(a+b)/2+m-c/\(a+b)/2+m-c<=b/\(∀x∈aB d c m,∀y∈aB d m ((a+b)/2+m-c),lt y x=true)/\(∀x∈aB d a c,∀y∈aB d ((a+b)/2+m-c) b,lt y x=false):=by
 obtain⟨p,k,B,w⟩:=D;have u:a<=c:=by split at p<;>omega
 have E:c<=m:=by split at k<;>omega
 have r:m<=(a+b)/2+m-c:=by split at k<;>omega
 have z:(a+b)/2+m-c<=b:=by split at p<;>omega
 refine⟨u,E,r,z,λx hx y hy=>?_,λx hx y hy=>?_⟩
 ·obtain⟨i,n,i2,i3,rfl⟩:=mz oM hx;obtain⟨j,h,t,C,rfl⟩:=mz oM hy;have g:c<(if (a+b)/2<m then (a+b)/2 else m):=by split<;>split at k<;>omega
  obtain⟨F,A,o⟩:=B g;have q:lt (d[i]) (d[c])=false:=by
   rcases Nat.eq_or_lt_of_le n with e|e
   ·subst e;exact f.irr _
   ·exact mw oM s c i u e i2
  have a2:lt (d[(a+b)/2+m-1-c]) (d[j])=false:=by
   rcases Nat.eq_or_lt_of_le (show j<=(a+b)/2+m-1-c from oM) with e|e
   ·subst e;exact f.irr _
   ·exact mw l v j ((a+b)/2+m-1-c) h e oM
  exact f.lt_le (f.le_lt a2 o) q
 ·obtain⟨i,n,i2,i3,rfl⟩:=mz oM hx;obtain⟨j,h,t,C,rfl⟩:=mz l hy;have g:(if (a+b)/2<m then (a+b)/2+m-b else a)<c:=by split<;>split at p<;>omega
  obtain⟨F,A,o⟩:=w g;have q:lt (d[c-1]) (d[i])=false:=by
   rcases Nat.eq_or_lt_of_le (show i<=c-1 from oM) with e|e
   ·subst e;exact f.irr _
   ·exact mw oM s i (c-1) n e oM
  have a2:lt (d[j]) (d[(a+b)/2+m-c])=false:=by
   rcases Nat.eq_or_lt_of_le h with e|e
   ·subst e;exact f.irr _
   ·exact mw l v ((a+b)/2+m-c) j r e t
  exact f.trans _ _ _ (f.trans _ _ _ q o) a2
end
section
variable {α:Type}
def swp(d:List α)(i j:Nat):List α:=match d[i]?,d[j]? with
 | some x,some y=>(d.set i y).set j x
 | _,_=>d
def fM(d:List α)(a b:Nat):Nat->List α
 | 0=>d
 | n+1=>swp (fM d a b n) (a+n) (b+n)
theorem GG(d:List α)(i j:Nat):(swp d i j).length=d.length:=by
 unfold swp
 split<;>simp
theorem nj(d:List α)(a b:Nat):∀n,(fM d a b n).length=d.length
 | 0=>rfl
 | n+1=>by rw[fM,GG,nj d a b n]
theorem yb(A B C:List α)(x y:α):swp (A++x::(B++y::C)) A.length (A.length+1+B.length)=A++y::(B++x::C):=by
 have b:(A++x::(B++y::C))[A.length]? =some x:=sP;have a:(A++x::(B++y::C))[A.length+1+B.length]? =some y:=by
  rw[LE oM,show A.length+1+B.length-A.length=B.length+1 from oM,List.getElem?_cons_succ];simp
 unfold swp;rw[b,a];simp only;rw[Lg _ _ (lc _),Nat.sub_self,List.set_cons_zero,Lg _ _ oM,show A.length+1+B.length-A.length=B.length+1 from oM,List.set_cons_succ,Lg _ _ (lc _),Nat.sub_self,List.set_cons_zero]
theorem rj:∀(n:Nat) (P X a d Q:List α),X.length=n->d.length=n->fM (P++(X++(a++(d++Q)))) P.length (P.length+n+a.length) n=P++(d++(a++(X++Q)))
 | 0,P,X,a,d,Q,hx,hy=>by
   rw[Ly hx,Ly hy];rfl
 | n+1,P,X,a,d,Q,hx,hy=>by
   obtain⟨c,x,rfl⟩:∃c x,X=c++[x]:=⟨X.dropLast,X.getLast (by intro e;rw[e]at hx;cases hx),(List.dropLast_concat_getLast _).symm⟩;obtain⟨b,y,rfl⟩:∃b y,d=b++[y]:=⟨d.dropLast,d.getLast (by intro e;rw[e]at hy;cases hy),(List.dropLast_concat_getLast _).symm⟩;have g:c.length=n:=(by simpa using hx);have f:b.length=n:=(by simpa using hy);have i:=rj n P c (x::a) b (y::Q) g f;have k:P++(c++[x]++(a++(b++[y]++Q)))=P++(c++(x::a++(b++y::Q))):=sP;have m:P.length+(n+1)+a.length=P.length+n+(x::a).length:=sO;rw[fM,k,m,i];have h:P++(b++(x::a++(c++y::Q)))=(P++b)++x::((a++c)++y::Q):=sP;have j:P.length+n=(P++b).length:=(by simp[f]);have l:P.length+n+(x::a).length+n=(P++b).length+1+(a++c).length:=(by simp[g,f];omega);rw[h,l,j,yb];simp
def bv(d:List α)(a m b:Nat):List α:=d.take a++(aB d m b++(aB d a m++d.drop b))
theorem parts(d:List α)(a m b:Nat)(f:a<=m)(c:m<=b):d=d.take a++(aB d a m++(aB d m b++d.drop b)):=by
 rw[<-lr (aB d a m),eD d a m b f c];unfold aB;have e:d.drop b=(d.drop a).drop (b-a):=by rw[List.drop_drop];congr 1;omega
 rw[e,Ls,Ls]
theorem iL(d:List α)(a m b:Nat)(e:a<=m)(c:m<=b)(f:b<=d.length):(bv d a m b).length=d.length:=by
 have:=congrArg List.length (parts d a m b e c);simp only[bv,lg]at this|-;omega
theorem uR(d:List α)(m b:Nat)(a:m<=b):bv d m m b=d:=by
 unfold bv;rw[jT,lO];have:=parts d m m b (lc _) a;rw[jT,lO]at this;exact this.symm
theorem rT(d:List α)(a m:Nat)(b:a<=m):bv d a m m=d:=by
 unfold bv;rw[jT,lO];have:=parts d a m m b (lc _);rw[jT,lO]at this;exact this.symm
theorem oG{P X Q:List α}{i j:Nat}(hi:P.length=i)(a:i+X.length=j):aB (P++(X++Q)) i j=X:=by
 subst hi;unfold aB;rw[List.drop_left,show j-P.length=X.length from oM,List.take_left]
theorem rR(d:List α)(a m b c f:Nat)(q:a<=c)(k:c<=m)(h:m<=f+m-c)(g:f+m-c<=b)(n:b<=d.length) :
 (bv d c m (f+m-c)).take a=d.take a/\(bv d c m (f+m-c)).drop b=d.drop b/\aB (bv d c m (f+m-c)) a c=aB d a c/\aB (bv d c m (f+m-c)) c f=aB d m (f+m-c)/\aB (bv d c m (f+m-c)) f (f+m-c)=aB d c m/\aB (bv d c m (f+m-c)) (f+m-c) b=aB d (f+m-c) b:=by
 obtain⟨e,he⟩:∃e,e=f+m-c:=⟨_,rfl⟩;rw[<-he]at h g|-;have r:=im d a c q oM;have u:=im d c m k oM;have t:=im d m e h oM;have s:=im d e b g n;have la:(d.take a).length=a:=sO;have j:d.take c=d.take a++aB d a c:=by
  unfold aB;rw[<-List.take_add]
  congr 1
  omega
 have p:d.drop e=aB d e b++d.drop b:=by
  unfold aB;have:d.drop b=(d.drop e).drop (b-e):=by rw[List.drop_drop];congr 1;omega
  rw[this,Ls]
 have i:bv d c m e=d.take a++(aB d a c++(aB d m e++(aB d c m++(aB d e b++d.drop b)))):=by
  unfold bv;rw[j,p];simp
 rw[i];refine⟨?_,?_,?_,?_,?_,?_⟩
 ·rw[LG oM,lM oM]
 ·have l:d.take a++(aB d a c++(aB d m e++(aB d c m++(aB d e b++d.drop b))))=(d.take a++(aB d a c++(aB d m e++(aB d c m++aB d e b))))++d.drop b:=sP;rw[l];have o:(d.take a++(aB d a c++(aB d m e++(aB d c m++aB d e b)))).length=b:=by simp only[lg];omega
  exact List.drop_left' o
 ·exact oG la oM
 ·rw[<-lr (d.take a)];exact oG (by simp only[lg];omega) oM
 ·rw[<-lr (d.take a),<-lr (d.take a++aB d a c)];exact oG (by simp only[lg];omega) oM
 ·rw[<-lr (d.take a),<-lr (d.take a++aB d a c),<-lr (d.take a++aB d a c++aB d m e)];exact oG (by simp only[lg];omega) oM
end
section
variable {α:Type} {lt:α->α->Bool}
structure cA(lt:α->α->Bool)(d:List α)(a b:Nat)(d':List α):Prop where
 len:d'.length=d.length
 front:d'.take a=d.take a
 back:d'.drop b=d.drop b
 stb:ga lt (aB d a b) (aB d' a b)
theorem cA.refl{d:List α}{a b:Nat}(h:bO lt (aB d a b)):cA lt d a b d:=⟨rfl,rfl,rfl,h,b9.refl _⟩
theorem nz{d d':List α}{m b:Nat}(h:d'.drop m=d.drop m):aB d' m b=aB d m b:=by
 unfold aB;rw[h]
theorem uG{d d':List α}{a m:Nat}(h:d'.take m=d.take m):aB d' a m=aB d a m:=by
 unfold aB;have e:∀l:List α,(l.drop a).take (m-a)=(l.take m).drop a:=λl=>by rw[List.drop_take]
 rw[e,e,h]
theorem ui{d d':List α}{a m:Nat}(c:a<=m)(b:d'.take m=d.take m):d'.take a=d.take a:=by
 have:=congrArg (List.take a) b
 rwa [List.take_take,List.take_take,Nat.min_eq_left c]at this
theorem qD{d d':List α}{m b:Nat}(c:m<=b)(a:d'.drop m=d.drop m):d'.drop b=d.drop b:=by
 have:=congrArg (List.drop (b-m)) a
 rwa [List.drop_drop,List.drop_drop,show m+(b-m)=b from oM]at this
theorem x5(p:cF lt){d d2 d3:List α}{a m b c:Nat}(v:a<m)(s:m<b)(n:b<=d.length)(l:bO lt (aB d a m))(q:bO lt (aB d m b))(A:oa lt d a m b c)
 (e:cA lt (bv d c m ((a+b)/2+m-c)) a ((a+b)/2) d2) (f:cA lt d2 ((a+b)/2) b d3):cA lt d a b d3:=by
 obtain⟨i,j,g,h,p1,p2⟩:=pm p v s n l q A;obtain⟨x,B,y,z,t,C⟩:=rR d a m b c ((a+b)/2) i j g h n;have w:c<=(a+b)/2:=oM;have r:(a+b)/2<=(a+b)/2+m-c:=oM;refine⟨?_,?_,?_,?_⟩
 ·rw[f.len,e.len,iL d c m _ j g oM]
 ·rw[ui oM f.front,e.front,x]
 ·rw[f.back,qD oM e.back,B]
 ·have k:=e.stb;rw[<-eD _ a c ((a+b)/2) i w,y,z]at k;have o:=f.stb;rw[nz e.back,<-eD _ ((a+b)/2) ((a+b)/2+m-c) b r h,t,C]at o;have u:aB d3 a ((a+b)/2)=aB d2 a ((a+b)/2):=uG f.front;rw[<-eD d3 a ((a+b)/2) b oM oM,u,<-eD d a m b oM oM,<-eD d a c m i j,<-eD d m _ b g h];exact ut p (by rw[eD d a c m i j];exact l) (by rw[eD d m _ b g h];exact q) p1 p2 k o
theorem CQ(s:cF lt){d:List α}{a m b c:Nat}(o:a<m)(k:m<b)(i:b<=d.length)(f:bO lt (aB d a m))(h:bO lt (aB d m b))(r:oa lt d a m b c)(u:¬(a<c/\c<(a+b)/2)) :
 cA lt (bv d c m ((a+b)/2+m-c)) a ((a+b)/2) (bv d c m ((a+b)/2+m-c)):=by
 obtain⟨g,j,l,n,p1,p2⟩:=pm s o k i f h r;obtain⟨v,w,p,q,t,x⟩:=rR d a m b c ((a+b)/2) g j l n i;refine cA.refl ?_;rw[<-eD _ a c ((a+b)/2) g oM,p,q];have e:a=c\/c=(a+b)/2:=oM
 rcases e with e|e
 ·rw[<-e,jT,lO];rw[<-eD d m ((a+b)/2+m-a) b oM oM]at h;exact(gR.1 h).1
 ·rw[show(a+b)/2+m-c=m from oM,jT,lT];rw[<-eD d a c m g j]at f;exact(gR.1 f).1
theorem CP(s:cF lt){d d2:List α}{a m b c:Nat}(p:a<m)(l:m<b)(j:b<=d.length)(f:bO lt (aB d a m))(g:bO lt (aB d m b))(r:oa lt d a m b c)
 (q:cA lt (bv d c m ((a+b)/2+m-c)) a ((a+b)/2) d2) (u:¬((a+b)/2<(a+b)/2+m-c/\(a+b)/2+m-c<b)):cA lt d2 ((a+b)/2) b d2:=by
 obtain⟨i,k,o,h,p1,p2⟩:=pm s p l j f g r;obtain⟨v,y,w,x,n,t⟩:=rR d a m b c ((a+b)/2) i k o h j;refine cA.refl ?_;rw[nz q.back,<-eD _ ((a+b)/2) ((a+b)/2+m-c) b oM h,n,t];have e:m=c\/(a+b)/2+m-c=b:=oM
 rcases e with e|e
 ·rw[<-e,jT,lO];rw[<-eD d m ((a+b)/2+m-m) b oM oM]at g;exact(gR.1 g).2.1
 ·rw[e,jT,lT];rw[<-eD d a c m i k]at f;exact(gR.1 f).2.1
theorem CO(s:cF lt){d:List α}{a m b c:Nat}(o:a<m)(l:m<b)(j:b<=d.length)(e:bO lt (aB d a m))(f:bO lt (aB d m b))(r:oa lt d a m b c) :
 bO lt (aB (bv d c m ((a+b)/2+m-c)) a c)/\bO lt (aB (bv d c m ((a+b)/2+m-c)) c ((a+b)/2))/\bO lt (aB (bv d c m ((a+b)/2+m-c)) ((a+b)/2) ((a+b)/2+m-c))/\bO lt (aB (bv d c m ((a+b)/2+m-c)) ((a+b)/2+m-c) b):=by
 obtain⟨i,k,g,h,p1,p2⟩:=pm s o l j e f r;obtain⟨u,v,p,q,n,t⟩:=rR d a m b c ((a+b)/2) i k g h j;rw[p,q,n,t];rw[<-eD d a c m i k]at e;rw[<-eD d m ((a+b)/2+m-c) b g h]at f;exact⟨(gR.1 e).1,(gR.1 f).1,(gR.1 e).2.1,(gR.1 f).2.1⟩
theorem CE(p:cF lt){d:List α}{a b i:Nat}(hi:a+1<=i)(o:i<=b)(h:b<=d.length)(q:bO lt (aB d (a+1) b))(s:a<d.length)
 (g:i=a+1\/∃m:i-1<d.length,lt d[i-1] d[a]=true) (f:i=b\/∃m:i<d.length,lt d[i] d[a]=false):cA lt d a b (bv d a (a+1) i):=by
 have c:aB d a (a+1)=[d[a]]:=by
  unfold aB;rw[show a+1-a=1 from oM,Lh s];rfl
 have w:∀y∈aB d (a+1) i,lt y d[a]=true:=λy hy=>by
  obtain⟨j,n,r,t,rfl⟩:=mz oM hy
  rcases g with g | ⟨m,g⟩
  ·omega
  ·rcases Nat.eq_or_lt_of_le (show j<=i-1 from oM) with e|e
   ·subst e;exact g
   ·exact p.le_lt (mw h q j (i-1) n e oM) g
 have v:∀z∈aB d i b,lt z d[a]=false:=λz hz=>by
  obtain⟨j,n,r,t,rfl⟩:=mz h hz
  rcases f with f | ⟨m,f⟩
  ·omega
  ·rcases Nat.eq_or_lt_of_le n with e|e
   ·subst e;exact f
   ·exact p.trans _ _ _ f (mw h q i j hi e r)
 have k:=q;rw[<-eD d (a+1) i b hi o]at k;obtain⟨s1,s2,s3⟩:=gR.1 k;have A:d.drop i=aB d i b++d.drop b:=by
  unfold aB;have:d.drop b=(d.drop i).drop (b-i):=by rw[List.drop_drop];congr 1;omega
  rw[this,Ls]
 have la:(d.take a).length=a:=sO;have B:=im d (a+1) i hi oM;have C:=im d i b o h;have l:bv d a (a+1) i=d.take a++((aB d (a+1) i++([d[a]]++aB d i b))++d.drop b):=by
  unfold bv;rw[c,A];simp
 have u:aB (bv d a (a+1) i) a b=aB d (a+1) i++([d[a]]++aB d i b):=by
  rw[l];exact oG la (by simp only[lg,lJ];omega)
 refine⟨iL d a (a+1) i oM hi oM,?_,?_,?_⟩
 ·rw[l,LG oM,lM oM]
 ·rw[l,<-lr];exact List.drop_left' (by simp only[lg,lJ];omega)
 ·rw[u,<-eD d a (a+1) b oM oM,c,<-eD d (a+1) i b hi o];have:=ut p (L1:=[]) (L2:=[d[a]]) (R1:=aB d (a+1) i) (R2:=aB d i b) (P:=aB d (a+1) i) (Q:=[d[a]]++aB d i b) (by simp[bO]) k
   (λx c y hy=>by rw[lm]at c;subst c;exact w y hy) (λx c=>by cases c) ⟨s1,b9.refl _⟩
   ⟨gR.2 ⟨by simp[bO],s2,λx c z hz=>by rw[lm]at c;subst c;exact v z hz⟩,b9.refl _⟩
  simpa using this
theorem sL(p:cF lt){d:List α}{a m i:Nat}(hi:a<=i)(g:i<=m)(w:m<d.length)(n:bO lt (aB d a m))
 (f:i=a\/∃l:i-1<d.length,lt d[m] d[i-1]=false) (c:i=m\/∃l:i<d.length,lt d[m] d[i]=true):cA lt d a (m+1) (bv d i m (m+1)):=by
 have b:aB d m (m+1)=[d[m]]:=by
  unfold aB;rw[show m+1-m=1 from oM,Lh w];rfl
 have t:∀y∈aB d a i,lt d[m] y=false:=λy hy=>by
  obtain⟨j,o,q,u,rfl⟩:=mz oM hy
  rcases f with f | ⟨l,f⟩
  ·omega
  ·rcases Nat.eq_or_lt_of_le (show j<=i-1 from oM) with e|e
   ·subst e;exact f
   ·exact p.trans _ _ _ (mw oM n j (i-1) o e oM) f
 have r:∀z∈aB d i m,lt d[m] z=true:=λz hz=>by
  obtain⟨j,o,q,u,rfl⟩:=mz oM hz
  rcases c with c | ⟨l,c⟩
  ·omega
  ·rcases Nat.eq_or_lt_of_le o with e|e
   ·subst e;exact c
   ·exact p.lt_le c (mw oM n i j hi e q)
 have h:=n;rw[<-eD d a i m hi g]at h;obtain⟨s1,s2,s3⟩:=gR.1 h;have s:d.take i=d.take a++aB d a i:=by
  unfold aB;rw[<-List.take_add]
  congr 1
  omega
 have la:(d.take a).length=a:=sO;have A:=im d a i hi oM;have B:=im d i m g oM;have k:bv d i m (m+1)=d.take a++(((aB d a i++[d[m]])++aB d i m)++d.drop (m+1)):=by
  unfold bv;rw[b,s];simp
 have v:aB (bv d i m (m+1)) a (m+1)=(aB d a i++[d[m]])++aB d i m:=by
  rw[k];exact oG la (by simp only[lg,lJ];omega)
 refine⟨iL d i m (m+1) g oM oM,?_,?_,?_⟩
 ·rw[k,LG oM,lM oM]
 ·rw[k,<-lr];exact List.drop_left' (by simp only[lg,lJ];omega)
 ·rw[v,<-eD d a m (m+1) oM oM,b,<-eD d a i m hi g];have:=ut p (L1:=aB d a i) (L2:=aB d i m) (R1:=[d[m]]) (R2:=[]) (P:=aB d a i++[d[m]]) (Q:=aB d i m) h (by simp[bO])
   (λx b y hy=>by rw[lm]at hy;subst hy;exact r x b) (λx b y hy=>by cases hy)
   ⟨gR.2 ⟨s1,by simp[bO],λx b z hz=>by rw[lm]at hz;subst hz;exact t x b⟩,b9.refl _⟩ ⟨s2,by rw[lT];exact b9.refl _⟩
  simpa using this
end
section
variable {α:Type} {lt:α->α->Bool}
theorem oo{xs:List α}{i j:Nat}(hi:i<xs.length)(a:j<xs.length):swp xs i j=(xs.set i xs[j]).set j xs[i]:=by
 unfold swp;rw[lu hi,lu a]
theorem GH(A B:List α)(x y:α):swp (A++x::y::B) (A.length+1) A.length=A++y::x::B:=by
 have d:A.length<(A++x::y::B).length:=sP;have a:A.length+1<(A++x::y::B).length:=sP;rw[oo a d];have b:(A++x::y::B)[A.length]=x:=sP;have c:(A++x::y::B)[A.length+1]=y:=sP;rw[b,c,Lg _ _ oM,show A.length+1-A.length=1 from oM,Lg _ _ oM,Nat.sub_self];rfl
theorem GF(A B:List α)(x y:α):swp (A++x::y::B) A.length (A.length+1)=A++y::x::B:=by
 have:=yb A [] B x y
 simpa using this
theorem oD(d:List α)(i:Nat)(hi:i<d.length):aB d i (i+1)=[d[i]]:=by
 unfold aB;rw[show i+1-i=1 from oM,Lh hi];rfl
theorem uF(d:List α)(i j:Nat)(a:i<=j)(b:j<d.length):aB d i (j+1)=aB d i j++[d[j]]:=by
 rw[<-eD d i j (j+1) a oM,oD d j b]
theorem Ig(d:List α)(i j:Nat)(h:i<j)(hi:i<d.length):aB d i j=d[i]::aB d (i+1) j:=by
 rw[<-eD d i (i+1) j oM h,oD d i hi];rfl
theorem Gq(d:List α)(i:Nat)(hi:i<d.length):d.take (i+1)=d.take i++[d[i]]:=ly hi
theorem IT(d:List α)(j i:Nat)(a:0<j)(b:j<=i)(hi:i<d.length):swp (bv d j i (i+1)) j (j-1)=bv d (j-1) i (i+1):=by
 obtain⟨p,rfl⟩:∃p,j=p+1:=⟨j-1,oM⟩;rw[show p+1-1=p from oM];unfold bv;rw[oD d i hi,Gq d p oM,Ig d p i oM oM];have:=GH (d.take p) (aB d (p+1) i++d.drop (i+1)) d[p] d[i];rw[show(d.take p).length=p from sO]at this
 simpa only[lr,List.cons_append,lO]using this
theorem rS(d:List α)(j a i:Nat)(c:a+1=j)(b:j<=i)(hi:i<d.length):swp (bv d j i (i+1)) j a=bv d a i (i+1):=by
 subst c;exact IT d (a+1) i oM b hi
theorem zo(d:List α)(a k:Nat)(f:a<=k)(b:k+1<d.length):swp (bv d a (a+1) (k+1)) k (k+1)=bv d a (a+1) (k+2):=by
 unfold bv;rw[oD d a oM,uF d (a+1) (k+1) oM b];have e:d.drop (k+1)=d[k+1]::d.drop (k+2):=Lh b;rw[e];have:=GF (d.take a++aB d (a+1) (k+1)) (d.drop (k+2)) d[a] d[k+1];have c:(d.take a++aB d (a+1) (k+1)).length=k:=by
  rw[lg,im d (a+1) (k+1) oM oM,lD];omega
 rw[c]at this
 simpa using this
theorem zx(d:List α)(j i:Nat)(b:j<=i)(hi:i<d.length):∃h:j<(bv d j i (i+1)).length,(bv d j i (i+1))[j]=d[i]:=by
 have c:=iL d j i (i+1) b oM oM;refine⟨oM,?_⟩;have a:(bv d j i (i+1))[j]? =some d[i]:=by
  unfold bv;rw[oD d i hi,LE sO];rw[show j-(d.take j).length=0 from sO];rfl
 rw[lu oM]at a;exact ls a
theorem zw(d:List α)(j i k:Nat)(b:j<=i)(hi:i<d.length)(c:k<j):∃h:k<(bv d j i (i+1)).length,(bv d j i (i+1))[k]=d[k]:=by
 have e:=iL d j i (i+1) b oM oM;refine⟨oM,?_⟩;have a:(bv d j i (i+1))[k]? =some d[k]:=by
  unfold bv;rw[LI sO,List.getElem?_take,if_pos c];exact lu oM
 rw[lu oM]at a;exact ls a
theorem AS(d:List α)(a b:Nat)(h:a<=b):d=d.take a++(aB d a b++d.drop b):=by
 have:=parts d a b b h (lc _);rw[jT,lO]at this;exact this
theorem cA.cls{d d':List α}{a b:Nat}(c:cA lt d a b d')(f:a<=b):b9 lt d d':=by
 have g:=AS d a b f;have e:=AS d' a b f;rw[c.front,c.back]at e;rw[g,e];exact(b9.refl _).app (c.stb.2.app (b9.refl _))
theorem cA.more{d ys zs:List α}{a i:Nat}(b:cA lt d a i ys)(c:cA lt ys a (i+1) zs)(g:a<=i)(hi:i<d.length):cA lt d a (i+1) zs:=by
 refine⟨c.len.trans b.len,c.front.trans b.front,?_,c.stb.1,?_⟩
 ·rw[c.back];exact qD oM b.back
 ·have f:i<ys.length:=by rw[b.len];exact hi
  refine b9.trans ?_ c.stb.2;rw[uF d a i g hi,uF ys a i g f];have e:ys[i]=d[i]:=by
   have:=congrArg (λl=>l[0]?) b.back;simp only[List.getElem?_drop,lE]at this;rw[lu f,lu hi]at this;exact ls this
  rw[e];exact b.stb.2.app (b9.refl _)
def eV(lt:α->α->Bool)(d:List α)(bs:Nat)(p:Nat->Prop):Prop:=∀k,p k->bO lt (aB d (k*bs) ((k+1)*bs))
theorem oC(d:List α)(i j:Nat)(a:d.length<=j):aB d i j=aB d i d.length:=by
 unfold aB;rw[lM sO,lM sP]
theorem zb(d:List α)(i j:Nat)(hi:d.length<=i):aB d i j=[]:=by
 unfold aB;rw[List.drop_eq_nil_of_le hi,List.take_nil]
theorem uv:bO lt ([]:List α):=List.Pairwise.nil
theorem wM{d d':List α}{bs k b:Nat}(e:eV lt d bs (· < k))(a:cA lt d (k*bs) b d')(f:b=(k+1)*bs):eV lt d' bs (· < k+1):=λi hi=>by
 subst f
 rcases L8 i k with c|h
 ·have g:(i+1)*bs<=k*bs:=L7 _ c;rw[uG (ui g a.front)];exact e i c
 ·have:i=k:=oM;subst this;exact a.stb.1
theorem tI{d d':List α}{bs k n:Nat}(f:eV lt d bs (· < k))(b:cA lt d (k*bs) n d')(g:d.length=n)(h:n<(k+1)*bs):eV lt d' bs (λ_=>True):=λi _=>by
 rcases Nat.lt_trichotomy i k with a|a|a
 ·have e:(i+1)*bs<=k*bs:=L7 _ a;rw[uG (ui e b.front)];exact f i a
 ·subst a;have c:=b.len;rw[oC d' _ _ oM,c,g];exact b.stb.1
 ·have c:=b.len;have e:(k+1)*bs<=i*bs:=L7 _ a;rw[zb d' _ _ oM];exact uv
theorem xI{d d':List α}{bs k b:Nat}(e:eV lt d (2*bs) (· < k))(f:eV lt d bs (2*k<=·))(a:cA lt d (k*(2*bs)) b d')(c:b=(k+1)*(2*bs)):eV lt d' (2*bs) (· < k+1)/\eV lt d' bs (2*(k+1)<=·):=by
 refine⟨wM e a c,λi hi=>?_⟩;have g:b<=i*bs:=by
  rw[c,show(k+1)*(2*bs)=(2*(k+1))*bs by rw[<-Nat.mul_assoc,Nat.mul_comm (k+1) 2]];exact L7 _ hi
 rw[nz (qD g a.back)];exact f i oM
theorem ug{d:List α}{bs k:Nat}(b:eV lt d bs (2*k<=·)):bO lt (aB d (k*(2*bs)) (k*(2*bs)+bs))/\bO lt (aB d (k*(2*bs)+bs) (k*(2*bs)+bs+bs)):=by
 have e:2*k*bs=k*(2*bs):=by rw[Nat.mul_comm 2 k,Nat.mul_assoc]
 have a:=b (2*k) (lc _);have c:=b (2*k+1) oM;rw[lH,Nat.one_mul,e]at a;rw[lH (2*k+1),lH,Nat.one_mul,e]at c;exact⟨a,c⟩
theorem xJ{d:List α}{bs k:Nat}(c:eV lt d (2*bs) (· < k))(e:eV lt d bs (2*k<=·))(g:d.length<=k*(2*bs)+bs)(_:0<bs):eV lt d (2*bs) (λ_=>True):=λi _=>by
 rcases Nat.lt_trichotomy i k with a|a|a
 ·exact c i a
 ·subst a;have b:=(ug e).1;rw[oC d _ _ g]at b;rw[oC d _ _ (by rw[lH];omega)];exact b
 ·have f:(k+1)*(2*bs)<=i*(2*bs):=L7 _ a;rw[lH,Nat.one_mul]at f;rw[zb d _ _ oM];exact uv
theorem Eh{d:List α}{bs:Nat}(b:eV lt d bs (λ_=>True))(c:d.length<=bs):bO lt d:=by
 have a:=b 0 trivial;rw[Lf,lS,Nat.one_mul,oC d _ _ c]at a;have e:aB d 0 d.length=d:=by simp[aB]
 rw[e]at a;exact a
theorem y6(d:List α)(i:Nat)(hi:i<d.length):bO lt (aB d i (i+1)):=by
 rw[oD d i hi];exact List.pairwise_singleton _ _
theorem za(d:List α)(i:Nat):bO lt (aB d i i):=by
 rw[jT];exact uv
theorem cA.mem(f:cF lt){d d':List α}{a b:Nat}(e:cA lt d a b d')(g:a<=b){c:α->Prop}(h:∀x∈d,c x):∀x∈d',c x:=λx hx=>h x ((e.cls g).symm.mem f x hx)
theorem zp{d:List α}{a m b:Nat}(h:a<=m)(f:m<=b){e:α->Prop}(g:∀x∈d,e x):∀x∈bv d a m b,e x:=λx hx=>by
 refine g x ?_;rw[parts d a m b h f];unfold bv at hx;simp only[lx]at hx|-
 rcases hx with c|c|c|c
 ·exact .inl c
 ·exact .inr (.inr (.inl c))
 ·exact .inr (.inl c)
 ·exact .inr (.inr (.inr c))
theorem rQ(d:List α)(i:Nat):bv d i i (i+1)=d:=uR d i (i+1) oM
theorem zt{P X a Q:List α}{i j m:Nat}(e:X.length=i)(b:a.length=j)(d:P.length+i=m)(c:j<i) :
 ∃P' X' Y':List α,X'.length=i-j/\Y'.length=j/\P'.length+(i-j)=m/\fM (P++(X++(a++Q))) P.length m j=P'++(X'++(Y'++Q))/\P'++(Y'++(X'++Q))=P++(a++(X++Q)):=by
 refine⟨P++a,X.drop j,X.take j,sO,sO,sO,?_,?_⟩
 ·have:=rj j P (X.take j) (X.drop j) a Q sO b;rw[show P.length+j+(X.drop j).length=m from sO]at this;rw[show X++(a++Q)=X.take j++(X.drop j++(a++Q)) by rw[<-lr (X.take j),Ls],this];simp
 ·rw[<-lr (X.take j),Ls,lr]
theorem zr{P X a Q:List α}{i j m:Nat}(b:X.length=i)(e:a.length=j)(d:P.length+i=m)(c:i<j) :
 ∃X' Y' Q':List α,X'.length=i/\Y'.length=j-i/\fM (P++(X++(a++Q))) P.length (m+j-i) i=P++(X'++(Y'++Q'))/\P++(Y'++(X'++Q'))=P++(a++(X++Q)):=by
 refine⟨a.drop (j-i),a.take (j-i),X++Q,sO,sO,?_,?_⟩
 ·have:=rj i P X (a.take (j-i)) (a.drop (j-i)) Q b sO;rw[show P.length+i+(a.take (j-i)).length=m+j-i from sO]at this;rw[show a++Q=a.take (j-i)++(a.drop (j-i)++Q) by rw[<-lr,Ls],this]
 ·rw[<-lr (a.take (j-i)),Ls]
theorem zu{P X a Q:List α}{i m:Nat}(b:X.length=i)(c:a.length=i)(d:P.length+i=m):fM (P++(X++(a++Q))) P.length m i=P++(a++(X++Q)):=by
 have:=rj i P X [] a Q b c;rw[show P.length+i+([]:List α).length=m from sO]at this;exact this
end
section
variable {α:Type} {lt:α->α->Bool}
def ft(lt:α->α->Bool)(x:α):List α->List α
 | []=>[x]
 | y::r=>if lt y x then y::ft lt x r else x::y::r
def dO(lt:α->α->Bool):List α->List α
 | []=>[]
 | x::r=>ft lt x (dO lt r)
theorem yP(x:α):∀(l:List α) (a:α),a∈ft lt x l<->a=x\/a∈l
 | [],a=>by simp[ft]
 | y::r,a=>by
   unfold ft
   split
   ·rw[ln,yP x r a,ln];constructor
    ·rintro (h|h|h)<;>simp[h]
    ·rintro (h|h|h)<;>simp[h]
   ·simp
theorem yN(c:cF lt)(x:α):∀(l:List α),bO lt l->bO lt (ft lt x l)
 | [],_=>List.pairwise_singleton _ _
 | y::r,h=>by
   unfold ft
   split
   ·rename_i hy;refine Lo.2 ⟨λa b=>?_,yN c x r (Lo.1 h).2⟩
    rcases (yP x r a).1 b with rfl|b
    ·exact c.asym _ _ hy
    ·exact(Lo.1 h).1 a b
   ·rename_i hy;have d:lt y x=false:=(by simpa using hy);refine Lo.2 ⟨λa b=>?_,h⟩
    rcases ln.1 b with rfl|b
    ·exact d
    ·exact c.trans x y a d ((Lo.1 h).1 a b)
theorem yT(c:cF lt)(x:α):∀(l:List α),b9 lt (x::l) (ft lt x l)
 | []=>b9.refl _
 | y::r=>by
   unfold ft
   split
   ·rename_i hy;have f:b9 lt ([x]++[y]) ([y]++[x]):=uo c λa ha b hb=>by
     simp only[lm]at ha hb;subst ha;subst hb;exact hy
    have d:b9 lt ([y]++(x::r)) ([y]++ft lt x r):=(b9.refl [y]).app (yT c x r);have e:=f.app (b9.refl (lt:=lt) r);exact e.trans d
   ·exact b9.refl _
theorem mq(a:cF lt):∀(l:List α),ga lt l (dO lt l)
 | []=>⟨List.Pairwise.nil,b9.refl _⟩
 | x::r=>⟨yN a x _ (mq a r).1,((b9.refl [x]).app (mq a r).2).trans (yT a x _)⟩
theorem rB(a:cF lt){l c:List α}(b:ga lt l c):c=dO lt l:=yt a _ _ b.1 (mq a l).1 (b.2.symm.trans (mq a l).2)
theorem rC(b:cF lt)(l:List α)(a:α):a∈dO lt l<->a∈l:=(mq b l).mem b a
theorem yR(x:α):∀(l:List α),(ft lt x l).length=l.length+1
 | []=>rfl
 | y::r=>by
   unfold ft
   split
   ·simp[yR x r]
   ·simp
theorem pQ:∀(l:List α),(dO lt l).length=l.length
 | []=>rfl
 | x::r=>by simp[dO,yR,pQ r]
theorem yO(x:α):∀(l:List α),(ft lt x l).Perm (x::l)
 | []=>List.Perm.refl _
 | y::r=>by
   unfold ft
   split
   ·exact((yO x r).cons y).trans (List.Perm.swap x y r)
   ·exact List.Perm.refl _
theorem uu:∀(l:List α),(dO lt l).Perm l
 | []=>List.Perm.refl _
 | x::r=>(yO x _).trans ((uu r).cons x)
theorem yQ{c:Type}{lt':c->c->Bool}(f:α->c)(d:∀a b,lt a b=lt' (f a) (f b))(x:α):∀(l:List α),(ft lt x l).map f=ft lt' (f x) (l.map f)
 | []=>rfl
 | y::r=>by
   simp only[ft,lG,<-d]
   split
   ·simp[yQ f d x r]
   ·simp
theorem pP{c:Type}{lt':c->c->Bool}(f:α->c)(d:∀a b,lt a b=lt' (f a) (f b)):∀(l:List α),(dO lt l).map f=dO lt' (l.map f)
 | []=>rfl
 | x::r=>by simp only[dO,lG,yQ f d,pP f d r]
end
end Go.Sym
namespace Go.Star
open Go.Sym
structure SR where
 ids:List Int
 n:Int
 sums:List (Int×Int×Int)
instance:Inhabited SR:=⟨⟨[],0,[]⟩⟩
structure SN where
 depth:Nat
 lo:Nat
 hi:Nat
 kids:List (Int×Nat)
def eK:List Int->List Int->Bool
 | [],[]=>false
 | [],_::_=>true
 | _::_,[]=>false
 | a::r,b::s=>decide (a<b)||(decide (a=b)&&eK r s)
def dk(x y:SR):Bool:=eK x.ids y.ids
theorem qq:∀l,eK l l=false
 | []=>rfl
 | a::r=>by simp[eK,qq r]
theorem vJ:∀a b c,eK a b=true->eK b c=true->eK a c=true
 | [],[],_,h,_=>by cases h
 | [],_::_,[],_,h=>by cases h
 | [],_::_,_::_,_,_=>rfl
 | _::_,[],_,h,_=>by cases h
 | _::_,_::_,[],_,h=>by cases h
 | a::l,b::m,c::n,e,d=>by
   simp only[eK,Bool.or_eq_true,L6,decide_eq_true_eq]at e d|-
   rcases e with e | ⟨rfl,e⟩
   ·rcases d with d | ⟨rfl,d⟩
    ·exact .inl oM
    ·exact .inl e
   ·rcases d with d | ⟨rfl,d⟩
    ·exact .inl d
    ·exact .inr ⟨rfl,vJ l m n e d⟩
theorem vK:∀a b,eK a b=false->eK b a=false->a=b
 | [],[],_,_=>rfl
 | [],_::_,h,_=>by cases h
 | _::_,[],_,h=>by cases h
 | a::l,b::m,h1,h2=>by
   simp only[eK,Bool.or_eq_false_iff,Bool.and_eq_false_iff,decide_eq_false_iff_not]at h1 h2;have e:a=b:=oM;subst e;rw[vK l m (h1.2.elim (λh=>absurd rfl h) id) (h2.2.elim (λh=>absurd rfl h) id)]
theorem oV:cF dk:=by
 constructor
 ·intro a b g
  cases d:dk b a
  ·rfl
  ·have:=vJ _ _ _ g d;rw[qq]at this
   cases this
 ·intro a b c h d
  cases h3:dk c a
  ·rfl
  ·cases h4:dk a b
   ·have e:=vK _ _ h4 h;unfold dk at d h3;rw[<-e,h3]at d
    cases d
   ·have f:=vJ _ _ _ h3 h4;unfold dk at d;rw[d]at f
    cases f
def js(x:Int):Int:=(x+9223372036854775808)%18446744073709551616-9223372036854775808
def jI(a b:Int×Int×Int):Int×Int×Int:=(js (a.1+b.1),min a.2.1 b.2.1,max a.2.2 b.2.2)
def SR.add(y x:SR):SR:=⟨y.ids,js (y.n+x.n),List.zipWith jI y.sums x.sums⟩
def eF(a:List SR)(x:SR):List SR :=
 match a.getLast? with
 | none=>a++[x]
 | some y=>if y.ids=x.ids then a.dropLast++[y.add x] else a++[x]
def bN(l:List SR):List SR:=(dO dk l).foldl eF []
theorem Gk(a:List SR)(x:SR):(eF a x).length<=a.length+1:=by
 unfold eF
 split
 ·simp
 ·split
  ·simp only[lg,List.length_dropLast,lJ];omega
  ·simp
theorem xM:∀(l:List SR) (a:List SR),(l.foldl eF a).length<=a.length+l.length
 | [],_=>lc _
 | x::r,a=>by
   have c:=xM r (eF a x);have b:=Gk a x;simp only[List.foldl_cons,lw];omega
theorem ma(l:List SR):(bN l).length<=l.length:=by
 have:=xM (dO dk l) [];rw[pQ]at this
 simpa[bN]using this
def f8(k m:Nat)(l:List SR):Prop:=∀x∈l,x.ids.length=k/\x.sums.length=m
theorem QE{k m:Nat}{y x:SR}(a:y.ids.length=k/\y.sums.length=m)(b:x.ids.length=k/\x.sums.length=m):(y.add x).ids.length=k/\(y.add x).sums.length=m:=by
 refine⟨a.1,?_⟩;simp[SR.add,a.2,b.2]
theorem Gj{k m:Nat}{e:List SR}{x:SR}(c:f8 k m e)(d:x.ids.length=k/\x.sums.length=m):f8 k m (eF e x):=by
 intro a b;unfold eF at b
 split at b
 ·rcases lx.1 b with b|b
  ·exact c a b
  ·simp only[lm]at b;subst b;exact d
 ·rename_i y hy;have f:y∈e:=List.mem_of_getLast? hy
  split at b
  ·rcases lx.1 b with b|b
   ·exact c a (List.dropLast_subset _ b)
   ·simp only[lm]at b;subst b;exact QE (c y f) d
  ·rcases lx.1 b with b|b
   ·exact c a b
   ·simp only[lm]at b;subst b;exact d
theorem xK{k m:Nat}:∀(l b:List SR),f8 k m b->f8 k m l->f8 k m (l.foldl eF b)
 | [],_,h,_=>h
 | x::r,b,h,hl=>xK r _ (Gj h (hl x sP)) λa ha=>hl a (by simp[ha])
theorem qY{k m:Nat}{l:List SR}(h:f8 k m l):f8 k m (bN l) :=
 xK _ _ (λ_ hx=>by cases hx) λa ha=>h a ((rC oV l a).1 ha)
def dr(a:List SR)(i d:Nat):Int:=(a.getD i default).ids.getD d 0
def eR(b:List SR)(d:Nat)(a:Int)(tt:Nat):Nat->Nat->Nat
 | 0,e=>e
 | f+1,e=>if e<tt/\dr b e d=a then eR b d a tt f (e+1) else e
theorem Dw(b:List SR)(d:Nat)(a:Int)(tt:Nat):∀f e,e<=eR b d a tt f e
 | 0,e=>lc _
 | f+1,e=>by
   unfold eR
   split
   ·have:=Dw b d a tt f (e+1);omega
   ·exact lc _
theorem Du(b:List SR)(d:Nat)(a:Int)(tt:Nat):∀f e,e<=tt->eR b d a tt f e<=tt
 | 0,e,h=>h
 | f+1,e,h=>by
   unfold eR
   split
   ·rename_i hc;exact Du b d a tt f (e+1) oM
   ·exact h
theorem Dv(b:List SR)(d tt a:Nat)(c:a<tt):a<eR b d (dr b a d) tt (tt-a) a:=by
 obtain⟨f,e⟩:∃f,tt-a=f+1:=⟨tt-a-1,oM⟩;rw[e];unfold eR;rw[if_pos ⟨c,rfl⟩];have:=Dw b d (dr b a d) tt f (a+1);omega
def dh(g:Nat->Nat->List SR->Nat->List SR×List SN)(d tt n:Nat):Nat->Nat->List (Int×Nat)->List SR->List SN->List (Int×Nat)×List SR×List SN
 | 0,_,kids,rs,ns=>(kids,rs,ns)
 | f+1,at_,kids,rs,ns =>
   if at_<tt then
    let e:=eR rs d (dr rs at_ d) tt (tt-at_) at_
    let r:=g at_ e rs (n+1+ns.length)
    dh g d tt n f e (kids++[(dr rs at_ d,n+1+ns.length)]) r.1 (ns++r.2)
   else (kids,rs,ns)
def dw(d:Nat)(x:SR):SR:={ x with ids:=x.ids.set d (-1) }
def fo(a:List SR)(lo hi:Nat):List SR:=(a.drop lo).take (hi-lo)
def bC(leaf:Nat):Nat->Nat->Nat->Nat->Bool->List SR->Nat->List SR×List SN
 | 0,depth,lo,hi,_,rs,_=>(rs,[⟨depth,lo,hi,[]⟩])
 | f+1,depth,lo,hi,starred,rs,n =>
   if hi-lo<=leaf then (rs,[⟨depth,lo,hi,[]⟩])
   else
    let r:=dh (λa e rs n=>bC leaf f (depth+1) a e starred rs n) depth hi n (hi-lo) lo [] rs []
    if starred then (r.2.1,⟨depth,lo,hi,r.1⟩::r.2.2)
    else
     let l:=bN ((fo r.2.1 lo hi).map (dw depth))
     let q:=bC leaf f (depth+1) r.2.1.length (r.2.1.length+l.length) true (r.2.1++l) (n+1+r.2.2.length)
     (q.1,⟨depth,lo,hi,r.1++[(-1,n+1+r.2.2.length)]⟩::(r.2.2++q.2))
def wN(a:List SN):Nat:=(a.map λx=>13+8*x.kids.length).sum
theorem xu(a b:List SN):wN (a++b)=wN a+wN b:=by simp[wN]
theorem pG(x:SN)(b:List SN):wN (x::b)=13+8*x.kids.length+wN b:=by simp[wN]
def iZ:Nat->Nat
 | 0=>0
 | f+1=>iZ f+f+2
theorem rm:∀f,iZ f+1<=(f+1)*(f+1)
 | 0=>dC
 | f+1=>by
   have:=rm f;have e:(f+1+1)*(f+1+1)=(f+1)*(f+1)+2*(f+1)+1:=by
    rw[lH,Nat.mul_add,Nat.mul_add];omega
   unfold iZ;omega
structure xb(rs:List SR)(r:List SR×List SN)(k m a b:Nat):Prop where
 pre:∃x,r.1=rs++x/\x.length<=a
 wide:f8 k m rs->f8 k m r.1
 wt:wN r.2<=b
theorem vH{g:Nat->Nat->List SR->Nat->List SR×List SN}{d tt n k m A B:Nat}(p:∀lo hi b n,lo<hi->hi<=tt->tt<=b.length->xb b (g lo hi b n) k m ((hi-lo)*A) (13+21*((hi-lo)*B))) :
 ∀(f a:Nat) (h:List (Int×Nat)) (b:List SR) (c:List SN),a<=tt->tt<=b.length->(dh g d tt n f a h b c).1.length<=h.length+(tt-a)/\8*(dh g d tt n f a h b c).1.length+wN (dh g d tt n f a h b c).2.2<=8*h.length+wN c+21*((tt-a)*(B+1))/\(∃x,(dh g d tt n f a h b c).2.1=b++x/\x.length<=(tt-a)*A)/\(f8 k m b->f8 k m (dh g d tt n f a h b c).2.1)
 | 0,a,h,b,c,_,_=>⟨by simp[dh],by simp[dh],⟨[],by simp[dh],sP⟩,id⟩
 | f+1,a,h,b,c,h1,h2=>by
   unfold dh
   split
   ·rename_i hlt;simp only[];obtain⟨e,he⟩:∃e,e=eR b d (dr b a d) tt (tt-a) a:=⟨_,rfl⟩;have t:a<e:=he▸Dv b d tt a hlt;have o:e<=tt:=he▸Du b d _ tt _ a h1;rw[<-he];have i:=p a e b (n+1+c.length) t o h2;generalize g a e b (n+1+c.length)=r at i|-;obtain⟨x,l,D⟩:=i.pre;have s:tt<=r.1.length:=(by rw[l];simp;omega);obtain⟨i0,j,⟨y,q,u⟩,i3⟩:=vH p f e (h++[(dr b a d,n+1+c.length)]) r.1 (c++r.2) o s;generalize dh g d tt n f e (h++[(dr b a d,n+1+c.length)]) r.1 (c++r.2)=z at i0 j q i3|-;have v:=i.wt;rw[xu]at j;simp only[lg,lw,lB]at i0 j;have C:(tt-a)*A=(e-a)*A+(tt-e)*A:=(by rw[<-lH];congr 1;omega);have w:(tt-a)*(B+1)=(e-a)*B+(e-a)+(tt-e)*(B+1):=by
     rw[<-Nat.mul_succ,<-lH];congr 1;omega
    refine⟨oM,oM,⟨x++y,by rw[q,l,lr],sO⟩,λhW=>i3 (i.wide hW)⟩
   ·exact⟨sP,sP,⟨[],sP,sP⟩,id⟩
theorem yq{k m d:Nat}{l:List SR}(b:f8 k m l):f8 k m (l.map (dw d)):=by
 intro a c;obtain⟨x,e,rfl⟩:=lW.1 c
 simpa[dw]using b x e
theorem Pm{k m lo hi:Nat}{l:List SR}(h:f8 k m l):f8 k m (fo l lo hi):=λa ha=>h a (List.mem_of_mem_drop (Lx ha))
theorem DV(l:List SR)(lo hi:Nat):(fo l lo hi).length<=hi-lo:=by simp[fo];omega
theorem yp(leaf k m:Nat):∀(f c lo hi:Nat) (b:List SR) (n:Nat),lo<=hi->hi<=b.length->xb b (bC leaf f c lo hi true b n) k m ((hi-lo)*0) (13+21*((hi-lo)*f))
 | 0,c,lo,hi,b,n,_,_=>⟨⟨[],by simp[bC],sP⟩,id,by simp[bC,wN]⟩
 | f+1,c,lo,hi,b,n,h1,h2=>by
   unfold bC
   split
   ·exact⟨⟨[],sP,sP⟩,id,by simp[wN]⟩
   ·simp only[if_true];obtain⟨i0,h,⟨y,i,j⟩,i3⟩:=vH (d:=c) (tt:=hi) (n:=n) (k:=k) (m:=m) (A:=0) (B:=f) (g:=λa e b n=>bC leaf f (c+1) a e true b n) (λlo' hi' rs' n' h3 h4 h5=>yp leaf k m f (c+1) lo' hi' rs' n' oM oM) (hi-lo) lo [] b [] h1 h2;generalize dh _ c hi n (hi-lo) lo [] b []=o at i0 h i i3|-;refine⟨⟨y,i,j⟩,i3,?_⟩;rw[pG];simp only[lB]at h;have l:wN []=0:=rfl;rw[l]at h;simp only at h|-;omega
theorem sS(leaf k m:Nat)(D:1<=leaf):∀(f c lo hi:Nat) (h:List SR) (n:Nat),lo<=hi->hi<=h.length->xb h (bC leaf f c lo hi false h n) k m ((hi-lo)*f) (13+21*((hi-lo)*iZ f))
 | 0,c,lo,hi,h,n,_,_=>⟨⟨[],by simp[bC],sP⟩,id,by simp[bC,wN]⟩
 | f+1,c,lo,hi,h,n,h1,h2=>by
   unfold bC
   split
   ·exact⟨⟨[],sP,sP⟩,id,by simp[wN]⟩
   ·rename_i hlf;simp only[lY,if_false];obtain⟨i0,q,⟨y,s,F⟩,i3⟩:=vH (d:=c) (tt:=hi) (n:=n) (k:=k) (m:=m) (A:=f) (B:=iZ f) (g:=λa e h n=>bC leaf f (c+1) a e false h n) (λlo' hi' rs' n' h3 h4 h5=>sS leaf k m D f (c+1) lo' hi' rs' n' oM oM) (hi-lo) lo [] h [] h1 h2;generalize dh _ c hi n (hi-lo) lo [] h []=b at i0 q s i3|-;have I:=DV b.2.1 lo hi;have r:=ma ((fo b.2.1 lo hi).map (dw c));rw[ld]at r;generalize t:bN ((fo b.2.1 lo hi).map (dw c))=i at r|-;have o:=yp leaf k m f (c+1) b.2.1.length (b.2.1.length+i.length) (b.2.1++i) (n+1+b.2.2.length) oM sP;generalize bC leaf f (c+1) b.2.1.length (b.2.1.length+i.length) true (b.2.1++i) (n+1+b.2.2.length)=p at o|-;obtain⟨x,v,E⟩:=o.pre;have w:x=[]:=Ly (by simpa using E);subst w;have u:=o.wt;have C:wN []=0:=rfl;rw[C]at q;simp only[lB]at q;have z:b.2.1.length+i.length-b.2.1.length=i.length:=oM;rw[z]at u;have G:i.length*f<=(hi-lo)*f:=L7 _ oM;refine⟨⟨y++i,by rw[v,s];simp,?_⟩,λhW=>o.wide λa j=>?_,?_⟩
    ·rw[Nat.mul_succ];simp;omega
    ·rcases lx.1 j with j|j
     ·exact i3 hW a j
     ·exact qY (k:=k) (m:=m) (l:=(fo b.2.1 lo hi).map (dw c)) (yq (Pm (i3 hW))) a (t▸j)
    ·rw[pG,xu];simp only[lg,lw,lB];have H:(hi-lo)*iZ (f+1)=(hi-lo)*(iZ f+1)+(hi-lo)*f+(hi-lo):=by
      rw[<-Nat.mul_add,<-Nat.mul_succ];congr 1;rw[show iZ (f+1)=iZ f+f+2 from rfl];omega
     omega
end Go.Star
namespace Go.Sym
section
variable {α:Type} {lt:α->α->Bool}
theorem zD(d:cF lt){xs P Q:List α}{x:α}(g:ga lt xs (P++Q))(e:∀y∈Q,lt x y=true)(h:∀y∈P,lt x y=false):ga lt (xs++[x]) (P++[x]++Q):=by
 obtain⟨f,i⟩:=g;refine⟨?_,?_⟩
 ·unfold bO at *;rw[List.pairwise_append]at f;obtain⟨l,a2,a3⟩:=f;rw[lr,List.pairwise_append,List.pairwise_append];refine⟨l,⟨List.pairwise_singleton _ _,a2,λa ha b c=>?_⟩,λa ha b c=>?_⟩
  ·rw[lm]at ha;subst ha;exact d.asym _ _ (e b c)
  ·rcases lx.1 c with c|c
   ·rw[lm]at c;subst c;exact h a ha
   ·exact a3 a ha b c
 ·have j:b9 lt (xs++[x]) (P++Q++[x]):=i.app (b9.refl _);have k:b9 lt (Q++[x]) ([x]++Q):=uo d λa ha b c=>by
   rw[lm]at c;subst c;exact e a ha
  refine j.trans ?_;rw[lr,lr];exact(b9.refl P).app k
theorem I6(e:cF lt){xs a:List α}{x:α}{k:Nat}(b:ga lt xs a)(n:k<=a.length)(h:∀j (g:j<a.length),k<=j->lt x a[j]=true)(m:∀(g:k-1<a.length),0<k->lt x a[k-1]=false):ga lt (xs++[x]) (a.take k++[x]++a.drop k):=by
 have l:bO lt a:=b.1;refine zD e (by rw[Ls];exact b) (λy hy=>?_) (λy hy=>?_)
 ·obtain⟨j,d,rfl⟩:=lU hy;rw[List.getElem_drop];exact h _ _ oM
 ·obtain⟨j,d,rfl⟩:=lU hy;rw[lD]at d;rw[List.getElem_take];have f:=m oM oM
  rcases L8 j (k-1) with c|c
  ·have i:=(List.pairwise_iff_getElem.1 l) j (k-1) oM oM c;exact e.trans _ _ _ i f
  ·have:j=k-1:=oM;subst this;exact f
theorem I5(b:cF lt){xs a:List α}{x:α}{k:Nat}(c:ga lt xs a)(f:k<=a.length)(e:∀j (d:j<a.length),k<=j->lt x a[j]=true)(g:∀(d:k-1<a.length),0<k->lt x a[k-1]=false):a.take k++[x]++a.drop k=dO lt (xs++[x]) :=
 rB b (I6 b c f e g)
end
end Go.Sym
