/- Parts. -/
import Derived.Test.YtpkocnpamcchcaaGreatDoorL14
import Derived.Test.YtpkocnpamcchcaaGreatDoorL39
import Derived.Test.YtpkocnpamcchcaaGreatDoorL40
import Derived.Test.YtpkocnpamcchcaaGreatDoorL42
import Derived.Test.YtpkocnpamcchcaaGreatDoorL43
set_option maxRecDepth 100000
set_option maxHeartbeats 40000000
set_option linter.all false
namespace Go.Proofs.YtpkocnpamcchcaaGreatDoor
open Go.RowKit Go.Zone Go.Shelf Tryz
theorem tr(d:Nat)(h:d<10):(UInt8.ofNat (48+d)).toNat=48+d:=by
 have:=dH (48+d);omega
theorem O9(p:Nat):∀x∈Lib.decDigits p,48<=x.toNat/\x.toNat<=57:=by
 induction p using Nat.strongRecOn with
 | ind p ih =>
   intro x a;rw[Lib.decDigits]at a
   split at a
   ·rename_i h;simp only[lm]at a;subst a;rw[tr p h];omega
   ·rename_i h
    rcases lx.1 a with b|b
    ·exact ih (p/10) oM x b
    ·simp only[lm]at b;subst b;rw[tr (p%10) oM];omega
def t8(l:List UInt8):Nat:=l.foldl (λa x=>10*a+(x.toNat-48)) 0
theorem xz(p:Nat):t8 (Lib.decDigits p)=p:=by
 induction p using Nat.strongRecOn with
 | ind p ih =>
   rw[Lib.decDigits]
   split
   ·rename_i h;simp only[t8,List.foldl_cons,List.foldl_nil,tr p h];omega
   ·rename_i h;have a:=ih (p/10) oM;unfold t8 at a|-;rw[List.foldl_append,a];simp only[List.foldl_cons,List.foldl_nil,tr (p%10) oM];omega
theorem Pg{p q:Nat}(h:Lib.decDigits p=Lib.decDigits q):p=q:=by rw[<-xz p,h,xz]
theorem vS(p:Nat):(ey p).data.toList=Lib.decDigits p:=by
 show Lib.itoa (p:Int)=_;unfold Lib.itoa;rw[if_neg oM,Lz]
def jX:Nat->List UInt8
 | 0=>[100,105,99,116]
 | 1=>[102,111,114,119,97,114,100]
 | 2=>[105,110,118,101,114,116,101,100]
 | 3=>[114,97,110,103,101,100]
 | 4=>[115,111,114,116,101,100]
 | 5=>[109,101,116,114,105,99]
 | 6=>[115,99,104,101,109,97]
 | 7=>[114,111,119,115]
 | _=>[115,116,97,114]
def g7(x:Nat×Nat):List UInt8:=jX x.1++(if x.1<6 then 46::Lib.decDigits x.2 else [])
def tO(x:Nat×Nat):Prop:=x.1<9/\(6<=x.1->x.2=0)
theorem JJ:∀a,a<9->∀b,b<9->jX a=jX b->a=b:=dC
theorem JI:∀a,a<9->∀x∈jX a,(x != 46)=true:=dC
theorem JH:∀a,a<9->∀x∈jX a,dZ x.toNat=true:=dC
theorem AE:∀a,a<9->1<=(jX a).length/\(jX a).length<=8:=dC
theorem BA(x:Nat×Nat)(h:x.1<9):(g7 x).takeWhile (λc=>c != 46)=jX x.1:=by
 unfold g7;rw[List.takeWhile_append_of_pos (JI x.1 h)]
 split
 ·simp
 ·simp
theorem K4{x y:Nat×Nat}(d:tO x)(e:tO y)(c:g7 x=g7 y):x=y:=by
 have i:=BA x d.1;rw[c,BA y e.1]at i;have f:=JJ _ e.1 _ d.1 i;obtain⟨a,p⟩:=x;obtain⟨b,k⟩:=y;simp only at f;subst f
 congr 1
 by_cases j:b<6
 ·simp only[g7,if_pos j]at c;have:=List.append_cancel_left c;injection this with _ h3;exact Pg h3
 ·have g:=d.2 (by simp only;omega);have h:=e.2 (by simp only;omega);simp only at g h;rw[g,h]
theorem K3(x:Nat×Nat)(b:tO x)(f:x.2<1000):(∀c∈g7 x,dZ c.toNat=true)/\1<=(g7 x).length/\(g7 x).length<=(jX x.1).length+4:=by
 have i:=JH x.1 b.1;have j:=AE x.1 b.1;unfold g7;refine⟨λc hc=>?_,by rw[lg];omega,?_⟩
 ·rcases lx.1 hc with a|a
  ·exact i c a
  ·split at a
   ·rcases ln.1 a with e|d
    ·subst e;decide
    ·have k:=O9 x.2 c d;unfold dZ;have g:decide (57<c.toNat)=false:=sO;have h:decide (c.toNat<48)=false:=sO;simp[g,h]
   ·cases a
 ·rw[lg]
  split
  ·have a:=nL x.2 f;have d:(ey x.2).size=(Lib.decDigits x.2).length:=(by rw[<-vS];show _=(ey x.2).data.toList.length;rw[Array.length_toList];rfl);rw[lw];omega
  ·simp
def j8(cs:List aG)(c:bw)(j:Nat):List (Nat×Nat) :=
 if bR cs (j:Int) then [(0,j),(1,j)]++(if cD c.inv (j:Int) then [(2,j)] else [])++(if cD c.rng (j:Int) then [(3,j)] else [])++(if c.sort==(j:Int) then [(4,j)] else []) else [(5,j)]
def ji(cs:List aG)(c:bw):List (Nat×Nat):=[(6,0),(7,0)]++(List.range cs.length).flatMap (j8 cs c)++(if c.split=[] then [] else [(8,0)])
theorem qo(a:ByteArray)(p:Nat):(fF a p).data.toList=a.data.toList++46::Lib.decDigits p:=by
 unfold fF;rw[ByteArray.data_append,ByteArray.data_append,Array.toList_append,Array.toList_append,vS];rfl
theorem MA(p:Nat):(kC++ey p).data.toList=jX 5++46::Lib.decDigits p:=by
 rw[ByteArray.data_append,Array.toList_append,vS];rfl
theorem Nu(cs:List aG)(c:bw)(rows:List (List ai))(j:Nat):(fD cs c rows j).map (λx=>x.1.data.toList)=(j8 cs c j).map g7:=by
 unfold fD j8
 split
 ·unfold jE;simp only[lz,lG,L3,qo]
  congr 1
  ·congr 1
   ·congr 1
    split<;>simp only[lG,L3,qo]<;>rfl
   ·split<;>simp only[lG,L3,qo]<;>rfl
  ·split<;>simp only[lG,L3,qo]<;>rfl
 ·simp only[lG,L3,MA];rfl
theorem BN{b i j h:Type}(f:i->j)(g:h->j)(d:b->List i)(c:b->List h)(e:∀a,(d a).map f=(c a).map g):∀l:List b,(l.flatMap d).map f=(l.flatMap c).map g
 | []=>rfl
 | a::l=>by rw[lN,lN,lz,lz,e,BN f g d c e l]
theorem Nr(cs:List aG)(c:bw)(rows:List (List ai)):(dq cs c rows).map (λx=>x.1.data.toList)=(ji cs c).map g7:=by
 unfold dq ji;rw[lz,lz,lz,lz,BN _ g7 (fD cs c rows) (j8 cs c) (Nu cs c rows)]
 congr 1
 split<;>rfl
theorem sE(cs:List aG)(c:bw)(j:Nat):∀x∈j8 cs c j,x.2=j/\x.1<6:=λx hx=>by
 unfold j8 at hx
 split at hx
 ·simp only[lx]at hx
  rcases hx with((h|h)|h)|h
  ·simp only[ln,lL,or_false]at h
   rcases h with e|e<;>subst e<;>exact⟨rfl,sP⟩
  all_goals
   split at h
   ·simp only[ln,lL,or_false]at h;subst h;exact⟨rfl,sP⟩
   ·cases h
 ·simp only[ln,lL,or_false]at hx;subst hx;exact⟨rfl,sP⟩
theorem Ns(cs:List aG)(c:bw)(j:Nat):(j8 cs c j).Nodup:=by
 unfold j8
 split
 ·split<;>split<;>split<;>simp
 ·simp
theorem vR(cs:List aG)(c:bw)(h:cs.length<=256):∀x∈ji cs c,tO x/\x.2<1000:=λx a=>by
 unfold ji at a
 rcases lx.1 a with a|a
 ·rcases lx.1 a with a|a
  ·simp only[ln,lL,or_false]at a
   rcases a with e|e<;>subst e<;>exact⟨⟨dC,λ_=>rfl⟩,dC⟩
  ·obtain⟨j,d,b⟩:=List.mem_flatMap.1 a;have g:=sE cs c j x b;have f:=List.mem_range.1 d;exact⟨⟨oM,λh6=>oM⟩,oM⟩
 ·split at a
  ·cases a
  ·simp only[ln,lL,or_false]at a;subst a;exact⟨⟨dC,λ_=>rfl⟩,dC⟩
theorem Nq(cs:List aG)(c:bw):(ji cs c).Nodup:=by
 unfold ji;have f:∀x∈(List.range cs.length).flatMap (j8 cs c),x.1<6:=λx hx=>by
  obtain⟨j,_,g⟩:=List.mem_flatMap.1 hx;exact(sE cs c j x g).2
 have h:((List.range cs.length).flatMap (j8 cs c)).Nodup:=by
  unfold List.Nodup;rw[List.pairwise_flatMap];refine⟨λa _=>Ns cs c a,(List.nodup_range (n:=cs.length)).imp λ{a b} hab x hx y hy e=>hab ?_⟩;rw[<- (sE cs c a x hx).1,<- (sE cs c b y hy).1,e]
 rw[List.nodup_append,List.nodup_append];refine⟨⟨dC,h,λa d b hb e=>?_⟩,by split<;>simp,λa d b hb e=>?_⟩
 ·subst e;have:=f a hb;simp only[ln,lL,or_false]at d
  rcases d with e|e<;>subst e<;>exact absurd this dC
 ·subst e
  split at hb
  ·cases hb
  ·simp only[ln,lL,or_false]at hb;subst hb
   rcases lx.1 d with d|d
   ·simp at d
   ·exact absurd (f _ d) dC
theorem vT{cs:List aG}{c:bw}{rows:List (List ai)}(g:cs.length<=256){S:List bI}(f:S.map cI=dq cs c rows) :
 (∀i,(f:i<S.length)->tU S[i].name)/\(∀i k,(f:i<S.length)->(d:k<i)->(S[k]'oM).name.toList≠S[i].name.toList)/\S.length<=2000:=by
 have j:S.map (λs=>s.name.data.toList)=(ji cs c).map g7:=by
  rw[<-Nr cs c rows,<-f,List.map_map];rfl
 have r:S.length=(ji cs c).length:=by simpa using congrArg List.length j
 have h:∀i (hi:i<S.length),∃d:i<(ji cs c).length,S[i].name.data.toList=g7 (ji cs c)[i]:=λi hi=>by
  refine⟨oM,?_⟩;have:=congrArg (λl=>l[i]?) j;simp only[lP,lu hi,lu (show i<(ji cs c).length from oM),Option.map_some]at this;exact ls this
 refine⟨λi hi=>?_,λi k hi d e=>?_,?_⟩
 ·obtain⟨d,e⟩:=h i hi;obtain⟨a,b⟩:=vR cs c g _ (ll d);obtain⟨m,t,u⟩:=K3 _ a b;have w:=AE _ a.1;have v:S[i].name.size=(g7 (ji cs c)[i]).length:=by rw[<-e,Array.length_toList];rfl
  refine⟨λq hq=>m _ ?_,oM,oM⟩;rw[<-e];have:S[i].name.data.toList[q]'(by rw[Array.length_toList];exact hq)=S[i].name[q]:=by rw[Array.getElem_toList];rfl
  rw[<-this];exact ll _
 ·obtain⟨a,o⟩:=h i hi;obtain⟨b,p⟩:=h k oM;rw[Lib.toList_data,Lib.toList_data,o,p]at e;have n:=K4 (vR cs c g _ (ll b)).1 (vR cs c g _ (ll a)).1 e;exact(List.pairwise_iff_getElem.1 (Nq cs c)) k i b a d n
 ·have a:=congrArg List.length f;unfold dq at a;rw[ld,lg,lg]at a;have b:=ww (fD cs c rows) 5 (List.range cs.length) λx _=>D3 x;rw[LB]at b;have m:(if c.split=[] then [] else [((⟨#[115,116,97,114]⟩:ByteArray),iJ cs c rows)]).length<=1:=by split<;>simp
  simp only[lw,lB]at a;omega
open Go.Roa
def mo(x:ByteArray×List UInt8):Nat:=x.1.size+x.2.length+9
def iY(l:List (ByteArray×List UInt8)):Nat:=(l.map mo).sum
theorem pL:iY []=0:=rfl
theorem nh(x:ByteArray×List UInt8)(l:List (ByteArray×List UInt8)):iY (x::l)=mo x+iY l:=by simp[iY]
theorem uj(a b:List (ByteArray×List UInt8)):iY (a++b)=iY a+iY b:=by simp[iY,List.sum_append]
theorem xZ{x:ByteArray×List UInt8}:∀{l:List (ByteArray×List UInt8)},x∈l->x.2.length<=iY l
 | y::l,h=>by
   rw[nh]
   rcases ln.1 h with e|h
   ·subst e;unfold mo;omega
   ·have:=xZ h;omega
def pJ(xs:List ai):Nat:=(xs.map λx=>(vB x).length).sum
theorem wA{b:Type}(f:b->List UInt8)(g:b->Nat):∀(l:List b),(∀x∈l,(f x).length<=g x)->(l.flatMap f).length<=(l.map g).sum
 | [],_=>lc _
 | a::l,h=>by
   have d:=h a sP;have c:=wA f g l λx hx=>h x (by simp[hx]);rw[lN,lg,lG,List.sum_cons];omega
theorem yd(g:Nat->Nat):∀l:List Nat,(l.map λi=>16+2*g i).sum=16*l.length+2*(l.map g).sum
 | []=>rfl
 | a::l=>by rw[lG,List.sum_cons,yd g l,lG,List.sum_cons,lw];omega
theorem NM(a:List Nat)(b:Nat)(c:a.length<=64):((fP a b).flatMap cP).length<=16*b+2*a.length:=by
 unfold fP;rw[List.flatMap_map];have d:=wA (λi=>cP (gz TB (cB a a.length i))) (λi=>16+2*(cB a a.length i).length) (List.range b) λi _=>ny (rows_ok a c i);rw[yd,LB]at d;have e:=rN a b a.length;omega
theorem Jp(c:List Nat)(b:Nat)(f:c.length<=64):((fy c b).flatMap cP).length<=b*402:=by
 have d:=wA cP (λ_=>402) (fy c b) λs hs=>ny (vE f s hs);have e:∀l:List (Option ap),(l.map λ_=>402).sum=l.length*402:=λl=>by
  induction l with
  | nil=>rfl
  | cons a l ih=>rw[lG,List.sum_cons,ih,lw,lH];omega
 rw[e,show(fy c b).length=b by simp[fy]]at d;exact d
theorem GZ(many:Nat)(a:List Nat):(ky (fV many a)).length<=4*many:=by
 unfold ky;rw[wB];have:(ik (fV many a)).length<=many:=by
  unfold fV
  cases h:eY many a a.length with
  | none=>simp[ik]
  | some l =>
    simp only[]
    split
    ·rename_i h;simp only[ik];omega
    ·simp[ik]
 omega
theorem qn(a:ByteArray)(p:Nat)(b:p<1000):(fF a p).size<=a.size+4:=by
 have c:=nL p b;unfold fF;rw[LA,LA];have:(⟨#[46]⟩:ByteArray).size=1:=rfl;omega
theorem O8(k:Int)(p n:Nat)(xs:List ai)(i r b:Bool)(a:p<1000)(t:n<=64)(e:xs.length=n) :
 iY (jE k p n xs i r b)<=88+3*n+pJ (aQ xs)+(if i then 24+25*(aQ xs).length+29*n else 0)+(if r then 24+(aQ xs).length*8217 else 0)+(if b then 24+4*(aQ xs).length else 0):=by
 have y:=jF xs;have f:(bF xs).length=n:=by rw[<-e];simp[bF]
 have C:=NM (bF xs) (aQ xs).length oM;have v:=Jp (bF xs) (aQ xs).length oM;have x:=GZ (aQ xs).length (bF xs);have d:=mX (aQ xs).length oM;have u:=qn mB p a;have j:=qn mA p a;have B:=qn rL p a;have q:=qn rK p a;have l:=qn rJ p a;have h:mB.size=4:=rfl;have w:mA.size=7:=rfl;have A:rL.size=8:=rfl;have g:rK.size=6:=rfl;have m:rJ.size=6:=rfl;have s:(iP k (aQ xs)).length=5+pJ (aQ xs):=by
  simp only[iP,lg,ay,lw,lB,List.length_flatMap,pJ]
 have o:(jl n (aQ xs).length (cM (aQ xs).length) (fl (bF xs) (cM (aQ xs).length))).length<=9+3*n:=by
  have z:n*cM (aQ xs).length<=n*24:=Nat.mul_le_mul_left _ d;simp only[jl,fl,lg,ay,lw,lB,f];omega
 have c:iY [(fF mB p,iP k (aQ xs)),(fF mA p,jl n (aQ xs).length (cM (aQ xs).length) (fl (bF xs) (cM (aQ xs).length)))]<=88+3*n+pJ (aQ xs):=by
  rw[nh,nh,pL];simp only[mo];omega
 unfold jE;rw[uj,uj,uj];refine Nat.add_le_add (Nat.add_le_add (Nat.add_le_add c ?_) ?_) ?_
 ·cases i
  ·exact lc _
  ·rw[if_pos rfl,if_pos rfl,nh,pL];simp only[mo];omega
 ·cases r
  ·exact lc _
  ·rw[if_pos rfl,if_pos rfl,nh,pL];simp only[mo];omega
 ·cases b
  ·exact lc _
  ·rw[if_pos rfl,if_pos rfl,nh,pL];simp only[mo];omega
theorem Me(p:Nat)(xs:List Int)(a:p<1000):iY [(kC++ey p,fZ xs)]<=49+8*xs.length:=by
 have b:=nL p a;rw[nh,pL];simp only[mo,fZ,lg,ay,sD,sW,LA];have:kC.size=7:=rfl;omega
theorem vC(cs:List aG)(rows:List (List ai)):∀k,(fa cs rows k).length=kO cs k
 | 0=>rfl
 | k+1=>by
   have a:=vC cs rows k
   cases hd:bR cs (k:Int)
   ·rw[vA k hd,lg,a];simp[kO,hd]
   ·rw[vD k hd,a];simp[kO,hd]
theorem GT(cs:List aG)(c:bw)(rows:List (List ai))(d:Fits cs c):(iJ cs c rows).length<=24+(c.split.length+1)*rows.length*(4*c.split.length+8+24*kO cs cs.length+21*(c.split.length+1)):=by
 have g:=d.lo;have e:=d.few;have b:((iu c rows).map kS).length=c.split.length:=by simp[iu]
 have f:((fa cs rows cs.length).map kS).length=kO cs cs.length:=by rw[ld,vC]
 have a:=Gf c.leaf.toNat rows.length ((iu c rows).map kS) ((fa cs rows cs.length).map kS) oM (by rw[b];exact e);rw[b,f]at a;unfold iJ;rw[vC];exact a
theorem FI{h:Int}{xs:List ai}(b:fC h xs=0):pJ (aQ xs)<=xs.length*65545:=by
 have d:∀x∈aQ xs,(vB x).length<=65545:=λx hx=>by
  have k:=td b x hx;have c:=qT x;omega
 have c:∀l:List ai,(∀x∈l,(vB x).length<=65545)->(l.map λx=>(vB x).length).sum<=l.length*65545:=λl=>by
  induction l with
  | nil=>intro _;simp
  | cons a l ih =>
    intro b;have j:=b a sP;have i:=ih λx hx=>b x (by simp[hx]);rw[lG,List.sum_cons,lw,lH];omega
 have f:=c _ d;have e:=jF xs;have g:(aQ xs).length*65545<=xs.length*65545:=L7 _ e;exact lk f g
theorem Ob{cs:List aG}{c:bw}{rows:List (List ai)}(b:Fits cs c)(he:∀p,p<cs.length->fC (dp (cs.getD p default)) (bD rows p)=0)(f:rows.length<=64):∀x∈dq cs c rows,x.2.length<=1073741824:=λx a=>by
 have t:=b.may.hi;have s:=b.few;unfold dq at a
 rcases lx.1 a with a|a
 ·rcases lx.1 a with a|a
  ·simp only[ln,lL,or_false]at a
   rcases a with e|e<;>subst e
   ·have:=uJ b;simp only;omega
   ·simp only[ay];omega
  ·obtain⟨j,d,m⟩:=List.mem_flatMap.1 a;have d:=List.mem_range.1 d;have k:=xZ m;have i:(bD rows j).length=rows.length:=(by simp[bD]);unfold fD at k
   split at k
   ·have g:=O8 (dp (cs.getD j default)) j rows.length (bD rows j) (cD c.inv (j:Int)) (cD c.rng (j:Int)) (c.sort==(j:Int)) oM f i;have n:=FI (he j d);have l:=jF (bD rows j);have h:(bD rows j).length*65545<=64*65545:=L7 _ oM;have o:(if cD c.inv (j:Int)=true then 24+25*(aQ (bD rows j)).length+29*rows.length else 0)<=10000:=(by split<;>omega);have q:(if cD c.rng (j:Int)=true then 24+(aQ (bD rows j)).length*8217 else 0)<=1000000:=(by split<;>omega);have r:(if (c.sort==(j:Int))=true then 24+4*(aQ (bD rows j)).length else 0)<=10000:=(by split<;>omega);omega
   ·have g:=Me j (cC (bD rows j)) oM;rw[show(cC (bD rows j)).length=rows.length by simp[cC,i]]at g;omega
 ·split at a
  ·cases a
  ·simp only[ln,lL,or_false]at a;subst a;have n:=GT cs c rows b;have l:=BI cs cs.length;have h:(c.split.length+1)*rows.length<=9*64:=Ln oM f;have o:(c.split.length+1)*rows.length*(4*c.split.length+8+24*kO cs cs.length+21*(c.split.length+1))<=9*64*7000:=Ln h oM;simp only;omega
theorem CH{cs:List aG}{c:bw}{rows:List (List ai)}(b:Fits cs c)(he:∀p,p<cs.length->fC (dp (cs.getD p default)) (bD rows p)=0)(g:rows.length<=64){S:List bI}(a:S.map cI=dq cs c rows):jr S:=by
 obtain⟨f,d,e⟩:=vT (rows:=rows) (c:=c) b.may.hi a;refine⟨f,λi hi=>?_,d,e⟩;have:cI S[i]∈dq cs c rows:=by rw[<-a];exact Le (ll hi)
 exact Ob b he g _ this
theorem Oe{S:List bI}(a:jr S):(fK S).length<=140737488355328/\0<(fK S).length:=by
 have c:=uI S a.at_;have b:=a.few;simp only[fK,lg,ay,lw,lB];omega
theorem Hg{cs:List aG}{c:bw}{rows:List (List ai)}(b:Fits cs c)(he:da cs rows=0)(d:rows.length<=64){S:List bI}(a:S.map cI=dq cs c (dj c.sort rows)):jr S :=
 CH b (λp hp=>by
  rw[L9,lu hp];exact xR c.sort he p hp) (by rw[pS];exact d) a
def iE:bw:=⟨-1,none,0,[],none,0,[],none,0,[],1⟩
theorem PV(w:World):ff w iE:=⟨Sl.nil_ _ dC,Sl.nil_ _ dC,Sl.nil_ _ dC⟩
def pF(a:ByteArray):List (ByteArray×List UInt8):=[(⟨#[115,99,104,101,109,97]⟩,gV [⟨a,1⟩] iE),(⟨#[114,111,119,115]⟩,le 0 4),(⟨#[100,105,99,116,46,48]⟩,iP 1 []),(⟨#[102,111,114,119,97,114,100,46,48]⟩,jl 0 0 1 [])]
theorem BE(a:ByteArray)(x:ByteArray)(b:x.data.toList=a.data.toList++[46,48]):fF a 0=x:=by
 apply ByteArray.ext;apply Array.toList_inj.1;rw[qo,Lib.decDigits_one dC,b];rfl
theorem Oa(a:ByteArray):dq [⟨a,1⟩] iE []=pF a:=by
 have e:fF mB 0=⟨#[100,105,99,116,46,48]⟩:=BE _ _ rfl;have b:fF mA 0=⟨#[102,111,114,119,97,114,100,46,48]⟩:=BE _ _ rfl;have c:aQ []=[]:=List.length_eq_zero_iff.1 (Nat.le_zero.1 (jF []));have f:bD [] 0=[]:=rfl;have d:fD [⟨a,1⟩] iE [] 0=[(fF mB 0,iP 1 (aQ [])),(fF mA 0,jl 0 (aQ []).length (cM (aQ []).length) (fl (bF []) (cM (aQ []).length)))]:=rfl;show[(⟨#[115,99,104,101,109,97]⟩,gV [⟨a,1⟩] iE),(⟨#[114,111,119,115]⟩,le 0 4)]++(List.range 1).flatMap (fD [⟨a,1⟩] iE [])++[]=_;rw[List.range_one,lN,List.flatMap_nil,d,e,b,c];rfl
theorem LM:kY ⟨#[97]⟩:=⟨dC,dC,dC⟩
theorem OT:Fits [⟨⟨#[97]⟩,1⟩] iE where
 may:=⟨λi h=>by
  match i,h with
  | 0,_=>exact LM,λi h=>by
  match i,h with
  | 0,_=>exact(by decide:(1:Int)<=1/\(1:Int)<=3),λi k h hk=>by simp at h;omega,sP,sP⟩
 sort:=.inl rfl
 inv:=⟨.inl rfl,λi h=>by simp[iE]at h⟩
 rng:=⟨.inl rfl,λi h=>by simp[iE]at h⟩
 split:=λi h=>absurd h (lI _)
 one:=λi k h=>absurd h (lI _)
 few:=dC
 lo:=dC
 hi:=dC
theorem Qd(a:ByteArray)(A B:Option Addr)(n m:Nat)(w:World)(b:Sl w 2 aG.cells A n [⟨a,1⟩])(c:Fits [⟨a,1⟩] iE)(h:jo w)(g:Tab w) :
 Calls prog 9 #[.slice A 1 n,.agg #[.int .i64 (-1),.slice none 0 0,.slice none 0 0,.slice none 0 0,.int .i64 1],.slice none 0 0] w λe w'=>∃v S,e=.returned (.tuple #[v,.int .i64 0])/\S.map cI=pF a/\jr S/\aE w' w.heap.size v (fK S)/\aa w w':=by
 have he:da [⟨a,1⟩] ([].map λr:Rw=>r.vs)=0:=by
  unfold da;rw[ew c.may];rfl
 have d:dj iE.sort ([].map λr:Rw=>r.vs)=[]:=rfl;have i:∀S:List bI,S.map cI=dq [⟨a,1⟩] iE (dj iE.sort ([].map λr:Rw=>r.vs))->jr S:=λS hS=>by
  rw[d]at hS;exact CH c (λp hp=>by
   have:p=0:=(by simpa using hp);subst this;exact D1 he hp) dC hS
 have:=Ed [⟨a,1⟩] iE A none n 0 [] w b c (PV w) (λbb off e=>by cases e) (λbb off e=>by cases e) (Sl.nil_ _ dC) (λ_ b=>by cases b) dC (λ_ b=>by cases b) he h g i;refine this.mono ?_;rintro e o ⟨v,S,rfl,f,j,l,k⟩;rw[d,Oa]at f;exact⟨v,S,rfl,f,j,l,k⟩
theorem Nl(w:World)(R:jo w)(D:Tab w):Rt 7 #[] w (.bool true):=by
 go_enter func7,ntmps7;go_wp2_with (go_at_call 9;refine ae ?_);refine ar ?_;have x:Sl (w.alloc (.cells #[.string ⟨#[97]⟩,.int .u8 1] 53)) 2 aG.cells (some ⟨w.heap.size,0,none⟩) 1 [⟨⟨#[97]⟩,1⟩]:=br _ oM oM (λj u hu=>by
  match j,hu with
  | 0,hu=>cases hu;simp[go_sem]
  | 1,hu=>cases hu;simp[go_sem])
 refine(Qd ⟨#[97]⟩ (some ⟨w.heap.size,0,none⟩) none 1 0 _ x OT (R.keep kP) (D.keep kP)).mono ?_;rintro e W ⟨v,S,rfl,i,k,A,s⟩;have q:(fK S).length<=140737488355328:=by
  have:=uI S k.at_;have H:S.length=4:=by simpa[pF]using congrArg List.length i
  rw[H]at this;simp only[fK,lg,ay,lw,lB];omega
 obtain⟨L,K,rfl,t⟩:=A.sl aO q;have O:=lh t;have U:=lh i;have X:=lh k;have P:=lh (show aa w W from aa.trans (aa.alloc (aa.refl _) _) s);clear i k A s t x q;go_wp2_with (go_at_call 12;refine ae ?_);refine uM (zh L K S (fK S) _ rfl O.o X.o) ?_;rintro e o ⟨ad,a0,B,rfl,g,p,h,y⟩;rw[U.o]at h;have F:B.length=4:=by simpa[pF]using congrArg List.length h
 match B,F with
 | [a,b,c,d],_ =>
   obtain⟨a7,aj,Y,a5⟩:=a;obtain⟨ah,m,n,a1⟩:=b;obtain⟨ac,Z,a9,a2⟩:=c;obtain⟨af,a6,a3,ag⟩:=d;simp only[lG,L3,cI,pF,Lu,Prod.mk.injEq,and_true]at h;obtain⟨⟨rfl,rfl⟩,⟨rfl,rfl⟩,⟨rfl,rfl⟩,rfl,rfl⟩:=h;have r:=p ⟨⟨#[114,111,119,115]⟩,m,n,le 0 4⟩ sP;have ai:(convert 31 9 (.slice m (le 0 4).length n)).run prog o=.ok (.string ⟨#[0,0,0,0]⟩) o:=ii r;obtain⟨a8,ab,N,a4,J,T⟩:=jR g 0 sP;subst N;obtain⟨l,z,f,_,M,I⟩:=jR g 1 sP;injection f with f;injection f with e1 e2;subst e1;subst e2;obtain⟨l,z,f,_,Q,E⟩:=jR g 2 sP;injection f with f;injection f with e1 e2;subst e1;subst e2;obtain⟨l,z,f,_,V,G⟩:=jR g 3 sP;injection f with f;injection f with e1 e2;subst e1;subst e2;simp only[Ld,List.getElem_cons_succ,Lf,lE,Nat.one_mul]at J M I Q V;have C:=P.u y;clear y r p T E G g;go_wp2;go_ret;exact⟨rfl,C.o⟩
theorem BH(j:Nat):(⟨#[109,101,116,114,105,99]⟩:ByteArray)++ec j=kC++ey j:=by
 unfold ec kC;apply ByteArray.ext;simp
theorem DL{cs:List aG}(d:∀i,(b:i<cs.length)->1<=cs[i].kind/\cs[i].kind<=3){j:Nat}(a:j<cs.length):bR cs (j:Int)=!(cs[j].kind==3):=by
 have b:=d j a;show(match cs[j]? with|some c=>c.kind==1||c.kind==2|none=>false)=_;rw[lu a];simp only;rw[Bool.eq_iff_iff];simp;omega
theorem PH{cs:List aG}{c:bw}{rows:List (List ai)}(g:Fits cs c){j:Nat}(d:j<cs.length):(fD cs c rows j).map (·.1)=oW cs c j:=by
 have e:=DL g.may.kind d;have f:cs.getD j default=cs[j]:=by rw[L9,lu d];rfl
 unfold fD oW;rw[e,f]
 by_cases b:cs[j].kind=3
 ·rw[if_pos b,if_neg (by simp[b])];simp only[lG,L3,BH]
 ·rw[if_neg b,if_pos (by simp[b])];unfold jE;simp only[lz,lG,L3]
  congr 1
  ·congr 1
   ·congr 1
    split<;>rfl
   ·split<;>rfl
  ·by_cases a:c.sort=(j:Int)
   ·rw[if_pos a,if_pos (by simp[a])];rfl
   ·rw[if_neg a,if_neg (by simp[a])];rfl
theorem Oc{cs:List aG}{c:bw}{rows:List (List ai)}(a:Fits cs c):(dq cs c rows).map (·.1)=nH cs c:=by
 unfold dq nH;simp only[lz,lG,L3]
 congr 1
 ·congr 1
  rw[List.map_flatMap,List.flatMap_def,List.flatMap_def];exact congrArg List.flatten (List.map_congr_left λj hj=>PH a (List.mem_range.1 hj))
 ·split<;>rfl
def wU(G:List (ByteArray×List UInt8)):Prop:=∀p∈G,∀p'∈G,p.1=p'.1->p=p'
theorem FR{cs:List aG}{c:bw}{rows:List (List ai)}(m:cs.length<=256){S:List bI}(b:S.map cI=dq cs c rows):wU (dq cs c rows):=by
 obtain⟨_,e,_⟩:=vT m b;rw[<-b];intro p h s g he;obtain⟨o,f,rfl⟩:=lW.1 h;obtain⟨r,j,rfl⟩:=lW.1 g;obtain⟨i,hi,rfl⟩:=lU f;obtain⟨k,l,rfl⟩:=lU j;have d:S[i].name=S[k].name:=he
 rcases Nat.lt_trichotomy i k with a|rfl|a
 ·exact absurd (by rw[d]) (e k i l a)
 ·rfl
 ·exact absurd (by rw[d]) (e i k hi a)
def pE(G:List (ByteArray×List UInt8))(F:ByteArray->Option ByteArray):Prop:=∀p∈G,∀t,F p.1=some t->t=⟨p.2.toArray⟩
theorem mJ{a:List (ByteArray×List UInt8)}{F:ByteArray->Option ByteArray}(g:wU a)(f:pE a F){d:ByteArray}{b:List UInt8}(h:(d,b)∈a):pE a (jV F d ⟨b.toArray⟩):=λp hp t ht=>by
 unfold jV at ht
 split at ht
 ·rename_i e;rw[g p hp (d,b) h e]
  cases ht;rfl
 ·exact f p hp t ht
theorem OE{cs:List aG}{c:bw}{rows:List (List ai)}(a:wU (dq cs c rows)):pE (dq cs c rows) (f14 ⟨(gV cs c).toArray⟩ ⟨(le rows.length 4).toArray⟩ true true):=by
 rw[<-Ds _ _ true false,<-Dq _ _ false false];refine mJ a (mJ a (λp _ t ht=>?_) ?_) ?_
 ·unfold f14 at ht;split at ht<;>simp at ht
 ·unfold dq o8;simp
 ·unfold dq o9;simp
theorem vF{cs:List aG}{c:bw}{rows:List (List ai)}{j:Nat}(b:j<cs.length){p:ByteArray×List UInt8}(a:p∈fD cs c rows j):p∈dq cs c rows:=by
 unfold dq;exact List.mem_append_left _ (List.mem_append_right _ (List.mem_flatMap.2 ⟨j,List.mem_range.2 b,a⟩))
theorem MC{cs:List aG}{c:bw}{rows:List (List ai)}{j:Nat}(a:j<cs.length)(b:bR cs (j:Int)=false):((⟨#[109,101,116,114,105,99]⟩:ByteArray)++ec j,fZ (cC (bD rows j)))∈dq cs c rows:=by
 refine vF a ?_;unfold fD;rw[b,BH];simp
theorem ME{cs:List aG}{c:bw}{rows:List (List ai)}{j:Nat}(a:j<cs.length)(b:bR cs (j:Int)=true):((⟨#[100,105,99,116]⟩:ByteArray)++ec j,iP (dp (cs.getD j default)) (aQ (bD rows j)))∈dq cs c rows:=by
 refine vF a ?_;unfold fD jE;rw[b];simp[fF,mB,ec]
theorem MD{cs:List aG}{c:bw}{rows:List (List ai)}{j:Nat}(a:j<cs.length)(b:bR cs (j:Int)=true):((⟨#[102,111,114,119,97,114,100]⟩:ByteArray)++ec j,jl rows.length (aQ (bD rows j)).length (cM (aQ (bD rows j)).length) (fl (bF (bD rows j)) (cM (aQ (bD rows j)).length)))∈dq cs c rows:=by
 refine vF a ?_;unfold fD jE;rw[b];simp[fF,mA,ec]
theorem MB{cs:List aG}{c:bw}{rows:List (List ai)}(h:c.split≠[]):((⟨#[115,116,97,114]⟩:ByteArray),iJ cs c rows)∈dq cs c rows:=by
 unfold dq;rw[if_neg h];simp
theorem J5{W:World}{base:Nat}{e:TypeId}{v:Value}{xs:List Nat}(h:ah W base e 1 dD v xs):ah W base e 1 bM v (xs.map λx:Nat=>(x:Int)):=by
 unfold ah at h|-;rw[ld,List.flatMap_map];exact h
theorem zl{W:World}{q n g:Nat}{F:ByteArray->Option ByteArray}{f:TypeId}{h:List Value}(a:ak W g f h)(d:dW W q n F):g≠q:=λe=>by
 obtain⟨k,j,b⟩:=d.map;subst e;unfold ak at a;rw[a]at b
 cases b
theorem oQ{W:World}{base q n:Nat}{F:ByteArray->Option ByteArray}{a:Type}{k:Nat}{e:TypeId}{enc:a->List Value}{v:Value}{xs:List a}(f:ah W base e k enc v xs)(j:dW W q n F):v.ownBlock≠some q:=by
 obtain⟨o,m,l⟩:=j.map;intro b
 rcases f.2 with⟨rfl,_⟩ | ⟨g,r,p,rfl,_,d,_⟩
 ·cases b
 ·have h:g=q:=by simpa[Value.ownBlock]using b
  subst h;rw[l]at d
  cases d
theorem dW.turn{W W':World}{q n:Nat}{F:ByteArray->Option ByteArray}{S:List Nat}(a:dW W q n F)(k:ag W W' S)(h:q∉S):dW W' q n F:=by
 obtain⟨b,⟨f,d,j,e⟩,g⟩:=a.ex;exact⟨b,⟨f,d,(k.block q a.lt h).trans j,e⟩,g⟩
theorem Sl.off_row{W W':World}{g k c:Nat}{o:TypeId}{h:List Value}{j:Type}{enc:j->List Value}{A:Option Addr}{xs:List j}(f:ak W g o h)(a:Sl W k enc A c xs)(w:∀x,∃u,(enc x)[0]? =some u/\u∉h)(p:ag W W' [g]):Sl W' k enc A c xs:=by
 rcases hx:xs with _ | ⟨x,l⟩
 ·exact Sl.nil_ _ a.big
 ·rw[<-hx];refine a.turn p λb off e=>?_;obtain⟨z,y,m,v⟩:=a.at_ 0 (by rw[hx];simp);rw[e]at m
  cases m
  obtain⟨u,s,r⟩:=w (xs[0]'(by rw[hx];simp));have d:=v 0 u s;simp only[ln,lL,or_false];intro t;subst t;unfold World.cell? at d;unfold ak at f;simp only[f,Lf,lE,List.getElem?_toArray]at d;exact r (List.mem_of_getElem? d)
structure fR(W w0:World)(base q gA nc:Nat)(cs:List aG)(c:bw)(rows:List (List ai))(i n:Nat)(M:Value)(MT AL:List Ir)(F:ByteArray->Option ByteArray):Prop where
 keep:aa w0 W
 qb:w0.heap.size<=q
 ab:w0.heap.size<=gA
 mb:w0.heap.size<=base
 bz:base<=W.heap.size
 mp:dW W q n F
 few:n<=10+2*i
 good:pE (dq cs c rows) F
 ra:ak W gA 24 (AL.map Ir.v)
 la:AL.length=nc
 ia:∀r∈AL,ah W 0 3 1 bM r.v r.xs
 dims:∀j:Nat,j<i->bR cs (j:Int)=true->∃r,AL[j]? =some r/\r.xs=(bF (bD rows j)).map λx:Nat=>(x:Int)
 mt:mS W base M MT
 mr:∀r∈MT,kr W 0 r
 mx:(MT.map λr=>r.xs)=fa cs rows i
section
variable {W W' w0:World} {base q gA nc:Nat} {cs:List aG} {c:bw} {rows:List (List ai)} {i n:Nat} {M:Value} {MT AL:List Ir} {F F':ByteArray->Option ByteArray}
theorem fR.keep_(a:fR W w0 base q gA nc cs c rows i n M MT AL F)(b:aa W W'):fR W' w0 base q gA nc cs c rows i n M MT AL F :=
 { a with keep:=a.keep.trans b,bz:=lk a.bz b.size,mp:=a.mp.keep b,ra:=a.ra.keep b,ia:=λr hr=>(a.ia r hr).keep b,mt:=a.mt.keep b,mr:=λr hr=>(a.mr r hr).keep b }
theorem fR.put(a:fR W w0 base q gA nc cs c rows i n M MT AL F){d:Nat}(e:dW W' q d F')(g:d<=10+2*i)(f:pE (dq cs c rows) F')(b:ag W W' [q]):fR W' w0 base q gA nc cs c rows i d M MT AL F' :=
 { a with
   keep:=b.after a.keep λj hj=>by simp only[ln,lL,or_false]at hj;rw[hj];exact a.qb
   bz:=lk a.bz b.size
   mp:=e
   few:=g
   good:=f
   ra:=b.row a.ra (by simpa using zl a.ra a.mp)
   ia:=λr hr=>(a.ia r hr).turn b λj hj=>by simp only[ln,lL,or_false]at hj;rw[hj];exact oQ (a.ia r hr) a.mp
   mt:=a.mt.turn b λj hj=>by simp only[ln,lL,or_false]at hj;rw[hj];exact oQ a.mt a.mp
   mr:=λr hr=>(a.mr r hr).turn b λj hj=>by simp only[ln,lL,or_false]at hj;rw[hj];exact oQ (a.mr r hr) a.mp }
theorem fR.set(a:fR W w0 base q gA nc cs c rows i n M MT AL F)(o:bR cs (i:Int)=true)(hi:i<nc)(r:Ir)(s:ah W 0 3 1 bM r.v r.xs)(p:r.xs=(bF (bD rows i)).map λx:Nat=>(x:Int)) :
 fR (W.setCell ⟨gA,i,none⟩ r.v) w0 base q gA nc cs c rows (i+1) n M MT (AL.set i r) F:=by
 have g:ag W (W.setCell ⟨gA,i,none⟩ r.v) [gA]:=ag.set W _ _;have f:∀{T:TypeId} {α:Type} {k b:Nat} {enc:α->List Value} {v:Value} {xs:List α},ah W b T k enc v xs->T≠24->ah (W.setCell ⟨gA,i,none⟩ r.v) b T k enc v xs:=λho hT=>ho.turn g λj hj=>by
  simp only[ln,lL,or_false]at hj;rw[hj];exact bu ho a.ra (Ne.symm hT)
 refine { a with
  keep:=g.after a.keep λj hj=>by simp only[ln,lL,or_false]at hj;rw[hj];exact a.ab
  bz:=lk a.bz g.size
  mp:=a.mp.turn g (by have:=zl a.ra a.mp;simpa using Ne.symm this)
  few:=by have:=a.few;omega
  ra:=by rw[List.map_set];exact a.ra.set i r.v
  la:=by rw[Li];exact a.la
  ia:=λd hr'=>by
   rcases List.mem_or_eq_of_mem_set hr' with h|rfl
   ·exact f (a.ia d h) dC
   ·exact f s dC
  dims:=λj hj hdj=>?_
  mt:=f a.mt dC
  mr:=λd hr'=>f (a.mr d hr') dC
  mx:=by rw[a.mx,vD i o] }
 rcases L8 j i with l|l
 ·obtain⟨d,h,m⟩:=a.dims j l hdj;exact⟨d,by rw[List.getElem?_set_ne oM];exact h,m⟩
 ·have e:j=i:=oM;subst e;exact⟨r,by rw[List.getElem?_set_self (by rw[a.la];exact hi)],p⟩
theorem fR.met(a:fR W w0 base q gA nc cs c rows i n M MT AL F)(l:bR cs (i:Int)=false)(r:Ir)(s:kr W 0 r)(o:r.xs=cC (bD rows i)){h:Value}(m:mS W' base h (MT++[r]))(p:W.grownBy W' M.ownBlock) :
 fR W' w0 base q gA nc cs c rows (i+1) n h (MT++[r]) AL F:=by
 have f:=ag.of_grown p;have g:∀{T:TypeId} {α:Type} {k b:Nat} {enc:α->List Value} {v:Value} {xs:List α},ah W b T k enc v xs->T≠54->ah W' b T k enc v xs:=λho hT=>ho.turn f λj hj=>cN a.mt ho (Ne.symm hT) j (by simpa using hj);exact { a with
  keep:=f.after a.keep λj hj=>by have:=(a.mt.lt j (by simpa using hj)).1;have:=a.mb;omega
  bz:=lk a.bz f.size
  mp:=a.mp.turn f (by have:=oQ a.mt a.mp;simpa using this)
  few:=by have:=a.few;omega
  ra:=f.row a.ra (λhj=>bu a.mt a.ra dC (by simpa using hj))
  ia:=λr' hr'=>g (a.ia r' hr') dC
  dims:=λj hj hdj=>a.dims j (by
   rcases L8 j i with d|d
   ·exact d
   ·have e:j=i:=oM;subst e;rw[l]at hdj;cases hdj) hdj
  mt:=m
  mr:=λr' hr'=>by
   rcases lx.1 hr' with d|d
   ·exact g (a.mr r' d) dC
   ·rw[lm.1 d];exact g s dC
  mx:=by rw[lz,a.mx,vA i l,<-o];rfl }
end
open Go.Star
section
variable {W W' w0:World} {base q gA nc:Nat} {cs:List aG} {c:bw} {rows:List (List ai)} {i n:Nat} {M:Value} {MT AL:List Ir} {F F':ByteArray->Option ByteArray}
theorem fR.split(l:fR W w0 base q gA nc cs c rows nc n M MT AL F)(C:nc=cs.length)(y:Fits cs c)(f:rows.length<=64) :
 ∃b:List Ir,b.length=c.split.length/\(∀j (a:j<c.split.length) (v:j<b.length),∃p:Nat,c.split[j]=(p:Int)/\p<nc/\AL[p]? =some b[j])/\b.map (λr=>r.xs)=iu c rows/\ge W b/\∀r∈b,r.xs.length=rows.length:=by
 have u:∀p:Nat,(bD rows p).length=rows.length:=λp=>by simp[bD]
 obtain⟨b,o,g⟩:=uU (λ(x:Int) (r:Ir)=>∃p:Nat,x=(p:Int)/\p<nc/\AL[p]? =some r/\Sl W 1 bM r.A r.c r.xs/\r.xs=(bF (bD rows p)).map λx:Nat=>(x:Int)) c.split λx hx=>by
  obtain⟨j,a,rfl⟩:=lU hx;have k:=y.split j a;obtain⟨z,h⟩:=nR k;obtain⟨p,m⟩:=Int.eq_ofNat_of_zero_le z;rw[m]at k;have t:p<nc:=oM;obtain⟨r,d,s⟩:=l.dims p t k;have D:r.xs.length=rows.length:=by rw[s,ld,<-u p];simp[bF]
  exact⟨r,p,m,t,d,jZ (n:=r.xs.length) (l.ia r (List.mem_of_getElem? d)) ea oM,s⟩
 refine⟨b,o,λj a v=>?_,?_,λr f=>?_,λr f=>?_⟩
 ·obtain⟨p,e,h,d,_,_⟩:=g j a v;exact⟨p,e,h,d⟩
 ·apply List.ext_getElem
  ·simp[iu,o]
  ·intro j h d;have a:j<b.length:=(by simpa using h);obtain⟨p,e,_,_,_,B⟩:=g j oM a;simp only[Lj,iu,B,e,Lz]
 ·obtain⟨j,a,rfl⟩:=lU f;obtain⟨p,_,_,_,w,_⟩:=g j oM a;exact w
 ·obtain⟨j,a,rfl⟩:=lU f;obtain⟨p,_,_,_,_,e⟩:=g j oM a;rw[e,ld,bF,ld,u p]
theorem fR.star(k:fR W w0 base q gA nc cs c rows nc n M MT AL F)(S:nc=cs.length)(t:Fits cs c)(b:rows.length<=64)(a4:nc<=256){a:List Ir}(J:a.length=c.split.length)(L:a.map (λr=>r.xs)=iu c rows)(Z:ge W a)(a0:∀r∈a,r.xs.length=rows.length)(K:c.split≠[]){leaf:Nat}(E:c.leaf=(leaf:Int)){o C:Option Addr}{l w:Nat}(a1:M=.slice C MT.length w)(h:aa W W')(X:Sl W' 1 Ir.cells o l a) :
 Calls prog 23 #[.slice o a.length l,.slice C MT.length w,.int .i64 leaf] W' λe m=>∃d:Nat,e=.returned (.pointer (some ⟨d,0,none⟩))/\aa W' m /\
  ∀w2,aa m w2->Calls prog 24 #[.pointer (some ⟨d,0,none⟩),.int .i64 MT.length] w2 λe w3=>∃v,e=.returned v/\aE w3 w2.heap.size v (iJ cs c rows)/\aa w2 w3:=by
 have s:=k.mx;have D:MT.length<=256:=by
  have f:=congrArg List.length s;rw[ld]at f;unfold fa at f;rw[ld]at f;have Q:=List.length_filter_le (λj:Nat=>!bR cs (j:Int)) (List.range nc);rw[LB]at Q;omega
 have A:∀r∈MT,r.xs.length=rows.length:=λr b=>by
  have f:r.xs∈fa cs rows nc:=by rw[<-s];exact Le b
  exact BG f
 have H:=jZ (n:=MT.length) (by rw[<-a1];exact k.mt.keep h) mI oM;have G:ge W' MT:=λr b=>jZ (n:=r.xs.length) ((k.mr r b).keep h) ea (by have a5:=A r b;omega);have a2:=LJ.2 K;have a3:=t.few;have u:1<=leaf:=by have:=t.lo;omega
 have I:leaf<=1000000:=by have:=t.hi;omega
 have g:a.length<=8:=oM;have O:=yo L (by rw[<-S];exact s) E (R:=rows.length) rfl J.symm;have x:=sR leaf a.length u g (bN (bV a MT rows.length)) (lk (qX b) dC);have z:=C4 leaf a.length u g (bN (bV a MT rows.length)) (qX b);refine(KV o C l w leaf rows.length a MT W' X (Z.keep h) H G oM g D a0 A u I oM).mono ?_;rintro e m ⟨d,T,V,P,N,rfl,Y,B,y,U⟩;refine⟨d,rfl,U,λw2 hk2=>?_⟩;rw[<-O,<-B,<-y];rw[<-B,<-y,ld,ld]at x;rw[<-y]at z;exact P5 d _ a.length MT.length leaf T V P N w2 (Y.keep hk2) g D x.1 x.2 λp hp=>z p.2 (Le hp)
end
theorem BV{W:World}{cs:List aG}{c:bw}{rows:List (List ai)}{F:ByteArray->Option ByteArray}{e:List bI}{q n:Nat}(j:dW W q n F)(m:e.map cI=dq cs c rows)(k:pE (dq cs c rows) F){a:bI}(f:a∈e)(h:a.name.size<=1000000) :
 ∃(v:ByteArray) (b:Bool),(Instr.lookup 48 (.map (some q)) (.string a.name) true).run prog W=.ok (.tuple #[dY v,.bool b]) W/\(b=true->v=⟨a.bs.toArray⟩):=by
 obtain⟨v,l,g⟩:=LP j a.name h;refine⟨v,_,l,λhb=>?_⟩;obtain⟨t,d⟩:=Option.isSome_iff_exists.1 hb;rw[g t d];exact k (cI a) (m▸Le f) t d
end Go.Proofs.YtpkocnpamcchcaaGreatDoor
