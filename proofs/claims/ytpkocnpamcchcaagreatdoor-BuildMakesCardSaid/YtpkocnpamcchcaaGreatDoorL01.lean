/- Parts. -/
import Derived.StillTail
import Derived.Below
import Derived.Deep.Draws
import Derived.Lib.Strings
import Derived.Test.YtpkocnpamcchcaaGreatDoorProg
import Derived.Test.YtpkocnpamcchcaaGreatDoorL00
set_option maxRecDepth 100000
set_option maxHeartbeats 40000000
set_option linter.all false
namespace Go.Zone
open Go.RowKit
theorem ae{p:Prop}(h:Hid p):p:=h
theorem ar{p:Prop}(h:p):Hid p:=h
def aa(W W':World):Prop:=Below W.heap.size W W'
theorem aL(W:World):aa W W<->True:=⟨λ_=>trivial,λ_=>Below.refl _ _⟩
theorem aa.refl(W:World):aa W W:=Below.refl _ _
theorem aa.trans{a b c:World}(h:aa a b)(k:aa b c):aa a c:=Below.trans h (Below.mono k h.size)
abbrev dQ:=Value->World->Prop
def ku(b:dQ):Prop:=∀v W W',aa W W'->b v W->b v W'
def aI(P:Program)(W:World)(b:dQ):Result Next->Prop
 | .ok (.value u) W'=>b u W'/\aa W W'
 | .ok .skip W'=>b undef W'/\aa W W'
 | .ok (.enter f args) W'=>Calls P f args W' λe w''=>∃u,e=.returned u/\b u w''/\aa W w''
 | _=>False
def av(P:Program)(o:Oper)(b:Act)(W:World)(c:dQ):Prop:=aI P W c ((execOp b.eval o).run P W)
abbrev dU:=Tmp->dQ
def upd(A:dU)(d:Option Tmp)(b:dQ):dU:=λt=>if d=some t then b else A t
section
variable {P:Program} {ops:Array Oper} {md:Region.Mode} {B:Nat} {w0:World} {m:Nat} {df:List Deferred}
def nA(A:dU)(m:Nat)(b:Act)(W:World):Prop:=∀t:Nat,t<m->A t (b.tmps.getD t undef) W
def nk(P:Program)(ops:Array Oper)(w0:World)(m:Nat)(df:List Deferred)(A:dU)(o:Oper)(c:dQ):Prop :=
 ku c/\∀(b:Act) (W:World),b.defers=df->b.tmps.size=m->Below w0.heap.size w0 W->(∀t∈o.looksAt ops,t<m->A t (b.tmps.getD t undef) W) ->
  if Region.wanted o (yielded ops b.tmps) then av P o b W c else c undef W
theorem rz{A e:dU}{o:Oper}{c:dQ}(d:nk P ops w0 m df A o c)(g:∀t∈o.looksAt ops,e t=A t):nk P ops w0 m df e o c :=
 ⟨d.1,λb W hd hm hW hs=>d.2 b W hd hm hW λt ht htm=>by rw[<-g t ht];exact hs t ht htm⟩
theorem xB(A:dU){x y:Option Tmp}(b c:dQ)(h:∀d,x=some d->y≠some d):upd (upd A x b) y c=upd (upd A y c) x b:=by
 funext t
 unfold upd
 by_cases e:x=some t<;>by_cases g:y=some t<;>simp[e,g]
 exact absurd g (h t e)
theorem qU(A:dU){x:Option Tmp}(b:dQ){l:List Tmp}(c:∀d,x=some d->d∉l):∀t∈l,upd A x b t=A t:=λt ht=>by
 unfold upd;rw[if_neg (λe=>c t e ht)]
def od(P:Program)(ops:Array Oper)(w0:World)(m:Nat)(df:List Deferred)(Q:dU->Prop):List Oper->dU->Prop
 | [],A=>Q A
 | o::rest,A=>∃Ψ,nk P ops w0 m df A o Ψ/\od P ops w0 m df Q rest (upd A o.dst Ψ)
def k9(P:Program)(md:Region.Mode)(ops:Array Oper)(w0:World)(m:Nat)(df:List Deferred)(n:Nat)(L:Array Bool->dU->Prop):Nat->Array Bool->dU->Prop
 | 0,listed,A=>L listed A
 | f+1,listed,A =>
   Region.ready md ops listed≠[]/\∀i∈Region.ready md ops listed,i<n/\∃o Ψ,ops[i]? =some o/\nk P ops w0 m df A o Ψ/\k9 P md ops w0 m df n L f (listed.setIfInBounds i true) (upd A o.dst Ψ)
theorem E5{n i:Nat}{g:Oper}{r:dQ}{F:Array Bool->dU->Prop}(hi:ops[i]? =some g)
 (H:∀b,HeadInv md ops n b->(∃i,i<n/\b.getD i true=false)->∀j∈Region.ready md ops b,j<n) (I:i<n)
 (L:∀b A,F b A->∀j∈Region.ready md ops b,n<=j) :
 ∀(f:Nat) (b:Array Bool) (A:dU),HeadInv md ops n b ->
   (∀j u,ops[j]? =some u->j≠i->b.getD j true=false->(∀e∈u.after,Region.binds md e=true->e.on≠i)->g.apart ops u=true) ->
   i∈Region.ready md ops b->nk P ops w0 m df A g r ->
   k9 P md ops w0 m df n F f (b.setIfInBounds i true) (upd A g.dst r)->k9 P md ops w0 m df n F (f+1) b A:=by
 intro f
 induction f with
 | zero =>
   intro b A inv _ d z s;have l:=(mem_ready.1 d).1;refine⟨λh=>(by rw[h]at d;cases d),λj hj=>?_⟩;have y:j<n:=H b inv ⟨i,I,l⟩ j hj;refine⟨y,?_⟩
   by_cases c:j=i
   ·subst c;exact⟨g,r,hi,z,s⟩
   ·have:=L _ _ s j (ready_mono hj c);omega
 | succ f ih =>
   intro b A inv J d z s;have l:=(mem_ready.1 d).1;refine⟨λh=>(by rw[h]at d;cases d),λj hj=>?_⟩;have y:j<n:=H b inv ⟨i,I,l⟩ j hj;refine⟨y,?_⟩
   by_cases c:j=i
   ·subst c;exact⟨g,r,hi,z,s⟩
   ·obtain⟨_,u,D,E,O,M⟩:=s.2 j (ready_mono hj c);obtain⟨G,x,T,U⟩:=mem_ready.1 hj;have:x=u:=ls (T.symm.trans E);subst this;have V:∀e∈x.after,Region.binds md e=true->e.on≠i:=λe he hb heq=>by
     have C:=U e he hb;rw[heq,getD_both l]at C
     cases C
    obtain⟨C,R,S⟩:=Oper.apart_spec (J j x E c G V);have N:∀k ok,ops[k]? =some ok->k≠i->(b.setIfInBounds j true).getD k true=false ->
     (∀e∈ok.after,Region.binds md e=true->e.on≠i)->g.apart ops ok=true:=λk ok hk hki l hno=>by
     refine J k ok hk hki ?_ hno
     by_cases K:j=k
     ·subst K;exact G
     ·rw[getD_set_ne true K]at l;exact l
    refine⟨x,D,E,rz O (λt ht=>(qU A r C t ht).symm),?_⟩;refine ih (b.setIfInBounds j true) _ (inv.set hj y) N (ready_mono d (Ne.symm c)) (rz z (qU A D S)) ?_;rw[Array.setIfInBounds_comm _ _ c,<-xB A r D R];exact M
theorem xo{n g:Nat}{s:dU->Prop}(e:∀b,HeadInv md ops n b->(∃i,i<n/\b.getD i true=false)->∀j∈Region.ready md ops b,j<n) :
 ∀(l:List Oper) (k:Nat) (b:Array Bool) (A:dU),(∀j,j<l.length->l[j]? =ops[k+j]?)->k+l.length=n->HeadInv md ops n b ->
 Region.lexHead md ops g l.length k b=true->od P ops w0 m df s l A ->
 k9 P md ops w0 m df n (λlisted' A'=>Region.seqB md ops g n listed'=true/\s A') l.length b A
 | [],k,b,A,_,hk,_,hB,h=>by
   have:k=n:=(by simpa using hk);subst this;exact⟨by simpa[Region.lexHead]using hB,h⟩
 | o::l,k,b,A,hl,hk,inv,hB,h=>by
   have c:ops[k]? =some o:=(by simpa using (hl 0 sP).symm);simp only[lw,Region.lexHead,L6]at hB;obtain⟨⟨z,y⟩,t⟩:=hB;have d:k<n:=(by simp only[lw]at hk;omega);have r:k∈Region.ready md ops b:=(by simpa using z);obtain⟨C,x,u⟩:=h;exact E5 c e d (λlisted' A' hL=>seqB_ready hL.1) l.length b A inv (Region.free_spec c y) r x
     (xo e l (k+1) _ _ (λj hj=>by have:=hl (j+1) sO;simpa[Nat.add_assoc,Nat.add_comm 1 j]using this) (by simp only[lw]at hk;omega) (inv.set r d) t u)
def qN(A:dU):Prop:=∀t,ku (A t)
theorem qw(b:Act)(d:Option Tmp)(u:Value)(t:Nat)(h:t<b.tmps.size):(b.put d u).tmps.getD t undef=if d=some t then u else b.tmps.getD t undef:=by
 cases d with
 | none=>simp[Act.put]
 | some d =>
   by_cases c:d=t
   ·subst c;simp[Act.put,h]
   ·have g:¬(some d=some t):=λe=>c (ls e);simp[Act.put,g,Array.getElem?_setIfInBounds_ne c]
theorem fN(b:Act)(d:Option Tmp)(u:Value):(b.put d u).tmps.size=b.tmps.size:=by cases d<;>simp[Act.put]
theorem jc(b:Act)(d:Option Tmp)(u:Value):(b.put d u).defers=b.defers:=by cases d<;>simp[Act.put]
theorem Ih{A:dU}{b:Act}{W W':World}{d:Option Tmp}{u:Value}{c:dQ}(i:qN A)(e:nA A m b W)(j:b.tmps.size=m)(h:Below W.heap.size W W')(g:c u W') :
 nA (upd A d c) m (b.put d u) W':=λt ht=>by
 rw[qw b d u t oM];unfold upd
 split
 ·exact g
 ·exact i t _ _ _ h (e t ht)
theorem En{W W':World}(h:Below w0.heap.size w0 W)(k:Below W.heap.size W W'):Below w0.heap.size w0 W':=h.trans (k.mono h.size)
theorem tX{n g:Nat}{s:Array Bool->dU->Prop}{Q':Exit->Act->World->Prop}
 (l:∀d A b W,s d A->b.defers=df->b.tmps.size=m->Below w0.heap.size w0 W->nA A m b W->wpAny P md ops Q' g d b W) :
 ∀(f:Nat) (d:Array Bool) (A:dU),qN A->k9 P md ops w0 m df n s f d A->∀b W,b.defers=df->b.tmps.size=m->Below w0.heap.size w0 W->nA A m b W->wpAny P md ops Q' (f+g) d b W
 | 0,d,A,_,h,b,W,hd,hm,hW,hs=>by rw[lS];exact l _ _ _ _ h hd hm hW hs
 | f+1,d,A,hA,h,b,W,hd,hm,hW,hs=>by
   rw[show f+1+g=(f+g)+1 from oM];refine⟨λh0=>absurd h0 h.1,λi hi=>?_⟩;obtain⟨_,o,j,C,⟨E,z⟩,y⟩:=h.2 i hi;have c:=z b W hd hm hW (λt _ htm=>hs t htm);have D:qN (upd A o.dst j):=λt=>by
    unfold upd
    split
    ·exact E
    ·exact hA t
   have go:∀u W',j u W'->Below W.heap.size W W'->wpAny P md ops Q' (f+g) (d.setIfInBounds i true) (b.put o.dst u) W':=λu W' hu hb =>
    tX l f _ _ D y _ _ (by rw[jc,hd]) (by rw[fN,hm]) (En hW hb) (Ih hA hs hm hb hu)
   unfold wpOp;simp only[C]
   split
   ·rename_i hw;rw[if_pos hw]at c;refine .inl ?_;unfold av at c;unfold Oper.wp;generalize (execOp b.eval o).run P W=r at *
    cases r with
    | ok nx w' =>
      cases nx<;>simp only[aI]at c<;>simp only[Oper.upon]
      case value u=>exact go u w' c.1 c.2
      case skip=>exact go undef w' c.1 c.2
      case enter f args =>
       refine c.mono λe w'' ⟨u,he,hu,hb⟩=>?_;subst he;exact go u w'' hu hb
    | halt x w'=>simp only[aI]at c
   ·rename_i hw;rw[if_neg hw]at c;exact go undef W c (Below.refl _ _)
def kw(ops:Array Oper)(n:Nat):Bool :=
 (decide (n=ops.size)||(decide (n<ops.size)&&Region.sinkB .any ops n&&Region.chainB .any ops n))&&Region.lexHead .any ops (ops.size-n) n 0 (Array.replicate ops.size false)
theorem Ov{n:Nat}(b:(decide (n=ops.size)||(decide (n<ops.size)&&Region.sinkB md ops n&&Region.chainB md ops n))=true)(c:Array Bool)(inv:HeadInv md ops n c)
 (l:∃i,i<n/\c.getD i true=false):∀j∈Region.ready md ops c,j<n:=λj hj=>by
 simp only[Bool.or_eq_true,L6,decide_eq_true_eq]at b
 rcases b with b | ⟨⟨r,e⟩,h⟩
 ·obtain⟨_,o,g,_⟩:=mem_ready.1 hj;have:=(La.1 g).1;omega
 ·obtain⟨i,hi,d⟩:=l
  rcases L8 j n with b|b
  ·exact b
  ·exact absurd hj (tail_waits e h r inv _ i rfl hi d j b)
theorem EV{D:Nat}{Q:Exit->Act->World->Prop}{a:Act}{w c:World}(e:aa w c){l:List Oper}(n:Nat)(r:P.follows .mixedOrders=true)(s:kw l.toArray n=true)(I:n<=l.length)
 {A:dU} (z:qN A) (E:∀d,nA A a.tmps.size a { c with drawn:=d })
 (h:od P l.toArray w a.tmps.size a.defers (λA=>∀b W,b.defers=a.defers->b.tmps.size=a.tmps.size->Below w.heap.size w W->nA A a.tmps.size b W->wpList P l.toArray Q (l.drop n) b W) (l.take n) A):(Code.region D l.toArray true).wp P Q a c:=by
 simp only[kw,L6]at s;obtain⟨C,y⟩:=s;have i:(l.take n).length=n:=sO;have u:(l.drop n).length=l.toArray.size-n:=sP;have x:HeadInv .any l.toArray n (Array.replicate l.toArray.size false) :=
  ⟨sP,λj oj _ hl=>(by rw[getD_replicate_false]at hl;cases hl),λt _ ht=>getD_in (by simpa using ht) (getD_replicate_false _ _)⟩
 have G:=xo (md:=.any) (g:=l.toArray.size-n) (Ov C) (l.take n) 0 _ A (λj hj=>by
  have H:j<n:=by rw[i]at hj;exact hj
  simp[H]) (by simpa using i) x (by rw[i];exact y) h
 refine wp_region_any r ?_;have F:Below w.heap.size w { c with drawn:=c.drawn+1 }:=⟨e.os,e.tape,e.output,e.size,e.block⟩;have:=tX (Q':=Q) (g:=l.toArray.size-n) (λlisted A' b W hL hd r hW hs=>by
  have:=wpAny_of_seq (md:=.any) (Q':=Q) (l.drop n) n listed b W (λj=>by simp[List.getElem?_drop]) (by rw[u];exact hL.1) (hL.2 b W hd r hW hs)
  rwa [u]at this) _ _ _ z G a { c with drawn:=c.drawn+1 } rfl rfl F (E _)
 rw[i,show n+(l.toArray.size-n)=l.toArray.size from sO]at this;exact this
end
theorem aK{a b:Nat}(c:Nat)(h:a<b):(a<b+c)=True:=eq_true (Nat.lt_add_right c h)
structure GB where
 d:Nat
 os:Array Obj
 deriving Inhabited
def _root_.Go.World.gro(w:World)(p:GB):World:={ w with heap:=w.heap++p.os,drawn:=p.d }
section
variable (w:World) (p q:GB) (a:Addr) (k:Nat)
theorem ce:Below w.heap.size w (w.gro p):=⟨rfl,rfl,rfl,by simp[World.gro],λk hk=>by simp[World.gro,Array.getElem?_append,hk]⟩
theorem dt{W:World}(b:Below w.heap.size w W):∃p:GB,W=w.gro p:=by
 refine⟨⟨W.drawn,W.heap.extract w.heap.size W.heap.size⟩,?_⟩;obtain⟨j,l,drawn,os,n⟩:=W;have g:=b.os;have c:=b.tape;have d:=b.output;have h:=b.size;have e:=b.block;simp only at g c d h e;unfold World.gro;simp only[World.mk.injEq];refine⟨?_,c,trivial,g,d⟩;apply Array.ext_getElem?;intro i;rw[Array.getElem?_append]
 split
 ·rename_i hi;exact e i hi
 ·rename_i hi;simp only[Array.getElem?_extract]
  split
  ·congr 1;omega
  ·rename_i h6;exact Array.getElem?_eq_none oM
theorem az:(w.gro p).heap.size=w.heap.size+p.os.size:=by simp[World.gro]
theorem aH(h:a.block<w.heap.size):(w.gro p).cell? a=w.cell? a:=(ce w p).cell h
theorem aM(h:a.block<w.heap.size):(w.gro p).frozen? a=w.frozen? a:=(ce w p).frozen h
theorem ez{W:World}(h:aa (w.gro p) W):∃q:GB,W=w.gro q:=dt w (En (ce w p) h)
theorem aN:(w.gro p).drew=w.gro ⟨p.d+1,p.os⟩:=rfl
theorem aJ:(w.gro p).tape=w.tape:=rfl
end
abbrev dR:=List (Tmp×dQ)
def slot(a:Act)(fs:dR):dU:=λt v W=>(∀Φ,(t,Φ)∈fs->Φ v W)/\((∀Φ,(t,Φ)∉fs)->v=a.tmps.getD t undef)
def aj(W:World):dR->Act->(Act->Prop)->Prop
 | [],a,G=>G a
 | (t,Φ)::fs,a,G=>∀v,Φ v W->aj W fs (a.put (some t) v) G
def aC(ops:Array Oper)(o:Oper)(fs:dR):dR:=fs.filter λx=>(o.looksAt ops).contains x.1
def aF(d:Option Tmp)(fs:dR):dR:=fs.filter λx=>d != some x.1
def au(P:Program)(ops:Array Oper)(w:World)(o:Oper)(a:Act)(fs:dR)(c:dQ):Prop :=
 ∀p:GB,aj (w.gro p) (aC ops o fs) a λb=>if Region.wanted o (yielded ops b.tmps) then av P o b (w.gro p) c else c undef (w.gro p)
def aw(P:Program)(ops:Array Oper)(w:World)(o:Oper)(a:Act)(fs:dR)(K:Act->dR->Prop):Prop :=
 ∃u,au P ops w o a fs (λv _=>v=u)/\K (a.put o.dst u) (aF o.dst fs)
def fU(P:Program)(ops:Array Oper)(w:World)(Q:Act->dR->Prop):List Oper->Act->dR->Prop
 | [],a,fs=>Q a fs
 | o::rest,a,fs=>aw P ops w o a fs (fU P ops w Q rest)\/∃d Ψ,o.dst=some d/\ku Ψ/\au P ops w o a fs Ψ/\fU P ops w Q rest (a.put (some d) undef) ((d,Ψ)::aF (some d) fs)
def putAll:dR->Act->Act->Act
 | [],a,_=>a
 | (t,_)::fs,a,b=>putAll fs (a.put (some t) (b.tmps.getD t undef)) b
theorem sY{W:World}{G:Act->Prop}{b:Act}:∀{fs:dR} {a:Act},aj W fs a G->(∀t Φ,(t,Φ)∈fs->Φ (b.tmps.getD t undef) W)->G (putAll fs a b)
 | [],_,h,_=>h
 | (t,Φ)::fs,a,h,hb=>sY (fs:=fs) (h _ (hb t Φ sP)) λt' Φ' hm=>hb t' Φ' (by simp[hm])
theorem rY(b:Act):∀(fs:dR) (a:Act),(putAll fs a b).tmps.size=a.tmps.size
 | [],_=>rfl
 | (t,_)::fs,a=>by rw[putAll,rY b fs,fN]
theorem uT(b:Act):∀(fs:dR) (a:Act),(putAll fs a b).defers=a.defers
 | [],_=>rfl
 | (t,_)::fs,a=>by rw[putAll,uT b fs,jc]
theorem rZ(b:Act)(t:Nat):∀(fs:dR) (a:Act),t<a.tmps.size->((∃Φ,(t,Φ)∈fs)->(putAll fs a b).tmps.getD t undef=b.tmps.getD t undef) /\
 ((∀Φ,(t,Φ)∉fs)->(putAll fs a b).tmps.getD t undef=a.tmps.getD t undef)
 | [],a,_=>⟨λ⟨_,c⟩=>absurd c sP,λ_=>rfl⟩
 | (t',Φ')::fs,a,ht=>by
   have d:=rZ b t fs (a.put (some t') (b.tmps.getD t' undef)) (by rw[fN];exact ht);have g:=qw a (some t') (b.tmps.getD t' undef) t ht;refine⟨λ⟨Φ,c⟩=>?_,λc=>?_⟩
   ·by_cases h:∃Φ,(t,Φ)∈fs
    ·exact d.1 h
    ·have i:∀Φ,(t,Φ)∉fs:=λΦ hm=>h ⟨Φ,hm⟩;have:t=t':=by
      rcases ln.1 c with c|c
      ·exact(Prod.mk.inj c).1
      ·exact absurd c (i Φ)
     subst this;rw[putAll,d.2 i,g,if_pos rfl]
   ·have l:∀Φ,(t,Φ)∉fs:=λΦ hm=>c Φ (Lm _ hm);have j:¬(some t'=some t):=λe=>c Φ' (by rw[ls e];exact Lt);rw[putAll,d.2 l,g,if_neg j]
theorem O0{b:Act}{t:Nat}(d:b.tmps.size<=t){c:Act}(e:c.tmps.size=b.tmps.size):b.eval (.tmp t)=c.eval (.tmp t):=by
 simp[Act.eval,Array.getElem?_eq_none d,Array.getElem?_eq_none (e▸d)]
theorem OZ{b c:Act}{t:Nat}(e:c.tmps.size=b.tmps.size)(g:t<b.tmps.size->b.tmps.getD t undef=c.tmps.getD t undef):b.eval (.tmp t)=c.eval (.tmp t):=by
 rcases L8 t b.tmps.size with d|d
 ·have:=g d;simp[Act.eval,d,e]at this|-;exact this
 ·exact O0 d e
theorem ym{P:Program}{ops:Array Oper}{w:World}{o:Oper}{a:Act}{fs:dR}{i:dQ}{A:dU}(z:∀cs b,o.op≠.select cs b)(G:ku i)
 (r:∀t:Nat,t<a.tmps.size->∀v W,A t v W->slot a fs t v W) (n:∀(t:Nat) Φ,(t,Φ)∈fs->t<a.tmps.size) (C:au P ops w o a fs i):nk P ops w a.tmps.size a.defers A o i:=by
 refine⟨G,λb W hd hm hW hs=>?_⟩;obtain⟨p,rfl⟩:=dt w hW;have F:∀t Φ,(t,Φ)∈aC ops o fs->Φ (b.tmps.getD t undef) (w.gro p):=λt Φ e=>by
  simp only[aC,List.mem_filter,List.contains_eq_mem,decide_eq_true_eq]at e;exact(r t (n t Φ e.1) _ _ (hs t e.2 (n t Φ e.1))).1 Φ e.1
 have l:=sY (C p) F;generalize u:putAll (aC ops o fs) a b=c at l;have j:c.tmps.size=b.tmps.size:=by rw[<-u,rY,hm]
 have s:∀t:Nat,t∈o.looksAt ops->t<b.tmps.size->b.tmps.getD t undef=c.tmps.getD t undef:=λt ht d=>by
  have h:=rZ b t (aC ops o fs) a oM;rw[u]at h
  by_cases e:∃Φ,(t,Φ)∈aC ops o fs
  ·exact(h.1 e).symm
  ·have y:∀Φ,(t,Φ)∉aC ops o fs:=λΦ hmm=>e ⟨Φ,hmm⟩;rw[h.2 y];refine(r t (hm▸d) _ _ (hs t ht (hm▸d))).2 λΦ hmm=>y Φ ?_;simp only[aC,List.mem_filter,List.contains_eq_mem,decide_eq_true_eq];exact⟨hmm,ht⟩
 have he:execOp b.eval o=execOp c.eval o:=execOp_congr o z λx e=>by
  cases x with
  | tmp t=>exact OZ j λd=>s t (List.mem_append_left _ (List.mem_filterMap.2 ⟨.tmp t,by simpa using e,rfl⟩)) d
  | _=>rfl
 have H:Region.wanted o (yielded ops b.tmps)=Region.wanted o (yielded ops c.tmps):=by
  unfold Region.wanted
  cases h:o.guard with
  | none=>rfl
  | some gw =>
    obtain⟨g,I⟩:=gw;have:yielded ops b.tmps g=yielded ops c.tmps g:=by
     unfold yielded
     cases ht:(ops[g]?).bind (·.dst) with
     | none=>rfl
     | some t =>
       have E:t∈o.looksAt ops:=by simp[Oper.looksAt,h,ht]
       rcases L8 t b.tmps.size with d|d
       ·have:=s t E d;have D:t<c.tmps.size:=j▸d;simp[d,D]at this|-;rw[this]
       ·simp[Array.getElem?_eq_none d,Array.getElem?_eq_none (j▸d)]
    simp only[this]
 unfold av at l|-;rw[he,H];exact l
theorem LU(u:Value):ku λv _=>v=u:=λ_ _ _ _ h=>h
theorem qR{P:Program}{ops:Array Oper}{w:World}{z:Act->dR->Prop}{C:dU->Prop}(m:Nat)(df:List Deferred)
 (x:∀a fs A,z a fs->a.tmps.size=m->a.defers=df->(∀(t:Nat) Φ,(t,Φ)∈fs->t<a.tmps.size)->(∀t:Nat,t<a.tmps.size->∀v W,A t v W->slot a fs t v W)->C A) :
 ∀(l:List Oper),(∀o∈l,∀cs b,o.op≠.select cs b)->(∀o∈l,∀d,o.dst=some d->d<m)->∀(a:Act) (fs:dR) (A:dU),a.tmps.size=m->a.defers=df->(∀(t:Nat) Φ,(t,Φ)∈fs->t<a.tmps.size) ->
   (∀t:Nat,t<a.tmps.size->∀v W,A t v W->slot a fs t v W)->fU P ops w z l a fs->od P ops w m df C l A
 | [],_,_,a,fs,A,hm,hd,hfs,hA,h=>x a fs A h hm hd hfs hA
 | o::l,hs,hds,a,fs,A,hm,hd,hfs,hA,h=>by
   have D:∀o∈l,∀cs b,o.op≠.select cs b:=λo i=>hs o (Lm _ i);have E:∀o∈l,∀d,o.dst=some d->d<m:=λo i=>hds o (Lm _ i);have j:∀t Φ,(t,Φ)∈aF o.dst fs->(t,Φ)∈fs/\o.dst≠some t:=λt Φ c=>by
     simp only[aF,List.mem_filter,bne_iff_ne,ne_eq]at c;exact c
   rcases h with⟨u,y,r⟩ | ⟨d,F,i,H,y,r⟩
   ·refine⟨_,hm▸hd▸ym (hs o Lt) (LU u) hA hfs y,?_⟩;refine qR m df x l D E _ _ _ (by rw[fN,hm]) (by rw[jc,hd]) (λt Φ c=>by rw[fN];exact hfs t Φ (j t Φ c).1) (λt ht v W hv=>?_) r;rw[fN]at ht;unfold slot;rw[qw a o.dst u t ht];unfold upd at hv
    by_cases g:o.dst=some t
    ·rw[if_pos g]at hv|-;exact⟨λΦ c=>absurd g (j t Φ c).2,λ_=>hv⟩
    ·rw[if_neg g]at hv|-;have n:=hA t ht v W hv;refine⟨λΦ c=>n.1 Φ (j t Φ c).1,λc=>n.2 λΦ hmm=>c Φ ?_⟩;simp only[aF,List.mem_filter,bne_iff_ne,ne_eq];exact⟨hmm,g⟩
   ·refine⟨_,hm▸hd▸ym (hs o Lt) H hA hfs y,?_⟩;rw[<-i]at r;have G:d<a.tmps.size:=(by rw[hm];exact hds o Lt d i);refine qR m df x l D E _ _ _ (by rw[fN,hm]) (by rw[jc,hd]) (λt Φ c=>?_) (λt ht v W hv=>?_) r
    ·rw[fN]
     rcases ln.1 c with c|c
     ·rw[(Prod.mk.inj c).1];exact G
     ·exact hfs t Φ (j t Φ c).1
    ·rw[fN]at ht;unfold slot;rw[qw a o.dst undef t ht];unfold upd at hv
     by_cases g:o.dst=some t
     ·rw[if_pos g]at hv|-;have s:t=d:=ls (g.symm.trans i);subst s;refine⟨λΦ c=>?_,λc=>absurd Lt (c F)⟩
      rcases ln.1 c with c|c
      ·rw[(Prod.mk.inj c).2];exact hv
      ·exact absurd g (j t Φ c).2
     ·rw[if_neg g]at hv|-;have n:=hA t ht v W hv;have s:t≠d:=λe=>g (by rw[i,e]);refine⟨λΦ c=>?_,λc=>n.2 λΦ hmm=>c Φ (Lm _ ?_)⟩
      ·rcases ln.1 c with c|c
       ·exact absurd (Prod.mk.inj c).1 s
       ·exact n.1 Φ (j t Φ c).1
      ·simp only[aF,List.mem_filter,bne_iff_ne,ne_eq];exact⟨hmm,g⟩
theorem wT{b c:Act}(g:b.defers=c.defers)(e:c.tmps.size=b.tmps.size)(d:∀t:Nat,t<b.tmps.size->b.tmps.getD t undef=c.tmps.getD t undef):b=c:=by
 obtain⟨r,l⟩:=b;obtain⟨n,s⟩:=c;simp only at g e d;subst g
 congr 1
 apply Array.ext e.symm;intro i h j;have:=d i h
 simpa[h,j]using this
def kV(m:Nat)(l:List Oper):Bool:=l.all λo=>match o.dst with|some d=>decide (d<m)|none=>true
theorem qQ{P:Program}{z:Nat}{Q:Exit->Act->World->Prop}{a:Act}{w h:World}(E:aa w h){l:List Oper}(n:Nat)(D:P.follows .mixedOrders=true)
 (e:(kw l.toArray n&&decide (n<=l.length)&&Region.noSelect l.toArray&&kV a.tmps.size l)=true)
 (u:fU P l.toArray w (λa' fs=>∀p:GB,aj (w.gro p) fs a' λb=>wpList P l.toArray Q (l.drop n) b (w.gro p)) (l.take n) a []):(Code.region z l.toArray true).wp P Q a h:=by
 simp only[L6,decide_eq_true_eq]at e;obtain⟨⟨⟨C,y⟩,s⟩,x⟩:=e;have g:∀o∈l.take n,o∈l:=λo ho=>Lx ho;refine EV E n D C y (A:=slot a []) (λt v W W' _ hv=>?_) (λd t _=>?_) ?_
 ·exact⟨λΦ c=>absurd c sP,λc=>hv.2 c⟩
 ·exact⟨λΦ c=>absurd c sP,λ_=>rfl⟩
 ·refine qR a.tmps.size a.defers (λa' fs A hQ hm' hd' hfs hA b W hbd hbm hW hs=>?_) (l.take n) (λo ho cs b=>?_) (λo ho d hd=>?_) a [] (slot a []) rfl rfl (λt Φ c=>absurd c sP) (λ_ _ _ _ hv=>hv) u
  ·obtain⟨p,rfl⟩:=dt w hW;have F:=sY (b:=b) (hQ p) (λt Φ c=>(hA t (hfs t Φ c) _ _ (hs t (by have:=hfs t Φ c;omega))).1 Φ c);have:b=putAll fs a' b:=wT (by rw[uT,hbd,hd']) (by rw[rY,hm',hbm]) λt ht=>by
    have j:=rZ b t fs a' oM
    by_cases c:∃Φ,(t,Φ)∈fs
    ·exact(j.1 c).symm
    ·have r:∀Φ,(t,Φ)∉fs:=λΦ hmm=>c ⟨Φ,hmm⟩;rw[j.2 r];exact(hA t oM _ _ (hs t oM)).2 r
   rw[this];exact F
  ·obtain⟨i,hi⟩:=List.getElem?_of_mem (g o ho);exact Region.noSelect_spec s i o cs b (by simpa using hi)
  ·have:=List.all_eq_true.1 x o (g o ho);rw[hd]at this
   simpa using this
theorem wp_region{P:Program}{e:Nat}{Q:Exit->Act->World->Prop}{a:Act}{w:World}{l:List Oper}(n:Nat)(d:P.follows .mixedOrders=true)
 (g:(kw l.toArray n&&decide (n<=l.length)&&Region.noSelect l.toArray&&kV a.tmps.size l)=true)
 (c:fU P l.toArray w (λa' fs=>∀p:GB,aj (w.gro p) fs a' λb=>wpList P l.toArray Q (l.drop n) b (w.gro p)) (l.take n) a []):(Code.region e l.toArray true).wp P Q a w:=qQ (aa.refl w) n d g c
theorem EU{P:Program}{e:Nat}{Q:Exit->Act->World->Prop}{a:Act}{w:World}{q:GB}{l:List Oper}(n:Nat)(d:P.follows .mixedOrders=true)
 (g:(kw l.toArray n&&decide (n<=l.length)&&Region.noSelect l.toArray&&kV a.tmps.size l)=true)
 (c:fU P l.toArray w (λa' fs=>∀p:GB,aj (w.gro p) fs a' λb=>wpList P l.toArray Q (l.drop n) b (w.gro p)) (l.take n) a []):(Code.region e l.toArray true).wp P Q a (w.gro q):=qQ (ce w q) n d g c
theorem QQ{P:Program}{g:Nat}{Q:Exit->Act->World->Prop}{a:Act}{w:World}{l:List Oper}(e:P.follows .mixedOrders=true)
 (c:(kw l.toArray l.length&&Region.noSelect l.toArray&&kV a.tmps.size l)=true)
 (d:fU P l.toArray w (λa' fs=>∀p:GB,aj (w.gro p) fs a' λb=>Q .normal b (w.gro p)) l a []):(Code.region g l.toArray true).wp P Q a w:=by
 refine wp_region l.length e (by simp only[L6]at c|-;simp[c]) ?_;simp only[lC,List.drop_length,wpList];exact d
theorem QP{P:Program}{g:Nat}{Q:Exit->Act->World->Prop}{a:Act}{w:World}{q:GB}{l:List Oper}(e:P.follows .mixedOrders=true)
 (c:(kw l.toArray l.length&&Region.noSelect l.toArray&&kV a.tmps.size l)=true)
 (d:fU P l.toArray w (λa' fs=>∀p:GB,aj (w.gro p) fs a' λb=>Q .normal b (w.gro p)) l a []):(Code.region g l.toArray true).wp P Q a (w.gro q):=by
 refine EU l.length e (by simp only[L6]at c|-;simp[c]) ?_;simp only[lC,List.drop_length,wpList];exact d
section
variable {P:Program} {ops:Array Oper} {w:World} {Q:Act->dR->Prop} {a:Act} {fs:dR} {o:Oper} {rest:List Oper}
theorem bG(h:Q a fs):fU P ops w Q [] a fs:=h
theorem aR(h:∀K:Act->dR->Prop,(∀a fs,fU P ops w Q rest a fs->K a fs)->aw P ops w o a fs K):fU P ops w Q (o::rest) a fs :=
 .inl (h _ λ_ _ h=>h)
theorem bW(d:Tmp)(b:dQ)(g:o.dst=some d)(e:ku b)(c:au P ops w o a fs b)(k:fU P ops w Q rest (a.put (some d) undef) ((d,b)::aF (some d) fs)):fU P ops w Q (o::rest) a fs :=
 .inr ⟨d,b,g,e,c,k⟩
end
section
variable {w W:World}
theorem aa.alloc(h:aa w W)(o:Obj):aa w (W.alloc o):=Below.alloc h h.size o
theorem aa.gro(h:aa w W)(p:GB):aa w (W.gro p):=h.trans (ce W p)
theorem aa.drew(h:aa w W):aa w W.drew:=Below.drew h
theorem aa.drewN(h:aa w W)(n:Nat):aa w (W.drewN n):=⟨h.os,h.tape,h.output,h.size,h.block⟩
theorem aa.setCell(b:aa w W){a:Addr}(c:w.heap.size<=a.block)(u:Value):aa w (W.setCell a u):=Below.setCell b c u
theorem aa.grown{W':World}{c:Option Nat}(b:aa w W)(d:W.grownBy W' c)(e:∀k,c=some k->w.heap.size<=k):aa w W':=Below.grown b d b.size e
end
section
variable {P:Program} {f:FuncId} {args:Array Value} {W:World} {v:Value}
theorem zc(h:Calls P f args W λe w'=>e=.returned v/\aa W w'):Calls P f args W λe w''=>∃u,e=.returned u/\u=v/\aa W w'' :=
 h.mono λ_ _ ⟨h1,h2⟩=>⟨v,h1,rfl,h2⟩
theorem zs(h:Calls P f args W λe w'=>e=.returned v/\W=w'):Calls P f args W λe w''=>∃u,e=.returned u/\u=v/\aa W w'' :=
 h.mono λ_ _ ⟨h1,h2⟩=>⟨v,h1,rfl,h2▸aa.refl _⟩
end
end Go.Zone
namespace Go
open Go.Zone
theorem RowKit.Hid.u{a b c:World}(h:RowKit.Hid (aa a b))(k:aa b c):RowKit.Hid (aa a c):=h.o.trans k
theorem RowKit.Hid.v{a b c:World}(h:RowKit.Hid (aa a b))(k:RowKit.Hid (aa b c)):aa a c:=h.o.trans k.o
theorem Nk{W:World}:aa W W:=aa.refl W
theorem Nj{w W:World}(h:aa w W)(o:Obj):aa w (W.alloc o):=aa.alloc h o
theorem Ni{w W:World}(h:aa w W)(p:Zone.GB):aa w (W.gro p):=aa.gro h p
theorem Nh{w W:World}(h:aa w W):aa w W.drew:=aa.drew h
theorem Nb{w W:World}(h:aa w W)(n:Nat):aa w (W.drewN n):=aa.drewN h n
class KC(w W:World):Prop where
 o:aa w W
instance(w:World):KC w w:=⟨Nk⟩
instance(w W:World)[h:KC w W](o:Obj):KC w (W.alloc o):=⟨Nj h.o o⟩
instance(w W:World)[h:KC w W](p:Zone.GB):KC w (W.gro p):=⟨Ni h.o p⟩
instance(w W:World)[h:KC w W]:KC w W.drew:=⟨Nh h.o⟩
instance(w W:World)[h:KC w W](n:Nat):KC w (W.drewN n):=⟨Nb h.o n⟩
theorem kP{w W:World}[h:KC w W]:aa w W:=h.o
instance(w W:World)[h:KC w W](s:ByteArray)(p:Nat):KC w (W.iter s p):=⟨Nj h.o _⟩
class GC(W:World)(w:outParam World):Prop where
 o:∀V,aa W V->∃q:Zone.GB,V=w.gro q
 b:aa w W
instance(priority:=low)(w:World):GC w w:=⟨λV h=>dt w h,aa.refl w⟩
instance(w:World)(q:Zone.GB):GC (w.gro q) w:=⟨λV h=>ez _ _ h,ce w q⟩
theorem uC{P:Program}{f:FuncId}{a:Array Value}{W w:World}[g:GC W w]{x:Ending}{R:Ending->World->Prop}(h:Calls P f a W λe V=>e=x/\aa W V)(k:∀p:Zone.GB,R x (w.gro p)):Calls P f a W R:=h.mono λe V⟨e1,e2⟩=>by obtain⟨q,rfl⟩:=g.o V e2;rw[e1];exact k q
end Go
namespace Go.Proofs.YtpkocnpamcchcaaGreatDoor
open Go.Zone Tryz
abbrev Rt(f:FuncId)(a:Array Value)(w:World)(v:Value):Prop:=Calls prog f a w λe w'=>e=.returned v/\aa w w'
abbrev Rs(f:FuncId)(a:Array Value)(w:World)(v:Value):Prop:=Calls prog f a w λe w'=>e=.returned v/\w=w'
theorem fm:prog.follows .mixedOrders=true:=by kernel_rfl
theorem zR{i:Nat}{Q:Exit->Act->World->Prop}{a:Act}{W w:World}[g:GC W w]{l:List Oper}(c:(kw l.toArray l.length&&Region.noSelect l.toArray&&kV a.tmps.size l)=true)(d:fU prog l.toArray w (λa' fs=>∀p:Zone.GB,aj (w.gro p) fs a' λb=>Q .normal b (w.gro p)) l a []):(Code.region i l.toArray true).wp prog Q a W:=by
 refine qQ (n:=l.length) g.b fm (by simp only[L6]at c|-;simp[c]) ?_
 simp only[lC,List.drop_length,wpList]
 exact d
theorem zN{i:Nat}{Q:Exit->Act->World->Prop}{a:Act}{W w:World}[g:GC W w]{l:List Oper}(n:Nat)(d:(kw l.toArray n&&decide (n<=l.length)&&Region.noSelect l.toArray&&kV a.tmps.size l)=true)(c:fU prog l.toArray w (λa' fs=>∀p:Zone.GB,aj (w.gro p) fs a' λb=>wpList prog l.toArray Q (l.drop n) b (w.gro p)) (l.take n) a []):(Code.region i l.toArray true).wp prog Q a W:=qQ g.b n fm d c
end Go.Proofs.YtpkocnpamcchcaaGreatDoor
namespace Go.Zone
attribute [go_sem] aw au aj aC av aI aF aH aM az aK aN aJ aL
end Go.Zone
namespace Go.Proofs.YtpkocnpamcchcaaGreatDoor
open Go.RowKit Go.Zone Tryz
theorem dc{k:IntKind}{a b:Int}(h:a=b):Ending.returned (.int k a)=.returned (.int k b):=by rw[h]
theorem cY{a b:Bool}(h:a=b):Ending.returned (.bool a)=.returned (.bool b):=by rw[h]
structure ai where
 k:Int
 n:Int
 s:ByteArray
def ai.cells(x:ai):List Value:=[.int .u8 x.k,.int .i64 x.n,.string x.s]
@[reducible] def ai.v(x:ai):Value:=.agg #[.int .u8 x.k,.int .i64 x.n,.string x.s]
instance:Inhabited ai:=⟨⟨0,0,ByteArray.empty⟩⟩
def gJ(a b:Int):Int:=if a<b then -1 else if b<a then 1 else 0
def kh(a b:ByteArray):Int:=if Op.bytesLess a.toList b.toList then -1 else if a.toList==b.toList then 0 else 1
def g5:List Int->Int
 | []=>0
 | x::r=>if x=0 then g5 r else x
def dA(a b:ai):Int:=g5 [gJ a.k b.k,gJ a.n b.n,kh a.s b.s]
def jB(x:ai):Bool:=if x.k==1 then x.s.toList.isEmpty else if x.k==2 then x.n==0&&decide ((x.s.size:Int)<=65535) else false
theorem K6(k:Int)(w:World):Rs 153 #[.int .u8 k] w (.bool false):=by
 go_enter func153,ntmps153;go_wp2;go_ret;exact⟨sP,rfl⟩
theorem K7(k:Int)(w:World):Rs 154 #[.int .i64 k] w (.bool false):=by
 go_enter func154,ntmps154;go_wp2;go_ret;exact⟨sP,rfl⟩
theorem K5(k:ByteArray)(w:World):Rs 155 #[.string k] w (.bool false):=by
 go_enter func155,ntmps155;go_wp2;go_ret;exact⟨sP,rfl⟩
theorem PO(a b:Int)(w:World):Rs 106 #[.int .u8 a,.int .u8 b] w (.int .i64 (gJ a b)):=by
 go_enter func106,ntmps106;go_wp2_with (go_at_call 153;refine(K6 _ _).mono ?_;rintro e c ⟨rfl,rfl⟩)
 all_goals go_ret
 all_goals exact⟨dc (by unfold gJ;(repeat' split)<;>first|rfl|omega),rfl⟩
theorem PP(a b:Int)(w:World):Rs 107 #[.int .i64 a,.int .i64 b] w (.int .i64 (gJ a b)):=by
 go_enter func107,ntmps107;go_wp2_with (go_at_call 154;refine(K7 _ _).mono ?_;rintro e c ⟨rfl,rfl⟩)
 all_goals go_ret
 all_goals exact⟨dc (by unfold gJ;(repeat' split)<;>first|rfl|omega),rfl⟩
theorem PL(a b:ByteArray)(w:World):Rs 108 #[.string a,.string b] w (.int .i64 (kh a b)):=by
 go_enter func108,ntmps108;go_wp2_with (go_at_call 155;refine(K5 _ _).mono ?_;rintro e c ⟨rfl,rfl⟩)
 all_goals go_ret
 all_goals exact⟨dc (by unfold kh;simp_all),rfl⟩
theorem Ba:∀(xs:List Int),(∀i,i<xs.length->xs.getD i 0=0)->g5 xs=0
 | [],_=>rfl
 | x::r,h=>by
   have a:x=0:=h 0 sP;simp only[g5,a,if_true];exact Ba r λi hi=>h (i+1) (by simpa using hi)
theorem Bc:∀(xs:List Int) (k:Nat),k<xs.length->(∀i,i<k->xs.getD i 0=0)->xs.getD k 0≠0->g5 xs=xs.getD k 0
 | [],k,h,_,_=>by simp at h
 | x::r,0,_,_,h=>by simp at h;simp[g5,h]
 | x::r,k+1,h,h1,h2=>by
   have a:x=0:=h1 0 oM;subst a;simp only[g5,if_true];have:=Bc r k (by simpa using h) (λi hi=>h1 (i+1) oM) (by simpa using h2)
   simpa using this
theorem Kt(b m:Nat)(xs:List Int)(n c:Nat)(w:World)(j:n=xs.length)(t:n<=1000)(h:∀i,i<n->w.cell? ⟨b,m+i,none⟩=some (.int .i64 (xs.getD i 0))) :
 Rs 105 #[.slice (some ⟨b,m,none⟩) n c] w (.int .i64 (g5 xs)):=by
 have q:=lh h;clear h;have g:=lh j;clear j;go_enter func105,ntmps105;go_wp2;go_loop [5,8] (λ_ i=>∃k:Nat,k<=n/\i=.int .i64 k/\Hid (∀i,i<k->xs.getD i 0=0)) (λ_ i=>n-(intOf i).toNat)
 case atStart=>exact⟨0,lj _,rfl,λi hi=>absurd hi (lI _)⟩
 case round =>
  obtain⟨k,u,rfl,d⟩:=hrel
  by_cases l:k<n
  ·have o:=q.o k l
   by_cases a:xs.getD k 0=0
   ·rw[a]at o;have p:=lh a;clear a;go_wp2;go_round
    case rel=>exact⟨k+1,oM,by go_num,λi hi=>by
     by_cases e:i=k
     ·subst e;exact p.o
     ·exact d.o i oM⟩
    case measure=>simp[intOf];omega
   ·have f:=Bc xs k (by rw[<-g.o];exact l) d.o a;generalize xs.getD k 0=x at o a f;have s:(x != 0)=true:=(by simpa using a);have r:=lh f;clear f a;go_wp2;go_ret;exact⟨dc r.o.symm,rfl⟩
  ·go_wp2;go_ret;exact⟨dc (Ba xs λi hi=>d.o i (by have:=g.o;omega)).symm,rfl⟩
theorem DY(x y:ai)(w:World):Rt 63 #[x.v,y.v] w (.int .i64 (dA x y)):=by
 obtain⟨k,n,a⟩:=x;obtain⟨b,d,c⟩:=y;simp only[ai.v,dA];go_enter func63,ntmps63;go_wp2;refine zN 15 kR ?_;simp only[lX,lR,lZ,L4]
 repeat
  refine aR (λK hK=>?_);go_simp
  first
  | (refine hK _ _ ?_;clear hK K)
  | (apply Exists.intro
     refine⟨λp=>?_,hK _ _ ?_⟩
     (first|(go_at_call 106;exact Zone.zs (PO _ _ _))|(go_at_call 107;exact Zone.zs (PP _ _ _))|(go_at_call 108;exact Zone.zs (PL _ _ _)))
     clear hK K)
 refine bG ?_;intro p;simp only[aj];go_wp2_with (go_at_call 105;refine(Kt _ 0 [gJ k b,gJ n d,kh a c] 3 3 _ rfl oM (λi hi=>by match i,hi with|0,_=>simp[go_sem]|1,_=>simp[go_sem]|2,_=>simp[go_sem])).mono ?_;rintro e f ⟨rfl,rfl⟩);go_ret;exact⟨rfl,kP⟩
theorem BM(x:ai)(w:World):Rt 102 #[x.v] w (.bool (jB x)):=by
 obtain⟨k,n,s⟩:=x;simp only[ai.v,jB];go_enter func102,ntmps102;go_wp2
 all_goals go_ret
 all_goals exact⟨cY (by simp[*]),kP⟩
theorem NF(k:Int)(w:World):Rs 113 #[.int .u8 k] w (.bool (k==1||k==2)):=by
 go_enter func113,ntmps113;go_wp2
 all_goals go_ret
 all_goals exact⟨cY (by simp[*]),rfl⟩
end Go.Proofs.YtpkocnpamcchcaaGreatDoor
namespace Go.Zone
open Go.RowKit
structure Sl{α:Type}(w:World)(k:Nat)(enc:α->List Value)(A:Option Addr)(c:Nat)(xs:List α):Prop where
 cap:xs.length<=c
 big:c<=9223372036854775807
 len:xs.length<=140737488355328
 at_:∀i,(h:i<xs.length)->∃b off,A=some ⟨b,off,none⟩/\∀j u,(enc xs[i])[j]? =some u->w.cell? ⟨b,off+i*k+j,none⟩=some u
section
variable {α:Type} {w w':World} {k c:Nat} {enc:α->List Value} {A:Option Addr} {xs:List α}
theorem Sl.nil_(A:Option Addr)(a:c<=9223372036854775807):Sl w k enc A c ([]:List α):=⟨lj _,a,lj _,λi h=>absurd h (lI _)⟩
theorem Sl.keep(a:Sl w k enc A c xs)(f:aa w w'):Sl w' k enc A c xs :=
 ⟨a.cap,a.big,a.len,λi hi=>by
  obtain⟨b,d,g,h⟩:=a.at_ i hi;exact⟨b,d,g,λj u hu=>by
   have e:=h j u hu;exact(Below.cell f (p:=⟨b,d+i*k+j,none⟩) (World.block_lt_of_cell? w _ e)).trans e⟩⟩
theorem Sl.cut_front(a:Sl w k enc A c xs)(n:Nat)(g:n<=xs.length):Sl w k enc A c (xs.take n) :=
 ⟨by have:=a.cap;simp;omega,a.big,by have:=a.len;simp;omega,λi hi=>by
  simp only[lD]at hi;obtain⟨b,d,e,f⟩:=a.at_ i oM;exact⟨b,d,e,λj u hu=>f j u (by rw[List.getElem_take]at hu;exact hu)⟩⟩
end
end Go.Zone
namespace Go.Proofs.YtpkocnpamcchcaaGreatDoor
open Go.RowKit Go.Zone Go.Shelf Tryz
def jJ{a:Type}(P:Program)(g:Nat)(b:Array Value)(enc:a->Value)(p:a->Bool)(w:World):Prop :=
 ∀(W:World) (x:a),aa w W->Calls P g (#[enc x]++b) W λe w'=>e=.returned (.bool (p x))/\aa W w'
theorem cE{a:Type}{w:World}{k c:Nat}{enc:a->List Value}{A:Option Addr}{xs:List a}(b:Sl w k enc A c xs):xs.length<=140737488355328:=b.len
theorem dL{w:World}{c:Nat}{A:Option Addr}{xs:List ai}(f:Sl w 3 ai.cells A c xs)(i:Nat)(hi:i<xs.length):∃b a,A=some ⟨b,a,none⟩/\b<w.heap.size/\w.cell? ⟨b,a+i*3,none⟩=some (.int .u8 xs[i].k) /\
 w.cell? ⟨b,a+i*3+1,none⟩=some (.int .i64 xs[i].n)/\w.cell? ⟨b,a+i*3+2,none⟩=some (.string xs[i].s):=by
 obtain⟨b,a,g,d⟩:=f.at_ i hi;have e:=d 0 _ rfl;exact⟨b,a,g,World.block_lt_of_cell? w _ e,e,d 1 _ rfl,d 2 _ rfl⟩
def pM(xs:List ai):Int:=xs.foldl (λa x=>wrap64 (a+x.s.size)) 0
theorem GI(xs:List ai)(k:Nat)(h:k<xs.length):pM (xs.take (k+1))=wrap64 (pM (xs.take k)+xs[k].s.size):=by
 unfold pM;rw[ly h,List.foldl_append];rfl
def wo(xs:List ai)(m:Int):Bool:=decide (m<xs.length)||decide (200000<pM xs)
theorem OC(A:Option Addr)(c:Nat)(xs:List ai)(m:Int)(w:World)(a:Sl w 3 ai.cells A c xs) :
 Rs 58 #[.slice A xs.length c,.int .i64 m] w (.bool (wo xs m)):=by
 have h:=cE a;go_enter func58,ntmps58;go_wp2;go_loop [5,6] (λt i=>∃k:Nat,k<=xs.length/\i=.int .i64 k/\t=.int .i64 (pM (xs.take k))) (λ_ i=>xs.length-(intOf i).toNat)
 case atStart=>exact⟨0,lj _,rfl,rfl⟩
 case round =>
  obtain⟨k,n,rfl,rfl⟩:=hrel
  by_cases d:k<xs.length
  ·obtain⟨b,l,rfl,j,f,o,g⟩:=dL a k d;have e:=lh (GI xs k d);clear a;go_wp2;go_round
   case rel=>exact⟨k+1,oM,by go_num,by rw[e.o]⟩
   case measure=>simp[intOf];omega
  ·have:k=xs.length:=oM;subst this;simp only[lC];go_wp2
   all_goals go_ret
   all_goals exact⟨cY (by unfold wo;simp_all),rfl⟩
def dz{a:Type}(p:a->Bool):List a->Nat->Int
 | [],_=> -1
 | x::r,i=>if p x then (i:Int) else dz p r (i+1)
theorem jk{c:Type}(p:c->Bool):∀(xs:List c) (i k:Nat),(∀j,(a:j<xs.length)->j<k->p xs[j]=false)->dz p xs i=dz p (xs.drop k) (i+k)
 | _,_,0,_=>rfl
 | [],i,k+1,_=>rfl
 | x::r,i,k+1,a=>by
   have b:=a 0 sP oM;simp only[Ld]at b;simp only[dz,b,lY,if_false,lZ];rw[jk p r (i+1) k (λj hj hk=>a (j+1) (by simpa using hj) oM)]
   congr 1;omega
theorem vW{b:Type}(p:b->Bool):∀(xs:List b) (i:Nat),decide (0<=dz p xs i)=xs.any p
 | [],i=>by simp[dz]
 | x::r,i=>by
   unfold dz
   by_cases a:p x=true
   ·simp[a]
   ·simp only[a,lY,if_false,List.any_cons,Bool.false_or];exact vW p r (i+1)
theorem N7(A:Option Addr)(c:Nat)(xs:List ai)(g:Nat)(s:Array Value)(p:ai->Bool)(w:World)(C:∀args w,(callFunc g args).run prog w=.ok (.enter g args) w)
 (h:Sl w 3 ai.cells A c xs) (r:jJ prog g s ai.v p w) :
 Rt 157 #[.slice A xs.length c,.func (.func g) #[] s] w (.int .i64 (dz p xs 0)):=by
 have y:=cE h;have u:=lh r;clear r;go_enter func157,ntmps157;go_wp2;go_loopw [5,8] (λ_ i wr=>∃k:Nat,k<=xs.length/\i=.int .i64 k/\Hid (aa w wr)/\Hid (∀j,(h:j<xs.length)->j<k->p xs[j]=false)) (λ_ i _=>xs.length-(intOf i).toNat)
 case atStart=>exact⟨0,lj _,rfl,aa.refl _,λj _ hj=>absurd hj (lI _)⟩
 case round =>
  obtain⟨k,E,rfl,d,l⟩:=hrel
  by_cases t:k<xs.length
  ·have a:=u.o wr xs[k] d.o;obtain⟨b,D,rfl,B,F,G,z⟩:=dL (h.keep d.o) k t;clear h
   by_cases f:p xs[k]=true
   ·rw[f]at a;have q:=lh a;have o:=lh f;clear a f;go_wp2_with (go_at_fn g;refine q.o.mono ?_;rintro e x ⟨rfl,m⟩);go_ret;exact⟨dc (by rw[jk p xs 0 k l.o,Lh t];simp[dz,o.o]),d.o.trans m⟩
   ·have n:p xs[k]=false:=(by simpa using f);rw[n]at a;have q:=lh a;have o:=lh n;clear a f n;go_wp2_with (go_at_fn g;refine q.o.mono ?_;rintro e x ⟨rfl,m⟩);go_roundw
    case rel=>exact⟨k+1,oM,by go_num,d.o.trans m,λj hj hjk=>by
     by_cases e:j=k
     ·subst e;exact o.o
     ·exact l.o j hj oM⟩
    case measure=>simp[intOf];omega
  ·go_wp2;go_ret;exact⟨dc (by rw[jk p xs 0 xs.length λj hj _=>l.o j hj oM];simp[dz]),d.o⟩
theorem DX(A:Option Addr)(c:Nat)(xs:List ai)(g:Nat)(a:Array Value)(p:ai->Bool)(w:World)(f:∀args w,(callFunc g args).run prog w=.ok (.enter g args) w)
 (b:Sl w 3 ai.cells A c xs) (d:jJ prog g a ai.v p w) :
 Rt 114 #[.slice A xs.length c,.func (.func g) #[] a] w (.bool (xs.any p)):=by
 have h:=lh d;clear d;have e:=lh b;clear b;rw[<-vW p xs 0];go_enter func114,ntmps114;go_wp2_with (go_at_call 157;refine uC (N7 A c xs g a p _ f e.o h.o) λp=>?_);go_ret;exact⟨rfl,kP⟩
def cZ(x:ai):Bool:=!jB x
theorem KU(x:ai)(w:World):Rt 115 #[x.v] w (.bool (cZ x)):=by
 obtain⟨k,n,s⟩:=x;unfold cZ;simp only[ai.v];go_enter func115,ntmps115;go_wp2_with (go_at_call 102;refine uC (BM ⟨k,n,s⟩ _) λp=>?_);go_ret;exact⟨rfl,kP⟩
theorem KT(x:ai)(k:Int)(b:Nat)(w:World)(a:w.cell? ⟨b,0,none⟩=some (.int .u8 k))(e:b<w.heap.size):Rt 119 #[x.v,.pointer (some ⟨b,0,none⟩)] w (.bool (x.k != k)):=by
 obtain⟨d,n,c⟩:=x;simp only[ai.v];go_enter func119,ntmps119;go_wp2;go_ret;exact⟨rfl,kP⟩
theorem zB(x:ai)(w:World):Rt 92 #[x.v] w (.bool (jB x)):=by
 obtain⟨k,n,s⟩:=x;simp only[ai.v,jB];go_enter func92,ntmps92;go_wp2
 all_goals go_ret
 all_goals exact⟨cY (by simp[*]),kP⟩
def gB(x y:ai):Bool:=if x.k != y.k then decide (x.k<y.k) else if x.n != y.n then decide (x.n<y.n) else Op.bytesLess x.s.toList y.s.toList
theorem D9:∀(l m:List UInt8),(∀j,(c:j<l.length)->(b:j<m.length)->l[j]=m[j])->Op.bytesLess l m=decide (l.length<m.length)
 | [],[],_=>by simp[Op.bytesLess]
 | [],y::m,_=>by simp[Op.bytesLess]
 | x::l,[],_=>by simp[Op.bytesLess]
 | x::l,y::m,h=>by
   have a:=h 0 sP sP;simp only[Ld]at a;subst a;have d:=D9 l m λj c b=>(by have:=h (j+1) (by simpa using c) (by simpa using b);simpa using this);simp[Op.bytesLess,d]
theorem Ea:∀(l m:List UInt8) (k:Nat) (b:k<l.length) (a:k<m.length),(∀j,j<k->(b:j<l.length)->(a:j<m.length)->l[j]=m[j])->l[k]≠m[k]->Op.bytesLess l m=decide (l[k]<m[k])
 | [],_,k,b,_,_,_=>by simp at b
 | _::_,[],k,_,a,_,_=>by simp at a
 | x::l,y::m,0,_,_,_,hne=>by
   simp only[Ld]at hne|-;simp[Op.bytesLess,hne]
 | x::l,y::m,k+1,b,a,h,hne=>by
   have c:=h 0 oM sP sP;simp only[Ld]at c;subst c;have d:=Ea l m k (by simpa using b) (by simpa using a) (λj hj b a=>by have:=h (j+1) oM (by simpa using b) (by simpa using a);simpa using this) (by simpa using hne);simp[Op.bytesLess,d]
theorem kz(s:ByteArray):s.toList.length=s.size:=by rw[Lib.toList_data];simp
theorem qZ(s:ByteArray)(i:Nat)(h:i<s.toList.length):s.toList[i]=s[i]'(by rw[kz]at h;exact h):=by
 simp only[Lib.toList_data];simp;rfl
theorem vL(x y:ai)(w:World)(r:x.s.size<=maxLen)(t:y.s.size<=maxLen):Rt 41 #[x.v,y.v] w (.bool (gB x y)):=by
 obtain⟨k,n,a⟩:=x;obtain⟨s,q,b⟩:=y;simp only[ai.v];simp only at r t;unfold maxLen at r t
 by_cases d:k=s
 ·subst d
  by_cases c:n=q
  ·subst c;simp only[gB,bne_self_eq_false,lY,if_false];go_enter func41,ntmps41;go_wp2;go_loopw [5] (λi wr=>∃j:Nat,j<=a.size/\j<=b.size/\i=.int .i64 j/\w.heap.size+1<wr.heap.size/\wr.cell? ⟨w.heap.size,2,none⟩=some (.string a)/\wr.cell? ⟨w.heap.size+1,2,none⟩=some (.string b)/\Hid (aa w wr) /\
    Hid (∀i,i<j->(d:i<a.size)->(c:i<b.size)->a[i]=b[i])) (λi _=>a.size-(intOf i).toNat)
   case atStart=>exact⟨0,lj _,lj _,rfl,sP,sG,sG,kP,λi hi=>absurd hi (lI _)⟩
   case round =>
    obtain⟨j,G,I,rfl,C,E,F,l,f⟩:=hrel;have z:w.heap.size<wr.heap.size:=oM
    by_cases A:j<a.size/\j<b.size
    ·obtain⟨o,D⟩:=A
     by_cases he:a[j]=b[j]
     ·have B:(((a[j].toNat:Nat):Int) != (b[j].toNat:Int))=false:=(by rw[he];simp);have u:=lh he;clear he;go_wp2;refine zR kR ?_
      repeat
       refine aR (λK hK=>?_);go_simp
       first
       | (refine hK _ _ ?_;clear hK K)
       | (apply Exists.intro
          refine⟨λp=>?_,hK _ _ ?_⟩
          (fail)
          clear hK K)
      refine bG ?_;intro p;simp only[aj];go_wp2;go_roundw
      case rel=>exact⟨j+1,oM,oM,by go_num,by simp[az];omega,by simp[aH,z,E],by simp[aH,C,F],l.o.gro p,λi hi d c=>by
       by_cases e:i=j
       ·subst e;exact u.o
       ·exact f.o i oM d c⟩
      case measure=>simp[intOf];omega
     ·have B:(((a[j].toNat:Nat):Int) != (b[j].toNat:Int))=true:=by
       simp only[bne_iff_ne,ne_eq,Int.natCast_inj];exact λe=>he (UInt8.toNat_inj.1 e)
      have m:Hid (Op.bytesLess a.toList b.toList=decide (a[j].toNat<b[j].toNat)):=by
       have g:=Ea a.toList b.toList j (by rw[kz];exact o) (by rw[kz];exact D) (λi hi d c=>by
        have:=f.o i hi (by rw[kz]at d;exact d) (by rw[kz]at c;exact c)
        simpa[qZ]using this) (by simpa[qZ]using he)
       show _=_;rw[g];simp[qZ,UInt8.lt_iff_toNat_lt]
      clear he;go_wp2;refine zR kR ?_
      repeat
       refine aR (λK hK=>?_);go_simp
       first
       | (refine hK _ _ ?_;clear hK K)
       | (apply Exists.intro
          refine⟨λp=>?_,hK _ _ ?_⟩
          (fail)
          clear hK K)
      refine bG ?_;intro p;simp only[aj];go_wp2;refine zR kR ?_
      repeat
       refine aR (λK hK=>?_);go_simp
       first
       | (refine hK _ _ ?_;clear hK K)
       | (apply Exists.intro
          refine⟨λp=>?_,hK _ _ ?_⟩
          (fail)
          clear hK K)
      refine bG ?_;intro H;simp only[aj];go_wp2;go_ret;exact⟨cY m.o.symm,l.o.gro _⟩
    ·have m:Hid (Op.bytesLess a.toList b.toList=decide (a.size<b.size)):=by
         have g:=D9 a.toList b.toList (λi d c=>by
          rw[kz]at d c;have:=f.o i oM d c
          simpa[qZ]using this)
         show _=_;rw[g,kz,kz]
     by_cases o:j<a.size
     all_goals
         go_wp2;go_ret;exact⟨cY m.o.symm,l.o⟩
  ·have h:(n != q)=true:=(by simpa using c);simp only[gB,bne_self_eq_false,lY,if_false,h,if_true];clear c;go_enter func41,ntmps41;go_wp2;go_ret;exact⟨rfl,kP⟩
 ·have h:(k != s)=true:=by simpa using d
  simp only[gB,h,if_true];clear d;go_enter func41,ntmps41;go_wp2;go_ret;exact⟨rfl,kP⟩
end Go.Proofs.YtpkocnpamcchcaaGreatDoor
