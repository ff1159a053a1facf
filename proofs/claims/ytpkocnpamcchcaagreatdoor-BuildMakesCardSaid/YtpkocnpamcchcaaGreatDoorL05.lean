/- Parts. -/
import Derived.Deep.Slices
import Derived.Deep.Fields
import Derived.ChangeSame
import Derived.Lib.SmallJoins
import Derived.Carry
import Derived.SizedLaws
import Derived.ShutString
import Derived.Test.YtpkocnpamcchcaaGreatDoorChecked
import Derived.Test.YtpkocnpamcchcaaGreatDoorL01
set_option maxRecDepth 100000
set_option maxHeartbeats 40000000
set_option linter.all false
namespace Go.Zone
open Go.RowKit
section
variable {P:Program} {ops:Array Oper} {md:Region.Mode}
def yU(md:Region.Mode)(ops:Array Oper)(m n:Nat):Bool :=
 (List.range n).all λi=>decide (i<m)||(List.range (n+1)).any λj=>decide (i<j)&&Region.waitsFor md ops j i
def tV(ops:Array Oper)(m n:Nat):Bool :=
 decide (n<ops.size)&&decide (m<=n)&&yU .any ops m n&&Region.chainB .any ops n&&Region.lexHead .any ops (ops.size-n) n 0 (Array.replicate ops.size false)
theorem Gs{m n:Nat}{c:Array Bool}(u:yU md ops m n=true)(B:Region.chainB md ops n=true)(F:n<ops.size)(inv:HeadInv md ops n c) :
 ∀(d i:Nat),n-i=d->m<=i->i<n->c.getD i true=false->∀t,n<=t->t∉Region.ready md ops c:=by
 intro d
 induction d using Nat.strongRecOn with
 | _ d ih =>
   intro i G D hi p t E l;obtain⟨_,k,h,q⟩:=mem_ready.1 l;have C:t<ops.size:=(La.1 h).1
   by_cases z:t=n
   ·subst z;have a:=List.all_eq_true.1 u i (List.mem_range.2 hi);rw[Bool.or_eq_true]at a
    rcases a with a|a
    ·simp at a;omega
    obtain⟨j,v,o⟩:=List.any_eq_true.1 a;simp only[L6,decide_eq_true_eq]at o;obtain⟨s,r,e,he,g,f⟩:=Region.waitsFor_spec o.2;have H:j<=t:=by have:=List.mem_range.1 v;omega
    by_cases x:j=t
    ·subst x;have:s=k:=ls (r.symm.trans h);subst this;have b:=q e he g;rw[f,getD_both p]at b
     cases b
    ·cases hl:c.getD j false with
     | true =>
       have b:=inv.closed j s r hl e he g;rw[f,getD_both p]at b
       cases b
     | false =>
       have y:j<c.size:=(by rw[inv.size];omega);exact ih (t-j) oM j rfl oM oM (getD_in y hl) t (lc _) l
   ·have a:=List.all_eq_true.1 B t (List.mem_range.2 C);simp only[Bool.or_eq_true,decide_eq_true_eq]at a
    rcases a with a|a
    ·omega
    ·obtain⟨w,A,e,he,g,f⟩:=Region.waitsFor_spec a;have:w=k:=ls (A.symm.trans h);subst this;have b:=q e he g;rw[f,getD_both (inv.tail (t-1) oM oM)]at b
     cases b
structure mU(md:Region.Mode)(ops:Array Oper)(m n:Nat)(listed:Array Bool):Prop where
 head:HeadInv md ops n listed
 low:∀i,i<m->listed.getD i true=true
theorem mU.set{m n i:Nat}{a:Array Bool}(inv:mU md ops m n a)(hi:i∈Region.ready md ops a)(c:i<n):mU md ops m n (a.setIfInBounds i true) :=
 ⟨inv.head.set hi c,λj hj=>by
  by_cases b:i=j
  ·subst b;have:=(mem_ready.1 hi).1;rw[inv.low i hj]at this
   cases this
  ·rw[getD_set_ne true b];exact inv.low j hj⟩
theorem E4{y:World}{w:Nat}{v:List Deferred}{m n i:Nat}{d:Oper}{l:dQ}{B:Array Bool->dU->Prop}(hi:ops[i]? =some d)
 (D:∀a,mU md ops m n a->(∃i,i<n/\a.getD i true=false)->∀j∈Region.ready md ops a,j<n) (E:i<n)
 (H:∀a A,B a A->∀j∈Region.ready md ops a,n<=j) :
 ∀(f:Nat) (a:Array Bool) (A:dU),mU md ops m n a ->
   (∀j p,ops[j]? =some p->j≠i->a.getD j true=false->(∀e∈p.after,Region.binds md e=true->e.on≠i)->d.apart ops p=true) ->
   i∈Region.ready md ops a->nk P ops y w v A d l ->
   k9 P md ops y w v n B f (a.setIfInBounds i true) (upd A d.dst l)->k9 P md ops y w v n B (f+1) a A:=by
 intro f
 induction f with
 | zero =>
   intro a A inv _ c s o;have g:=(mem_ready.1 c).1;refine⟨λh=>(by rw[h]at c;cases c),λj hj=>?_⟩;have r:j<n:=D a inv ⟨i,E,g⟩ j hj;refine⟨r,?_⟩
   by_cases b:j=i
   ·subst b;exact⟨d,l,hi,s,o⟩
   ·have:=H _ _ o j (ready_mono hj b);omega
 | succ f ih =>
   intro a A inv F c s o;have g:=(mem_ready.1 c).1;refine⟨λh=>(by rw[h]at c;cases c),λj hj=>?_⟩;have r:j<n:=D a inv ⟨i,E,g⟩ j hj;refine⟨r,?_⟩
   by_cases b:j=i
   ·subst b;exact⟨d,l,hi,s,o⟩
   ·obtain⟨_,p,x,z,K,I⟩:=o.2 j (ready_mono hj b);obtain⟨C,q,N,O⟩:=mem_ready.1 hj;have:q=p:=ls (N.symm.trans z);subst this;have Q:∀e∈q.after,Region.binds md e=true->e.on≠i:=λe he hb heq=>by
     have u:=O e he hb;rw[heq,getD_both g]at u
     cases u
    obtain⟨u,L,M⟩:=Oper.apart_spec (F j q z b C Q);have J:∀k ok,ops[k]? =some ok->k≠i->(a.setIfInBounds j true).getD k true=false ->
     (∀e∈ok.after,Region.binds md e=true->e.on≠i)->d.apart ops ok=true:=λk ok hk hki g hno=>by
     refine F k ok hk hki ?_ hno
     by_cases G:j=k
     ·subst G;exact C
     ·rw[getD_set_ne true G]at g;exact g
    refine⟨q,x,z,rz K (λt ht=>(qU A l u t ht).symm),?_⟩;refine ih (a.setIfInBounds j true) _ (inv.set hj r) J (ready_mono c (Ne.symm b)) (rz s (qU A x M)) ?_;rw[Array.setIfInBounds_comm _ _ b,<-xB A l x L];exact I
theorem xm{p:World}{d:Nat}{c:List Deferred}{m n g:Nat}{f:dU->Prop}(e:∀a,mU md ops m n a->(∃i,i<n/\a.getD i true=false)->∀j∈Region.ready md ops a,j<n) :
 ∀(l:List Oper) (k:Nat) (a:Array Bool) (A:dU),(∀j,j<l.length->l[j]? =ops[k+j]?)->k+l.length=n->mU md ops m n a ->
 Region.lexHead md ops g l.length k a=true->od P ops p d c f l A ->
 k9 P md ops p d c n (λlisted' A'=>Region.seqB md ops g n listed'=true/\f A') l.length a A
 | [],k,a,A,_,hk,_,hB,h=>by
   have:k=n:=(by simpa using hk);subst this;exact⟨by simpa[Region.lexHead]using hB,h⟩
 | o::l,k,a,A,hl,hk,inv,hB,h=>by
   have q:ops[k]? =some o:=(by simpa using (hl 0 sP).symm);simp only[lw,Region.lexHead,L6]at hB;obtain⟨⟨t,v⟩,u⟩:=hB;have b:k<n:=(by simp only[lw]at hk;omega);have r:k∈Region.ready md ops a:=(by simpa using t);obtain⟨x,w,s⟩:=h;exact E4 q e b (λlisted' A' hL=>seqB_ready hL.1) l.length a A inv (Region.free_spec q v) r w
     (xm e l (k+1) _ _ (λj hj=>by have:=hl (j+1) sO;simpa[Nat.add_assoc,Nat.add_comm 1 j]using this) (by simp only[lw]at hk;omega) (inv.set r b) u s)
def mW(P:Program)(ops:Array Oper)(Q:Act->Prop):List Oper->Act->Prop
 | [],a=>Q a
 | o::rest,a=>∃v,Yields P ops o v a/\mW P ops Q rest (a.put o.dst v)
theorem xj{Q:Exit->Act->World->Prop}{n g:Nat}{w:World}(m:Region.noSelect ops=true)(r:∀c a a' w,Q (.panic c) a w->Q (.panic c) a' w){R:Act->Prop}(d:List Deferred)(e:Nat) :
 ∀(l:List Oper) (k f:Nat) (b:Array Bool) (a:Act),(∀j,j<l.length->l[j]? =ops[k+j]?)->k+l.length<=n->HeadInv md ops n b->(∀i,i<k->b.getD i true=true) ->
 Region.lexHead md ops g (l.length+f) k b=true->a.defers=d->a.tmps.size=e->mW P ops R l a ->
 (∀listed' a',HeadInv md ops n listed'->(∀i,i<k+l.length->listed'.getD i true=true)->Region.lexHead md ops g f (k+l.length) listed'=true->a'.defers=d->a'.tmps.size=e->R a'->wpAny P md ops Q (f+g) listed' a' w) ->
 wpAny P md ops Q (l.length+(f+g)) b a w
 | [],k,f,b,a,_,_,inv,hlow,hB,hd,hsz,h,H=>by
   simp only[lB,lS,lE]at hB H|-;exact H b a inv hlow hB hd hsz h
 | o::l,k,f,b,a,hl,hk,inv,hlow,hB,hd,hsz,h,H=>by
   have s:ops[k]? =some o:=(by simpa using (hl 0 sP).symm);simp only[lw]at hk hB H|-;rw[show l.length+1+f=(l.length+f)+1 from oM]at hB;simp only[Region.lexHead,L6]at hB;obtain⟨⟨q,y⟩,x⟩:=hB;obtain⟨v,A,t⟩:=h;rw[show l.length+1+(f+g)=(l.length+(f+g))+1 from oM];refine wpAny_take s m y q (λc a w h=>r c _ _ w h) A ?_;have z:k∈Region.ready md ops b:=(by simpa using q);refine xj m r d e l (k+1) f _ _ (λj hj=>by have:=hl (j+1) sO;simpa[Nat.add_assoc,Nat.add_comm 1 j]using this) oM (inv.set z oM) (λi hi=>?_) x (by rw[jc,hd]) (by rw[fN,hsz]) t
     (λlisted' a' i1 i2 i3 i4 i5 i6=>H listed' a' i1 (by rw[show k+(l.length+1)=k+1+l.length from oM];exact i2) (by rw[show k+(l.length+1)=k+1+l.length from oM];exact i3) i4 i5 i6)
   by_cases p:k=i
   ·subst p;have u:k<b.size:=(by rw[inv.size];exact(La.1 s).1);simp[u]
   ·rw[getD_set_ne true p];exact hlow i oM
end
def Calm(Q:Exit->Act->World->Prop):Exit->Act->World->Prop
 | .normal,a,w=>Q .normal a w
 | _,_,_=>False
theorem fQ(Q:Exit->Act->World->Prop)(a:Act)(w:World):Calm Q .normal a w=Q .normal a w:=rfl
theorem ES{P:Program}{O:Nat}{Q:Exit->Act->World->Prop}{a:Act}{w h:World}(k:aa w h){l:List Oper}(m n:Nat)(x:P.follows .mixedOrders=true)
 (y:(tV l.toArray m n&&decide (n<=l.length)&&Region.noSelect l.toArray&&kV a.tmps.size l)=true)
 (f:mW P l.toArray (λa0=>fU P l.toArray w (λa' fs=>∀p:GB,aj (w.gro p) fs a' λb=>wpList P l.toArray (Calm Q) (l.drop n) b (w.gro p)) ((l.take n).drop m) a0 []) (l.take m) a):(Code.region O l.toArray true).wp P Q a h:=by
 simp only[tV,L6,decide_eq_true_eq]at y;obtain⟨⟨⟨⟨⟨⟨⟨N,Y⟩,L⟩,V⟩,I⟩,Z⟩,z⟩,M⟩:=y;have r:((l.take n).drop m).length=n-m:=sO;have q:(l.take m).length=m:=sO;have D:(l.drop n).length=l.toArray.size-n:=sP;have H:HeadInv .any l.toArray n (Array.replicate l.toArray.size false) :=
  ⟨sP,λj oj _ hl=>(by rw[getD_replicate_false]at hl;cases hl),λt _ ht=>getD_in (by simpa using ht) (getD_replicate_false _ _)⟩
 refine wp_mono (Q:=Calm Q) ?_ (λe a w f=>by cases e<;>first|exact f|exact f.elim);refine wp_region_any x ?_;have S:Below w.heap.size w { h with drawn:=h.drawn+1 }:=⟨k.os,k.tape,k.output,k.size,k.block⟩;have B:=xj (P:=P) (md:=.any) (ops:=l.toArray) (Q:=Calm Q) (n:=n) (g:=l.toArray.size-n) (w:={ h with drawn:=h.drawn+1 }) z (λ_ _ _ _ f=>f.elim) a.defers a.tmps.size (l.take m) 0 (n-m) _ a
  (λj hj=>by have U:j<m:=(by rw[q]at hj;exact hj);simp[U]) (by rw[q];omega) H (λi hi=>oM) (by rw[q,show m+(n-m)=n from oM];exact I) rfl rfl f
  (λlisted a0 i1 i2 i3 i4 i5 i6=>by
    rw[q,lS]at i2 i3;have K:∀listed,mU .any l.toArray m n listed->(∃i,i<n/\listed.getD i true=false)->∀j∈Region.ready .any l.toArray listed,j<n:=λlisted inv c j hj=>by
     obtain⟨i,hi,s⟩:=c
     rcases L8 j n with f|f
     ·exact f
     ·have G:m<=i:=by
       rcases L8 i m with u|u
       ·rw[inv.low i u]at s;cases s
       ·exact u
      exact absurd hj (Gs L V N inv.head _ i rfl G hi s j f)
    have C:∀o∈(l.take n).drop m,o∈l:=λo ho=>Lx (List.mem_of_mem_drop ho);have R:qN (slot a0 []):=λt v W W' _ hv=>⟨λΦ c=>absurd c sP,λc=>hv.2 c⟩;have J:od P l.toArray w a0.tmps.size a0.defers (λA=>∀b W,b.defers=a0.defers->b.tmps.size=a0.tmps.size->Below w.heap.size w W->nA A a0.tmps.size b W->wpList P l.toArray (Calm Q) (l.drop n) b W) ((l.take n).drop m) (slot a0 []):=by
     refine qR a0.tmps.size a0.defers (λa' fs A hQ' hm' hd' hfs hA b W hbd hbm hW hs=>?_) _ (λo ho cs b=>?_) (λo ho d hd=>?_) a0 [] (slot a0 []) rfl rfl (λt Φ c=>absurd c sP) (λ_ _ _ _ hv=>hv) i6
     ·obtain⟨p,rfl⟩:=dt w hW;have X:=sY (b:=b) (hQ' p) (λt Φ c=>(hA t (hfs t Φ c) _ _ (hs t (by have:=hfs t Φ c;omega))).1 Φ c);have:b=putAll fs a' b:=wT (by rw[uT,hbd,hd']) (by rw[rY,hm',hbm]) λt ht=>by
       have E:=rZ b t fs a' oM
       by_cases c:∃Φ,(t,Φ)∈fs
       ·exact(E.1 c).symm
       ·have F:∀Φ,(t,Φ)∉fs:=λΦ hmm=>c ⟨Φ,hmm⟩;rw[E.2 F];exact(hA t oM _ _ (hs t oM)).2 F
      rw[this];exact X
     ·obtain⟨i,hi⟩:=List.getElem?_of_mem (C o ho);exact Region.noSelect_spec z i o cs b (by simpa using hi)
     ·have:=List.all_eq_true.1 M o (C o ho);rw[hd]at this;rw[i5]
      simpa using this
    have T:=xm (md:=.any) (g:=l.toArray.size-n) K ((l.take n).drop m) m listed (slot a0 []) (λj hj=>by
     rw[r]at hj;simp[List.getElem?_drop,List.getElem?_take];omega) (by rw[r];omega) ⟨i1,i2⟩ (by rw[r];exact i3) J
    have:=tX (Q':=Calm Q) (g:=l.toArray.size-n) (λlisted A' b W hL hd x hW hs=>by
     have:=wpAny_of_seq (md:=.any) (Q':=Calm Q) (l.drop n) n listed b W (λj=>by simp[List.getElem?_drop]) (by rw[D];exact hL.1) (hL.2 b W hd x hW hs)
     rwa [D]at this) _ _ _ R T a0 { h with drawn:=h.drawn+1 } rfl rfl S (λt _=>⟨λΦ c=>absurd c sP,λ_=>rfl⟩)
    rw[r]at this;exact this)
 have a1:l.toArray.size=l.length:=sP;rw[q,show m+(n-m+(l.toArray.size-n))=l.toArray.size from oM]at B;exact B
theorem jK{P:Program}{e:Nat}{Q:Exit->Act->World->Prop}{a:Act}{w:World}{l:List Oper}(m n:Nat)(d:P.follows .mixedOrders=true)
 (f:(tV l.toArray m n&&decide (n<=l.length)&&Region.noSelect l.toArray&&kV a.tmps.size l)=true)
 (c:mW P l.toArray (λa0=>fU P l.toArray w (λa' fs=>∀p:GB,aj (w.gro p) fs a' λb=>wpList P l.toArray (Calm Q) (l.drop n) b (w.gro p)) ((l.take n).drop m) a0 []) (l.take m) a):(Code.region e l.toArray true).wp P Q a w:=ES (aa.refl w) m n d f c
theorem jL{P:Program}{ops:Array Oper}{Q:Act->Prop}{b:Oper}{rest:List Oper}{a:Act}(v:Value)(c:Region.wanted b (yielded ops a.tmps)=true)(e:∀w,(execOp a.eval b).run P w=.ok (.value v) w)(d:mW P ops Q rest (a.put b.dst v)):mW P ops Q (b::rest) a :=
 ⟨v,.inl ⟨c,e⟩,d⟩
theorem jM{P:Program}{ops:Array Oper}{Q:Act->Prop}{a:Act}(h:Q a):mW P ops Q [] a:=h
end Go.Zone
namespace Go.Proofs.YtpkocnpamcchcaaGreatDoor
open Go.RowKit Go.Zone Go.ChangeShapes Go.WideShapes Go.Deep Go.Joins Go.ChangeMaps Tryz
section
variable {H:Type} {enc:TypeId×Value->H} {P:Program} {w:World} {base:Nat} {spare:Nat->Bool} {held:Bool}
theorem Bh{t e:TypeId}{fs:Array Field}{fuel:Nat}{cs:List Value}{x:DataW H×List MemPlace}(G:P.underlying t=some (.slice e))(he:P.underlying e=some (.struct fs))
 (Q:oneCellFields P fs=true) (q:P.cellsOf e=fs.size) (D:DataW.trod enc P w base spare held fuel t cs=some x) :
 (cs=[.slice none 0 0]/\x=(.nil,[])) \/
 ∃(a:Addr) (b c m:Nat) (d:Nat->DataW H) (h:Nat->List MemPlace),cs=[.slice (some a) b c]/\base<=a.block/\b<=c/\c<=maxLen/\m=(if spare a.block then c else b) /\
   x=(.slice ((List.range b).map d) ((List.range (m-b)).map λj=>d (b+j)),MemPlace.row a (m*fs.size)++(List.range m).flatMap h) /\
   ∀i,i<m->∃(ys:List (DataW H×List MemPlace)) (n:Nat),d i=.agg (ys.map (·.1))/\h i=ys.flatMap (·.2)/\ys.length=fs.size /\
     ∀(j:Nat) (f:Field),fs[j]? =some f->∃(v:Value) (y:DataW H×List MemPlace),w.cell? (a.add (i*fs.size+j))=some v/\ys[j]? =some y/\DataW.trod enc P w base spare held n f.type [v]=some y:=by
 rcases open_slice G D with M | ⟨a,b,c,m,n,d,h,E,I,s,N,A,p,hi⟩
 ·exact .inl M
 ·refine .inr ⟨a,b,c,m,d,h,E,I,s,N,A,by rw[q]at p;exact p,λi him=>?_⟩;obtain⟨g,r,L⟩:=hi i him;rw[q]at r;obtain⟨ys,z,U,k,T,C,K⟩:=DataW.trod_struct he L;obtain⟨_,V,R⟩:=World.cells?_some r;simp only[Prod.mk.injEq]at k;refine⟨ys,z,k.1,k.2,C,λj f hj=>?_⟩;obtain⟨O,J⟩:=hone_of Q j f hj;have S:j<fs.size:=(La.1 hj).1;have F:=R j S;have u:g[j]? =some (g[j]'oM):=lu oM;have l:=K j f hj;rw[O,J]at l;have B:(g.drop j).take 1=[g[j]'oM]:=by
   rw[Lh oM];rfl
  rw[B]at l;have o:ys[j]? =some (ys[j]'oM):=lu oM;refine⟨_,_,?_,o,l.trans o⟩;rw[<-Go.Deep.add_add,F,u]
theorem wK{d:Type}{Q:Nat->d->Prop}(n:Nat)(c:∀i,i<n->∃a,Q i a):∃l:List d,l.length=n/\∀i,(hi:i<l.length)->Q i l[i]:=by
 induction n with
 | zero=>exact⟨[],rfl,λi hi=>absurd hi (lI _)⟩
 | succ n ih =>
   obtain⟨l,e,h⟩:=ih λi hi=>c i oM;obtain⟨a,g⟩:=c n oM;refine⟨l++[a],by simp[e],λi hi=>?_⟩
   rcases L8 i l.length with b|b
   ·rw[List.getElem_append_left b];exact h i b
   ·have:i=n:=(by simp at hi;omega);subst this;have f:(l++[a])[i]'hi=a:=(by rw[List.getElem_append_right oM];simp[e]);rw[f];exact g
end
structure qI(x:ai):Prop where
 k:(Lit.int .u8 x.k).wf=true
 n:(Lit.int .i64 x.n).wf=true
 s:x.s.size<=maxLen
theorem xC:prog.underlying 56=some (.slice 72):=kR
def xy(P:Program)(t:TypeId):Bool:=match P.underlying t with
 | some (.struct ⟨[f0,f1,f2]⟩)=>oneCellFields P #[f0,f1,f2]&&(match P.underlying f0.type,P.underlying f1.type,P.underlying f2.type with|some (.int .u8),some (.int .i64),some .string=>true|_,_,_=>false)
 | _=>false
theorem FU:∃f0 f1 f2,prog.underlying 72=some (.struct #[f0,f1,f2])/\oneCellFields prog #[f0,f1,f2]=true/\prog.underlying f0.type=some (.int .u8)/\prog.underlying f1.type=some (.int .i64)/\prog.underlying f2.type=some .string:=by
 have d:xy prog 72=true:=kR;unfold xy at d
 split at d
 ·rename_i f0 f1 f2 hs;rw[L6]at d;obtain⟨f,e⟩:=d
  split at e
  ·rename_i a b c;exact⟨f0,f1,f2,hs,f,a,b,c⟩
  ·cases e
 ·cases d
theorem PY:prog.cellsOf 72=3:=kR
theorem J9:ownKnob prog.godebug=none:=kR
theorem vQ:laidOutB prog=true:=kR
section
variable {H:Type} {enc:TypeId×Value->H} {w:World} {held:Bool}
end
section
variable {H:Type} {enc:TypeId×Value->H} {P:Program}
theorem JL{f:Func}{d:ChangeSpec}{x D E F:Bool}{e W':World}{args:Array Value}{v:Value}{g h:List (DataW H)}{c pa pv:List MemPlace}
 (k:DataW.Whole enc P f.params.toList d.vars x e args.toList g h c)
 (n:∀(b:Nat) (sp:Nat->Bool) (B:Bool),DataW.TrodAll enc P W' b sp B f.resultTypes.toList (v.resultList f.resultTypes.size) (d.fn H (g++h)).results [])
 (l:∀sp:Nat->Bool,(∀p∈c,sp p.block=true)->DataW.TrodAll enc P W' 0 sp true f.params.toList args.toList (d.fn H (g++h)).args pa)
 (m:∀sp:Nat->Bool,(∀p∈c,sp p.block=true)->DataW.TrodVars enc P W' sp d.vars (d.fn H (g++h)).vars pv)
 (i:c=pa++pv) (s:Below e.heap.size e W')
 (z:∀(j:Nat) (t:TypeId) (r:Value),f.resultTypes[j]? =some t->(v.resultList f.resultTypes.size)[j]? =some r->Value.okWide P W' .any 0 t r) :
 d.post enc P f x D E F e args v W':=by
 have o:∀p∈c,p.block<e.heap.size:=λp a=>k.lt p a;have ae:∀p∈c,(λb=>decide (b<e.heap.size)) p.block=true:=λp a=>by simpa using o p a
 refine⟨g,h,c,[],pa,pv,k,n _ _ _,l _ ae,m _ ae,World.keptBut_mono (λp a=>⟨a,?_⟩) (s.frame (·∈c)),λ_=>?_⟩
 ·rw[i,lx]at a;exact Or.inr a
 ·obtain⟨_,_,_,_,_,C,A⟩:=k;refine⟨z,_,_,([]++pa)++pv,⟨[]++pa,pv,trodAll_append (l _ (λ_ _=>rfl)) (n _ _ _),m _ (λ_ _=>rfl),rfl,?_,?_⟩,?_⟩
  ·intro b u a;have q:MemPlace.cell b u∈c:=(by rw[i];simpa using a);rw[s.frozen (o _ q)];exact C b u q
  ·intro y;have:=A y;rw[i]at this
   simpa using this
  ·intro p a _;rw[i]
   simpa using a
end
theorem stays{H:Type}{enc:TypeId×Value->H}{P:Program}{t:TypeId}(e:laidOutB P=true)(i:P.readableRec t=true)(g:t<P.types.size){a W':World}{v:Value}{d:DataW H}{ps:List MemPlace}
 (b:DataW.Trod enc P a 0 (λ_=>true) true t v d ps) (f:Below a.heap.size a W') (c:∀x∈ps,x.block<a.heap.size) {sp:Nat->Bool} (h:∀x∈ps,sp x.block=true) :
 DataW.Trod enc P W' 0 sp true t v d ps :=
 WideElems.Trod_stays e i g b (λx hx=>f.same (c x hx)) h
theorem uc:prog.underlying 4=some .bool:=kR
theorem FV:prog.underlying 3=some (.int .i64):=kR
end Go.Proofs.YtpkocnpamcchcaaGreatDoor
