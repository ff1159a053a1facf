/- Parts. -/
import Derived.Test.YtpkocnpamcchcaaGreatDoorL32
set_option maxRecDepth 100000
set_option maxHeartbeats 40000000
set_option linter.all false
namespace Go.Star
section
variable {g:Nat->Nat->List SR->Nat->List SR×List SN} {d tp n:Nat}
theorem vG(f a e m:Nat)(i:List (Int×Nat))(b:List SR)(h:List SN)(c:Int)(j:a<tp)(l:c=dr b a d)(he:e=eR b d c tp (tp-a) a)(o:m=n+1+h.length):dh g d tp n (f+1) a i b h=dh g d tp n f e (i++[(c,m)]) (g a e b m).1 (h++(g a e b m).2):=by
 subst l he o
 conv=>lhs;unfold dh
 rw[if_pos j]
theorem BU(f a:Nat)(e:List (Int×Nat))(b:List SR)(c:List SN)(h:tp<=a):dh g d tp n f a e b c=(e,b,c):=by
 cases f with
 | zero=>rfl
 | succ f=>unfold dh;rw[if_neg oM]
end
theorem C3(leaf f c lo hi n:Nat)(e:Bool)(b:List SR)(a:f=0\/hi-lo<=leaf):bC leaf f c lo hi e b n=(b,[⟨c,lo,hi,[]⟩]):=by
 cases f with
 | zero=>rfl
 | succ f=>unfold bC;rw[if_pos (a.elim (λa=>by cases a) id)]
theorem QW(leaf f c lo hi n:Nat)(b:List SR)(l:¬ hi-lo<=leaf){h:List (Int×Nat)}{j:List SR}{i:List SN}(o:dh (λa e b n=>bC leaf f (c+1) a e true b n) c hi n (hi-lo) lo [] b []=(h,j,i)):bC leaf (f+1) c lo hi true b n=(j,⟨c,lo,hi,h⟩::i):=by
 unfold bC;rw[if_neg l,o];rfl
theorem wj(leaf f c lo hi n:Nat)(i:List SR)(q:¬ hi-lo<=leaf){o:List (Int×Nat)}{h:List SR}{j:List SN}(p:dh (λa e i n=>bC leaf f (c+1) a e false i n) c hi n (hi-lo) lo [] i []=(o,h,j)){l:List SR}(s:l=bN ((fo h lo hi).map (dw c))){b e m:Nat}(r:b=h.length)(he:e=h.length+l.length)(t:m=n+1+j.length) :
 bC leaf (f+1) c lo hi false i n=((bC leaf f (c+1) b e true (h++l) m).1,⟨c,lo,hi,o++[(-1,m)]⟩::(j++(bC leaf f (c+1) b e true (h++l) m).2)):=by
 subst r he t s
 conv=>lhs;unfold bC
 rw[if_neg q,p];rfl
theorem C5(leaf f b lo hi n:Nat)(i:Bool)(c:List SR)(l:¬ hi-lo<=leaf){p:List (Int×Nat)}{h:List SR}{j:List SN}(o:dh (λa e c n=>bC leaf f (b+1) a e i c n) b hi n (hi-lo) lo [] c []=(p,h,j)):h.length<=(bC leaf (f+1) b lo hi i c n).1.length/\1+j.length<=(bC leaf (f+1) b lo hi i c n).2.length:=by
 cases i with
 | true=>rw[QW leaf f b lo hi n c l o];simp;omega
 | false =>
   rw[wj leaf f b lo hi n c l o rfl rfl rfl rfl];obtain⟨x,q⟩:=iw leaf f (b+1) h.length (h.length+(bN ((fo h lo hi).map (dw b))).length) true (h++bN ((fo h lo hi).map (dw b))) (n+1+j.length);simp only[q];simp;omega
end Go.Star
namespace Go.Proofs.YtpkocnpamcchcaaGreatDoor
open Go.RowKit Go.Zone Go.Shelf Tryz Go.Star
def nf(k m leaf:Nat)(vr vn:Value):List Value:=[.int .i64 (k:Int),.int .i64 (m:Int),.int .i64 (leaf:Int),vr,vn]
structure dN(W:World)(gt base k m leaf:Nat)(vr vn:Value)(P:List (Rc×Star.SR))(N:List (Nc×Star.SN)):Prop where
 row:ak W gt 153 (nf k m leaf vr vn)
 gtb:base<=gt
 recs:bX W base vr (P.map λp=>p.1)
 ra:dV W base P
 nodes:pC W base vn (N.map λp=>p.1)
 na:EH W base N
 ml:∀p∈P,p.2.sums.length=m
section
variable {W W':World} {gt base k m leaf:Nat} {vr vn:Value} {P Q:List (Rc×Star.SR)} {N:List (Nc×Star.SN)}
theorem dN.keep(a:dN W gt base k m leaf vr vn P N)(b:aa W W'):dN W' gt base k m leaf vr vn P N :=
 ⟨a.row.keep b,a.gtb,a.recs.keep b,a.ra.keep b,a.nodes.keep b,λp hp=>⟨(a.na p hp).d,(a.na p hp).lo,(a.na p hp).hi,(a.na p hp).own.keep b⟩,a.ml⟩
theorem CW{a:Type}{f:Nat}{e:TypeId}{enc:a->List Value}{v:Value}{xs:List a}(b:ah W base e f enc v xs)(he:e=158\/e=117)(c:W.grownBy W' v.ownBlock):Gw base gt W W' :=
 Gw.of_turn (ag.of_grown c) λi hi=>by
  have:=AY b he (by simpa using hi);exact⟨this.1,.inr (.inl this.2)⟩
theorem CV(b:base<=gt)(a:Nat)(v:Value):Gw base gt W (W.setCell ⟨gt,a,none⟩ v) :=
 Gw.of_turn (ag.set W ⟨gt,a,none⟩ v) λi hi=>by
  simp only[lm]at hi;exact⟨oM,.inl hi⟩
theorem dN.app_node(a:dN W gt base k m leaf vr vn P N){c:Value}{s:Nc}{x:Star.SN}(l:pC W' base c ((N.map λp=>p.1)++[s]))(z:W.grownBy W' vn.ownBlock)(C:nX W base s x) :
 dN (W'.setCell ⟨gt,4,none⟩ c) gt base k m leaf vr c P (N++[(s,x)])/\Gw base gt W (W'.setCell ⟨gt,4,none⟩ c):=by
 have B:=bu a.nodes a.row dC;have o:=ag.of_grown z;have j:∀i,i∈vn.ownBlock.toList->vn.ownBlock=some i:=λi hi=>by simpa using hi
 have t:ak W' gt 153 (nf k m leaf vr vn):=o.row a.row λhm=>B (j _ hm);have A:ag W' (W'.setCell ⟨gt,4,none⟩ c) [gt]:=ag.set W' ⟨gt,4,none⟩ c;have q:∀{α:Type} {e:TypeId} {kk b:Nat} {enc:α->List Value} {v:Value} {xs:List α},ah W' b e kk enc v xs->153≠e->ah (W'.setCell ⟨gt,4,none⟩ c) b e kk enc v xs:=λl he=>l.turn A λi hi=>by
  simp only[lm]at hi;subst hi;exact bu l t he
 have u:∀{r:Nc} {y:Star.SN},nX W base r y->nX (W'.setCell ⟨gt,4,none⟩ c) base r y:=λhy=>⟨hy.d,hy.lo,hy.hi,q (hy.own.turn o λi hi=>cN a.nodes hy.own dC i (j i hi)) dC⟩;refine⟨⟨t.set 4 c,a.gtb,q (a.recs.turn o λi hi=>cN a.nodes a.recs dC i (j i hi)) dC,λp f=>?_,?_,λp f=>?_,a.ml⟩,(CW a.nodes (.inr rfl) z).trans (CV a.gtb 4 c)⟩
 ·have h:=a.ra p f;exact⟨h.ids,h.n,q (h.own.turn o λi hi=>cN a.nodes h.own dC i (j i hi)) dC,h.nil_⟩
 ·rw[lz];exact q l dC
 ·rcases lx.1 f with f|f
  ·exact u (a.na p f)
  ·rw[lm]at f;subst f;exact u C
theorem dN.app_recs(a:dN W gt base k m leaf vr vn P N){h:Value}(l:bX W' base h ((P.map λp=>p.1)++(Q.map λp=>p.1)))(x:W.grownBy W' vr.ownBlock)(A:dV W base Q)(s:∀p∈Q,p.2.sums.length=m) :
 dN (W'.setCell ⟨gt,3,none⟩ h) gt base k m leaf h vn (P++Q) N/\Gw base gt W (W'.setCell ⟨gt,3,none⟩ h):=by
 have B:=bu a.recs a.row dC;have o:=ag.of_grown x;have j:∀i,i∈vr.ownBlock.toList->vr.ownBlock=some i:=λi hi=>by simpa using hi
 have u:ak W' gt 153 (nf k m leaf vr vn):=o.row a.row λs=>B (j _ s);have z:ag W' (W'.setCell ⟨gt,3,none⟩ h) [gt]:=ag.set W' ⟨gt,3,none⟩ h;have q:∀{α:Type} {e:TypeId} {kk b:Nat} {enc:α->List Value} {v:Value} {xs:List α},ah W' b e kk enc v xs->153≠e->ah (W'.setCell ⟨gt,3,none⟩ h) b e kk enc v xs:=λl he=>l.turn z λi hi=>by
  simp only[lm]at hi;subst hi;exact bu l u he
 have t:∀{r:Rc} {y:Star.SR},eN W base r y->eN (W'.setCell ⟨gt,3,none⟩ h) base r y:=λf=>⟨f.ids,f.n,q (f.own.turn o λi hi=>cN a.recs f.own dC i (j i hi)) dC,f.nil_⟩;refine⟨⟨u.set 3 h,a.gtb,?_,λp c=>?_,q (a.nodes.turn o λi hi=>cN a.recs a.nodes dC i (j i hi)) dC,λp c=>?_,λp c=>?_⟩,(CW a.recs (.inl rfl) x).trans (CV a.gtb 3 h)⟩
 ·rw[lz];exact q l dC
 ·rcases lx.1 c with c|c
  ·exact t (a.ra p c)
  ·exact t (A p c)
 ·have f:=a.na p c;exact⟨f.d,f.lo,f.hi,q (f.own.turn o λi hi=>cN a.recs f.own dC i (j i hi)) dC⟩
 ·rcases lx.1 c with c|c
  ·exact a.ml p c
  ·exact s p c
theorem dN.set_kids{f c t:Nat}(a:dN W gt base k m leaf vr (.slice (some ⟨f,0,none⟩) t c) P N)(B:N.length=t)(i:Nat)(hi:i<N.length){A:Option Addr}{l o:Nat}{y:List (Int×Nat)}(D:kX W base (.slice A l o) y) :
 dN (W.setCell ⟨f,i*4+3,none⟩ (.slice A l o)) gt base k m leaf vr (.slice (some ⟨f,0,none⟩) t c) P (N.set i ({ N[i].1 with A:=A,l:=l,c:=o },{ N[i].2 with kids:=y }))/\Gw base gt W (W.setCell ⟨f,i*4+3,none⟩ (.slice A l o)):=by
 have u:ag W (W.setCell ⟨f,i*4+3,none⟩ (.slice A l o)) [f]:=ag.set W ⟨f,i*4+3,none⟩ (.slice A l o);have C:base<=f:=(a.nodes.lt f rfl).1;have r:∀{α:Type} {e:TypeId} {kk b:Nat} {enc:α->List Value} {v:Value} {xs:List α},ah W b e kk enc v xs->117≠e->ah (W.setCell ⟨f,i*4+3,none⟩ (.slice A l o)) b e kk enc v xs:=λho he=>ho.turn u λj hj=>by
  simp only[lm]at hj;subst hj;exact cN a.nodes ho he j rfl
 have z:gt∉[f]:=λhm=>by
  simp only[lm]at hm;subst hm;exact bu a.nodes a.row dC rfl
 have x:(N.map λp=>p.1).length=t:=by rw[ld];exact B
 refine⟨⟨u.row a.row z,a.gtb,r a.recs dC,λp q=>?_,?_,λp q=>?_,a.ml⟩,Gw.of_turn u λj hj=>?_⟩
 ·have s:=a.ra p q;exact⟨s.ids,s.n,r s.own dC,s.nil_⟩
 ·rw[List.map_set];exact sf a.nodes j6 x i 3 (by rw[x];omega) dC _ _ (by rw[Lj];rfl)
 ·rcases List.mem_or_eq_of_mem_set q with q|rfl
  ·have h:=a.na p q;exact⟨h.d,h.lo,h.hi,r h.own dC⟩
  ·have h:=a.na N[i] (ll hi);exact⟨h.d,h.lo,h.hi,r D dC⟩
 ·simp only[lm]at hj;subst hj;exact⟨C,.inr (.inl (AY a.nodes (.inr rfl) rfl).2)⟩
end
def fH(r:Nc):Option Nat:=(Value.slice r.A r.l r.c).ownBlock
section
variable {W W' w:World} {gt base k m leaf:Nat} {vr vn:Value} {P:List (Rc×Star.SR)} {N:List (Nc×Star.SN)}
theorem dN.grown_kd(a:dN W gt base k m leaf vr vn P N){b:Nat}{v:Value}{l:List (Int×Nat)}(h:kX W b v l)(q:W.grownBy W' v.ownBlock)(o:∀p∈N,∀i,fH p.1=some i->v.ownBlock≠some i):dN W' gt base k m leaf vr vn P N:=by
 have f:=ag.of_grown q;have c:∀i,i∈v.ownBlock.toList->v.ownBlock=some i:=λi hi=>by simpa using hi
 refine⟨f.row a.row λhm=>bu h a.row dC (c _ hm),a.gtb,a.recs.turn f λi hi=>cN h a.recs dC i (c i hi),λp hp=>(a.ra p hp).turn f λi hi=>cN h (a.ra p hp).own dC i (c i hi),a.nodes.turn f λi hi=>cN h a.nodes dC i (c i hi),λp hp=>?_,a.ml⟩;have j:=a.na p hp;exact⟨j.d,j.lo,j.hi,j.own.turn f λi hi e=>o p hp i e (c i hi)⟩
theorem Gw.trans_up{S:List Nat}(a:Gw base gt w W)(k:ag W W' S)(b:∀i∈S,w.heap.size<=i):Gw base gt w W' :=
 ⟨k.os.trans a.os,k.tape.trans a.tape,k.output.trans a.output,lk a.size k.size,λi hi hc=>(k.block i (lp hi a.size) λhm=>by have:=b i hm;omega).trans (a.block i hi hc)⟩
end
theorem dN.finish{W:World}{gt base k m leaf h c r n i:Nat}{vr:Value}{P:List (Rc×Star.SR)}{N a:List (Nc×Star.SN)}(B:dN W gt base k m leaf vr (.slice (some ⟨h,0,none⟩) r c) P (N++a))(D:(N++a).length=r)(t:N.length=n){x:Star.SN}{u:List Star.SN}(q:(a.map λp=>p.2)=x::u){A:Option Addr}{l f:Nat}{j:List (Int×Nat)}(v:kX W i (.slice A l f) j)(C:base<=i)(F:∀p∈a,∀b,fH p.1=some b->i<=b) :
 ∃NXf,dN (W.setCell ⟨h,n*4+3,none⟩ (.slice A l f)) gt base k m leaf vr (.slice (some ⟨h,0,none⟩) r c) P (N++NXf)/\(NXf.map λp=>p.2)={ x with kids:=j }::u/\(∀p∈NXf,∀b,fH p.1=some b->i<=b)/\Gw base gt W (W.setCell ⟨h,n*4+3,none⟩ (.slice A l f)):=by
 cases a with
 | nil=>cases q
 | cons p0 a =>
   simp only[lG,Lu]at q;obtain⟨G,E⟩:=q;have hi:n<(N++p0::a).length:=sO;obtain⟨s,z⟩:=B.set_kids D n hi (v.base_mono C);have e:(N++p0::a)[n]=p0:=by
    rw[List.getElem_append_right oM];simp[t]
   refine⟨({ p0.1 with A:=A,l:=l,c:=f },{ p0.2 with kids:=j })::a,?_,?_,?_,z⟩
   ·rw[e]at s;rw[Lg _ _ oM,t,Nat.sub_self]at s;exact s
   ·simp only[lG];rw[G,E]
   ·intro p o b y
    rcases ln.1 o with rfl|o
    ·exact(v.lt b y).1
    ·exact F p (Lm _ o) b y
def Rc.setId(r:Rc):Nat->Rc
 | 0=>{ r with i0:= -1 }
 | 1=>{ r with i1:= -1 }
 | 2=>{ r with i2:= -1 }
 | 3=>{ r with i3:= -1 }
 | 4=>{ r with i4:= -1 }
 | 5=>{ r with i5:= -1 }
 | 6=>{ r with i6:= -1 }
 | _=>{ r with i7:= -1 }
theorem If(r:Rc):∀d,d<8->(r.setId d).cells=r.cells.set d (.int .i64 (-1))
 | 0,_=>rfl
 | 1,_=>rfl
 | 2,_=>rfl
 | 3,_=>rfl
 | 4,_=>rfl
 | 5,_=>rfl
 | 6,_=>rfl
 | 7,_=>rfl
 | d+8,h=>absurd h oM
theorem Ie(r:Rc):∀d,d<8->(r.setId d).ids=r.ids.set d (-1)
 | 0,_=>rfl
 | 1,_=>rfl
 | 2,_=>rfl
 | 3,_=>rfl
 | 4,_=>rfl
 | 5,_=>rfl
 | 6,_=>rfl
 | 7,_=>rfl
 | d+8,h=>absurd h oM
theorem Ic(r:Rc):∀d,d<8->(r.setId d).sv=r.sv/\(r.setId d).n=r.n/\(r.setId d).A=r.A
 | 0,_=>⟨rfl,rfl,rfl⟩
 | 1,_=>⟨rfl,rfl,rfl⟩
 | 2,_=>⟨rfl,rfl,rfl⟩
 | 3,_=>⟨rfl,rfl,rfl⟩
 | 4,_=>⟨rfl,rfl,rfl⟩
 | 5,_=>⟨rfl,rfl,rfl⟩
 | 6,_=>⟨rfl,rfl,rfl⟩
 | 7,_=>⟨rfl,rfl,rfl⟩
 | d+8,h=>absurd h oM
def jg{a b:Type}(f g:a->b)(xs:List a)(i:Nat):List b:=(xs.take i).map f++(xs.drop i).map g
theorem BF{a b:Type}(f g:a->b)(xs:List a)(i:Nat):(jg f g xs i).length=xs.length:=by
 simp[jg];omega
theorem Mc{a b:Type}(f g:a->b)(xs:List a)(i:Nat)(hi:i<xs.length):(jg f g xs i)[i]'(by rw[BF];exact hi)=g xs[i]:=by
 unfold jg;rw[List.getElem_append_right sO];simp only[Lj,List.getElem_drop,ld,lD]
 congr 2
 omega
theorem LZ{a b:Type}(f g:a->b)(xs:List a)(i:Nat)(hi:i<xs.length):(jg f g xs i).set i (f xs[i])=jg f g xs (i+1):=by
 unfold jg;rw[Lg _ _ sO,ly hi,Lh hi];simp only[ld,lD,lG,lz,L3];rw[show i-min i xs.length=0 from oM,List.set_cons_zero,lr];rfl
theorem Md{a b:Type}(f g:a->b)(xs:List a):jg f g xs xs.length=xs.map f:=by
 unfold jg;rw[lC,List.drop_length];simp
theorem LY{a b:Type}(f g:a->b)(xs:List a):jg f g xs 0=xs.map g:=by simp[jg]
theorem Hz{h:Type}{w:World}{k c b lo hi:Nat}{enc:h->List Value}{xs:List h}(a:Sl w k enc (some ⟨b,0,none⟩) c xs)(v:lo<=hi)(q:hi<=xs.length):Sl w k enc (some ⟨b,lo*k,none⟩) (c-lo) ((xs.drop lo).take (hi-lo)):=by
 have t:=a.cap;have r:=a.big;have o:=a.len;have e:((xs.drop lo).take (hi-lo)).length=hi-lo:=sO;refine⟨by rw[e];omega,oM,by rw[e];omega,λi hi'=>⟨b,lo*k,rfl,λj u hu=>?_⟩⟩;rw[e]at hi';obtain⟨p,s,f,l⟩:=a.at_ (lo+i) oM;simp only[lQ,Addr.mk.injEq,and_true]at f;obtain⟨rfl,rfl⟩:=f;rw[List.getElem_take,List.getElem_drop]at hu;have:=l j u hu;rw[lH]at this
 simpa[Nat.add_assoc]using this
theorem eN.star{W:World}{base:Nat}{r:Rc}{x:Star.SR}(a:eN W base r x)(d:Nat)(b:d<8):eN W base (r.setId d) (dw d x):=by
 obtain⟨c,f,h⟩:=Ic r d b;exact⟨by rw[Ie r d b,a.ids];rfl,by rw[f];exact a.n,by rw[c];exact a.own,λe=>by rw[h];exact a.nil_ e⟩
theorem Om(P:List (Rc×Star.SR))(i d:Nat)(hi:i<P.length):dr (P.map λp=>p.2) i d=P[i].2.ids.getD d 0:=by
 have h:(P.map λp=>p.2).getD i default=P[i].2:=by
  rw[L9,lP,lu hi];rfl
 unfold dr;rw[h]
theorem vX(r:Rc):∀d,d<8->r.cells[d]? =some (.int .i64 (r.ids.getD d 0))
 | 0,_=>rfl
 | 1,_=>rfl
 | 2,_=>rfl
 | 3,_=>rfl
 | 4,_=>rfl
 | 5,_=>rfl
 | 6,_=>rfl
 | 7,_=>rfl
 | d+8,h=>absurd h oM
theorem zK{W:World}{base g N c:Nat}{P:List (Rc×Star.SR)}(b:bX W base (.slice (some ⟨g,0,none⟩) N c) (P.map λp=>p.1))(h:dV W base P)(e:P.length=N)(i d:Nat)(hi:i<P.length)(f:d<8):W.cell? ⟨g,i*10+d,none⟩=some (.int .i64 (dr (P.map λp=>p.2) i d)):=by
 have a:=rV b (by rw[ld];exact e) i (by rw[ld];exact hi) d (.int .i64 (dr (P.map λp=>p.2) i d));rw[Lj]at a;exact a (by rw[vX _ d f,Om P i d hi,(h _ (ll hi)).ids])
end Go.Proofs.YtpkocnpamcchcaaGreatDoor
namespace Go.Proofs.YtpkocnpamcchcaaGreatDoor
open Go.RowKit Go.Zone Go.Shelf Tryz Go.Roa Go.Star Go.Sym
def xa(leaf k m base f:Nat):Prop:=∀(gt depth lo hi:Nat) (st:Bool) (vr vn:Value) (P:List (Rc×Star.SR)) (N:List (Nc×Star.SN)) (w:World),depth+f=k->dN w gt base k m leaf vr vn P N->lo<=hi->hi<=P.length->base<=w.heap.size ->
 (bC leaf f depth lo hi st (P.map λp=>p.2) N.length).1.length<=1000000->N.length+(bC leaf f depth lo hi st (P.map λp=>p.2) N.length).2.length<=1000000 ->
 Calls prog 85 #[.pointer (some ⟨gt,0,none⟩),.int .i64 depth,.int .i64 lo,.int .i64 hi,.bool st] w λe w'=>e=.returned (.int .i64 (N.length:Int))/\∃vr' vn' P' NX,dN w' gt base k m leaf vr' vn' P' (N++NX)/\(P'.map λp=>p.2)=(bC leaf f depth lo hi st (P.map λp=>p.2) N.length).1/\(NX.map λp=>p.2)=(bC leaf f depth lo hi st (P.map λp=>p.2) N.length).2/\(∀p∈NX,∀b,fH p.1=some b->w.heap.size<=b)/\Gw base gt w w'
theorem CZ(leaf k m base f:Nat)(fd:k<=8)(fe:1<=leaf)(bc:m<=1000)(dU:∀z,f=z+1->xa leaf k m base z):xa leaf k m base f:=by
 intro E c lo hi H cL dW P N w L a9 dJ dG bI ci a7;have r:=lh a9;have c0:=lh ci;have ad:=lh a7;have c6:=lh dU;obtain⟨e4,el,bS⟩:=bp a9.nodes;rw[ld]at bS;have f1:N.length<=1000000:=oM;have fa:hi<=1000000:=by
  obtain⟨x,aM⟩:=iw leaf f c lo hi H (P.map λp=>p.2) N.length;rw[aM,lg,ld]at ci;omega
 have cN:=a9.row.cell 0 _ rfl;have cO:=a9.row.cell 2 _ rfl;have bY:=a9.row.cell 4 _ rfl;have cs:=a9.row.lt;have d0:=lh (show ∀p∈N,∀b,fH p.1=some b->b<w.heap.size from λp h b hb=>((a9.na p h).own.lt b hb).2);rw[bS]at bY;have db:=lh bS;clear a9 ci a7 dU bS;generalize a8:N.length=n at *;go_enter func85,ntmps85;go_upto_region 2 with fail;go_wp2_with (at_builtin;refine ae ?_);refine ar ?_;have B:aa w (w.alloc (.cells #[.int .i64 c,.int .i64 lo,.int .i64 hi,.slice none 0 0] 117)):=kP;have I:Sl (w.alloc (.cells #[.int .i64 c,.int .i64 lo,.int .i64 hi,.slice none 0 0] 117)) 4 Nc.cells (some ⟨w.heap.size,0,none⟩) 1 [(⟨c,lo,hi,none,0,0⟩:Nc)]:=br _ oM oM λj u hu=>(bH w 117 [.int .i64 c,.int .i64 lo,.int .i64 hi,.slice none 0 0]).cell j u hu;generalize w.alloc (.cells #[.int .i64 c,.int .i64 lo,.int .i64 hi,.slice none 0 0] 117)=dY at B I|-;have aV:=lh (r.o.keep B);have c8:=lh (show pC dY base (.slice e4 n el) (N.map λp=>p.1) from db.o▸aV.o.nodes);have bx:=lh B;clear cN cO bY cs B;refine aD DD j6 BC rfl (.tmp 28) (.tmp 33) rfl (ys:=[(⟨c,lo,hi,none,0,0⟩:Nc)]) c8.o rfl rfl I (by rw[ld,a8];simp;omega) (lk bI bx.o.size) ?_;intro fm bW cC bK _;obtain⟨bn,bF,dS⟩:=bp cC;rw[lg,ld,a8,lJ]at dS;subst dS
 have bQ:ak bW E 153 (nf k m leaf cL dW):=(ag.of_grown bK).row aV.o.row λbc=>bu c8.o aV.o.row dC (by simpa using bc);have dF:dY.grownBy bW dW.ownBlock:=db.o▸bK;obtain⟨dx,dm⟩:=aV.o.app_node cC dF (x:=⟨c,lo,hi,[]⟩) ⟨rfl,rfl,rfl,ah.nil_ _ _ _ _ _⟩;have a5:=lh dx;have aS:=lh ((Gw.keep bx.o base E).trans dm);have bY:=bQ.cell 4 _ rfl;have eS:=bQ.soft 4;have cs:=bQ.lt;have dz:=lk (lk bI bx.o.size) bK.size;clear cC bK dF bQ dx dm I c8 aV bx r;go_upto_region 3 with fail;have cJ:base<=(bW.setCell ⟨E,4,none⟩ (.slice bn (n+1) bF)).heap.size:=by simpa using dz
 generalize bW.setCell ⟨E,4,none⟩ (.slice bn (n+1) bF)=dZ at a5 aS cJ|-;have cN:=a5.o.row.cell 0 _ rfl;have cO:=a5.o.row.cell 2 _ rfl;have ex:=a5.o.row.lt;have dy:=bI;clear bY eS cs dz bI;obtain⟨V,cD⟩:∃V,V=hi-lo:=⟨_,rfl⟩;have aH:IntKind.i64.wrap ((hi:Int)-(lo:Int))=(V:Int):=iW oM
 by_cases aL:f=0\/hi-lo<=leaf
 ·have cr:=C3 leaf f c lo hi n H (P.map λp=>p.2) aL;have cV:=lh (show ∃bU aw o q,dN dZ E base k m leaf bU aw o (N++q)/\(o.map λp=>p.2)=(bC leaf f c lo hi H (P.map λp=>p.2) n).1/\(q.map λp=>p.2)=(bC leaf f c lo hi H (P.map λp=>p.2) n).2/\(∀p∈q,∀b,fH p.1=some b->w.heap.size<=b)/\Gw base E w dZ from⟨cL,.slice bn (n+1) bF,P,[(⟨c,lo,hi,none,0,0⟩,⟨c,lo,hi,[]⟩)],a5.o,by rw[cr],by rw[cr];rfl,(λp h b hb=>by rw[lm]at h;subst h;cases hb),aS.o⟩);clear cr c0 ad c6 a5 aS
  by_cases dE:c=k
  ·have dA:((c:Int)==(k:Int))=true:=(by simp[dE]);subst dE;clear aL L aH;go_wp2;go_ret;exact⟨rfl,cV.o⟩
  ·have dA:((c:Int)==(k:Int))=false:=sO;have cE:V<=leaf:=by
    rcases aL with A|A
    ·omega
    ·omega
   clear aL L;go_wp2;go_ret;exact⟨rfl,cV.o⟩
 ·obtain⟨z,rfl⟩:∃z,f=z+1:=⟨f-1,oM⟩;have cz:¬ hi-lo<=leaf:=λA=>aL (.inr A);have dA:c<k:=oM;have er:((c:Int)==(k:Int))=false:=sO;have cE:¬ V<=leaf:=oM;have b9:c<8:=oM;have ca:=lh cz;have cU:=lh L;obtain⟨R,cm⟩:∃R,R=dh (λa e rs n=>bC leaf z (c+1) a e H rs n) c hi n (hi-lo) lo [] (P.map λp=>p.2) []:=⟨_,rfl⟩;obtain⟨de,df,aG⟩:=R;have cq:=C5 leaf z c lo hi n H (P.map λp=>p.2) cz cm.symm;have cd:=lh (show df.length<=1000000/\n+1+aG.length<=1000000 from⟨lk cq.1 c0.o,by have:=cq.2;have:=ad.o;omega⟩);have cc:=lh cm;have fb:hi<=(P.map λp=>p.2).length:=by rw[ld];exact dG
  clear aL cz L cD cq cm;go_wp2;have fi:n+1<=1000000:=by have:=cd.o.2;omega
  clear aH er cE cN cO;go_loopw [12,13] (λvk va wr=>∃(s aI:Nat) (U:List (Int×Nat)) (bU aw:Value) (o:List (Rc×Star.SR)) (q:List (Nc×Star.SN)) (a3:List Star.SN),va=.int .i64 s/\lo<=s/\s<=hi/\hi-s<=aI/\U.length+lo<=s/\Hid (hi<=o.length)/\Hid (kX wr w.heap.size vk U)/\Hid (dN wr E base k m leaf bU aw o (N++q))/\Hid ((q.map λp=>p.2)=⟨c,lo,hi,[]⟩::a3)/\Hid (∀p∈q,∀b,fH p.1=some b->w.heap.size<=b/\vk.ownBlock≠some b) /\
   Hid ((de,df,aG)=dh (λa e rs n=>bC leaf z (c+1) a e H rs n) c hi n aI s U (o.map λp=>p.2) a3)/\Hid (Gw base E w wr)/\Hid (base<=wr.heap.size)) (λ_ va _=>hi-(intOf va).toNat)
  case atStart =>
   exact⟨lo,hi-lo,[],cL,.slice bn (n+1) bF,P,[((⟨c,lo,hi,none,0,0⟩:Nc),(⟨c,lo,hi,[]⟩:Star.SN))],[],rfl,lc _,dJ,lc _,sP,dG,ah.nil_ _ _ _ _ _,a5.o,rfl,(λp h b hb=>by rw[lm]at h;subst h;cases hb),cc.o,aS.o,cJ⟩
  case round =>
   clear a5 aS cJ ex;obtain⟨s,aI,U,bU,aw,o,q,a3,rfl,f2,eo,f3,f4,aC,aj,r,aB,az,bA,aP,ay⟩:=hrel;obtain⟨cR,dj,eP⟩:=bp aj.o;subst eP
   by_cases cw:s<hi
   ·have a0:=aC.o;have a1:(o.map λp=>p.1).length=o.length:=ld _;obtain⟨e6,S,bj⟩:=bp r.o.recs;rw[a1]at bj;subst bj;obtain⟨X,rfl,-⟩:=fh r.o.recs (by rw[a1];omega);have bM:=(r.o.recs.lt X rfl).2;obtain⟨t,ap⟩:∃t,t=o.length:=⟨_,rfl⟩;have cg:wr.cell? ⟨X,s*10+c,none⟩=some (.int .i64 (dr (o.map λp=>p.2) s c)):=zK r.o.recs r.o.ra rfl s c oM b9;have ea:=lh (λe (he:e<hi)=>(zK r.o.recs r.o.ra rfl e c oM b9:wr.cell? ⟨X,e*10+c,none⟩=some (.int .i64 (dr (o.map λp=>p.2) e c))));have W:=r.o.row.cell 3 _ rfl;have ct:=r.o.row.lt;rw[<-ap]at W;have O:=lh ap;have dK:hi<=t:=oM;generalize dH:dr (o.map λp=>p.2) s c=G at cg;have cY:=lh dH;clear dH a0 a1 ap;go_wp2;go_loopw [15] (λve wq=>∃e:Nat,ve=.int .i64 e/\s<=e/\e<=hi/\wq=wr/\Hid (eR (o.map λp=>p.2) c G hi (hi-s) s=eR (o.map λp=>p.2) c G hi (hi-e) e)) (λve _=>hi-(intOf ve).toNat)
    case atStart=>exact⟨s,rfl,lc _,eo,rfl,rfl⟩
    case round =>
     clear cg;obtain⟨e,rfl,f6,es,rfl,c4⟩:=hrel;go_upto_region 10 with fail;go_cut [85]from 69 to 85 (λs85 wx=>∃b:Bool,s85=.bool b/\wx=wr/\Hid (b=true->e<hi/\dr (o.map λp=>p.2) e c=G)/\Hid (b=false->e=hi\/dr (o.map λp=>p.2) e c≠G))
     case first =>
      by_cases dD:e<hi
      ·have dg:=ea.o e dD;have f8:e<t:=oM;generalize T:dr (o.map λp=>p.2) e c=v at dg;have da:=lh T;clear T;go_wp2_with fail;go_meet;exact⟨_,rfl,rfl,λA=>⟨dD,by rw[da.o];simpa using A⟩,λA=>.inr (by rw[da.o];simpa using A)⟩
      ·have dB:e=hi:=oM;have e8:=lh dB;clear dB;go_wp2_with fail;go_meet;exact⟨false,rfl,rfl,λA=>(by cases A),λ_=>.inl e8.o⟩
     case rest =>
      obtain⟨b,rfl,rfl,c1,af⟩:=hcut
      cases b with
      | true =>
        have F:=c1.o rfl;have f7:=F.1;have bs:=lh (c4.o.trans (Dt _ c G hi e F.1 F.2));clear F c1 af;go_wp2;go_roundw
        case rel=>exact⟨e+1,by go_num,oM,oM,(by first|rfl|trivial),bs.o⟩
        case measure=>simp[intOf];omega
      | false =>
        have dP:=af.o rfl;have bs:=lh (show e=eR (o.map λp=>p.2) c G hi (hi-s) s from(c4.o.trans (wG _ c G hi e dP)).symm);have f5:s<e:=by
             have:=bs.o;rw[<-cY.o]at this;rw[this];exact Dv _ c hi s cw
        clear dP c1 af c4;obtain⟨aX,rfl⟩:∃aX,aI=aX+1:=⟨aI-1,oM⟩;have eJ:q.length=1+a3.length:=by
             have:=congrArg List.length aB.o
             simpa[Nat.add_comm]using this
        have b3:(N++q).length=n+1+a3.length:=(by rw[lg,a8];omega);have bR:=bA.o;rw[vG aX s e (N++q).length U (o.map λp=>p.2) a3 G cw cY.o.symm bs.o b3]at bR;have dM:=o6 (g:=λa e rs n=>bC leaf z (c+1) a e H rs n) (d:=c) (tp:=hi) (n:=n) (λa e rs n=>iw leaf z (c+1) a e H rs n) aX e (U++[(G,(N++q).length)]) (bC leaf z (c+1) s e H (o.map λp=>p.2) (N++q).length).1 (a3++(bC leaf z (c+1) s e H (o.map λp=>p.2) (N++q).length).2);rw[<-bR]at dM;obtain⟨_,⟨fn,cH⟩,⟨fp,cI⟩⟩:=dM;simp only at cH cI;have ao:=congrArg List.length cH;have aJ:=congrArg List.length cI;rw[lg]at ao;rw[lg,lg]at aJ;have eL:=cd.o;have aK:=c6.o z rfl E (c+1) s e H _ aw o (N++q) wc (by have:=cU.o;omega) r.o oM (by have:=aC.o;omega) ay.o oM oM;have aO:=lh aK;have ef:=lh bR;have e9:=lh (show hi<=(bC leaf z (c+1) s e H (o.map λp=>p.2) (N++q).length).1.length by
             obtain⟨x,aM⟩:=iw leaf z (c+1) s e H (o.map λp=>p.2) (N++q).length;rw[aM,lg,ld];have:=aC.o;omega)
        clear aK bR b3 eJ ao aJ cH cI eL bA;go_wp2_with (go_at_call 85;refine ae ?_);refine ar ?_;rw[show((c:Int)+1)=((c+1:Nat):Int) from oM];refine aO.o.mono ?_;rintro em a4 ⟨rfl,bV,bT,aF,J,b6,b5,b2,a7,Y⟩;have bb:=Gw.own aj.o Y dC dC r.o.row dC;have aE:=lh b6;have bD:=lh b5;have c7:=lh b2;have aT:=lh bb;have aQ:=lh (aP.o.trans Y);have d8:=lh Y.size;have aA:=lh (show ∀b,(Value.slice cR U.length dj).ownBlock=some b->b<wc.heap.size from λb hb=>(aj.o.lt b hb).2);have ad:=lh a7;clear b6 b5 b2 bb Y a7 aO r aj W ct bM;generalize Z:(N++q).length=C;have bB:=lh Z;clear Z;go_wp2_with (at_builtin;refine ae ?_);refine ar ?_;have I:Sl (a4.alloc (.cells #[.int .i64 G,.int .i64 C] 119)) 2 kQ (some ⟨a4.heap.size,0,none⟩) 1 [(G,C)]:=br _ oM oM λj u hu=>(bH a4 119 [.int .i64 G,.int .i64 C]).cell j u hu;have B:aa a4 (a4.alloc (.cells #[.int .i64 G,.int .i64 C] 119)):=aa.alloc (aa.refl _) _;generalize a4.alloc (.cells #[.int .i64 G,.int .i64 C] 119)=dX at I B|-;have M:=lh (aT.o.keep B);refine aD qC mH qt rfl (.tmp 88) (.tmp 98) rfl (ys:=[(G,C)]) M.o rfl rfl I sO (lk aQ.o.size B.size) ?_;intro v4 ax aq ab b8;obtain⟨cQ,di,bh⟩:=bp aq;rw[lg,lJ]at bh;subst bh;have cb:=lh aq
        have D:=lh (show dN ax E base k m leaf bV bT aF (N++q++J) from(aE.o.keep B).grown_kd M.o ab λp h i hi T=>by
             have eF:=(M.o.lt i T).1
             rcases lx.1 h with h|h
             ·rcases lx.1 h with h|h
              ·have:=d0.o p h i hi;omega
              ·exact(az.o p h i hi).2 T
             ·have F:=ad.o p h i hi;have a6:=aA.o i T;omega)
        have aR:=lh (Gw.trans_up (aQ.o.trans (Gw.keep B base E)) (ag.of_grown ab) λi hi=>(M.o.lt i (by simpa using hi)).1);have c2:=lh (show ∀p∈q++J,∀b,fH p.1=some b->w.heap.size<=b/\(Value.slice cQ (U.length+1) di).ownBlock≠some b from λp h b hb=>by
             have fg:b<dX.heap.size:=(((aE.o.keep B).na p (by rcases lx.1 h with h|h<;>simp[h])).own.lt b hb).2
             rcases lx.1 h with h|h
             ·have F:=az.o p h b hb;refine⟨F.1,λe5=>?_⟩
              rcases b8 with L|L
              ·exact F.2 (L▸e5)
              ·rw[L]at e5;simp at e5;omega
             ·have F:=ad.o p h b hb;refine⟨lk aP.o.size F,λe5=>?_⟩
              rcases b8 with L|L
              ·have a6:=aA.o b (L▸e5);omega
              ·rw[L]at e5;simp at e5;omega)
        have ej:=lh (lk (lk ay.o (lk d8.o B.size)) ab.size);clear aq ab b8 I B M aT aE ad aA;go_wp2;go_roundw
        case rel =>
             refine⟨e,aX,U++[(G,C)],bV,bT,aF,q++J,a3++(bC leaf z (c+1) s e H (o.map λp=>p.2) C).2,rfl,oM,es,oM,sO,?_,cb.o,?_,?_,c2.o,?_,aR.o,ej.o⟩
             ·show hi<=aF.length;have:=congrArg List.length bD.o;rw[ld]at this;rw[this];exact e9.o
             ·show dN _ _ _ _ _ _ _ _ _ _;have A:=D.o
              rwa [lr]at A
             ·show List.map _ _=_;rw[lz,aB.o,c7.o,bB.o];rfl
             ·show _=_;have A:=ef.o;rw[bB.o]at A;have a6:=bD.o;rw[bB.o]at a6;rw[a6];exact A
        case measure=>simp[intOf];omega
   ·have ep:s=hi:=oM;have cu:=bA.o;rw[BU aI s U _ a3 oM]at cu;simp only[Prod.mk.injEq]at cu;obtain⟨rfl,rfl,rfl⟩:=cu;have fk:q.length=aG.length+1:=by
     have:=congrArg List.length aB.o
     simpa using this
    have d4:=lh cc.o.symm;clear bA ep cc
    cases H with
    | true =>
      have bM:=QW leaf z c lo hi n (P.map λp=>p.2) ca.o d4.o;have cX:=lh bM;clear bM;have K:((N++q).map λp=>p.1).length=(N++q).length:=ld _;obtain⟨e1,ek,bi⟩:=bp r.o.nodes;rw[K]at bi;subst bi;obtain⟨en,rfl,-⟩:=fh r.o.nodes (by rw[K,lg];omega);obtain⟨au,bf⟩:∃au,au=(N++q).length:=⟨_,rfl⟩;have cv:(N++q).length=n+q.length:=(by rw[lg,a8]);obtain⟨t0,ac,t2,_⟩:=fY r.o.nodes j6 K n (by rw[K];omega);obtain⟨bm,bk⟩:∃bm:Nc,bm=((N++q).map λp=>p.1)[n]'(by rw[K];omega):=⟨_,rfl⟩;rw[<-bk]at t0;clear bk;have eQ:=t0 3 _ rfl;have eT:=(ac 3 dC).2;have cP:=r.o.row.cell 4 _ rfl;have ey:=r.o.row.lt;obtain⟨cf,b7,b4,aY,b1⟩:=r.o.finish rfl a8 aB.o aj.o dy (λp h b hb=>(az.o p h b hb).1);have eI:n<au:=oM;rw[<-bf]at cP;have ce:=lh b7;have c9:=lh b4;have c3:=lh aY;have c5:=lh (aP.o.trans b1);clear K t0 ac cv b7 b4 aY b1 bf;go_wp2;go_ret;refine⟨rfl,_,_,o,cf,ce.o,?_,?_,λa b A=>c3.o (a,b) A,c5.o⟩
      ·rw[cX.o]
      ·rw[cX.o];exact c9.o
    | false =>
      have eK:=aC.o;have ff:lo<hi:=(by have:=ca.o;omega);have a1:(o.map λp=>p.1).length=o.length:=ld _;obtain⟨e6,S,bj⟩:=bp r.o.recs;rw[a1]at bj;subst bj;obtain⟨X,rfl,-⟩:=fh r.o.recs (by rw[a1];omega);have dL:o.length<=1000000:=(by have:=cd.o.1;rwa [ld]at this);obtain⟨eU,dg,eM,I⟩:=r.o.recs.sl fx (by rw[a1];omega);injection eM with aH e2 e3;subst aH;subst e3;obtain⟨t,ap⟩:∃t,t=o.length:=⟨_,rfl⟩;have eq:t<=S:=(by have:=I.cap;rw[a1]at this;omega);have W:=r.o.row.cell 3 _ rfl;have ct:=r.o.row.lt;rw[<-ap]at W;have dK:hi<=t:=oM;have eC:lo<S:=oM;have eD:¬ S-lo=0:=oM;have eE:¬ S=lo:=oM;have d6:=lh I;have O:=lh ap;have ec:=lh dL;clear eK a1 e2 I ap dL;obtain⟨y,aZ⟩:∃y,y=(o.drop lo).take (hi-lo):=⟨_,rfl⟩;have b0:y.length=hi-lo:=(by rw[aZ];simp;have:=aC.o;omega);have cj:∀p∈y,p∈o:=λp h=>List.mem_of_mem_drop (Lx (aZ▸h));have dQ:Sl wr 10 Rc.cells (some ⟨X,lo*10,none⟩) (S-lo) (y.map λp=>p.1):=by
       have A:=Hz d6.o (lo:=lo) (hi:=hi) dJ (by rw[ld];exact aC.o);rw[aZ,List.map_take,List.map_drop];exact A
      obtain⟨a2,cA⟩:∃a2,a2=hi-lo:=⟨_,rfl⟩;rw[<-cA]at b0;have co:=Jj (some ⟨X,lo*10,none⟩) (S-lo) (y.map λp=>p.1) wr dQ (by rw[ld];omega) (λe=>by have:=congrArg List.length e;rw[ld,b0]at this;simp at this;omega);rw[ld,b0]at co;have cS:=lh co;have bo:=lh (show dV wr base y from λp h=>r.o.ra p (cj p h));have cT:=lh (λp h=>r.o.ml p (cj p h));have bq:=lh (show(y.map λp=>p.2)=fo (o.map λp=>p.2) lo hi by rw[aZ,List.map_take,List.map_drop];rfl);have ai:=lh b0;have eH:a2<=1000000:=oM;have eG:0<a2:=oM;clear aZ b0 cj dQ co;go_wp2_with (go_at_call 142;refine ae ?_);refine ar ?_;rw[<-cA];refine cS.o.mono ?_;rintro e a4 ⟨eW,dk,rfl,bg,_,dI⟩;obtain⟨al,rfl,-⟩:=fh bg (by rw[ld,ai.o];exact eG);have eu:=(bg.lt al rfl).1;have et:=(bg.lt al rfl).2;have d1:=lh (bg.base_mono ay.o);have bv:=lh dI;clear bg dI cS cA W eC eD eE dK eq ct;go_wp2;clear cw;go_loopw [113] (λvi wq=>∃i:Nat,i<=a2/\vi=.int .i64 i/\Hid (bX wq base (.slice (some ⟨al,0,none⟩) a2 dk) (jg (λp:Rc×Star.SR=>p.1.setId c) (λp=>p.1) y i))/\Hid (ag a4 wq [al])) (λvi _=>a2-(intOf vi).toNat)
      case atStart=>exact⟨0,lj _,rfl,by rw[LY];exact d1.o,ag.refl _ _⟩
      case round =>
       clear d1;obtain⟨i,fc,rfl,aU,aW⟩:=hrel
       by_cases eA:i<a2
       ·have ba:i<y.length:=(by rw[ai.o];exact eA);have bd:=BF (λp:Rc×Star.SR=>p.1.setId c) (λp=>p.1) y i;obtain⟨t0,ac,f9,_⟩:=fY aU.o fx (by rw[bd];exact ai.o) i (by rw[bd];exact ba);have cx:=Mc (λp:Rc×Star.SR=>p.1.setId c) (λp=>p.1) y i ba;rw[cx]at t0;obtain⟨e0,cg⟩:∃e0,wr.cell? ⟨al,i*10+c,none⟩=some (.int .i64 e0):=⟨_,t0 c _ (vX _ c b9)⟩;have f0:=(ac c oM).2;have cF:=sf aU.o fx (by rw[bd];exact ai.o) i c (by rw[bd];exact ba) oM (.int .i64 (-1)) (y[i].1.setId c) (by rw[cx];exact If _ c b9);rw[LZ (λp:Rc×Star.SR=>p.1.setId c) (λp=>p.1) y i ba]at cF;have ee:=lh cF;have eh:=lh (ag.set wr ⟨al,i*10+c,none⟩ (.int .i64 (-1)));clear cF cx bd ba t0 ac;go_wp2;go_roundw
        case rel=>exact⟨i+1,oM,by go_num,ee.o,aW.o.trans eh.o⟩
        case measure=>simp[intOf];omega
       ·have ez:i=a2:=oM;subst ez;have cy:=Md (λp:Rc×Star.SR=>p.1.setId c) (λp=>p.1) y;rw[ai.o]at cy;rw[cy]at aU;have dl:(y.map λp=>(p.1.setId c,dw c p.2)).map (λp=>p.1)=y.map λp:Rc×Star.SR=>p.1.setId c:=(by rw[List.map_map];rfl);have bG:(y.map λp=>(p.1.setId c,dw c p.2)).length=i:=(by rw[ld];exact ai.o);have eB:aa a4 wr->True:=λ_=>trivial;clear eB;have du:dV wr base (y.map λp=>(p.1.setId c,dw c p.2)):=λp h=>by
            obtain⟨av,a0,rfl⟩:=lW.1 h;refine eN.star ?_ c b9;have F:=(bo.o av a0).keep bv.o;exact F.turn aW.o λj hj e=>by
             simp only[lm]at hj;subst hj;have a6:=((bo.o av a0).own.lt j e).2;omega
        have cG:=xO al dk base m (y.map λp=>(p.1.setId c,dw c p.2)) wr (by rw[dl,bG];exact aU.o) du (by rw[bG];exact eH) bc (λp h=>by
            obtain⟨av,a0,rfl⟩:=lW.1 h;exact cT.o av a0)
        rw[bG]at cG;have d9:=lh cG;have e7:=lh (show(y.map λp=>(p.1.setId c,dw c p.2)).map (λp=>p.2)=(fo (o.map λp=>p.2) lo hi).map (dw c) by rw[List.map_map,<-bq.o,List.map_map];rfl);clear cy dl bG du cG aU;go_wp2_with (go_at_call 84;refine ae ?_);refine uM d9.o ?_;rintro e ax ⟨v,Q,rfl,cl,dq,_,ds,dt⟩;obtain⟨eX,eZ,dT⟩:=bp cl;rw[ld]at dT;subst dT;have bz:=lh (ag.after (ag.after bv.o aW.o (λj hj=>by simp at hj;omega)) dt (λj hj=>by simp at hj;omega));have dd:=lh (lk ay.o bz.o.size);have bO:Q.map (λp=>p.2)=bN ((fo (o.map λp=>p.2) lo hi).map (dw c)):=(by rw[<-e7.o];exact ds);have d3:=lh bO;have cE:Q.length<=i:=by
            have F:=congrArg List.length bO;rw[ld]at F;have a6:=ma ((fo (o.map λp=>p.2) lo hi).map (dw c));rw[<-bq.o,ld,ld,ai.o]at a6;rw[<-bq.o]at F;omega
        have ed:=lh (show ∀V∈Q,V.2.sums.length=m from λV cD=>by
            have F:V.2∈bN ((fo (o.map λp=>p.2) lo hi).map (dw c)):=(by rw[<-bO];exact Le cD);refine(qY (k:=8) (m:=m) (yq λx aM=>?_) V.2 F).2;rw[<-bq.o]at aM;obtain⟨av,a0,rfl⟩:=lW.1 aM;exact⟨(bo.o av a0).len8,cT.o av a0⟩)
        obtain⟨eV,eY,eO,dO⟩:=cl.sl fx (by rw[ld];omega);injection eO with aH e2 e3;subst aH;subst e3;rw[ld]at e2;have d7:=lh dO;have d2:=lh (dq.base (show base<=wr.heap.size from lk ay.o (lk bv.o.size aW.o.size)));have D:=lh (r.o.keep bz.o);have cZ:=lh (aj.o.keep bz.o);have aR:=lh (aP.o.trans (Gw.keep bz.o base E));have W:=D.o.row.cell 3 _ rfl;have ev:=D.o.row.lt;have cK:=D.o.row.soft 3;rw[<-O.o]at W;clear cl dq ds dt bO dO e2 d9 aW bo bv et eu d6 aP ay;go_upto_region 23 with fail;go_wp2_with (at_builtin;refine ae ?_);refine ar ?_;have d5:=lh (show bX ax base (.slice (some ⟨X,0,none⟩) t S) (o.map λp=>p.1) from O.o▸D.o.recs);have fj:t<=1000000:=(by rw[O.o];exact ec.o);refine aD tj fx qe rfl (.tmp 134) (.tmp 135) rfl (ys:=Q.map λp=>p.1) d5.o rfl (by rw[ld];rfl) d7.o (by rw[ld,ld,<-O.o];omega) dd.o ?_;intro v5 bl cB bJ _;obtain⟨bZ,ch,dR⟩:=bp cB;rw[lg,ld,ld,<-O.o]at dR;subst dR;have cp:ax.grownBy bl (Value.slice (some ⟨X,0,none⟩) o.length S).ownBlock:=O.o▸bJ;have bP:ak bl E 153 (nf k m leaf (.slice (some ⟨X,0,none⟩) o.length S) aw):=(ag.of_grown cp).row D.o.row λbc=>bu D.o.recs D.o.row dC (by simpa using bc)
        obtain⟨dv,ck⟩:=D.o.app_recs cB cp d2.o ed.o;have bE:=lh dv;have bt:=lh (aR.o.trans ck);have bw:=lh (Gw.own cZ.o ck dC dC D.o.row dC);have dc:=lh (show base<=(bl.setCell ⟨E,3,none⟩ (.slice bZ (t+Q.length) ch)).heap.size by have:=dd.o;have:=bJ.size;simp;omega);have eg:=lh (show ax.heap.size<=(bl.setCell ⟨E,3,none⟩ (.slice bZ (t+Q.length) ch)).heap.size by have:=bJ.size;simp;omega);clear W cK ev;have W:=bP.cell 3 _ rfl;have cK:=bP.soft 3;have ew:=bP.lt;clear cB bJ cp bP dv ck D d5 cZ d7 d2;go_upto_region 24 with fail;generalize bl.setCell ⟨E,3,none⟩ (.slice bZ (t+Q.length) ch)=cM at bE bt bw dc eg|-;clear W cK ew;have dp:((o++Q).map λp=>p.2)=(o.map λp=>p.2)++bN ((fo (o.map λp=>p.2) lo hi).map (dw c)):=(by rw[lz,d3.o]);have dn:(N++q).length=n+1+aG.length:=(by rw[lg,a8];omega);obtain⟨C,Z⟩:∃C,C=(N++q).length:=⟨_,rfl⟩;have b3:C=n+1+aG.length:=Z.trans dn;have bL:=wj leaf z c lo hi n (P.map λp=>p.2) ca.o d4.o (l:=bN ((fo (o.map λp=>p.2) lo hi).map (dw c))) rfl (b:=t) (e:=t+Q.length) (m:=C) (by rw[ld];exact O.o) (by rw[<-d3.o,ld,ld,O.o]) b3;rw[<-dp]at bL;have ao:=c0.o;have aJ:=ad.o;rw[bL]at ao aJ;simp only[lw,lg]at ao aJ
        have aK:=c6.o z rfl E (c+1) t (t+Q.length) true _ aw (o++Q) (N++q) cM (by have:=cU.o;omega) bE.o oM (by rw[lg,O.o];exact lc _) dc.o (by rw[<-Z];exact ao) (by rw[<-Z];omega);rw[<-Z]at aK;have aO:=lh aK;have bB:=lh Z;have cW:=lh bL;clear aK bL dp b3 ao aJ dn Z;go_wp2_with (go_at_call 85;refine ae ?_);refine ar ?_;rw[show((c:Int)+1)=((c+1:Nat):Int) from oM,show((t:Int)+(Q.length:Int))=((t+Q.length:Nat):Int) from oM];refine aO.o.mono ?_;rintro em aN ⟨rfl,bV,bT,aF,J,b6,b5,b2,a7,Y⟩;have bb:=Gw.own bw.o Y dC dC bE.o.row dC;have aE:=lh b6;have bD:=lh b5;have c7:=lh b2;have aT:=lh bb;have aQ:=lh (bt.o.trans Y);have d8:=lh Y.size;have aA:=lh (show ∀b,(Value.slice cR de.length dj).ownBlock=some b->b<cM.heap.size from λb hb=>(bw.o.lt b hb).2);have af:=lh a7;have ei:=lh (show w.heap.size<=cM.heap.size from bt.o.size);clear b6 b5 b2 bb Y a7 aO bE bw bt;go_wp2_with (at_builtin;refine ae ?_);refine ar ?_;have I:Sl (aN.alloc (.cells #[.int .i64 (-1),.int .i64 C] 119)) 2 kQ (some ⟨aN.heap.size,0,none⟩) 1 [((-1:Int),C)]:=br _ oM oM λj u hu=>(bH aN 119 [.int .i64 (-1),.int .i64 C]).cell j u hu;have B:aa aN (aN.alloc (.cells #[.int .i64 (-1),.int .i64 C] 119)):=aa.alloc (aa.refl _) _;generalize aN.alloc (.cells #[.int .i64 (-1),.int .i64 C] 119)=dX at I B|-
        have M:=lh (aT.o.keep B);refine aD qC mH qt rfl (.tmp 139) (.tmp 150) rfl (ys:=[((-1:Int),C)]) M.o rfl rfl I sO (lk aQ.o.size B.size) ?_;intro v4 ax aq ab b8;obtain⟨cQ,di,bh⟩:=bp aq;rw[lg,lJ]at bh;subst bh;have cn:dN ax E base k m leaf bV bT aF (N++q++J):=(aE.o.keep B).grown_kd M.o ab λp h i hi T=>by
            have eF:=(M.o.lt i T).1
            rcases lx.1 h with h|h
            ·rcases lx.1 h with h|h
             ·have:=d0.o p h i hi;omega
             ·exact(az.o p h i hi).2 T
            ·have F:=af.o p h i hi;have a6:=aA.o i T;omega
        rw[lr]at cn;have cb:=lh aq;have D:=lh cn;have aR:=lh (Gw.trans_up (aQ.o.trans (Gw.keep B base E)) (ag.of_grown ab) λi hi=>(M.o.lt i (by simpa using hi)).1);have c2:=lh (show ∀p∈q++J,∀b,fH p.1=some b->w.heap.size<=b/\True from λp h b hb=>by
            rcases lx.1 h with h|h
            ·exact⟨(az.o p h b hb).1,trivial⟩
            ·exact⟨lk ei.o (af.o p h b hb),trivial⟩)
        have eb:=lh (show((q++J).map λp=>p.2)=⟨c,lo,hi,[]⟩::(aG++(bC leaf z (c+1) t (t+Q.length) true ((o++Q).map λp=>p.2) C).2) by rw[lz,aB.o,c7.o];rfl);have fl:0<(q++J).length:=(by rw[lg];omega);clear aq ab b8 I B M aT aE af aA cn r aj aB az;have K:((N++(q++J)).map λp=>p.1).length=(N++(q++J)).length:=ld _;obtain⟨e1,ek,bi⟩:=bp D.o.nodes;rw[K]at bi;subst bi;obtain⟨en,rfl,-⟩:=fh D.o.nodes (by rw[K,lg];omega);obtain⟨au,bf⟩:∃au,au=(N++(q++J)).length:=⟨_,rfl⟩;have cv:(N++(q++J)).length=n+(q++J).length:=(by rw[lg,a8]);obtain⟨t0,ac,t2,_⟩:=fY D.o.nodes j6 K n (by rw[K];omega);obtain⟨bm,bk⟩:∃bm:Nc,bm=((N++(q++J)).map λp=>p.1)[n]'(by rw[K];omega):=⟨_,rfl⟩;rw[<-bk]at t0;clear bk;have eQ:=t0 3 _ rfl;have eT:=(ac 3 dC).2;have cP:=D.o.row.cell 4 _ rfl;have ey:=D.o.row.lt;obtain⟨cf,b7,b4,aY,b1⟩:=D.o.finish rfl a8 eb.o cb.o dy (λp h b hb=>(c2.o p h b hb).1);have eI:n<au:=oM;rw[<-bf]at cP;have ce:=lh b7;have c9:=lh b4;have c3:=lh aY;have c5:=lh (aR.o.trans b1);clear K t0 ac cv b7 b4 aY b1 bf;go_wp2;go_ret;refine⟨rfl,_,_,aF,cf,ce.o,?_,?_,λa b A=>c3.o (a,b) A,c5.o⟩
        ·rw[cW.o];exact bD.o
        ·rw[cW.o];exact c9.o
theorem C6(leaf k m base:Nat)(a:k<=8)(b:1<=leaf)(c:m<=1000):∀f,xa leaf k m base f
 | 0=>CZ leaf k m base 0 a b c λf' h=>oM
 | f+1=>CZ leaf k m base (f+1) a b c λf' h=>by
   have e:f=f':=oM;subst e;exact C6 leaf k m base a b c f
end Go.Proofs.YtpkocnpamcchcaaGreatDoor
