/- Parts. -/
import Derived.Deep.MidRow
import Derived.Test.YtpkocnpamcchcaaGreatDoorL23
set_option maxRecDepth 100000
set_option maxHeartbeats 40000000
set_option linter.all false
namespace Go.Proofs.YtpkocnpamcchcaaGreatDoor
open Go.RowKit Go.Zone Go.Shelf Tryz
structure Rc where
 i0:Int
 i1:Int
 i2:Int
 i3:Int
 i4:Int
 i5:Int
 i6:Int
 i7:Int
 n:Int
 A:Option Addr
 l:Nat
 c:Nat
instance:Inhabited Rc:=⟨⟨0,0,0,0,0,0,0,0,0,none,0,0⟩⟩
def Rc.cells(x:Rc):List Value:=[.int .i64 x.i0,.int .i64 x.i1,.int .i64 x.i2,.int .i64 x.i3,.int .i64 x.i4,.int .i64 x.i5,.int .i64 x.i6,.int .i64 x.i7,.int .i64 x.n,.slice x.A x.l x.c]
def Rc.v(x:Rc):Value:=.agg x.cells.toArray
theorem fx(x:Rc):x.cells.length=10:=rfl
theorem qe(x:Rc):∀u∈x.cells,u.oneCell'=true:=λu hu=>by
 simp only[Rc.cells,ln,lL,or_false]at hu
 rcases hu with rfl|rfl|rfl|rfl|rfl|rfl|rfl|rfl|rfl|rfl<;>rfl
abbrev bX(w:World)(base:Nat)(v:Value)(xs:List Rc):Prop:=ah w base 158 10 Rc.cells v xs
theorem zW:(prog.info? 158).map (·.size)=some 10:=kR
theorem Jk(x:Rc)(g o:Nat):∀W:World,W.there g o 10->(Instr.storeAt 158 (.pointer (some ⟨g,o,none⟩)) x.v).run prog W=.ok () (W.setCells g o x.cells):=λW h =>
 run_storeAt_mid W g o 158 x.cells.toArray h zW (all_oneCell_toArray (qe x))
section
variable {α:Type} {W:World} {base g N c k:Nat} {e:TypeId} {enc:α->List Value} {L:List α}
theorem fY(l:ah W base e k enc (.slice (some ⟨g,0,none⟩) N c) L)(q:∀x,(enc x).length=k)(h:L.length=N)(j:Nat)(f:j<L.length):W.rangeAt g (j*k) (enc L[j])/\W.there g (j*k) k/\g<W.heap.size/\base<=g:=by
 subst h
 rcases l.2 with⟨b,_⟩ | ⟨t,s,n,b,o,d,m,y,v,r⟩
 ·simp at b
 ·simp only[Value.slice.injEq,lQ,Addr.mk.injEq,and_true,true_and]at b;obtain⟨rfl,_⟩:=b;have p:∀i,i<k->j*k+i<n.size:=λi hi=>by
   have a:(j+1)*k<=L.length*k:=L7 k f;have w:L.length*k<=s*k:=L7 k m;rw[lH,Nat.one_mul]at a;omega
  refine⟨λi u hu=>?_,λi hi=>⟨?_,by simp[World.frozen?,d]⟩,(La.1 d).1,o⟩
  ·have a:=flat_get q L j i f u hu;rw[<-r,List.getElem?_take]at a
   split at a
   ·simp only[World.cell?,d]
    simpa using a
   ·cases a
  ·simp only[World.cell?,d];have:=p i hi;simp[this]
def nv(xs:List Value):Nat->List Value->List Value
 | _,[]=>xs
 | o,v::r=>nv (xs.set o v) (o+1) r
theorem yZ:∀(b:List Value) (xs:List Value) (a:Nat),a+b.length<=xs.length->nv xs a b=xs.take a++b++xs.drop (a+b.length)
 | [],xs,a,_=>by simp[nv]
 | v::r,xs,a,h=>by
   simp only[lw]at h;unfold nv;rw[yZ r (xs.set a v) (a+1) (by rw[Li];omega)];have d:a<xs.length:=oM;rw[List.drop_set_of_lt oM,show a+1+r.length=a+(v::r).length from sO];rw[ly (by rw[Li];exact d),List.getElem_set_self,List.take_set_of_le (lc _)];simp
theorem uV{n b d:Nat}{xs:List Value}:∀(f:List Value) (a:Nat) (W:World) (xs:List Value),W.ownsRow base e d (.slice (some ⟨g,0,none⟩) n b) n xs->(W.setCells g a f).ownsRow base e d (.slice (some ⟨g,0,none⟩) n b) n (nv xs a f)
 | [],_,_,_,h=>h
 | v::r,a,W,xs,h=>by
   unfold World.setCells nv;exact uV (xs:=xs) r (a+1) _ _ (World.ownsRow.stored h a v).1
theorem OS(a:∀x,(enc x).length=k)(j:Nat)(d:j<L.length)(y:α):nv (L.flatMap enc) (j*k) (enc y)=(L.set j y).flatMap enc:=by
 have m:=eL a L;have f:(j+1)*k<=L.length*k:=L7 k d;rw[lH,Nat.one_mul]at f;rw[yZ _ _ _ (by rw[m,a];exact f),a];have l:L=L.take j++L[j]::L.drop (j+1):=by
  rw[List.getElem_cons_drop d,Ls]
 have i:L.flatMap enc=(L.take j).flatMap enc++(enc L[j]++(L.drop (j+1)).flatMap enc):=by
  conv=>lhs;rw[l]
  rw[lF,lN]
 have h:(L.set j y).flatMap enc=(L.take j).flatMap enc++(enc y++(L.drop (j+1)).flatMap enc):=by
  rw[List.set_eq_take_append_cons_drop,if_pos d,lF,lN]
 have b:((L.take j).flatMap enc).length=j*k:=by rw[eL a,lD];congr 1;omega
 rw[h,i,LG (by rw[b];exact lc _),lM (by rw[b];exact lc _),lr]
 congr 2
 rw[List.drop_append,b,List.drop_of_length_le (by rw[b];omega),lO,show j*k+k-j*k=k from oM,List.drop_append,a,List.drop_of_length_le (by rw[a];exact lc _),Nat.sub_self];rfl
theorem qg(a:ah W base e k enc (.slice (some ⟨g,0,none⟩) N c) L)(f:∀x,(enc x).length=k)(d:L.length=N)(j:Nat)(b:j<L.length)(y:α):ah (W.setCells g (j*k) (enc y)) base e k enc (.slice (some ⟨g,0,none⟩) N c) (L.set j y):=by
 subst d;unfold ah at a|-;rw[Li,<-OS f j b y];exact uV (xs:=[]) _ _ _ _ a
end
theorem ag.setCells(g:Nat):∀(b:List Value) (a:Nat) (w:World),ag w (w.setCells g a b) [g]
 | [],_,w=>ag.refl w _
 | v::r,a,w=>(ag.set w ⟨g,a,none⟩ v).trans (ag.setCells g r (a+1) _)
theorem kA(g:Nat):∀(b:List Value) (a:Nat) (w:World),(w.setCells g a b).heap.size=w.heap.size
 | [],_,_=>rfl
 | v::r,a,w=>by
   unfold World.setCells;rw[kA g r (a+1)];simp
theorem zY{w a:World}{g b:Nat}{cs:List Value}(d:w.rangeAt g b cs)(f:aa w a):a.rangeAt g b cs:=λj v hv=>by
 have:=d j v hv;exact(f.cell (block_lt_of_cell this)).trans this
theorem QZ{w d:World}{g h n:Nat}(l:w.there g h n)(b:g<w.heap.size)(f:aa w d):d.there g h n:=λj hj=>by
 have i:=l j hj;refine⟨by rw[f.cell b];exact i.1,?_⟩;have:=f.block g b;have a:=i.2;simp only[World.frozen?]at a|-;rw[this];exact a
def fw(w:World)(g o:Nat):Option Value :=
 match w.cell? ⟨g,o+0,none⟩,w.cell? ⟨g,o+1,none⟩,w.cell? ⟨g,o+2,none⟩,w.cell? ⟨g,o+3,none⟩,w.cell? ⟨g,o+4,none⟩,w.cell? ⟨g,o+5,none⟩,w.cell? ⟨g,o+6,none⟩,w.cell? ⟨g,o+7,none⟩,w.cell? ⟨g,o+8,none⟩,w.cell? ⟨g,o+9,none⟩with
 | some a,some b,some c,some d,some e,some f,some x,some y,some z,some u=>some (.agg #[a,b,c,d,e,f,x,y,z,u])
 | _,_,_,_,_,_,_,_,_,_=>none
theorem zU{w:World}{g o:Nat}{v:Value}(h:fw w g o=some v):∃cs:List Value,cs.length=10/\w.rangeAt g o cs/\v=.agg cs.toArray:=by
 unfold fw at h
 split at h
 ·rename_i a b c d e f x y z u h0 h1 h2 h3 h4 h5 h6 h7 h8 h9
  cases h
  refine⟨[a,b,c,d,e,f,x,y,z,u],rfl,λj v hv=>?_,rfl⟩
  match j,hv with
  | 0,hv=>cases hv;exact h0
  | 1,hv=>cases hv;exact h1
  | 2,hv=>cases hv;exact h2
  | 3,hv=>cases hv;exact h3
  | 4,hv=>cases hv;exact h4
  | 5,hv=>cases hv;exact h5
  | 6,hv=>cases hv;exact h6
  | 7,hv=>cases hv;exact h7
  | 8,hv=>cases hv;exact h8
  | 9,hv=>cases hv;exact h9
  | n+10,hv=>simp at hv
 ·cases h
theorem nE{w:World}{g b:Nat}{x:Rc}(a:w.rangeAt g b x.cells):fw w g b=some x.v:=by
 have d:=a 0 _ rfl;have o:=a 1 _ rfl;have h:=a 2 _ rfl;have j:=a 3 _ rfl;have i:=a 4 _ rfl;have m:=a 5 _ rfl;have f:=a 6 _ rfl;have n:=a 7 _ rfl;have p:=a 8 _ rfl;have l:=a 9 _ rfl;unfold fw;rw[d,o,h,j,i,m,f,n,p,l];rfl
noncomputable def Ho(w:World)(g o:Nat):Result Value:=(Instr.loadAt 158 (.pointer (some ⟨g,o,none⟩))).run prog w
noncomputable def wE(v:Value):Sem Value:=Instr.loadAt 158 v
theorem kx(v:Value):Instr.loadAt 158 v=wE v:=rfl
theorem kU(w:World)(g a:Nat):(wE (.pointer (some ⟨g,a,none⟩))).run prog w=match fw w g a with
 | some v=>.ok v w
 | none=>Ho w g a:=by
 unfold wE
 cases h:fw w g a with
 | none=>rfl
 | some v =>
   obtain⟨cs,b,d,rfl⟩:=zU h;exact run_loadAt_mid w g a 158 cs _ d underlying158 rfl (by rw[b];exact zW)
def gj(w:World)(g o:Nat):Prop:=w.there g o 10
noncomputable def Dp(p v:Value):Sem Unit:=Instr.storeAt 158 p v
theorem mc(p v:Value):Instr.storeAt 158 p v=Dp p v:=rfl
theorem mL(x:Rc)(w:World)(g o:Nat)(h:gj w g o):(Dp (.pointer (some ⟨g,o,none⟩)) x.v).run prog w=.ok () (w.setCells g o x.cells):=Jk x g o w h
theorem kJ(w:World)(g o:Nat):fw w.drew g o=fw w g o:=rfl
theorem zV{w i:World}{g j:Nat}{v:Value}(p:fw w g j=some v)(B:aa w i):fw i g j=some v:=by
 obtain⟨cs,l,o,rfl⟩:=zU p;have h:=zY o B
 match cs,l with
 | [a,b,c,d,e,f,x,y,z,u],_ =>
   have C:=h 0 _ rfl;have E:=h 1 _ rfl;have s:=h 2 _ rfl;have t:=h 3 _ rfl;have m:=h 4 _ rfl;have A:=h 5 _ rfl;have D:=h 6 _ rfl;have n:=h 7 _ rfl;have r:=h 8 _ rfl;have q:=h 9 _ rfl;unfold fw;rw[C,E,s,t,m,A,D,n,r,q]
theorem kH{w:World}{g o k:Nat}{v:Value}(h:fw w g o=some v):fw (w.drewN k) g o=some v:=zV h kP
theorem kG{w:World}{p:GB}{g o:Nat}{v:Value}(h:fw w g o=some v):fw (w.gro p) g o=some v:=zV h kP
theorem mh(w:World)(g o:Nat):gj w.drew g o<->gj w g o:=by unfold gj;simp
theorem QU{w:World}{g d b f:Nat}{a:List Value}(h:gj w g d):gj (w.setCells b f a) g d:=World.there_setCells h b f a
theorem QX{w a:World}{g b:Nat}(d:gj w g b)(f:g<w.heap.size)(h:aa w a):gj a g b:=QZ d f h
theorem mg{w:World}{g a k:Nat}(b:gj w g a)(d:g<w.heap.size):gj (w.drewN k) g a:=QX b d kP
theorem mf{w:World}{p:GB}{g a:Nat}(b:gj w g a)(d:g<w.heap.size):gj (w.gro p) g a:=QX b d kP
open Go.Roa Go.Sym
attribute [local go_sem ↓] kx mc
attribute [local go_sem] kU mL kJ kH kG mh QU mg mf kA
theorem ag.setR2(w:World)(g i j:Nat)(x y:Rc):ag w ((w.setCells g (i*10) x.cells).setCells g (j*10) y.cells) [g]:=(ag.setCells g x.cells (i*10) w).trans (ag.setCells g y.cells (j*10) _)
theorem uD(g:Nat):∀(b:List Value) (a:Nat) (w:World),w.drew.setCells g a b=(w.setCells g a b).drew
 | [],_,_=>rfl
 | v::r,a,w=>by
   unfold World.setCells;rw[<-uD g r (a+1)];rfl
theorem sF(wr:World)(g i j:Nat)(x y:Rc):aa ((wr.setCells g (i*10) x.cells).setCells g (j*10) y.cells) ((wr.drew.setCells g (i*10) x.cells).setCells g (j*10) y.cells):=by
 rw[uD,uD];generalize (wr.setCells g (i*10) x.cells).setCells g (j*10) y.cells=W;exact kP
theorem iV{b:World}{base g N c:Nat}{a:List Rc}(e:bX b base (.slice (some ⟨g,0,none⟩) N c) a)(h:a.length=N)(j:Nat)(f:j<a.length) :
 fw b g (j*10)=some a[j].v/\gj b g (j*10)/\g<b.heap.size:=by
 obtain⟨a0,d,a2,_⟩:=fY e fx h j f;exact⟨nE a0,d,a2⟩
theorem t7{b:World}{base g N c:Nat}{a:List Rc}(f:bX b base (.slice (some ⟨g,0,none⟩) N c) a)(e:a.length=N)(i j:Nat)(hi:i<a.length)(d:j<a.length) :
 bX ((b.setCells g (i*10) a[j].cells).setCells g (j*10) a[i].cells) base (.slice (some ⟨g,0,none⟩) N c) (Sym.swp a i j):=by
 rw[oo hi d];have h:=qg f fx e i hi a[j];exact qg h fx (by rw[Li];exact e) j (by rw[Li];exact d) a[i]
theorem t6(g c base a b n N:Nat)(xs:List Rc)(F:xs.length=N)(E:Value)(w:World)(B:bX w base (.slice (some ⟨g,0,none⟩) N c) xs)(J:a+n<=b)(K:b+n<=N)(P:N<=1000000000) :
 Calls prog 286 #[.slice (some ⟨g,0,none⟩) N c,.int .i64 a,.int .i64 b,.int .i64 n,E] w λe w'=>e=.returned (.tuple #[])/\bX w' base (.slice (some ⟨g,0,none⟩) N c) (fM xs a b n)/\ag w w' [g]:=by
 have u:=lh B;clear B;go_enter func286,ntmps286;go_wp2;go_loopw [10] (λi wr=>∃k:Nat,k<=n/\i=.int .i64 k/\Hid (bX wr base (.slice (some ⟨g,0,none⟩) N c) (fM xs a b k))/\Hid (ag w wr [g])) (λi _=>n-(intOf i).toNat)
 case atStart=>exact⟨0,lj _,rfl,u.o,ag.refl _ _⟩
 case round =>
  clear u;obtain⟨k,O,rfl,d,v⟩:=hrel
  by_cases Q:k<n
  ·have f:=(nj xs a b k).trans F;obtain⟨ys,t⟩:∃ys,fM xs a b k=ys:=⟨_,rfl⟩;have m:fM xs a b (k+1)=Sym.swp ys (a+k) (b+k):=(by rw[fM,t]);rw[t]at d f;obtain⟨i,hi⟩:∃i,i=a+k:=⟨_,rfl⟩;obtain⟨j,C⟩:∃j,j=b+k:=⟨_,rfl⟩;rw[<-hi,<-C]at m;have r:i<ys.length:=oM;have s:j<ys.length:=oM;rw[oo r s]at m;obtain⟨a0,z,a2,_⟩:=fY d.o fx f i r;obtain⟨q,A,_,_⟩:=fY d.o fx f j s;have l:=qg d.o fx f i r ys[j];have h:=qg l fx (by rw[Li];exact f) j (by rw[Li];exact s) ys[i];rw[<-m]at h;have p:=lh h;have R:i≠j:=oM;have L:i<N:=oM;have M:j<N:=oM;have H:IntKind.i64.wrap ((a:Int)+(k:Int))=(i:Int):=iW oM;have I:IntKind.i64.wrap ((b:Int)+(k:Int))=(j:Int):=iW oM;generalize ys[i]=x at a0 l h p;generalize ys[j]=y at q l h p
   replace a0:=nE a0
   replace q:=nE q
   replace z:gj wr g (i*10):=z
   replace A:gj wr g (j*10):=A
   clear l h m t hi C;have D:=lh (ag.setR2 wr g i j y x);have o:=lh (sF wr g i j y x);go_wp2;go_region;generalize (wr.drew.setCells g (i*10) y.cells).setCells g (j*10) x.cells=S at o|-;go_wp2;go_roundw
   case rel=>exact⟨k+1,oM,by go_num,p.o.keep o.o,v.o.trans (D.o.trans (ag.keep o.o _))⟩
   case measure=>simp[intOf];omega
  ·have G:k=n:=oM;subst G;go_wp2;go_end0;exact⟨rfl,d.o,v.o⟩
theorem Fv(g c base a m b N:Nat)(xs:List Rc)(a6:xs.length=N)(C:Value)(w:World)(V:bX w base (.slice (some ⟨g,0,none⟩) N c) xs)(ah:a<m)(al:m<b)(ai:b<=N)(L:N<=1000000000) :
 Calls prog 264 #[.slice (some ⟨g,0,none⟩) N c,.int .i64 a,.int .i64 m,.int .i64 b,C] w λe B=>e=.returned (.tuple #[])/\bX B base (.slice (some ⟨g,0,none⟩) N c) (bv xs a m b)/\ag w B [g]:=by
 have R:=lh V;have T:IntKind.i64.wrap ((m:Int)-(a:Int))=((m-a:Nat):Int):=iW oM;have U:IntKind.i64.wrap ((b:Int)-(m:Int))=((b-m:Nat):Int):=iW oM;have S:=lh (Sym.parts xs a m b oM oM);have Y:(xs.take a).length=a:=sO;have Z:(aB xs a m).length=m-a:=im xs a m oM oM;have a0:(aB xs m b).length=b-m:=im xs m b oM oM;have E:=lh (And.intro Y (And.intro Z a0));clear V Y Z a0;go_enter func264,ntmps264;go_wp2;go_loopw [10,11] (λvi vj wr=>∃(i j:Nat) (P X n Q:List Rc),vi=.int .i64 i/\vj=.int .i64 j/\1<=i/\1<=j/\Hid (X.length=i)/\Hid (n.length=j)/\Hid (P.length+i=m)/\Hid ((P++(X++(n++Q))).length=N)/\Hid (P++(n++(X++Q))=bv xs a m b)/\Hid (bX wr base (.slice (some ⟨g,0,none⟩) N c) (P++(X++(n++Q))))/\Hid (ag w wr [g])) (λvi vj _=>(intOf vi).toNat+(intOf vj).toNat)
 case atStart=>exact⟨m-a,b-m,xs.take a,aB xs a m,aB xs m b,xs.drop b,rfl,rfl,oM,oM,E.o.2.1,E.o.2.2,by show _=_;rw[E.o.1];omega,by show _=_;rw[<-S.o];exact a6,rfl,by rw[<-S.o];exact R.o,ag.refl _ _⟩
 case round =>
  clear R T U;obtain⟨i,j,P,X,n,Q,rfl,rfl,a9,aa,x,y,t,l,F,p,q⟩:=hrel;have aj:i+j<=N:=by
   have:=l.o;simp only[lg,x.o,y.o]at this;omega
  have ap:P.length+i=m:=t.o;have ak:P.length+i+j+Q.length=N:=by
   have:=l.o;simp only[lg,x.o,y.o]at this;omega
  have T:IntKind.i64.wrap ((m:Int)-(i:Int))=((P.length:Nat):Int):=iW oM
  rcases Nat.lt_trichotomy i j with ab|a7|a8
  ·have ac:¬((i:Int)=(j:Int)):=oM;have ao:¬((j:Int)<(i:Int)):=oM;obtain⟨O,a1⟩:∃O,O=m+j-i:=⟨_,rfl⟩;obtain⟨r,M⟩:∃r,r=j-i:=⟨_,rfl⟩;have U:IntKind.i64.wrap ((m:Int)+(j:Int))=(m:Int)+(j:Int):=(by rw[IntWalk.i64_in _ ⟨oM,oM⟩]);have af:IntKind.i64.wrap ((m:Int)+(j:Int)-(i:Int))=(O:Int):=iW oM;have a5:IntKind.i64.wrap ((j:Int)-(i:Int))=(r:Int):=iW oM;obtain⟨J,K,Q',A,s,h,z⟩:=zr (Q:=Q) x.o y.o t.o ab;have d:=lh (t6 g c base P.length (m+j-i) i N _ l.o C wr p.o oM oM L);have o:=(nj (P++(X++(n++Q))) P.length (m+j-i) i).trans l.o;rw[h]at d o;rw[<-a1]at d;rw[<-M]at s;have ad:1<=r:=oM;have a3:=lh M;have D:=lh o;have H:=lh A;have I:=lh s;have G:=lh z;clear o A s z h a1 M;go_wp2_with (go_at_call 286;refine ae ?_);refine uM d.o ?_;rintro e B ⟨rfl,f,k⟩;have u:=lh f;have v:=lh (q.o.trans k);clear f k d p q;go_wp2;go_roundw
   case rel=>exact⟨i,r,P,J,K,Q',rfl,rfl,a9,ad,H.o,I.o,t.o,D.o,G.o.trans F.o,u.o,v.o⟩
   case measure=>have:=a3.o;simp[intOf];omega
  ·subst a7;have h:=zu (Q:=Q) x.o y.o t.o;have d:=lh (t6 g c base P.length m i N _ l.o C wr p.o oM oM L);rw[h,F.o]at d;clear h;go_wp2_with (go_at_call 286;refine ae ?_);refine uM d.o ?_;rintro e B ⟨rfl,f,k⟩;have u:=lh f;have v:=lh (q.o.trans k);clear f k d p q;go_wp2;go_end0;exact⟨rfl,u.o,v.o⟩
  ·have ac:¬((i:Int)=(j:Int)):=oM;have a5:IntKind.i64.wrap ((i:Int)-(j:Int))=((i-j:Nat):Int):=iW oM;obtain⟨a4,J,K,A,s,W,h,z⟩:=zt (Q:=Q) x.o y.o t.o a8;have d:=lh (t6 g c base P.length m j N _ l.o C wr p.o oM oM L);have o:=(nj (P++(X++(n++Q))) P.length m j).trans l.o;rw[h]at d o;have D:=lh o;have H:=lh A;have I:=lh s;have a2:=lh W;have G:=lh z;clear o A s W z h;go_wp2_with (go_at_call 286;refine ae ?_);refine uM d.o ?_;rintro e B ⟨rfl,f,k⟩;have u:=lh f;have v:=lh (q.o.trans k);clear f k d p q;go_wp2;go_roundw
   case rel=>exact⟨i-j,j,a4,J,K,Q,by go_num,rfl,oM,aa,H.o,I.o,a2.o,D.o,G.o.trans F.o,u.o,v.o⟩
   case measure=>simp[intOf];omega
structure mP(f:Nat)(lb:Array Value)(cm:Rc->Rc->Int)(M:Rc->Prop)(w0:World)(g:Nat):Prop where
 enter:∀args w,(callFunc f args).run prog w=.ok (.enter f args) w
 call:∀(W:World) (x y:Rc),M x->M y->ag w0 W [g]->Rt f (#[x.v,y.v]++lb) W (.int .i64 (cm x y))
def bU(a:Rc->Rc->Int)(x y:Rc):Bool:=decide (a x y<0)
theorem FA(f:Nat)(ao:Array Value)(k:Rc->Rc->Int)(a3:Rc->Prop)(U:World)(g c base a b N:Nat)(xs:List Rc)(w:World)(B:cF (bU k))(Q:mP f ao k a3 U g)(a6:∀x∈xs,a3 x)(ah:ag U w [g])(aA:xs.length=N)(G:bX w base (.slice (some ⟨g,0,none⟩) N c) xs)(aB:a<=b)(aH:b<=N)(aM:N<=1000000000) :
 Calls prog 220 #[.slice (some ⟨g,0,none⟩) N c,.int .i64 a,.int .i64 b,.func (.func f) #[] ao] w λe w'=>e=.returned (.tuple #[])/\∃ys,cA (bU k) xs a b ys/\bX w' base (.slice (some ⟨g,0,none⟩) N c) ys/\ag w w' [g]:=by
 have V:=lh G;have X:=lh Q.call;have aG:=Q.enter;have au:=lh a6;have aw:=lh ah;have Z:=lh B;have ay:IntKind.i64.wrap ((a:Int)+1)=((a+1:Nat):Int):=iW oM;clear G Q a6 ah B;go_enter func220,ntmps220;go_wp2;go_loopw [8] (λvi wr=>∃(i:Nat) (ys:List Rc),vi=.int .i64 i/\a+1<=i/\i<=b+1/\Hid (cA (bU k) xs a (min i b) ys)/\Hid (bX wr base (.slice (some ⟨g,0,none⟩) N c) ys)/\Hid (ag w wr [g])) (λvi _=>b+1-(intOf vi).toNat)
 case atStart =>
  refine⟨a+1,xs,by go_num,lc _,oM,?_,V.o,ag.refl _ _⟩;show cA _ _ _ _ _;refine cA.refl ?_
  rcases Nat.eq_or_lt_of_le aB with e|e
  ·rw[show min (a+1) b=a from oM];exact za _ _
  ·rw[show min (a+1) b=a+1 from oM];exact y6 _ _ oM
 case round =>
  clear V ay;obtain⟨i,ys,rfl,aJ,aK,s,q,m⟩:=hrel
  by_cases aN:i<b
  ·have ae:ys.length=N:=s.o.len.trans aA;have ar:=lh ae;have a8:i<ys.length:=oM;have D:=lh a8;have Y:=lh (s.o.mem Z.o oM au.o);have aP:0<a+1:=Nat.succ_pos _;clear ae a8;go_wp2;go_loopw [9] (λvj wq=>∃j:Nat,vj=.int .i64 j/\a<=j/\j<=i/\Hid (j=i\/∃G:j<ys.length,bU k (ys[i]'D.o) ys[j]=true)/\Hid (bX wq base (.slice (some ⟨g,0,none⟩) N c) (bv ys j i (i+1)))/\Hid (ag w wq [g])) (λvj _=>(intOf vj).toNat)
   case atStart=>exact⟨i,rfl,oM,lc _,.inl rfl,(by show bX _ _ _ _;rw[rQ];exact q.o),m.o⟩
   case round =>
    clear q m;obtain⟨j,rfl,aC,H,aq,q,m⟩:=hrel;have af:(j=a\/∃G:j-1<ys.length,bU k (ys[i]'D.o) ys[j-1]=false)->cA (bU k) xs a (i+1) (bv ys j i (i+1)):=λhs=>by
     have a5:=s.o.stb.1;rw[show min i b=i from oM]at a5;have az:=sL Z.o aC H D.o a5 hs aq.o;have a4:=s.o;rw[show min i b=i from oM]at a4;exact a4.more az oM oM
    have J:=lh af;clear af
    by_cases aE:a<j
    ·have R:=D.o;have ad:=ar.o;obtain⟨h,ai⟩:=zx ys j i H R;obtain⟨d,T⟩:∃d,d+1=j:=⟨j-1,oM⟩;have ac:j-1=d:=oM;obtain⟨S,ak⟩:=zw ys j i d H R oM;have aD:d<ys.length:=oM;have M:(bv ys j i (i+1)).length=N:=(by rw[iL ys j i (i+1) H oM oM];exact ad);have a7:=rS ys j d i T H R;have t:=lh (λ(W:World) (hW:aa wr W)=>(show(fw W g (j*10)=some ys[i].v/\gj W g (j*10)/\g<W.heap.size)/\(fw W g (d*10)=some ys[d].v/\gj W g (d*10))/\bX ((W.setCells g (j*10) ys[d].cells).setCells g (d*10) ys[i].cells) base (.slice (some ⟨g,0,none⟩) N c) (bv ys d i (i+1)) from by
      have B:=q.o.keep hW;obtain⟨a0,E,a2⟩:=iV B M j h;obtain⟨A,F,_⟩:=iV B M d S;have r:=t7 B M j d h S;rw[ai]at a0 r;rw[ak]at A r;rw[a7]at r;exact⟨⟨a0,E,a2⟩,⟨A,F⟩,r⟩))
     have o:=lh (λW (hW:ag U W [g])=>X.o W ys[i] ys[d] (Y.o _ (ll _)) (Y.o _ (ll _)) hW);have u:=lh (λn:k ys[i] ys[d]<0=>(show d=i\/∃G:d<ys.length,bU k (ys[i]'D.o) ys[d]=true from .inr ⟨oM,decide_eq_true n⟩));have L:=lh (λn:¬ k ys[i] ys[d]<0=>J.o (.inr ⟨oM,by simp only[ac];exact decide_eq_false n⟩));have a1:=lh (aw.o.trans m.o);generalize k ys[i] ys[d]=z at o u L;generalize al:ys[i]=x at t o;have ax:=lh al;clear al;generalize ys[d]=y at t o;clear a7 ai ak h S M J X;have aF:IntKind.i64.wrap ((j:Int)-1)=(d:Int):=iW oM;have aQ:d<N:=oM;have I:=lh T;have aL:j<N:=oM;clear T ac ad aD;obtain⟨⟨a0,E,a2⟩,⟨A,F⟩,_⟩:=t.o wr (aa.refl _)
     by_cases n:z<0
     ·go_wp2;refine zR kR ?_
      repeat
       refine aR (λK hK=>?_);go_simp
       first
       | (refine hK _ _ ?_;clear hK K)
       | (apply Exists.intro
          refine⟨λp=>?_,hK _ _ ?_⟩
          ((go_at_fn f;exact Zone.zc (o.o _ (a1.o.trans (ag.keep kP _)))))
          clear hK K)
      refine bG ?_;intro p;simp only[aj];have h:aa wr (wr.gro p):=kP;generalize wr.gro p=C at h|-;have l:=lh h;clear a0 E a2 A F h;obtain⟨⟨a0,E,a2⟩,⟨A,F⟩,r⟩:=t.o C l.o;have av:=lh r;have ap:=lh (ag.setR2 C g j d y x);have O:=lh (sF C g j d y x);have aO:j≠d:=(by have:=I.o;omega);have P:=lh (u.o n);clear r u L t o;go_wp2;go_region;generalize (C.drew.setCells g (j*10) y.cells).setCells g (d*10) x.cells=aS at O|-;go_wp2;go_roundw
      case rel=>obtain rfl:=ax.o;exact⟨d,rfl,by have:=I.o;omega,by have:=I.o;omega,P.o,av.o.keep O.o,m.o.trans ((ag.keep l.o _).trans (ap.o.trans (ag.keep O.o _)))⟩
      case measure=>have:=I.o;simp[intOf];omega
     ·have aI:decide (z<0)=false:=decide_eq_false n;go_wp2;refine zR kR ?_
      repeat
       refine aR (λK hK=>?_);go_simp
       first
       | (refine hK _ _ ?_;clear hK K)
       | (apply Exists.intro
          refine⟨λp=>?_,hK _ _ ?_⟩
          ((go_at_fn f;exact Zone.zc (o.o _ (a1.o.trans (ag.keep kP _)))))
          clear hK K)
      refine bG ?_;intro p;simp only[aj];have h:aa wr (wr.gro p):=kP;generalize wr.gro p=C at h|-;have l:=lh h;have P:=lh (L.o n);clear a0 E a2 A F h u L t o n;go_wp2;go_roundw
      case rel=>exact⟨i+1,_,by go_num,oM,oM,(by show cA _ _ _ _ _;rw[show min (i+1) b=i+1 from oM];exact P.o),q.o.keep l.o,m.o.trans (ag.keep l.o _)⟩
      case measure=>simp[intOf];omega
    ·have ab:j=a:=oM;have u:=lh (J.o (.inl ab));clear J aE;subst ab;go_wp2;refine zR kR ?_
     repeat
      refine aR (λK hK=>?_);go_simp
      first
      | (refine hK _ _ ?_;clear hK K)
      | (apply Exists.intro
         refine⟨λp=>?_,hK _ _ ?_⟩
         (fail)
         clear hK K)
     refine bG ?_;intro p;simp only[aj];have h:aa wr (wr.gro p):=kP;generalize wr.gro p=C at h|-;have l:=lh h;clear h;go_wp2;go_roundw
     case rel=>exact⟨i+1,_,by go_num,oM,oM,(by show cA _ _ _ _ _;rw[show min (i+1) b=i+1 from oM];exact u.o),q.o.keep l.o,m.o.trans (ag.keep l.o _)⟩
     case measure=>simp[intOf];omega
  ·have a9:min i b=b:=oM;rw[a9]at s;clear a9;go_wp2;go_end0;exact⟨rfl,ys,s.o,q.o,m.o⟩
theorem Fh(f:Nat)(af:Array Value)(h:Rc->Rc->Int)(a8:Rc->Prop)(T:World)(g c base a m b N:Nat)(xs:List Rc)(w:World)(a9:cF (bU h))(P:mP f af h a8 T g)(a3:∀x∈xs,a8 x)(a4:ag T w [g])(ab:xs.length=N)(r:bX w base (.slice (some ⟨g,0,none⟩) N c) xs)(a7:m=a+1)(aN:m<b)(aQ:b<=N)(aV:N<=1000000000)(A:bO (bU h) (aB xs m b)) :
 Calls prog 221 #[.slice (some ⟨g,0,none⟩) N c,.int .i64 a,.int .i64 m,.int .i64 b,.func (.func f) #[] af] w λe w'=>e=.returned (.tuple #[])/\∃ys,cA (bU h) xs a b ys/\bX w' base (.slice (some ⟨g,0,none⟩) N c) ys/\ag w w' [g]:=by
 have C:=lh r;have aI:=lh P.call;have aS:=P.enter;have Z:=lh a3;have aD:=lh a4;have au:=lh a9;have av:=lh A;have Y:=lh a7;have s:=lh ab;have aX:IntKind.i64.wrap ((m:Int)-(a:Int))=1:=iW oM;have aW:a<N:=oM;have aK:0<m:=oM;have l:=lh (show a<xs.length from oM);clear r P a3 a4 a9 A ab a7;go_enter func221,ntmps221;go_wp2;go_loopw [10,11] (λvi vj wr=>∃i j:Nat,vi=.int .i64 i/\vj=.int .i64 j/\m<=i/\i<=j/\j<=b/\Hid (i=m\/∃r:i-1<xs.length,bU h xs[i-1] (xs[a]'l.o)=true)/\Hid (j=b\/∃r:j<xs.length,bU h xs[j] (xs[a]'l.o)=false)/\Hid (aa w wr)) (λvi vj _=>(intOf vj).toNat-(intOf vi).toNat)
 case atStart=>exact⟨m,b,rfl,rfl,lc _,oM,lc _,.inl rfl,.inl rfl,aa.refl _⟩
 case round =>
  obtain⟨i,j,rfl,rfl,ai,al,U,I,Q,o⟩:=hrel
  by_cases aY:i<j
  ·obtain⟨p,aG⟩:∃p:Nat,p=(i+j)/2:=⟨_,rfl⟩;have aM:((i:Int)+(j:Int))/2=(p:Int):=oM;have aq:i<=p:=oM;have aU:p<j:=oM;have aL:p<N:=oM;have O:p<xs.length:=(by have:=s.o;omega);obtain⟨a0,aE,a2⟩:=iV (C.o.keep o.o) s.o p O;obtain⟨L,aF,_⟩:=iV (C.o.keep o.o) s.o a l.o;have t:=lh (λW (hW:ag T W [g])=>aI.o W xs[p] (xs[a]'l.o) (Z.o _ (ll _)) (Z.o _ (ll _)) hW);have F:=lh (λq:h xs[p] (xs[a]'l.o)<0=>(show p+1=m\/∃r:p+1-1<xs.length,bU h xs[p+1-1] (xs[a]'l.o)=true from .inr ⟨O,decide_eq_true q⟩));have E:=lh (λq:¬ h xs[p] (xs[a]'l.o)<0=>(show p=b\/∃r:p<xs.length,bU h xs[p] (xs[a]'l.o)=false from .inr ⟨O,decide_eq_false q⟩));have ae:=lh (aD.o.trans (ag.keep o.o _));generalize h xs[p] (xs[a]'l.o)=z at t F E;generalize aw:xs[p]=x at a0 t;generalize V:(xs[a]'l.o)=y at L t;have a6:=lh V;clear aw V aG
   by_cases q:z<0
   ·have S:=lh (F.o q);clear F E;go_wp2;refine zR kR ?_
    repeat
     refine aR (λK hK=>?_);go_simp
     first
     | (refine hK _ _ ?_;clear hK K)
     | (apply Exists.intro
        refine⟨λp=>?_,hK _ _ ?_⟩
        ((go_at_fn f;exact Zone.zc (t.o _ (ae.o.trans (ag.keep kP _)))))
        clear hK K)
    refine bG ?_;intro ax;simp only[aj];go_wp2;go_roundw
    case rel=>obtain rfl:=a6.o;exact⟨p+1,j,by go_num,rfl,oM,oM,U,S.o,Q.o,o.o.trans kP⟩
    case measure=>simp[intOf];omega
   ·have S:=lh (E.o q);have aZ:decide (z<0)=false:=decide_eq_false q;clear F E;go_wp2;refine zR kR ?_
    repeat
     refine aR (λK hK=>?_);go_simp
     first
     | (refine hK _ _ ?_;clear hK K)
     | (apply Exists.intro
        refine⟨λp=>?_,hK _ _ ?_⟩
        ((go_at_fn f;exact Zone.zc (t.o _ (ae.o.trans (ag.keep kP _)))))
        clear hK K)
    refine bG ?_;intro ax;simp only[aj];go_wp2;go_roundw
    case rel=>obtain rfl:=a6.o;exact⟨i,p,rfl,rfl,ai,aq,oM,I.o,S.o,o.o.trans kP⟩
    case measure=>simp[intOf];omega
  ·have ay:j=i:=oM;subst ay;clear al;obtain⟨n,a5⟩:∃n,n+1=j:=⟨j-1,oM⟩;have aA:IntKind.i64.wrap ((j:Int)-1)=(n:Int):=iW oM;have aC:=lh a5;have az:=lh (show cA (bU h) xs a b (bv xs a (a+1) j) from by
    have ar:=Y.o;have A:=av.o;have ac:=I.o;rw[ar]at A ac;exact CE au.o oM U (by have:=s.o;omega) A l.o ac Q.o)
   have ak:a<=n:=(by have:=Y.o;omega);have aP:n<N:=oM;clear a5;go_wp2;go_loopw [13] (λvk wr=>∃k:Nat,vk=.int .i64 k/\a<=k/\k<=n/\Hid (bX wr base (.slice (some ⟨g,0,none⟩) N c) (bv xs a (a+1) (k+1)))/\Hid (ag w wr [g])) (λvk _=>n-(intOf vk).toNat)
   case atStart=>exact⟨a,rfl,lc _,ak,(by show bX _ _ _ _;rw[rT xs a (a+1) oM];exact C.o.keep o.o),ag.keep o.o _⟩
   case round =>
    clear C I Q o;obtain⟨k,rfl,aH,b0,u,X⟩:=hrel
    by_cases b1:k<n
    ·have B:(bv xs a (a+1) (k+1)).length=N:=(by have:=s.o;have:=l.o;rw[iL xs a (a+1) (k+1) oM oM oM];omega);have ah:=zo xs a k aH (by have:=s.o;omega);have M:k<(bv xs a (a+1) (k+1)).length:=oM;have D:k+1<(bv xs a (a+1) (k+1)).length:=oM;obtain⟨d,R⟩:∃d,d=k+1:=⟨_,rfl⟩
     replace D:d<(bv xs a (a+1) (k+1)).length:=oM
     have aA:IntKind.i64.wrap ((k:Int)+1)=(d:Int):=iW oM;obtain⟨a0,aE,a2⟩:=iV u.o B k M;obtain⟨L,aF,_⟩:=iV u.o B d D;have J:=t7 u.o B k d M D;have a1:Sym.swp (bv xs a (a+1) (k+1)) k d=bv xs a (a+1) (k+1+1):=(by rw[R];exact ah);rw[a1]at J;clear a1;have H:=lh J;generalize (bv xs a (a+1) (k+1))[k]=x at a0 H;generalize (bv xs a (a+1) (k+1))[d]=y at L H;have ao:=lh (ag.setR2 wr g k d y x);have G:=lh (sF wr g k d y x);have aJ:k≠d:=oM;have aT:d<N:=oM;have ad:=lh R;clear R J ah M D B;go_wp2;go_region;generalize (wr.drew.setCells g (k*10) y.cells).setCells g (d*10) x.cells=aO at G|-;go_wp2;go_roundw
     case rel=>exact⟨k+1,by have:=ad.o;(first|go_num|(subst this;go_num)),oM,oM,H.o.keep G.o,X.o.trans (ao.o.trans (ag.keep G.o _))⟩
     case measure=>have:=ad.o;simp[intOf];omega
    ·have ap:k=n:=oM;subst ap;rw[aC.o]at u;go_wp2;exact bodyPost_ret (v:=.tuple #[]) (by simp[results,results221,go_sem]) rfl ⟨rfl,_,az.o,u.o,X.o⟩
theorem Fg(f:Nat)(ad:Array Value)(l:Rc->Rc->Int)(a7:Rc->Prop)(U:World)(g c base a m b N:Nat)(xs:List Rc)(w:World)(a9:cF (bU l))(Q:mP f ad l a7 U g)(a1:∀x∈xs,a7 x)(a4:ag U w [g])(ab:xs.length=N)(q:bX w base (.slice (some ⟨g,0,none⟩) N c) xs)(aP:a+1<m)(a3:b=m+1)(aK:b<=N)(aN:N<=1000000000)(a6:bO (bU l) (aB xs a m)) :
 Calls prog 221 #[.slice (some ⟨g,0,none⟩) N c,.int .i64 a,.int .i64 m,.int .i64 b,.func (.func f) #[] ad] w λe w'=>e=.returned (.tuple #[])/\∃ys,cA (bU l) xs a b ys/\bX w' base (.slice (some ⟨g,0,none⟩) N c) ys/\ag w w' [g]:=by
 have t:=lh q;have aD:=lh Q.call;have aL:=Q.enter;have Z:=lh a1;have ay:=lh a4;have ap:=lh a9;have av:=lh a6;have ah:=lh a3;have D:=lh ab;obtain⟨u,ao⟩:∃u,u=m-a:=⟨_,rfl⟩;have aO:IntKind.i64.wrap ((m:Int)-(a:Int))=(u:Int):=iW oM;have aq:¬((u:Int)=1):=oM;have aI:((u:Int)==1)=false:=by simp[aq]
 have aX:IntKind.i64.wrap ((b:Int)-(m:Int))=1:=iW oM;have aU:m<N:=oM;have h:=lh (show m<xs.length from oM);clear q Q a1 a4 a9 a6 ab a3 ao;go_enter func221,ntmps221;go_wp2;go_loopw [14,15] (λvi vj wr=>∃i j:Nat,vi=.int .i64 i/\vj=.int .i64 j/\a<=i/\i<=j/\j<=m/\Hid (i=a\/∃q:i-1<xs.length,bU l (xs[m]'h.o) xs[i-1]=false)/\Hid (j=m\/∃q:j<xs.length,bU l (xs[m]'h.o) xs[j]=true)/\Hid (aa w wr)) (λvi vj _=>(intOf vj).toNat-(intOf vi).toNat)
 case atStart=>exact⟨a,m,rfl,rfl,lc _,oM,lc _,.inl rfl,.inl rfl,aa.refl _⟩
 case round =>
  obtain⟨i,j,rfl,rfl,V,af,E,I,S,n⟩:=hrel
  by_cases aS:i<j
  ·obtain⟨p,aC⟩:∃p:Nat,p=(i+j)/2:=⟨_,rfl⟩;have aG:((i:Int)+(j:Int))/2=(p:Int):=oM;have al:i<=p:=oM;have aM:p<j:=oM;have aF:p<N:=oM;have P:p<xs.length:=(by have:=D.o;omega);obtain⟨a0,az,a2⟩:=iV (t.o.keep n.o) D.o p P;obtain⟨M,aA,_⟩:=iV (t.o.keep n.o) D.o m h.o;have r:=lh (λW (hW:ag U W [g])=>aD.o W (xs[m]'h.o) xs[p] (Z.o _ (ll _)) (Z.o _ (ll _)) hW);have C:=lh (λo:l (xs[m]'h.o) xs[p]<0=>(show p=m\/∃q:p<xs.length,bU l (xs[m]'h.o) xs[p]=true from .inr ⟨P,decide_eq_true o⟩));have B:=lh (λo:¬ l (xs[m]'h.o) xs[p]<0=>(show p+1=a\/∃q:p+1-1<xs.length,bU l (xs[m]'h.o) xs[p+1-1]=false from .inr ⟨P,decide_eq_false o⟩));have ac:=lh (ay.o.trans (ag.keep n.o _));generalize l (xs[m]'h.o) xs[p]=z at r C B;generalize ar:xs[p]=x at a0 r;generalize X:(xs[m]'h.o)=y at M r;have a5:=lh X;clear ar X aC
   by_cases o:z<0
   ·have T:=lh (C.o o);clear C B;go_wp2;refine zR kR ?_
    repeat
     refine aR (λK hK=>?_);go_simp
     first
     | (refine hK _ _ ?_;clear hK K)
     | (apply Exists.intro
        refine⟨λp=>?_,hK _ _ ?_⟩
        ((go_at_fn f;exact Zone.zc (r.o _ (ac.o.trans (ag.keep kP _)))))
        clear hK K)
    refine bG ?_;intro au;simp only[aj];go_wp2;go_roundw
    case rel =>
     obtain rfl:=a5.o;exact⟨i,p,rfl,rfl,V,al,oM,I.o,T.o,n.o.trans kP⟩
    case measure=>simp[intOf];omega
   ·have T:=lh (B.o o);have aV:decide (z<0)=false:=decide_eq_false o;clear C B;go_wp2;refine zR kR ?_
    repeat
     refine aR (λK hK=>?_);go_simp
     first
     | (refine hK _ _ ?_;clear hK K)
     | (apply Exists.intro
        refine⟨λp=>?_,hK _ _ ?_⟩
        ((go_at_fn f;exact Zone.zc (r.o _ (ac.o.trans (ag.keep kP _)))))
        clear hK K)
    refine bG ?_;intro au;simp only[aj];go_wp2;go_roundw
    case rel =>
     obtain rfl:=a5.o;exact⟨p+1,j,by go_num,rfl,oM,oM,E,T.o,S.o,n.o.trans kP⟩
    case measure=>simp[intOf];omega
  ·have aw:j=i:=oM;subst aw;clear af;have ax:=lh (show cA (bU l) xs a b (bv xs j m (m+1)) from by
    rw[ah.o];exact sL ap.o V E h.o av.o I.o S.o)
   go_wp2;go_loopw [17] (λvk wr=>∃k:Nat,vk=.int .i64 k/\j<=k/\k<=m/\Hid (bX wr base (.slice (some ⟨g,0,none⟩) N c) (bv xs k m (m+1)))/\Hid (ag w wr [g])) (λvk _=>(intOf vk).toNat)
   case atStart=>exact⟨m,rfl,E,lc _,(by show bX _ _ _ _;rw[rQ];exact t.o.keep n.o),ag.keep n.o _⟩
   case round =>
    clear t I S n;obtain⟨k,rfl,aY,a8,A,Y⟩:=hrel
    by_cases aW:j<k
    ·obtain⟨d,L⟩:∃d,d+1=k:=⟨k-1,oM⟩;have aT:IntKind.i64.wrap ((k:Int)-1)=(d:Int):=iW oM;have s:(bv xs k m (m+1)).length=N:=(by have:=D.o;have:=h.o;rw[iL xs k m (m+1) a8 oM oM];omega);have ae:=rS xs k d m L a8 h.o;have O:k<(bv xs k m (m+1)).length:=oM;have H:d<(bv xs k m (m+1)).length:=oM;obtain⟨a0,az,a2⟩:=iV A.o s k O;obtain⟨M,aA,_⟩:=iV A.o s d H;have J:=t7 A.o s k d O H;rw[ae]at J;have G:=lh J;generalize (bv xs k m (m+1))[k]=x at a0 G;generalize (bv xs k m (m+1))[d]=y at M G;have ai:=lh (ag.setR2 wr g k d y x);have F:=lh (sF wr g k d y x);have aE:k≠d:=oM;have aJ:d<N:=oM;have aQ:k<N:=oM;have R:=lh L;clear J ae O H s L;go_wp2;go_region;generalize (wr.drew.setCells g (k*10) y.cells).setCells g (d*10) x.cells=aH at F|-;go_wp2;go_roundw
     case rel=>exact⟨d,rfl,by have:=R.o;omega,by have:=R.o;omega,G.o.keep F.o,Y.o.trans (ai.o.trans (ag.keep F.o _))⟩
     case measure=>have:=R.o;simp[intOf];omega
    ·have ak:k=j:=oM;subst ak;go_wp2;exact bodyPost_ret (v:=.tuple #[]) (by simp[results,results221,go_sem]) rfl ⟨rfl,_,ax.o,A.o,Y.o⟩
end Go.Proofs.YtpkocnpamcchcaaGreatDoor
