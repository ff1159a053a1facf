/- Parts. -/
import Derived.Laws.Bits128
import Derived.Test.YtpkocnpamcchcaaGreatDoorL16
import Derived.Test.YtpkocnpamcchcaaGreatDoorL17
set_option maxRecDepth 100000
set_option maxHeartbeats 40000000
set_option linter.all false
namespace Go.Proofs.YtpkocnpamcchcaaGreatDoor
open Go.RowKit Go.Zone Go.Shelf Tryz Go.Roa
abbrev Pr:=Nat×Nat
def io(p:Pr):List Value:=[.int .u16 (p.1:Int),.int .u16 (p.2:Int)]
theorem gv(x:Pr):(io x).length=2:=rfl
theorem rU(x:Pr):∀u∈io x,u.oneCell'=true:=λu hu=>by
 simp only[io,ln,lL,or_false]at hu
 rcases hu with rfl|rfl<;>rfl
theorem dB(x:Nat):(cT x).length=1:=rfl
theorem ig(x:Nat):∀u∈cT x,u.oneCell'=true:=λu hu=>by simp[cT]at hu;subst hu;rfl
theorem oh(x:Nat):(fL x).length=1:=rfl
theorem ue(x:Nat):∀u∈fL x,u.oneCell'=true:=λu hu=>by simp[fL]at hu;subst hu;rfl
theorem wH:dX prog 193 81 1 4:=by
 obtain⟨i,hi,c,a,b⟩:=iN (show(prog.info? 81).map (λi=>(i.zero,i.size,i.bytes))=some (some (.int .u32 0),1,4) from kR);exact⟨i,_,underlying193,hi,c,a,b,rfl,dC,dC⟩
abbrev mQ(w:World)(base:Nat)(v:Value)(xs:List Nat):Prop:=ah w base 81 1 fL v xs
theorem PR(A:Option Addr)(c:Nat)(xs:List Nat)(w:World)(d:Sl w 1 fL A c xs)(n:xs.length<=1000000000) :
 Calls prog 166 #[.slice A xs.length c] w λe w'=>∃b a,e=.returned (.slice b xs.length a)/\mQ w' w.heap.size (.slice b xs.length a) xs/\aa w w':=by
 have h:=λW:World=>Lib.run_eql_slice_nil W 193 81 A xs.length c 0 0 underlying193
 cases A with
 | none =>
   have j:xs=[]:=by
    rcases xs with _ | ⟨y,r⟩
    ·rfl
    ·obtain⟨_,_,l,_⟩:=d.at_ 0 sP
     cases l
   subst j;simp only[lB,Option.isNone_none]at h|-;go_enter func166,ntmps166;go_wp2;go_ret;exact⟨none,0,rfl,ah.nil_ _ _ _ _ _,aa.refl _⟩
 | some ad =>
   have m:=lh d;clear d;go_enter func166,ntmps166;go_wp2_with (at_builtin;refine ae ?_);refine ar ?_;have i:mQ (w.alloc (.cells #[] 81)) w.heap.size (.slice (some ⟨w.heap.size,0,none⟩) 0 0) ([]:List Nat):=World.ownsRow_made w #[] 0 (lc _) (by unfold maxLen;omega) rfl;refine aD wH oh ue rfl (.tmp 5) (.tmp 6) rfl (ys:=xs) i rfl rfl (m.o.keep kP) sO sP ?_;intro o p f k _;have ⟨a1,a2,a3⟩:=i.after (w:=w) k kP (lc _);clear h a2 a3;go_wp2;go_ret;simp only[lO]at f;obtain⟨b,a,g⟩:=bp f;exact⟨b,a,by rw[<-g];rfl,by rw[<-g];exact f,a1⟩
theorem iy:dX prog 230 126 1 2:=by
 obtain⟨i,hi,c,a,b⟩:=iN (show(prog.info? 126).map (λi=>(i.zero,i.size,i.bytes))=some (some (.int .u16 0),1,2) from kR);exact⟨i,_,underlying230,hi,c,a,b,rfl,dC,dC⟩
abbrev cJ(w:World)(base:Nat)(v:Value)(xs:List Nat):Prop:=ah w base 126 1 cT v xs
theorem tD(A:Option Addr)(c:Nat)(xs:List Nat)(w:World)(d:Sl w 1 cT A c xs)(n:xs.length<=1000000000) :
 Calls prog 205 #[.slice A xs.length c] w λe w'=>∃b a,e=.returned (.slice b xs.length a)/\cJ w' w.heap.size (.slice b xs.length a) xs/\aa w w':=by
 have h:=λW:World=>Lib.run_eql_slice_nil W 230 126 A xs.length c 0 0 underlying230
 cases A with
 | none =>
   have j:xs=[]:=by
    rcases xs with _ | ⟨y,r⟩
    ·rfl
    ·obtain⟨_,_,l,_⟩:=d.at_ 0 sP
     cases l
   subst j;simp only[lB,Option.isNone_none]at h|-;go_enter func205,ntmps205;go_wp2;go_ret;exact⟨none,0,rfl,ah.nil_ _ _ _ _ _,aa.refl _⟩
 | some ad =>
   have m:=lh d;clear d;go_enter func205,ntmps205;go_wp2_with (at_builtin;refine ae ?_);refine ar ?_;have i:cJ (w.alloc (.cells #[] 126)) w.heap.size (.slice (some ⟨w.heap.size,0,none⟩) 0 0) ([]:List Nat):=World.ownsRow_made w #[] 0 (lc _) (by unfold maxLen;omega) rfl;refine aD iy dB ig rfl (.tmp 5) (.tmp 6) rfl (ys:=xs) i rfl rfl (m.o.keep kP) sO sP ?_;intro o p f k _;have ⟨a1,a2,a3⟩:=i.after (w:=w) k kP (lc _);clear h a2 a3;go_wp2;go_ret;simp only[lO]at f;obtain⟨b,a,g⟩:=bp f;exact⟨b,a,by rw[<-g];rfl,by rw[<-g];exact f,a1⟩
theorem tf:dX prog 235 277 2 4:=by
 obtain⟨i,hi,c,a,b⟩:=iN (show(prog.info? 277).map (λi=>(i.zero,i.size,i.bytes))=some (some (.agg #[.int .u16 0,.int .u16 0]),2,4) from kR);exact⟨i,_,underlying235,hi,c,a,b,rfl,dC,dC⟩
abbrev ib(w:World)(base:Nat)(v:Value)(xs:List Pr):Prop:=ah w base 277 2 io v xs
theorem PT(A:Option Addr)(c:Nat)(xs:List Pr)(w:World)(d:Sl w 2 io A c xs)(n:xs.length<=1000000000) :
 Calls prog 247 #[.slice A xs.length c] w λe w'=>∃b a,e=.returned (.slice b xs.length a)/\ib w' w.heap.size (.slice b xs.length a) xs/\aa w w':=by
 have h:=λW:World=>Lib.run_eql_slice_nil W 235 277 A xs.length c 0 0 underlying235
 cases A with
 | none =>
   have j:xs=[]:=by
    rcases xs with _ | ⟨y,r⟩
    ·rfl
    ·obtain⟨_,_,l,_⟩:=d.at_ 0 sP
     cases l
   subst j;simp only[lB,Option.isNone_none]at h|-;go_enter func247,ntmps247;go_wp2;go_ret;exact⟨none,0,rfl,ah.nil_ _ _ _ _ _,aa.refl _⟩
 | some ad =>
   have m:=lh d;clear d;go_enter func247,ntmps247;go_wp2_with (at_builtin;refine ae ?_);refine ar ?_;have i:ib (w.alloc (.cells #[] 277)) w.heap.size (.slice (some ⟨w.heap.size,0,none⟩) 0 0) ([]:List Pr):=World.ownsRow_made w #[] 0 (lc _) (by unfold maxLen;omega) rfl;refine aD tf gv rU rfl (.tmp 5) (.tmp 6) rfl (ys:=xs) i rfl rfl (m.o.keep kP) sO sP ?_;intro o p f k _;have ⟨a1,a2,a3⟩:=i.after (w:=w) k kP (lc _);clear h a2 a3;go_wp2;go_ret;simp only[lO]at f;obtain⟨b,a,g⟩:=bp f;exact⟨b,a,by rw[<-g];rfl,by rw[<-g];exact f,a1⟩
theorem getD_at(a:List Nat)(i:Nat)(h:i<a.length):a.getD i 0=a[i]:=by simp[h]
def nY(a:List Nat):Prop:=∀i,(h:i+1<a.length)->a[i]'oM<a[i+1]
theorem QB(A:Option Addr)(c:Nat)(a:List Nat)(w:World)(g:Sl w 1 cT A c a)(hi:nY a)(l:a.length<=65536) :
 Rt 242 #[.slice A a.length c] w (.bool true):=by
 have k:=lh g;have q:=lh hi;generalize h:a.length=n at l;have m:=lh h;clear g hi h;go_enter func242,ntmps242;go_wp2;go_loopw [3] (λvi wr=>∃i:Nat,vi=.int .i64 i/\1<=i/\Hid (aa w wr)) (λvi _=>n-(intOf vi).toNat)
 case atStart=>exact⟨1,rfl,lc _,aa.refl _⟩
 case round =>
  obtain⟨i,rfl,hi,e⟩:=hrel
  by_cases r:i<n
  ·obtain⟨d,j⟩:∃d,d+1=i:=⟨i-1,oM⟩;have C:d<n:=oM;have s:i<a.length:=(by rw[m.o];exact r);have f:=q.o d oM;obtain⟨b,D,o,B,t⟩:=gU (k.o.keep e.o) i s;subst o;obtain⟨_,u⟩:=jQ (k.o.keep e.o) d oM;have z:IntKind.i64.wrap ((i:Int)-1)=(d:Int):=iW oM;simp only[j]at f;generalize a[d]'oM=x at u f;generalize a[i]=y at t f;have E:decide ((y:Int)<=(x:Int))=false:=sO;have v:¬(y:Int)<=(x:Int):=oM;clear j f;go_wp2;refine zR kR ?_
   repeat
    refine aR (λK hK=>?_);go_simp
    first
    | (refine hK _ _ ?_;clear hK K)
    | (apply Exists.intro
       refine⟨λp=>?_,hK _ _ ?_⟩
       (fail)
       clear hK K)
   refine bG ?_;intro p;simp only[aj];go_wp2;go_roundw
   case rel=>exact⟨i+1,by go_num,oM,e.o.trans kP⟩
   case measure=>simp[intOf];omega
  ·go_wp2;go_ret;exact⟨rfl,e.o⟩
theorem Qv(A:Option Addr)(c:Nat)(a:List Nat)(w:World)(q:Sl w 1 cT A c a)(m:∀x∈a,x<64)(B:a.length<=65536) :
 Rt 273 #[.slice A a.length c] w (.int .i64 (iF a a.length:Nat)):=by
 have z:=lh q;have p:=lh m;generalize s:a.length=n at B;have D:=lh s;clear q m s;go_enter func273,ntmps273;go_wp2;go_loopw [3,8] (λvn vi wr=>∃k r:Nat,k<=n/\vi=.int .i64 k/\vn=.int .i64 r/\r<=k/\Hid (r=iF a k)/\Hid (aa w wr)) (λ_ vi _=>n-(intOf vi).toNat)
 case atStart=>exact⟨0,0,lj _,rfl,rfl,lc _,rfl,aa.refl _⟩
 case round =>
  obtain⟨k,r,S,rfl,rfl,L,j,f⟩:=hrel
  by_cases H:k<n
  ·have i:k<a.length:=(by rw[D.o];exact H);obtain⟨b,R,G,m,u⟩:=gU (z.o.keep f.o) k i;subst G;have g:=lh (show iF a (k+1)=iF a k+(if k=0\/a.getD k 0≠a.getD (k-1) 0+1 then 1 else 0) from rfl);have T:IntKind.i64.wrap ((r:Int)+1)=((r+1:Nat):Int):=iW oM
   by_cases l:k=0
   ·subst l;rw[lE]at u;have h:=lh (show r+1=iF a (0+1) by rw[g.o,if_pos (.inl rfl),j.o]);clear g;go_wp2;go_roundw
    case rel=>exact⟨0+1,r+1,oM,by go_num,by go_num,oM,h.o,f.o⟩
    case measure=>simp[intOf];omega
   ·obtain⟨d,v⟩:∃d,d+1=k:=⟨k-1,oM⟩;have Q:d<n:=oM;have t:d<a.length:=oM;obtain⟨_,K⟩:=jQ (z.o.keep f.o) d t;have E:=p.o a[d] (ll _);have J:=p.o a[k] (ll _);have e:=lh (show a.getD k 0=a[k]/\a.getD (k-1) 0=a[d]from⟨getD_at _ _ i,by rw[show k-1=d from oM];exact getD_at _ _ t⟩);have P:IntKind.i64.wrap ((k:Int)-1)=(d:Int):=iW oM;have O:((k:Int)==0)=false:=sO;have N:¬(k:Int)=0:=oM;generalize a[d]=x at K E e;generalize a[k]=y at u J e;have M:IntKind.u16.wrap ((x:Int)+1)=((x+1:Nat):Int):=by simp[IntKind.wrap,IntKind.signed,IntKind.bits];omega
    by_cases o:y=x+1
    ·have h:=lh (show r=iF a (k+1) by rw[g.o,if_neg (by rw[e.o.1,e.o.2];omega),j.o];rfl);have C:((y:Int)==((x+1:Nat):Int))=true:=sO;have I:((y:Int) != ((x+1:Nat):Int))=false:=sO;have F:(y:Int)=((x+1:Nat):Int):=oM;clear g e v o l;go_wp2;go_roundw
     case rel=>exact⟨k+1,r,oM,by go_num,by go_num,oM,h.o,f.o⟩
     case measure=>simp[intOf];omega
    ·have h:=lh (show r+1=iF a (k+1) by rw[g.o,if_pos (by rw[e.o.1,e.o.2];exact .inr o),j.o]);have C:((y:Int)==((x+1:Nat):Int))=false:=sO;have I:((y:Int) != ((x+1:Nat):Int))=true:=sO;have F:¬(y:Int)=((x+1:Nat):Int):=oM;clear g e v o l;go_wp2;go_roundw
     case rel=>exact⟨k+1,r+1,oM,by go_num,by go_num,oM,h.o,f.o⟩
     case measure=>simp[intOf];omega
  ·have i:k=n:=oM;subst i;go_wp2;go_ret;exact⟨dc (by rw[j.o]),f.o⟩
end Go.Proofs.YtpkocnpamcchcaaGreatDoor
namespace Go.Zone
open Go.RowKit
section
variable {α:Type} {w w':World} {base g n c k:Nat} {e:TypeId} {enc:α->List Value} {xs:List α}
theorem ah.cellK(f:∀x,(enc x).length=k)(h:ah w base e k enc (.slice (some ⟨g,0,none⟩) n c) xs)(i:Nat)(hi:i<xs.length)(j:Nat)(u:Value)(l:(enc xs[i])[j]? =some u) :
 w.cell? ⟨g,i*k+j,none⟩=some u/\w.frozen? ⟨g,i*k+j,none⟩=false/\g<w.heap.size/\base<=g:=by
 rcases h.2 with⟨_,a⟩ | ⟨q,v,t,a,o,b,s,y,r,p⟩
 ·omega
 ·simp only[Value.slice.injEq,lQ,Addr.mk.injEq,and_true,true_and]at a;obtain⟨rfl,_,_⟩:=a;refine⟨?_,by simp[World.frozen?,b],(La.1 b).1,o⟩;have d:=flat_get f xs i j hi u l;have m:i*k+j<xs.length*k:=by
   have:=(Lw.1 d).1
   rwa [eL f]at this
  rw[<-p,List.getElem?_take,if_pos m]at d;simp only[World.cell?,b,Option.isSome_none,lY,if_false]
  simpa using d
theorem ah.setK(a:ah w base e k enc (.slice (some ⟨g,0,none⟩) n c) xs)(f:n=xs.length)(m:Nat)(u:Value)(ys:List α)(b:ys.length=xs.length)(d:(xs.flatMap enc).set m u=ys.flatMap enc) :
 ah (w.setCell ⟨g,m,none⟩ u) base e k enc (.slice (some ⟨g,0,none⟩) n c) ys:=by
 subst f;have:=(World.ownsRow.stored a m u).1;unfold ah;rw[b,<-d];exact this
end
end Go.Zone
namespace Go.Proofs.YtpkocnpamcchcaaGreatDoor
open Go.RowKit Go.Zone Go.Shelf Tryz Go.Roa Go.Sym
theorem pV{w:World}{c:Nat}{A:Option Addr}{xs:List Pr}(h:Sl w 2 io A c xs)(i:Nat)(hi:i<xs.length):∃b a,A=some ⟨b,a,none⟩/\b<w.heap.size/\w.cell? ⟨b,a+i*2,none⟩=some (.int .u16 (xs[i].1:Int))/\w.cell? ⟨b,a+i*2+1,none⟩=some (.int .u16 (xs[i].2:Int)):=by
 obtain⟨b,a,l,f⟩:=h.at_ i hi;have d:=f 0 _ rfl;have j:=f 1 _ rfl;exact⟨b,a,l,World.block_lt_of_cell? w _ d,d,j⟩
theorem Qc(A:List Pr)(p:Pr)(u:Nat):((A++[p]).flatMap io).set (A.length*2+1) (.int .u16 (u:Int))=(A++[(p.1,u)]).flatMap io:=by
 rw[lF,lF,Lg _ _ (by rw[eL gv];omega),eL gv,show A.length*2+1-A.length*2=1 from oM];rfl
theorem zy(A:Option Addr)(c:Nat)(a:List Nat)(w:World)(Z:Sl w 1 cT A c a)(L:∀x∈a,x<64)(ab:a.length<=65536) :
 Calls prog 248 #[.slice A a.length c] w λe w'=>∃v,e=.returned v/\ib w' w.heap.size v (eQ a a.length)/\aa w w':=by
 have J:=lh Z;have H:=lh L;generalize W:a.length=n at ab;have a2:=lh W;clear Z L W;go_enter func248,ntmps248;go_wp2;go_loopw [3,8] (λvr vi wr=>∃(k:Nat) (v:Value),k<=n/\vi=.int .i64 k/\v=vr/\Hid (ib wr w.heap.size v (eQ a k))/\Hid (aa w wr)) (λ_ vi _=>n-(intOf vi).toNat)
 case atStart=>exact⟨0,.slice none 0 0,lj _,rfl,rfl,ah.nil_ _ _ _ _ _,aa.refl _⟩
 case round =>
  obtain⟨k,v,ay,rfl,rfl,f,h⟩:=hrel
  by_cases ad:k<n
  ·have E:k<a.length:=(by rw[a2.o];exact ad);obtain⟨b,aw,a8,L,I⟩:=gU (J.o.keep h.o) k E;subst a8;have a3:=oH a k;have ap:=nU a k;have M:=lh (show(eQ a k).length<=k from oM);have s:=lh (show eQ a (k+1)=if 0<k/\a.getD k 0=a.getD (k-1) 0+1 then Roa.bump (eQ a k) else eQ a k++[(a.getD k 0,0)]from rfl);have r:=lh (getD_at _ _ E);have R:=H.o a[k] (ll _);clear a3 ap;have a6:(0<k/\a.getD k 0=a.getD (k-1) 0+1)\/¬(0<k/\a.getD k 0=a.getD (k-1) 0+1):=Classical.em _
   rcases a6 with i|i
   ·obtain⟨d,N⟩:∃d,d+1=k:=⟨k-1,oM⟩;have a9:d<n:=oM;have z:d<a.length:=oM;obtain⟨_,Q⟩:=jQ (J.o.keep h.o) d z;have U:=H.o a[d] (ll _);have m:a.getD (k-1) 0=a[d]:=(by rw[show k-1=d from oM];exact getD_at _ _ z);obtain⟨B,p,G,V⟩:=rM a k i.1;have q:=lh (show eQ a (k+1)=B++[(p.1,p.2+1)] by rw[s.o,if_pos i,G,tH]);have o:a[k]=a[d]+1:=(by rw[<-r.o,<-m];exact i.2);rw[m]at V;rw[G]at f;have ac:B.length<k:=(by have:=M.o;rw[G]at this;simp at this;omega);obtain⟨av,aA,F⟩:=bp f.o;obtain⟨g,aq,al⟩:=AW (by rw[<-F];exact f.o) sP;subst aq;rw[F]at f;obtain⟨z0,au,z2,z3⟩:=f.o.cellK gv B.length sP 1 (.int .u16 (p.2:Int)) (by simp[io]);have a0:=f.o.setK rfl (B.length*2+1) (.int .u16 ((p.2+1:Nat):Int)) (B++[(p.1,p.2+1)]) sP (Qc B p (p.2+1));have D:=lh a0;have ai:=lh z3;generalize Y:(B++[p]).length=P at F D;have a4:P=B.length+1:=(by rw[<-Y];simp);have a7:IntKind.i64.wrap ((P:Int)-1)=(B.length:Int):=iW oM;have ak:B.length<P:=oM;have af:IntKind.i64.wrap ((k:Int)-1)=(d:Int):=iW oM;have a1:(0:Int)<(k:Int):=oM;generalize a[d]=x at Q U o V;generalize a[k]=y at I o R;have a5:IntKind.u16.wrap ((x:Int)+1)=((x+1:Nat):Int):=(by simp[IntKind.wrap,IntKind.signed,IntKind.bits];omega);have ao:((y:Int)==((x+1:Nat):Int))=true:=sO;have ag:(y:Int)=((x+1:Nat):Int):=oM
    have aj:IntKind.u16.wrap ((p.2:Int)+1)=((p.2+1:Nat):Int):=(by simp[IntKind.wrap,IntKind.signed,IntKind.bits];omega);generalize p.2=p2 at z0 D aj q;generalize B.length=az at z0 au a7 D ak;subst F;clear s r N i G V o m a0 Y a4 al ac z3 f;go_wp2;go_roundw
    case rel=>exact⟨k+1,_,oM,by go_num,rfl,(by show ib _ _ _ _;rw[q.o];exact D.o),h.o.setCell ai.o _⟩
    case measure=>simp[intOf];omega
   ·have q:=lh (show eQ a (k+1)=eQ a k++[(a[k],0)] by rw[s.o,if_neg i,r.o])
    by_cases X:k=0
    ·have ax:decide ((0:Int)<(k:Int))=false:=sO;have a1:¬(0:Int)<(k:Int):=oM;generalize a[k]=y at I R q;clear s r i X;go_wp2_with (at_builtin;refine ae ?_);refine ar ?_;have l:ib (wr.alloc (.cells #[.int .u16 (y:Int),.int .u16 0] 277)) w.heap.size v (eQ a k):=f.o.keep (aa.alloc (aa.refl _) _);refine aD tf gv rU rfl (.tmp 35) (.tmp 38) rfl (ys:=[(y,0)]) l rfl rfl (br _ oM oM (λj u hu=>by match j,hu with|0,hu=>cases hu;simp[go_sem]|1,hu=>cases hu;simp[go_sem])) (by have:=M.o;simp;omega) (by have:=h.o.size;simp;omega) ?_;intro T K t C _;have S:=lh (show aa w K from ah.kept l C (h.o.alloc _) (lc _));have O:=lh t;clear t C l f h;go_wp2;go_roundw
     case rel=>exact⟨k+1,T,oM,by go_num,rfl,(by show ib _ _ _ _;rw[q.o];exact O.o),S.o⟩
     case measure=>simp[intOf];omega
    ·obtain⟨d,N⟩:∃d,d+1=k:=⟨k-1,oM⟩;have a9:d<n:=oM;have z:d<a.length:=oM;obtain⟨_,Q⟩:=jQ (J.o.keep h.o) d z;have U:=H.o a[d] (ll _);have m:a.getD (k-1) 0=a[d]:=(by rw[show k-1=d from oM];exact getD_at _ _ z);have o:¬ a[k]=a[d]+1:=λe=>i ⟨oM,by rw[r.o,m];exact e⟩;have af:IntKind.i64.wrap ((k:Int)-1)=(d:Int):=iW oM;have a1:(0:Int)<(k:Int):=oM;generalize a[d]=x at Q U o m;generalize a[k]=y at I o R q;have a5:IntKind.u16.wrap ((x:Int)+1)=((x+1:Nat):Int):=(by simp[IntKind.wrap,IntKind.signed,IntKind.bits];omega);have ao:((y:Int)==((x+1:Nat):Int))=false:=sO;have ag:¬(y:Int)=((x+1:Nat):Int):=oM;clear s r N i o m X;go_wp2_with (at_builtin;refine ae ?_);refine ar ?_;have l:ib (wr.alloc (.cells #[.int .u16 (y:Int),.int .u16 0] 277)) w.heap.size v (eQ a k):=f.o.keep (aa.alloc (aa.refl _) _);refine aD tf gv rU rfl (.tmp 35) (.tmp 38) rfl (ys:=[(y,0)]) l rfl rfl (br _ oM oM (λj u hu=>by match j,hu with|0,hu=>cases hu;simp[go_sem]|1,hu=>cases hu;simp[go_sem])) (by have:=M.o;simp;omega) (by have:=h.o.size;simp;omega) ?_;intro T K t C _;have S:=lh (show aa w K from ah.kept l C (h.o.alloc _) (lc _));have O:=lh t;clear t C l f h;go_wp2;go_roundw
     case rel=>exact⟨k+1,T,oM,by go_num,rfl,(by show ib _ _ _ _;rw[q.o];exact O.o),S.o⟩
     case measure=>simp[intOf];omega
  ·have E:k=n:=oM;subst E;have aB:=a2.o;go_wp2;exact bodyPost_ret (v:=v) (by simp[results,results248,go_sem]) rfl ⟨_,rfl,f.o,h.o⟩
theorem zJ(p:Pr)(w:World)(a:p.1+p.2+1<=65536):Rt 275 #[.agg #[.int .u16 (p.1:Int),.int .u16 (p.2:Int)]] w (.int .i64 ((p.1+p.2+1:Nat):Int)):=by
 obtain⟨x,y⟩:=p;simp only at a|-;have b:IntKind.i64.wrap ((x:Int)+(y:Int))=((x+y:Nat):Int):=iW oM;have d:IntKind.i64.wrap (((x+y:Nat):Int)+1)=((x+y+1:Nat):Int):=iW oM;go_enter func275,ntmps275;go_wp2;go_ret;exact⟨dc oM,kP⟩
theorem I3(A:Option Addr)(c:Nat)(r:List Pr)(w:World)(i:Sl w 2 io A c r)(o:∀p∈r,p.1+p.2+1<=64)(u:r.length<=65536) :
 Rt 246 #[.slice A r.length c] w (.int .i64 (((r.map λp=>p.2+1).sum:Nat):Int)):=by
 have C:=lh i;have v:=lh o;generalize l:r.length=n at u;have j:=lh l;clear i o l;go_enter func246,ntmps246;go_wp2;go_loopw [3,8] (λvs vi wr=>∃k m:Nat,k<=n/\vi=.int .i64 k/\vs=.int .i64 m/\m<=k*64/\Hid (m=((r.take k).map λp=>p.2+1).sum)/\Hid (aa w wr)) (λ_ vi _=>n-(intOf vi).toNat)
 case atStart=>exact⟨0,0,lj _,rfl,rfl,oM,rfl,aa.refl _⟩
 case round =>
  obtain⟨k,m,G,rfl,rfl,H,d,f⟩:=hrel
  by_cases B:k<n
  ·have a:k<r.length:=(by rw[j.o];exact B);obtain⟨b,F,z,D,q,t⟩:=pV (C.o.keep f.o) k a;subst z;have s:=v.o r[k] (ll _);have h:=lh (show((r.take (k+1)).map λp=>p.2+1).sum=m+(r[k].2+1) by rw[ly a,lz,List.sum_append,<-d.o];simp);generalize r[k]=p at q t s h;obtain⟨x,y⟩:=p;simp only at q t s h;have E:IntKind.i64.wrap ((y:Int)+1)=((y+1:Nat):Int):=iW oM;have I:IntKind.i64.wrap ((m:Int)+((y+1:Nat):Int))=((m+(y+1):Nat):Int):=iW oM;go_wp2;go_roundw
   case rel=>exact⟨k+1,m+(y+1),oM,by go_num,by go_num,oM,h.o.symm,f.o.trans kP⟩
   case measure=>simp[intOf];omega
  ·have a:k=n:=oM;subst a;rw[<-j.o,lC]at d;go_wp2;go_ret;exact⟨dc (by rw[d.o]),f.o⟩
theorem MZ(r:List Pr)(k:Nat)(h:k<r.length):jh (r.take (k+1))=jh (r.take k)++List.range' r[k].1 (r[k].2+1):=by
 unfold jh;rw[ly h,lF];simp
theorem Jn(x i:Nat):List.range' x (i+1)=List.range' x i++[x+i]:=by
 rw[List.range'_concat];simp
theorem I2(A:Option Addr)(c:Nat)(r:List Pr)(w:World)(a2:Sl w 2 io A c r)(Y:∀p∈r,p.1+p.2+1<=64)(al:r.length<=65536) :
 Calls prog 253 #[.slice A r.length c] w λe w'=>∃v,e=.returned v/\cJ w' w.heap.size v (jh r)/\aa w w':=by
 have ag:=lh a2;have S:=lh Y;generalize T:r.length=n at al;have a6:=lh T;clear a2 Y T;go_enter func253,ntmps253;go_wp2;go_loopw [3,9] (λvl vi wr=>∃(k:Nat) (v:Value),k<=n/\vi=.int .i64 k/\v=vl/\Hid (cJ wr w.heap.size v (jh (r.take k)))/\Hid (aa w wr)) (λ_ vi _=>n-(intOf vi).toNat)
 case atStart=>exact⟨0,.slice none 0 0,lj _,rfl,rfl,ah.nil_ _ _ _ _ _,aa.refl _⟩
 case round =>
  obtain⟨k,v,aG,rfl,rfl,a,d⟩:=hrel
  by_cases ao:k<n
  ·have o:k<r.length:=(by rw[a6.o];exact ao);obtain⟨b,aB,aj,ai,K,Q⟩:=pV (ag.o.keep d.o) k o;subst aj;have P:=S.o r[k] (ll _);have H:=lh (MZ r k o);have X:=lh (show(jh (r.take k)).length<=k*64 by
    rw[sy];have:=uq (r.take k) (B:=64) (λp hp=>by have:=S.o p (Lx hp);omega);rw[lD]at this;exact lk this (L7 _ oM))
   generalize r[k]=p at K Q P H;obtain⟨x,y⟩:=p;simp only at K Q P H;generalize jh (r.take k)=O at a H X;have E:=lh (λW=>zJ (x,y) W (by simp only;omega));simp only at E;obtain⟨t,M⟩:∃t,t=x+y+1:=⟨_,rfl⟩;rw[<-M]at E;have aA:t<=64:=oM;have I:=lh M;have a7:=lh a.o;have aH:y<64:=oM;have aI:x<64:=oM;clear P M;go_upto_region 5 with fail;have l:ak (wr.alloc (.cells #[.int .u16 (x:Int),.int .u16 (y:Int)] 277)) wr.heap.size 277 [.int .u16 (x:Int),.int .u16 (y:Int)]:=bH _ _ _;have L:aa w (wr.alloc (.cells #[.int .u16 (x:Int),.int .u16 (y:Int)] 277)):=d.o.alloc _;have R:cJ (wr.alloc (.cells #[.int .u16 (x:Int),.int .u16 (y:Int)] 277)) w.heap.size v O:=a7.o.keep (aa.alloc (aa.refl _) _);have ab:w.heap.size<=wr.heap.size:=d.o.size;generalize wr.alloc (.cells #[.int .u16 (x:Int),.int .u16 (y:Int)] 277)=aC at l L R|-;generalize wr.heap.size=g at l ab|-;have a8:=lh l;have a1:=lh L;have a4:=lh R;have s:=l.cell 0 _ rfl;have D:=l.lt;clear l L R ab a7 a d K Q ai;go_wp2;go_loopw [3,6] (λvl vi wq=>∃(i:Nat) (u:Value),i<=y+1/\vi=.int .i64 ((x+i:Nat):Int)/\u=vl/\Hid (cJ wq w.heap.size u (O++List.range' x i))/\Hid (aa w wq)/\Hid (ak wq g 277 [.int .u16 (x:Int),.int .u16 (y:Int)])) (λ_ vi _=>x+y+1-(intOf vi).toNat)
   case atStart=>exact⟨0,v,lj _,by go_num,rfl,by show cJ _ _ _ _;rw[List.range'_zero,lT];exact a4.o,a1.o,a8.o⟩
   case round =>
    clear a4 a1 a8 s D;obtain⟨i,u,hi,rfl,rfl,a,d,h⟩:=hrel;have s:=h.o.cell 0 _ rfl;have V:=h.o.cell 1 _ rfl;have D:=h.o.lt;have aE:min (t:Int) 65536=(t:Int):=oM
    by_cases aw:i<y+1
    ·have aq:decide (((x+i:Nat):Int)<(t:Int))=true:=(by have:=I.o;simp;omega);have ac:((x+i:Nat):Int)<(t:Int):=(by have:=I.o;omega);have Z:=lh (Jn x i);obtain⟨z,G⟩:∃z,z=x+i:=⟨_,rfl⟩;rw[<-G]at aq ac Z;have a9:=lh G;have ay:z<64:=oM;have aF:IntKind.i64.wrap ((z:Int)+1)=((z+1:Nat):Int):=iW oM;have az:IntKind.u16.wrap (z:Int)=(z:Int):=(by simp[IntKind.wrap,IntKind.signed,IntKind.bits];omega);rw[<-G];clear G;go_wp2_with (go_at_call 275;refine ae ?_);refine uM (E.o _) ?_;rintro e a5 ⟨rfl,f⟩;have m:=d.u f;have N:=lh (h.o.keep f);have C:=lh (a.o.keep f);clear f d h a s V D;go_wp2_with (at_builtin;refine ae ?_);refine ar ?_;have F:cJ (a5.alloc (.cells #[.int .u16 (z:Int)] 126)) w.heap.size u (O++List.range' x i):=C.o.keep (aa.alloc (aa.refl _) _);refine aD iy dB ig rfl (.tmp 23) (.tmp 26) rfl (ys:=[z]) F rfl rfl (br _ oM oM (λj q hq=>by match j,hq with|0,hq=>cases hq;simp[go_sem])) (by have:=X.o;simp;omega) (by have:=m.o.size;simp;omega) ?_;intro av ax a3 J _;have af:=lh (de (N.o.keep (aa.alloc (aa.refl _) _)) J (bu F (N.o.keep (aa.alloc (aa.refl _) _)) dC));have ad:=lh (show aa w ax from ah.kept F J (m.o.alloc _) (lc _));have au:=lh a3;clear a3 J F C m N;go_wp2;go_roundw
     case rel=>exact⟨i+1,av,oM,by have:=a9.o;go_num,rfl,(by show cJ _ _ _ _;rw[Z.o,<-lr];exact au.o),ad.o,af.o⟩
     case measure=>have:=a9.o;simp[intOf];omega
    ·have U:i=y+1:=oM;have a0:((x+i:Nat):Int)=(t:Int):=(by have:=I.o;omega);rw[a0];have ap:=lh U;clear U a0 aw;go_wp2_with (go_at_call 275;refine ae ?_);refine uM (E.o _) ?_;rintro e a5 ⟨rfl,f⟩;have m:=d.u f;have C:=lh (a.o.keep f);clear f d h a s V D;go_wp2;go_roundw
     case rel=>exact⟨k+1,u,oM,by go_num,rfl,(by show cJ _ _ _ _;rw[H.o,<-ap.o];exact C.o),m.o⟩
     case measure=>simp[intOf];omega
  ·have o:k=n:=oM;subst o;rw[<-a6.o,lC]at a;go_wp2;exact bodyPost_ret (v:=v) (by simp[results,results253,go_sem]) rfl ⟨_,rfl,a.o,d.o⟩
end Go.Proofs.YtpkocnpamcchcaaGreatDoor
namespace Go.Proofs.YtpkocnpamcchcaaGreatDoor
open Go.RowKit Go.Zone Go.Shelf Tryz Go.Roa
theorem xG(n:Int):0<=IntKind.u64.wrap n/\IntKind.u64.wrap n<18446744073709551616:=by
 simp only[IntKind.wrap,IntKind.signed,IntKind.bits];constructor<;>simp<;>omega
def AP(x:Int):Int:=IntKind.u64.wrap (bits .and .u64 (x/2) 6148914691236517205+bits .and .u64 x 6148914691236517205)
def AO(a:Int):Int:=IntKind.u64.wrap (bits .and .u64 (a/4) 3689348814741910323+bits .and .u64 a 3689348814741910323)
def AN(b:Int):Int:=bits .and .u64 (IntKind.u64.wrap (b/16+b)) 1085102592571150095
def AM(c:Int):Int:=IntKind.u64.wrap (c+c/256)
def AI(d:Int):Int:=IntKind.u64.wrap (d+d/65536)
def AH(e:Int):Int:=IntKind.u64.wrap (e+e/4294967296)
def eI(x:Nat):Nat:=(IntKind.i64.wrap (AH (AI (AM (AN (AO (AP (x:Int)))))))%128).toNat
theorem mD(x:Nat):eI x<=127:=by unfold eI;omega
theorem AG:eI 0=0:=by decide +kernel
theorem pop_any(x:Nat)(w:World):Rt 274 #[.int .u64 (x:Int)] w (.int .i64 (eI x:Nat)):=by
 obtain⟨a,g⟩:∃a,a=AP (x:Int):=⟨_,rfl⟩;obtain⟨b,h⟩:∃b,b=AO a:=⟨_,rfl⟩;obtain⟨c,k⟩:∃c,c=AN b:=⟨_,rfl⟩;obtain⟨d,i⟩:∃d,d=AM c:=⟨_,rfl⟩;obtain⟨e,he⟩:∃e,e=AI d:=⟨_,rfl⟩;obtain⟨f,j⟩:∃f,f=AH e:=⟨_,rfl⟩;have l:=lh (show((eI x:Nat):Int)=IntKind.i64.wrap f%128 by unfold eI;rw[<-g,<-h,<-k,<-i,<-he,<-j];omega);have r:IntKind.u64.wrap (bits .and .u64 ((x:Int)/2) 6148914691236517205+bits .and .u64 (x:Int) 6148914691236517205)=a:=g.symm;have n:IntKind.u64.wrap (bits .and .u64 (a/4) 3689348814741910323+bits .and .u64 a 3689348814741910323)=b:=h.symm;have o:bits .and .u64 (IntKind.u64.wrap (b/16+b)) 1085102592571150095=c:=k.symm;have m:IntKind.u64.wrap (c+c/256)=d:=i.symm;have p:IntKind.u64.wrap (d+d/65536)=e:=he.symm;have q:IntKind.u64.wrap (e+e/4294967296)=f:=j.symm;clear g h k i he j;go_enter func274,ntmps274;go_wp2;go_ret;exact⟨dc (by rw[l.o,i64_and127,IntKind.wrap_i64];unfold wrap64;omega),aa.refl _⟩
def pK:List Nat:=[0,1,56,2,57,49,28,3,61,58,42,50,38,29,17,4,62,47,59,36,45,43,51,22,53,39,33,30,24,18,12,5,63,55,48,27,60,41,37,16,46,35,44,21,52,32,23,11,54,26,40,15,34,20,31,10,25,14,19,9,13,8,7,6]
def Tab(w:World):Prop:=∀j,j<64->w.cell? ⟨2,j,none⟩=some (.int .u8 ((pK.getD j 0:Nat):Int))
theorem Tab.keep{w b:World}(a:Tab w)(c:aa w b):Tab b:=λj hj=>(c.cell (p:=⟨2,j,none⟩) (block_lt_of_cell (a j hj))).trans (a j hj)
theorem Tab.turn{w a:World}{S:List Nat}(b:Tab w)(d:ag w a S)(c:2∉S):Tab a:=λj hj=>d.cell (b j hj) c
def mZ(x:Nat):Nat:=(IntKind.u64.wrap (bits .and .u64 (x:Int) (IntKind.u64.wrap (-(x:Int)))*285870213051353865)/288230376151711744).toNat
def fi(x:Nat):Nat:=pK.getD (mZ x) 0
theorem uf(x:Nat):mZ x<64:=by
 unfold mZ;have:=xG (bits .and .u64 (x:Int) (IntKind.u64.wrap (-(x:Int)))*285870213051353865);generalize IntKind.u64.wrap (bits .and .u64 (x:Int) (IntKind.u64.wrap (-(x:Int)))*285870213051353865)=z at this|-;omega
theorem Gu:∀j,j<64->pK.getD j 0<64:=by decide +kernel
theorem qW(x:Nat):fi x<64:=Gu _ (uf x)
theorem F4(x a n:Nat)(w:World)(b:¬ x=0)(f:a<64)(j:n<64)(i:IntKind.u64.wrap (bits .and .u64 (x:Int) (IntKind.u64.wrap (-(x:Int)))*285870213051353865)/288230376151711744=(a:Int))(c:w.cell? ⟨2,a,none⟩=some (.int .u8 (n:Int))) :
 Rt 266 #[.int .u64 (x:Int)] w (.int .i64 (n:Nat)):=by
 have h:((x:Int)==0)=false:=sO;have d:¬(x:Int)=0:=oM;have e:=block_lt_of_cell c;clear b;go_enter func266,ntmps266;go_wp2_with (with_reducible refine qu 11 ?_);refine ar ?_;obtain⟨z,g⟩:∃z:Int,z=285870213051353865:=⟨_,rfl⟩;go_wp2;go_ret;exact⟨dc (by go_num),aa.refl _⟩
theorem F2(x:Nat):IntKind.u64.wrap (bits .and .u64 (x:Int) (IntKind.u64.wrap (-(x:Int)))*285870213051353865)/288230376151711744=(mZ x:Int):=by
 have:=xG (bits .and .u64 (x:Int) (IntKind.u64.wrap (-(x:Int)))*285870213051353865);unfold mZ;generalize IntKind.u64.wrap (bits .and .u64 (x:Int) (IntKind.u64.wrap (-(x:Int)))*285870213051353865)=z at this|-;omega
theorem F5(x:Nat)(a:¬ x=0)(w:World)(b:Tab w):Rt 266 #[.int .u64 (x:Int)] w (.int .i64 (fi x:Nat)) :=
 F4 x (mZ x) (fi x) w a (uf x) (qW x) (F2 x) (b (mZ x) (uf x))
def TB:EJ:=⟨eI,fi,mD,λx _=>qW x⟩
def WN(n x:Nat):List Nat:=x::List.replicate n 0
theorem QH(n x:Nat):(WN n x).length=n+1:=by simp only[WN,lw,LH]
theorem QI(n x k:Nat)(h:k<(WN n x).length):(WN n x)[k]=if k=0 then x else 0:=by
 cases k with
 | zero=>rfl
 | succ j=>simp only[WN,List.getElem_cons_succ,List.getElem_replicate];rfl
theorem QG(n x y:Nat):(WN n x).set 0 y=WN n y:=rfl
theorem QF(n:Nat):WN n 0=List.replicate (n+1) 0:=rfl
def W0(x:Nat):List Nat:=WN 1023 x
theorem eT(x:Nat):(W0 x).length=1024:=QH 1023 x
theorem tL(x k:Nat)(h:k<(W0 x).length):(W0 x)[k]=if k=0 then x else 0:=QI 1023 x k h
theorem EE(x y:Nat):(W0 x).set 0 y=W0 y:=QG 1023 x y
theorem QJ:W0 0=List.replicate 1024 0:=QF 1023
abbrev jp(w:World)(A:Option Addr)(c x:Nat):Prop:=Sl w 1 fr A c (W0 x)
theorem pT{w:World}{A:Option Addr}{c x:Nat}(d:jp w A c x):∃b a,A=some ⟨b,a,none⟩/\b<w.heap.size:=by
 obtain⟨b,a,e,f⟩:=d.at_ 0 (by rw[eT];decide);exact⟨b,a,e,block_lt_of_cell (f 0 _ rfl)⟩
theorem pU{w:World}{b e c x:Nat}(f:jp w (some ⟨b,e,none⟩) c x)(k:Nat)(g:k<1024):w.cell? ⟨b,e+k,none⟩=some (.int .u64 ((if k=0 then x else 0:Nat):Int)):=by
 obtain⟨j,i,a,h⟩:=f.at_ k (by rw[eT];exact g);injection a with a;injection a with e1 e2;subst e1;subst e2;have d:=h 0 _ rfl;rw[Lb,lE]at d;rw[d,tL]
theorem E8(A:Option Addr)(c x:Nat)(w:World)(f:jp w A c x) :
 Rt 245 #[.slice A 1024 c] w (.int .i64 (eI x:Nat)):=by
 obtain⟨b,F,rfl,r⟩:=pT f;have B:=lh f;clear f;go_enter func245,ntmps245;go_wp2;go_loopw [3,8] (λvm vi wr=>∃k m:Nat,k<=1024/\vi=.int .i64 k/\vm=.int .i64 m/\m<=127/\Hid (m=if k=0 then 0 else eI x)/\Hid (aa w wr)) (λ_ vi _=>1024-(intOf vi).toNat)
 case atStart=>exact⟨0,0,oM,rfl,rfl,oM,rfl,aa.refl _⟩
 case round =>
  obtain⟨k,m,G,rfl,rfl,H,g,a⟩:=hrel
  by_cases q:k<1024
  ·have v:=pU (B.o.keep a.o) k q;have D:=lp r a.o.size;have d:=lh (show m+eI (if k=0 then x else 0)=if k+1=0 then 0 else eI x by
    have n:(if k+1=0 then 0 else eI x)=eI x:=if_neg (Nat.succ_ne_zero _);rw[g.o,n]
    by_cases e:k=0
    ·simp only[if_pos e];omega
    ·simp only[if_neg e,AG];omega)
   have z:=lh (show(if k+1=0 then 0 else eI x)=eI x from if_neg (Nat.succ_ne_zero _));have j:=mD x;have s:=lh j;generalize (if k=0 then x else 0)=y at v d;have i:=lh (pop_any y);have o:=mD y;generalize eI y=t at i o d;have E:IntKind.i64.wrap ((m:Int)+(t:Int))=((m+t:Nat):Int):=iW oM;clear j;go_wp2_with (go_at_call 274;refine ae ?_);refine uM (i.o _) ?_;rintro e I ⟨rfl,h⟩;have p:=a.u h;clear h;go_wp2;go_roundw
   case rel=>exact⟨k+1,m+t,oM,by go_num,by go_num,by have C:=d.o;rw[z.o]at C;have:=s.o;omega,d.o,p.o⟩
   case measure=>simp[intOf];omega
  ·have l:k=1024:=oM;subst l;go_wp2;go_ret;exact⟨dc (by rw[g.o];rfl),a.o⟩
theorem EM(A:Option Addr)(c x:Nat)(w:World)(a2:x<18446744073709551616)(o:jp w A c x) :
 Rt 272 #[.slice A 1024 c] w (.int .i64 (eI (x &&& (18446744073709551615-x*2%18446744073709551616)):Nat)):=by
 obtain⟨b,a4,rfl,N⟩:=pT o;have T:=lh o;clear o;obtain⟨R,j⟩:∃R,R=eI (x &&& (18446744073709551615-x*2%18446744073709551616)):=⟨_,rfl⟩;have F:=lh j;have a0:R<=127:=by rw[j];exact mD _
 rw[<-j];clear j;go_enter func272,ntmps272;go_wp2;go_loopw [3,4,9] (λvm vl vi wr=>∃k m l:Nat,k<=1024/\vi=.int .i64 k/\vm=.int .i64 m/\vl=.int .u64 l/\m<=127/\l<18446744073709551616/\Hid (m=if k=0 then 0 else R)/\Hid (k=0->l=0)/\Hid (aa w wr)) (λ_ _ vi _=>1024-(intOf vi).toNat)
 case atStart=>exact⟨0,0,0,oM,rfl,rfl,rfl,oM,oM,rfl,λ_=>rfl,aa.refl _⟩
 case round =>
  obtain⟨k,m,l,a6,rfl,rfl,rfl,a7,s,z,Q,i⟩:=hrel
  by_cases M:k<1024
  ·have O:=pU (T.o.keep i.o) k M;have Y:=lp N i.o.size;obtain⟨y,d⟩:∃y,y=if k=0 then x else 0:=⟨_,rfl⟩
   rw[<-d]at O;have H:y<18446744073709551616:=(by rw[d];split<;>omega);obtain⟨a,r⟩:∃a,a=y*2%18446744073709551616:=⟨_,rfl⟩;have q:a<18446744073709551616:=oM;have a3:IntKind.u64.wrap ((y:Int)*2)=(a:Int):=(by rw[IntKind.wrap_u64];omega);obtain⟨t,h⟩:∃t,t=a ||| l:=⟨_,rfl⟩
   have B:t<18446744073709551616:=(by rw[h];exact Nat.or_lt_two_pow (n:=64) q s);have a8:bits .or .u64 (a:Int) (l:Int)=(t:Int):=(by rw[h];exact u64_or_nat a l q s);obtain⟨v,g⟩:∃v,v=y &&& (18446744073709551615-t):=⟨_,rfl⟩;have Z:bits .andNot .u64 (y:Int) (t:Int)=(v:Int):=(by rw[g];exact u64_andNot_nat y t H B);obtain⟨f,S⟩:∃f,f=y/9223372036854775808:=⟨_,rfl⟩;have a1:(y:Int)/9223372036854775808=(f:Int):=oM;have I:f<18446744073709551616:=oM;have p:=lh (show m+eI v=if k+1=0 then 0 else R by
    have G:(if k+1=0 then 0 else R)=R:=if_neg (Nat.succ_ne_zero _);rw[z.o,G]
    by_cases e:k=0
    ·have U:y=x:=(by rw[d,if_pos e]);have X:=Q.o e;have J:t=a:=(by rw[h,X,Nat.or_zero]);rw[if_pos e,F.o,g,J,r,U];omega
    ·have V:y=0:=(by rw[d,if_neg e]);rw[if_neg e,g,V,Nat.zero_and,AG];omega)
   have P:=lh (show(if k+1=0 then 0 else R)=R from if_neg (Nat.succ_ne_zero _));clear d r h g S q B;have D:=lh (pop_any v);have K:=mD v;generalize eI v=u at D K p;have a5:IntKind.i64.wrap ((m:Int)+(u:Int))=((m+u:Nat):Int):=iW oM;go_wp2_with (go_at_call 274;refine ae ?_);refine uM (D.o _) ?_;rintro e a9 ⟨rfl,C⟩;have L:=i.u C;clear C;go_wp2;go_roundw
   case rel=>exact⟨k+1,m+u,f,oM,by go_num,by go_num,rfl,by have W:=p.o;rw[P.o]at W;omega,I,p.o,(λe=>absurd e (Nat.succ_ne_zero _)),L.o⟩
   case measure=>simp[intOf];omega
  ·have E:k=1024:=oM;subst E;go_wp2;go_ret;exact⟨dc (by rw[z.o];rfl),i.o⟩
theorem mY(x:Nat):(fr x).length=1:=rfl
theorem FY(x:Nat):∀u∈fr x,u.oneCell'=true:=λu hu=>by simp[fr]at hu;subst hu;rfl
abbrev ei(w:World)(base:Nat)(v:Value)(x:Nat):Prop:=ah w base 47 1 fr v (W0 x)
theorem BP(a:World):∃W',(Instr.makeSlice 104 (.int .i64 1024) (.int .i64 1024)).run prog a=.ok (.slice (some ⟨a.heap.size,0,none⟩) 1024 1024) W'/\ei W' a.heap.size (.slice (some ⟨a.heap.size,0,none⟩) 1024 1024) 0/\aa a W':=by
 obtain⟨i0,b,d,i2,i3⟩:=info_parts sM;obtain⟨W',f,c,e⟩:=oR (P:=prog) (z:=(0:Nat)) jt rfl underlying104 b d i2 1024 a.heap.size a (by rw[i3];omega) oM (lc _);exact⟨W',f,c,e⟩
theorem F6(v:Nat)(h:v<64):(2^v:Nat)<18446744073709551616:=lp (Nat.pow_lt_pow_right dC h) dC
theorem KQ(a:List Nat)(k:Nat)(h:k<a.length):kN (a.take (k+1))=kN (a.take k) ||| (1 <<< a[k]):=by
 unfold kN;rw[ly h,List.foldl_append];rfl
theorem xq(A:Option Addr)(c:Nat)(a:List Nat)(w:World)(r:Sl w 1 cT A c a)(m:∀x∈a,x<64)(H:a.length<=65536) :
 Calls prog 250 #[.slice A a.length c] w λe w'=>∃v,e=.returned v/\ei w' w.heap.size v (kN a)/\aa w w':=by
 have P:=lh r;have p:=lh m;generalize C:a.length=n at H;have y:=lh C;obtain⟨W',u,E,D⟩:=BP w;have d:=lh E;have f:=lh D;clear r m C E D;generalize F:w.heap.size=g at d u;have O:=lh F;clear F;go_enter func250,ntmps250;go_wp2;clear u;go_loopw [9] (λvi wr=>∃k:Nat,k<=n/\vi=.int .i64 k/\Hid (ei wr g (.slice (some ⟨g,0,none⟩) 1024 1024) (kN (a.take k)))/\Hid (aa w wr)) (λvi _=>n-(intOf vi).toNat)
 case atStart=>exact⟨0,lj _,rfl,d.o,f.o⟩
 case round =>
  clear d f;obtain⟨k,U,rfl,d,f⟩:=hrel
  by_cases L:k<n
  ·have i:k<a.length:=(by rw[y.o];exact L);obtain⟨b,T,K,m,M⟩:=gU (P.o.keep f.o) k i;subst K;have B:=p.o a[k] (ll _);have h:=lh (KQ a k i);have G:=Bq (a.take k) (λx hx=>p.o x (Lx hx));generalize kN (a.take k)=x at d h G;generalize a[k]=v at M B h;obtain⟨J,R,Q,q⟩:=d.o.cell1 jt (eT x).symm 0 (by rw[eT];decide);rw[tL,if_pos rfl]at J;have o:=d.o.set1 jt (eT x).symm 0 (x ||| (1 <<< v)) rfl;rw[EE]at o;have l:=lh o;have N:=lh q;have S:(v:Int)/64=0:=oM;have V:(v:Int)%64=(v:Int):=oM;have j:(1 <<< v:Nat)<18446744073709551616:=(by rw[Nat.one_shiftLeft];exact F6 v B);have I:IntKind.u64.wrap ((2:Int)^v)=((1 <<< v:Nat):Int):=by
    rw[Nat.one_shiftLeft]at j|-;rw[show((2:Int)^v)=((2^v:Nat):Int) from sP];generalize (2^v:Nat)=z at j|-;rw[IntKind.wrap_u64];omega
   have s:bits .or .u64 (x:Int) ((1 <<< v:Nat):Int)=((x ||| (1 <<< v):Nat):Int):=u64_or_nat _ _ G j;generalize (1 <<< v:Nat)=z at I s l h;generalize x ||| z=t at s l h
   clear o q j;go_wp2;go_roundw
   case rel=>exact⟨k+1,oM,by go_num,by show ei _ _ _ _;rw[h.o];exact l.o,f.o.setCell (by rw[O.o];exact N.o) _⟩
   case measure=>simp[intOf];omega
  ·have i:k=n:=oM;subst i;rw[<-y.o,lC]at d;go_wp2;exact bodyPost_ret (v:=.slice (some ⟨g,0,none⟩) 1024 1024) (by simp[results,results250,go_sem]) rfl ⟨_,rfl,d.o,f.o⟩
theorem Qm(y:Nat)(c:y<18446744073709551616)(f:Nat)(a:2^(64-f) ∣ y)(d:f<=64)(b:¬ y=0):0<f:=by
 rcases Nat.eq_zero_or_pos f with e|e
 ·subst e;exact absurd (O7 c a) b
 ·exact e
theorem E7(A:Option Addr)(c x:Nat)(w:World)(T:x<18446744073709551616)(r:jp w A c x)(H:Tab w) :
 Calls prog 252 #[.slice A 1024 c] w λe w'=>∃v,e=.returned v/\cJ w' w.heap.size v (dP fi 64 x)/\aa w w':=by
 obtain⟨b,ai,rfl,X⟩:=pT r;have a3:=lh r;have Q:=lh H;clear r H;go_enter func252,ntmps252;go_wp2;go_loopw [3,9] (λvl vi wr=>∃(k:Nat) (v:Value),k<=1024/\vi=.int .i64 k/\v=vl/\Hid (cJ wr w.heap.size v (if k=0 then [] else dP fi 64 x))/\Hid (aa w wr)) (λ_ vi _=>1024-(intOf vi).toNat)
 case atStart=>exact⟨0,.slice none 0 0,oM,rfl,rfl,ah.nil_ _ _ _ _ _,aa.refl _⟩
 case round =>
  obtain⟨k,v,ak,rfl,rfl,a,d⟩:=hrel
  by_cases U:k<1024
  ·have K:=pU (a3.o.keep d.o) k U;have a4:=lp X d.o.size;have al:decide ((k:Int)<1024)=true:=sO;have ad:(k:Int)<1024:=oM
   by_cases l:k=0
   ·rw[if_pos l]at K a;have ac:IntKind.i64.wrap (64*(k:Int))=0:=iW oM;have a7:64*(k:Int)=0:=oM;have s:¬ k+1=0:=Nat.succ_ne_zero _;clear l;go_wp2;go_loopw [3,5] (λvl vx wq=>∃(f y:Nat) (u:Value) (g:List Nat),f<=64/\y<18446744073709551616/\vx=.int .u64 y/\u=vl/\Hid (2^(64-f) ∣ y)/\Hid (g++dP fi f y=dP fi 64 x)/\g.length<=64-f/\Hid (cJ wq w.heap.size u g)/\Hid (aa w wq)) (λ_ vx _=>(intOf vx).toNat)
    case atStart=>exact⟨64,x,v,[],oM,T,rfl,rfl,(by show 2^(64-64) ∣ x;simp),rfl,sP,a.o,d.o⟩
    case round =>
     clear a d;obtain⟨f,y,u,g,a0,E,rfl,rfl,G,D,ab,a,d⟩:=hrel
     by_cases h:y=0
     ·subst h;have i:=lh (show g=dP fi 64 x by
          have:=D.o;rw[show dP fi f 0=[] by cases f<;>simp[dP],lT]at this;exact this)
      go_wp2;go_roundw
      case rel=>exact⟨k+1,u,oM,by go_num,rfl,(by show cJ _ _ _ _;rw[if_neg s,<-i.o];exact a.o),d.o⟩
      case measure=>simp[intOf];omega
     ·have a9:=Qm y E f G.o a0 h;obtain⟨j,O⟩:∃j,f=j+1:=⟨f-1,oM⟩;subst O;have o:=lh (show 2^(64-j) ∣ y &&& (y-1) by
          have:=MX h G.o;rw[show 64-(j+1)+1=64-j from oM]at this;exact this)
      have i:=lh (show(g++[fi y])++dP fi j (y &&& (y-1))=dP fi 64 x by
          have:=D.o;rw[show dP fi (j+1) y=fi y::dP fi j (y &&& (y-1)) by simp[dP,h]]at this;rw[<-this];simp)
      have C:=lh (λW (hW:aa w W)=>F5 y h W (Q.o.keep hW));have Y:=qW y;have L:y &&& (y-1)<=y-1:=Nat.and_le_right;have a5:((y:Int) != 0)=true:=sO;have a8:¬(y:Int)=0:=oM;obtain⟨z,J⟩:∃z,z=y-1:=⟨_,rfl⟩;have af:IntKind.u64.wrap ((y:Int)-1)=(z:Int):=(by rw[IntKind.wrap_u64];omega);have P:z<18446744073709551616:=oM;rw[<-J]at L o i;have a2:bits .and .u64 (y:Int) (z:Int)=((y &&& z:Nat):Int):=u64_and_nat y z E P;have a6:z<y:=oM;generalize y &&& z=t at a2 L o i;generalize fi y=n at C Y i;have ag:t<y:=oM;have aj:IntKind.u16.wrap (n:Int)=(n:Int):=(by simp[IntKind.wrap,IntKind.signed,IntKind.bits];omega);clear J h;go_wp2_with (go_at_call 266;refine ae ?_);refine uM (C.o _ d.o) ?_;rintro e V ⟨rfl,p⟩;have m:=d.u p;have M:=lh (a.o.keep p);clear p d a C;go_wp2_with (at_builtin;refine ae ?_);refine ar ?_;have B:cJ (V.alloc (.cells #[.int .u16 (n:Int)] 126)) w.heap.size u g:=M.o.keep (aa.alloc (aa.refl _) _);refine aD iy dB ig rfl (.tmp 22) (.tmp 29) rfl (ys:=[n]) B rfl rfl (br _ oM oM (λj q hq=>by match j,hq with|0,hq=>cases hq;simp[go_sem])) sO (by have:=m.o.size;simp;omega) ?_;intro R Z F I _;have S:=lh (show aa w Z from ah.kept B I (m.o.alloc _) (lc _));have a1:=lh F;clear F I B M m;go_wp2;go_roundw
      case rel=>exact⟨j,t,R,g++[n],oM,oM,rfl,rfl,o.o,i.o,sO,a1.o,S.o⟩
      case measure=>simp[intOf];omega
   ·rw[if_neg l]at K a;have s:¬ k+1=0:=Nat.succ_ne_zero _;clear l;go_wp2;refine wp_loop_rounds 1 ?_;rw[rounds_succ];go_wp2;go_roundw
    case rel=>exact⟨k+1,v,oM,by go_num,rfl,(by show cJ _ _ _ _;rw[if_neg s];exact a.o),d.o⟩
    case measure=>simp[intOf];omega
  ·have N:k=1024:=oM;subst N;rw[if_neg dC]at a;go_wp2;exact bodyPost_ret (v:=v) (by simp[results,results252,go_sem]) rfl ⟨_,rfl,a.o,d.o⟩
end Go.Proofs.YtpkocnpamcchcaaGreatDoor
