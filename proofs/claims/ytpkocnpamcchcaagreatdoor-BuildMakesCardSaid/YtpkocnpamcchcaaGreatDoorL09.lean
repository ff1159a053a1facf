/- Parts. -/
import Derived.Lib.AppendStr
import Derived.Deep.Cut
import Derived.Deep.CutRange
import Derived.Deep.RegionLaw
import Derived.Laws.MakeOwn
import Derived.Laws.OwnMore
import Derived.Laws.CopyOwn
import Derived.Test.YtpkocnpamcchcaaGreatDoorL07
set_option maxRecDepth 100000
set_option maxHeartbeats 40000000
set_option linter.all false
namespace Go.Proofs.YtpkocnpamcchcaaGreatDoor
open Go.RowKit Go.Zone Go.Shelf Tryz
structure fS(w:World)(b:Nat)(kind:Int)(A:Option Addr)(c:Nat)(xs:List ai):Prop where
 k:w.cell? ⟨b,0,none⟩=some (.int .u8 kind)
 l:w.cell? ⟨b,1,none⟩=some (.slice A xs.length c)
 sl:Sl w 3 ai.cells A c xs
theorem fS.keep{w e:World}{b:Nat}{f:Int}{A:Option Addr}{c:Nat}{xs:List ai}(a:fS w b f A c xs)(d:aa w e):fS e b f A c xs :=
 ⟨(Below.cell d (p:=⟨b,0,none⟩) (World.block_lt_of_cell? w _ a.k)).trans a.k,(Below.cell d (p:=⟨b,1,none⟩) (World.block_lt_of_cell? w _ a.l)).trans a.l,a.sl.keep d⟩
theorem fS.lt{w:World}{b:Nat}{d:Int}{A:Option Addr}{c:Nat}{xs:List ai}(a:fS w b d A c xs):b<w.heap.size:=World.block_lt_of_cell? w _ a.k
def qG(a:Int):Bool:=!(a==1||a==2)
def aQ(xs:List ai):List ai:=iD (sortV xs)
def fC(a:Int)(xs:List ai):Int:=if qG a then 2 else if xs.any cZ then 2 else if (aQ xs).any (λx=>x.k != a) then 9 else 0
def QO(base:Nat)(w:World)(v:Value)(d:Int)(ys:List ai)(a:Int):Prop:=(a≠0/\v=.pointer none)\/(a=0/\∃b A c,v=.pointer (some ⟨b,0,none⟩)/\fS w b d A c ys/\base<=b/\nZ base A ys.length)
theorem oq(xs:List ai):(sortV xs).length=xs.length:=List.length_mergeSort _
theorem jF(xs:List ai):(aQ xs).length<=xs.length:=by
 have:=DT (sortV xs) (sortV xs).length;rw[oq]at this;exact oq xs▸this
theorem KP(a:Int)(A:Option Addr)(c:Nat)(xs:List ai)(w:World)(r:Sl w 3 ai.cells A c xs)(a0:xs.length<=1000000) :
 Calls prog 70 #[.int .u8 a,.slice A xs.length c] w λe f=>∃v,e=.returned (.tuple #[v,.int .i64 (fC a xs)])/\QO w.heap.size f v a (aQ xs) (fC a xs)/\aa w f:=by
 have h:=λW=>NF a W;generalize E:aQ xs=ys;have a3:=lh E;clear E;generalize V:fC a xs=R;have o:=lh V;clear V
 cases hb:(a==1||a==2)
 ·have i:R=2:=by rw[<-o.o];unfold fC qG;rw[hb];rfl
  rw[hb]at h;have n:=lh h;clear h;subst i;go_enter func70,ntmps70;go_wp2_with (go_at_call 113;refine(n.o _).mono ?_;rintro e f ⟨rfl,rfl⟩);go_ret2;exact⟨_,rfl,.inl ⟨dC,rfl⟩,kP⟩
 ·rw[hb]at h;have n:=lh h;clear h;have b:=λW (hW:aa w W)=>DX A c xs 115 #[] cZ W (enters_of func115 kR rfl) (r.keep hW) (λW' x _=>KU x W')
  cases hm:xs.any cZ
  ·rw[hm]at b;have g:=lh b;clear b;have i:R=if (aQ xs).any (λx=>x.k != a) then 9 else 0:=by rw[<-o.o];unfold fC qG;rw[hb,hm];rfl
   have I:=lh i;clear i;have K:=lh r;clear r;go_enter func70,ntmps70;go_wp2_with (first|(go_at_call 113;refine(n.o _).mono ?_;rintro e f ⟨rfl,rfl⟩)|(go_at_call 114;refine(g.o _ kP).mono ?_;rintro e f ⟨rfl,d⟩;obtain⟨p,rfl⟩:=dt _ d;clear d)|(go_at_call 116;refine ae ?_));refine uM (clone_any A c xs _ (K.o.keep kP) oM) ?_;rintro e a8 ⟨z,t,rfl,J,T⟩;have H:=J.base_mono (base':=w.heap.size+1) (by simp[az]);have X:aa (w.alloc (.cells #[.int .u8 a] 5)) a8:=aa.trans (aa.gro (aa.refl _) p) T;have C:=lh H;have Q:=lh X;clear H X J T;go_wp2_with (go_at_call 117;refine ae ?_);refine uM (Hh z t xs _ _ C.o oM) ?_;rintro e a2 ⟨rfl,Y,U⟩;have N:=lh (C.o.after U Q.o sP).1;have q:=lh Y;clear Y U;rw[<-oq xs]at q;go_wp2_with (go_at_call 118;refine ae ?_);refine ar ?_;have u:=PC z t (sortV xs) _ _ q.o (by rw[oq];omega);rw[oq]at u;refine u.mono ?_;clear u;rintro e j ⟨L,F,rfl,y,M⟩;have O:a2.grownBy j (Value.slice z (sortV xs).length t).ownBlock:=(by rw[oq];exact M);have s:=lh (q.o.after O N.o sP).1;have a7:(iD (sortV xs)).length<=1000000:=lk (jF xs) a0;obtain⟨a9,ab,D,P⟩:=y.sl di oM;injection D with D _ hv5;subst D;subst hv5
   have a1:j.cell? ⟨w.heap.size,0,none⟩=some (.int .u8 a):=(by rw[s.o.cell (p:=⟨w.heap.size,0,none⟩) sP];simp[go_sem]);have a6:w.heap.size<j.heap.size:=(by have:=s.o.size;simp at this;omega);have B:=lh P;have Z:=lh (wu (base:=w.heap.size) (m:=ys.length) y oM);clear P y M O C q Q N g n K;have b:=λW (hW:aa j W)=>DX L F (iD (sortV xs)) 119 #[.pointer (some ⟨w.heap.size,0,none⟩)] (λx=>x.k != a) W (enters_of func119 kR rfl) (B.o.keep hW) (λW' x hW'=>KT x a w.heap.size W' (by
    rw[(hW.trans hW').cell (p:=⟨w.heap.size,0,none⟩) a6];exact a1) (by have:=(hW.trans hW').size;omega))
   have S:Hid (aa w j):=aa.trans (aa.alloc (aa.refl w) _) s.o;have l:Hid (R=if (iD (sortV xs)).any (λx=>x.k != a) then 9 else 0):=I.o;clear I o s;have G:iD (sortV xs)=ys:=a3.o;rw[G]at a7 B l b|-;clear G
   cases hq:ys.any (λx=>x.k != a)
   ·rw[hq]at b l;have g:=lh b;clear b;go_wp2_with (go_at_call 114;refine(g.o _ (aa.refl _)).mono ?_;rintro e f ⟨rfl,d⟩;obtain⟨p2,rfl⟩:=dt _ d;clear d);go_ret2;have a5:R=0:=l.o;subst a5;refine⟨_,rfl,.inr ⟨rfl,_,L,F,rfl,⟨?_,?_,(B.o.keep (ce _ _)).keep (aa.alloc (aa.refl _) _)⟩,oM,Z.o⟩,(S.o.gro _).alloc _⟩
    ·simp[go_sem]
    ·simp[go_sem]
   ·rw[hq]at b l;have g:=lh b;clear b;go_wp2_with (go_at_call 114;refine(g.o _ (aa.refl _)).mono ?_;rintro e f ⟨rfl,d⟩;obtain⟨p2,rfl⟩:=dt _ d;clear d);go_ret2;have a4:R=9:=l.o;subst a4;exact⟨_,rfl,.inl ⟨dC,rfl⟩,S.o.gro _⟩
  ·rw[hm]at b;have g:=lh b;clear b;have i:R=2:=(by rw[<-o.o];unfold fC qG;rw[hb,hm];rfl);subst i;clear r;go_enter func70,ntmps70;go_wp2_with (first|(go_at_call 113;refine(n.o _).mono ?_;rintro e f ⟨rfl,rfl⟩)|(go_at_call 114;refine(g.o _ kP).mono ?_;rintro e f ⟨rfl,d⟩;obtain⟨p,rfl⟩:=dt _ d;clear d));go_ret2;exact⟨_,rfl,.inl ⟨dC,rfl⟩,kP⟩
def b8(b:UInt8):List Value:=[.int .u8 (b.toNat:Int)]
theorem pd:(prog.info? 5).map (λi=>(i.zero,i.size,i.bytes))=some (some (.int .u8 0),1,1):=kR
theorem bQ:dX prog 31 5 1 1:=by
 obtain⟨i,hi,c,a,b⟩:=info_parts pd;exact⟨i,_,underlying31,hi,c,a,b,rfl,dC,dC⟩
theorem aO(x:UInt8):(b8 x).length=1:=rfl
theorem bT(x:UInt8):∀u∈b8 x,u.oneCell'=true:=by simp[b8,Value.oneCell']
theorem ed(x:UInt8){w:World}{g:Nat}(a:w.cell? ⟨g,0,none⟩=some (.int .u8 (x.toNat:Int))):∀j u,(b8 x)[j]? =some u->w.cell? ⟨g,j,none⟩=some u
 | 0,u,hu=>by cases hu;exact a
abbrev aE(w:World)(base:Nat)(v:Value)(bs:List UInt8):Prop:=ah w base 5 1 b8 v bs
abbrev Rb(f:FuncId)(a:Array Value)(w:World)(x:List UInt8):Prop:=Calls prog f a w λe w'=>∃v,e=.returned v/\aE w' w.heap.size v x/\aa w w'
abbrev cH(w:World)(A:Option Addr)(c:Nat)(bs:List UInt8):Prop:=Sl w 1 b8 A c bs
theorem wJ(A:Option Addr)(c:Nat)(xs:List UInt8)(w:World)(a:cH w A c xs) :
 Calls prog 109 #[.slice A xs.length c] w λe w'=>∃d b,e=.returned (.slice d xs.length b)/\aE w' w.heap.size (.slice d xs.length b) xs/\aa w w':=by
 have h:=λW:World=>Lib.run_eql_slice_nil W 31 5 A xs.length c 0 0 underlying31;have n:=a.len
 cases A with
 | none =>
   have j:xs=[]:=by
    rcases xs with _ | ⟨y,r⟩
    ·rfl
    ·obtain⟨_,_,l,_⟩:=a.at_ 0 sP
     cases l
   subst j;simp only[lB,Option.isNone_none]at h|-;go_enter func109,ntmps109;go_wp2;go_ret;exact⟨none,0,rfl,ah.nil_ _ _ _ _ _,aa.refl _⟩
 | some ad =>
   have m:=lh a;clear a;go_enter func109,ntmps109;go_wp2_with (at_builtin;refine ae ?_);refine ar ?_;have i:aE (w.alloc (.cells #[] 5)) w.heap.size (.slice (some ⟨w.heap.size,0,none⟩) 0 0) ([]:List UInt8):=World.ownsRow_made w #[] 0 (lc _) (by unfold maxLen;omega) rfl;refine aD bQ aO bT rfl (.tmp 5) (.tmp 6) rfl (ys:=xs) i rfl rfl (m.o.keep kP) sO sP ?_;intro o p f k _;have ⟨a1,a2,a3⟩:=i.after (w:=w) k kP (lc _);clear h a2 a3;go_wp2;go_ret;simp only[lO]at f;obtain⟨d,b,g⟩:=bp f;exact⟨d,b,by rw[<-g];rfl,by rw[<-g];exact f,a1⟩
def le(n:Nat):Nat->List UInt8
 | 0=>[]
 | k+1=>le n k++[UInt8.ofNat (n/256^k)]
theorem ay(n:Nat):∀k,(le n k).length=k
 | 0=>rfl
 | k+1=>by simp[le,ay n k]
theorem dH(n:Nat):((UInt8.ofNat n).toNat:Int)=(n:Int)%256:=by
 simp[UInt8.toNat_ofNat]
theorem wC(A:Option Addr)(c:Nat)(xs:List UInt8)(n a:Nat)(u:n<18446744073709551616)(I:a<=8)(w:World)(h:cH w A c xs)(z:xs.length<=140000000000000) :
 Rb 65 #[.slice A xs.length c,.int .u64 n,.int .i64 a] w (xs++le n a):=by
 have q:=lh (wJ A c xs w h);clear h;go_enter func65,ntmps65;go_wp2_with (go_at_call 109;refine ae ?_);refine uM q.o ?_;rintro e K ⟨E,C,rfl,l,o⟩;have t:=lh l;have j:=lh o;clear l o q;go_wp2;go_loopw [10,0,1] (λvi vb vn wr=>∃(k m:Nat) (b:Value),k<=a/\m<18446744073709551616/\vi=.int .i64 k/\b=vb/\Hid (aE wr w.heap.size b (xs++le n k))/\vn=.int .u64 m/\Hid (m=n/256^k)/\Hid (aa w wr)/\w.heap.size<=wr.heap.size) (λvi _ _ _=>a-(intOf vi).toNat)
 case atStart=>exact⟨0,n,_,oM,u,rfl,rfl,(by show aE _ _ _ _;simp only[le,lT];exact t.o),rfl,(by show _=_;simp),j.o,j.o.size⟩
 case round =>
  obtain⟨k,m,b,G,J,rfl,rfl,g,rfl,i,f,H⟩:=hrel
  by_cases F:k<a
  ·go_wp2_with (at_builtin;refine ae ?_);refine ar ?_;have d:aE (wr.alloc (.cells #[.int .u8 ((m:Int)%256)] 5)) w.heap.size b (xs++le n k):=g.o.keep (aa.alloc (aa.refl _) _);refine aD bQ aO bT rfl (.tmp 12) (.tmp 15) rfl (ys:=[UInt8.ofNat m]) d rfl rfl (br _ oM oM (ed _ (by rw[dH];simp[go_sem]))) (by simp[ay];omega) sO ?_;intro B D r p _;have ⟨a1,a2,a3⟩:=d.after p (f.o.trans kP) (lc _);have y:=lh r;have x:=lh a1;clear r p d a3;have v:m/256<18446744073709551616:=oM;go_wp2;go_roundw
   case rel=>exact⟨k+1,m/256,_,oM,v,by go_num,rfl,(by show aE _ _ _ _;have:=y.o;rw[i.o,lr]at this;exact this),by go_num,(by show _=_;rw[i.o,Nat.div_div_eq_div_mul,Nat.pow_succ]),x.o,by simp at a2;omega⟩
   case measure=>simp[intOf];omega
  ·have s:k=a:=oM;subst s;go_wp2;go_ret;exact⟨_,rfl,g.o,f.o⟩
theorem iQ(A:Option Addr)(c:Nat)(xs:List UInt8)(n:Nat)(i:n<4294967296)(w:World)(a:cH w A c xs)(b:xs.length<=140000000000000) :
 Rb 31 #[.slice A xs.length c,.int .u32 n] w (xs++le n 4):=by
 have g:=lh (wC A c xs n 4 oM oM w a b);clear a;go_enter func31,ntmps31;go_wp2_with (go_at_call 65;refine ae ?_);refine uM g.o ?_;rintro e h ⟨v,rfl,f,d⟩;go_wp2;go_ret;exact⟨v,rfl,f,d⟩
theorem Qx(A:Option Addr)(c:Nat)(xs:List UInt8)(n:Nat)(h:n<18446744073709551616)(w:World)(a:cH w A c xs)(b:xs.length<=140000000000000) :
 Rb 164 #[.slice A xs.length c,.int .u64 n] w (xs++le n 8):=by
 have g:=lh (wC A c xs n 8 h oM w a b);clear a;go_enter func164,ntmps164;go_wp2_with (go_at_call 65;refine ae ?_);refine uM g.o ?_;rintro e i ⟨v,rfl,f,d⟩;go_wp2;go_ret;exact⟨v,rfl,f,d⟩
def vu:Nat->Nat->List UInt8
 | 0,n=>[UInt8.ofNat n]
 | f+1,n=>if 127<n then UInt8.ofNat (n%128+128)::vu f (n/128) else [UInt8.ofNat n]
theorem qS:∀f n,(vu f n).length<=f+1
 | 0,_=>by simp[vu]
 | f+1,n=>by
   have:=qS f (n/128);simp only[vu]
   split<;>simp<;>omega
theorem u8_or(n:Nat):bits .or .u8 ((n:Int)%256) 128=((UInt8.ofNat (n%128+128)).toNat:Int):=by
 rw[dH];have h:∀k:Fin 256,bits .or .u8 ((k.val:Nat):Int) 128=((k.val%128+128:Nat):Int)%256:=by decide +kernel
 have:=h ⟨n%256,Nat.mod_lt _ dC⟩;simp only at this;rw[show((n:Int)%256)=((n%256:Nat):Int) from oM,this];omega
theorem Qw(A:Option Addr)(c:Nat)(xs:List UInt8)(n:Nat)(C:n<18446744073709551616)(w:World)(r:cH w A c xs)(F:xs.length<=140000000000000) :
 Rb 165 #[.slice A xs.length c,.int .u64 n] w (xs++vu 9 n):=by
 have x:=lh (wJ A c xs w r);clear r;go_enter func165,ntmps165;go_wp2_with (go_at_call 109;refine ae ?_);refine uM x.o ?_;rintro e L ⟨H,G,rfl,u,v⟩;have B:=lh u;have t:=lh v;clear u v x;go_wp2;go_loopw [0,1] (λvb vn wr=>∃(f m:Nat) (d:Value) (p:List UInt8),m<18446744073709551616/\d=vb/\vn=.int .u64 m/\Hid (aE wr w.heap.size d (xs++p))/\Hid (p++vu f m=vu 9 n)/\p.length+f=9/\Hid (m<128^(f+1))/\Hid (aa w wr)/\w.heap.size<=wr.heap.size) (λ_ vn _=>(intOf vn).toNat)
 case atStart=>exact⟨9,n,_,[],C,rfl,rfl,(by show aE _ _ _ _;simp only[lT];exact B.o),rfl,rfl,(by show _<_;omega),t.o,t.o.size⟩
 case round =>
  obtain⟨f,m,d,p,J,rfl,rfl,o,q,K,s,l,I⟩:=hrel
  by_cases M:127<(m:Int)
  ·obtain⟨b,rfl⟩:∃b,f=b+1:=⟨f-1,by
    rcases f with _|f
    ·have:=s.o;omega
    ·rfl⟩
   have i:Hid ((p++[UInt8.ofNat (m%128+128)])++vu b (m/128)=vu 9 n):=by
    show _=_;rw[<-q.o,vu,if_pos oM,lr];rfl
   have E:Hid (m/128<128^(b+1)):=by
    show _<_;have:=s.o;rw[Nat.pow_succ]at this;exact Nat.div_lt_of_lt_mul (by rw[Nat.mul_comm];exact this)
   go_wp2_with (at_builtin;refine ae ?_);refine ar ?_;have a:aE (wr.alloc (.cells #[.int .u8 (bits .or .u8 ((m:Int)%256) 128)] 5)) w.heap.size d (xs++p):=o.o.keep (aa.alloc (aa.refl _) _);refine aD bQ aO bT rfl (.tmp 11) (.tmp 15) rfl (ys:=[UInt8.ofNat (m%128+128)]) a rfl rfl (br _ oM oM (ed _ (by rw[<-u8_or];simp[go_sem]))) sO sO ?_;intro y z h g _;have ⟨a1,a2,a3⟩:=a.after g (l.o.trans kP) (lc _);have k:=lh h;have j:=lh a1;clear h g a a3;have D:m/128<18446744073709551616:=oM;go_wp2;go_roundw
   case rel=>exact⟨b,m/128,_,_,D,rfl,by go_num,(by show aE _ _ _ _;have:=k.o;rw[lr]at this;exact this),i,sO,E,j.o,by simp at a2;omega⟩
   case measure=>simp[intOf];omega
  ·have i:Hid (p++[UInt8.ofNat m]=vu 9 n):=by
    show _=_;rw[<-q.o]
    cases f
    ·rfl
    ·rw[vu,if_neg oM]
   go_wp2_with (at_builtin;refine ae ?_);refine ar ?_;have a:aE (wr.alloc (.cells #[.int .u8 (m:Int)] 5)) w.heap.size d (xs++p):=o.o.keep (aa.alloc (aa.refl _) _);refine aD bQ aO bT rfl (.tmp 17) (.tmp 20) rfl (ys:=[UInt8.ofNat m]) a rfl rfl (br _ oM oM (ed _ (by rw[dH,show(m:Int)%256=m from oM];simp[go_sem]))) sO sO ?_;intro y z h g _;have ⟨a1,a2,a3⟩:=a.after g (l.o.trans kP) (lc _);have k:=lh h;have j:=lh a1;clear h g a a3;go_wp2;go_ret;exact⟨_,rfl,(by have:=k.o;rw[lr,i.o]at this;exact this),j.o⟩
def fz(w:Nat):List Nat->Nat
 | []=>0
 | x::r=>x+2^w*fz w r
def fl(l:List Nat)(w:Nat):List UInt8:=le (fz w l) ((l.length*w+7)/8)
theorem vt{w:Nat}:∀(l:List Nat),(∀x∈l,x<2^w)->fz w l<2^(l.length*w)
 | [],_=>by simp[fz]
 | x::r,h=>by
   have c:=vt r λy hy=>h y (by simp[hy]);have d:=h x sP;have b:2^((x::r).length*w)=2^w*2^(r.length*w):=(by rw[<-Nat.pow_add];congr 1;simp[lH,Nat.add_comm]);rw[b];simp only[fz];have a:2^w*(fz w r+1)<=2^w*2^(r.length*w):=Nat.mul_le_mul_left _ c;rw[Nat.mul_add]at a;omega
theorem Bw{w:Nat}:∀(l:List Nat) (i:Nat) (a:i<l.length),(∀x∈l,x<2^w)->fz w l/2^(i*w)%2^w=l[i]
 | x::r,0,_,a=>by
   have:=a x sP;simp only[fz,Lf,Nat.pow_zero,Nat.div_one,Nat.add_mul_mod_self_left,Ld];exact Nat.mod_eq_of_lt this
 | x::r,i+1,hi,a=>by
   have c:=a x sP;have d:=Bw r i (by simpa using hi) λy hy=>a y (by simp[hy]);have b:(i+1)*w=w+i*w:=(by rw[lH,Nat.one_mul,Nat.add_comm]);rw[b,Nat.pow_add,<-Nat.div_div_eq_div_mul];simp only[fz,List.getElem_cons_succ];rw[Nat.add_mul_div_left _ _ (Nat.two_pow_pos w),Nat.div_eq_of_lt c,lS];exact d
theorem By{w:Nat}(l:List Nat)(i k:Nat)(a:i<l.length)(b:∀x∈l,x<2^w)(d:k<w):fz w l/2^(i*w+k)%2=l[i]/2^k%2:=by
 rw[<-Bw l i a b,Nat.pow_add,<-Nat.div_div_eq_div_mul];generalize fz w l/2^(i*w)=y;have c:2^w=2^k*(2*2^(w-k-1)):=by
  rw[<-Nat.pow_succ',<-Nat.pow_add]
  congr 1
  omega
 rw[c,Nat.mod_mul_right_div_self,Nat.mod_mul_right_mod]
theorem nJ:∀(n k j:Nat) (a:j<(le n k).length),(le n k)[j]=UInt8.ofNat (n/256^j%256)
 | n,0,j,a=>absurd a (lI _)
 | n,k+1,j,a=>by
   have b:(le n k).length=k:=ay n k;have c:j<k+1:=(by rwa [ay]at a);have e:(le n (k+1))[j]=(le n k++[UInt8.ofNat (n/256^k)])[j]'(by rw[lg,b];simpa using c):=rfl;rw[e]
   rcases L8 j k with d|d
   ·rw[List.getElem_append_left oM];exact nJ n k j oM
   ·have:j=k:=oM;subst this;rw[List.getElem_append_right oM];simp only[b,Nat.sub_self,Ld];apply UInt8.toNat_inj.1;simp
theorem se(j:Nat):256^j=2^(8*j):=by rw[show 256=2^8 from rfl,<-Nat.pow_mul]
theorem Ek(N q:Nat):N%2^(q+1)=N%2^q+N/2^q%2*2^q:=by
 rw[Nat.pow_succ,Nat.mod_mul,Nat.mul_comm (2^q)]
theorem Eb{b a j:Nat}(f:b<2^a)(d:8*j<=a)(g:a<8*j+8):b/256^j%256=b/256^j/\b/256^j<2^(a-8*j):=by
 rw[se];have c:b/2^(8*j)<2^(a-8*j):=by
  rw[Nat.div_lt_iff_lt_mul (Nat.two_pow_pos _),<-Nat.pow_add]
  rwa [show a-8*j+8*j=a from oM]
 have e:2^(a-8*j)<=2^7:=Nat.pow_le_pow_right dC oM;exact⟨Nat.mod_eq_of_lt oM,c⟩
theorem or_bit{a b t:Nat}(c:a<2^t):a ||| b*2^t=a+b*2^t:=by
 rw[Nat.or_comm,<-Nat.shiftLeft_eq,<-Nat.shiftLeft_add_eq_or_of_lt c,Nat.add_comm]
theorem P7(N a:Nat):N%2^(a+1)/256^(a/8)%256=(N%2^a/256^(a/8)%256) ||| (N/2^a%2*2^(a%8)):=by
 have h:N%2^a<2^a:=Nat.mod_lt _ (Nat.two_pow_pos _);obtain⟨i,c⟩:=Eb (j:=a/8) h oM oM;have e:a-8*(a/8)=a%8:=oM;rw[e]at c;rw[i,or_bit c,Ek];have f:2^a=256^(a/8)*2^(a%8):=by rw[se,<-Nat.pow_add];congr 1;omega
 have d:N/2^a%2*2^a=256^(a/8)*(N/2^a%2*2^(a%8)):=by
  rw[f];generalize N/(256^(a/8)*2^(a%8))%2=b;rw[Nat.mul_left_comm]
 rw[d,Nat.add_mul_div_left _ _ (Nat.pow_pos dC)];apply Nat.mod_eq_of_lt;have g:N/2^a%2<=1:=oM;have k:2^(a%8)<=2^7:=Nat.pow_le_pow_right dC oM;have l:N/2^a%2*2^(a%8)<=1*2^(a%8):=L7 _ g;omega
theorem P8(N a j:Nat)(f:j≠a/8):N%2^(a+1)/256^j%256=N%2^a/256^j%256:=by
 rw[se]
 rcases L8 j (a/8) with c|c
 ·have e:∀q',8*j+8<=q'->N%2^q'/2^(8*j)%256=N/2^(8*j)%256:=λq' b=>by
   obtain⟨d,rfl⟩:∃d,q'=8*j+(8+d):=⟨q'-8*j-8,oM⟩;rw[Nat.pow_add,Nat.mod_mul_right_div_self,Nat.pow_add,show(2:Nat)^8=256 from rfl,Nat.mod_mul_right_mod]
  rw[e (a+1) oM,e a oM]
 ·have b:a+1<=8*j:=oM;have e:∀q',q'<=8*j->N%2^q'/2^(8*j)=0:=λq' hq' =>
   Nat.div_eq_of_lt (lp (Nat.mod_lt _ (Nat.two_pow_pos _)) (Nat.pow_le_pow_right dC hq'))
  rw[e (a+1) b,e a oM]
theorem B9(N a n:Nat)(b:a/8<n):le (N%2^(a+1)) n=(le (N%2^a) n).set (a/8) (UInt8.ofNat ((N%2^a/256^(a/8)%256) ||| (N/2^a%2*2^(a%8)))):=by
 apply List.ext_getElem
 ·simp[ay]
 ·intro j d c;rw[List.getElem_set,nJ]
  split
  ·rename_i e;subst e;rw[P7]
  ·rename_i e;rw[nJ,P8 _ _ _ (λx=>e x.symm)]
end Go.Proofs.YtpkocnpamcchcaaGreatDoor
namespace Go.Zone
open Go.RowKit
def ak(w:World)(g:Nat)(T:TypeId)(vs:List Value):Prop:=w.heap[g]? =some (.cells vs.toArray T (0,0))
section
variable {w w':World} {g:Nat} {T:TypeId} {vs:List Value}
theorem ak.lt(h:ak w g T vs):g<w.heap.size:=(La.1 h).1
theorem ak.cell(a:ak w g T vs)(j:Nat)(u:Value)(b:vs[j]? =some u):w.cell? ⟨g,j,none⟩=some u:=by
 unfold ak at a;simp[World.cell?,a,b]
theorem ak.soft(h:ak w g T vs)(j:Nat):w.frozen? ⟨g,j,none⟩=false:=by
 unfold ak at h;simp[World.frozen?,h]
theorem ak.set(h:ak w g T vs)(j:Nat)(u:Value):ak (w.setCell ⟨g,j,none⟩ u) g T (vs.set j u):=by
 unfold ak at h|-;simp only[World.setCell,Array.getElem?_modify,h,if_true,Option.map_some,Option.isSome_none,lY,if_false];simp
theorem ak.other(a:ak w g T vs){b:Nat}(j:Nat)(u:Value)(c:b≠g):ak (w.setCell ⟨b,j,none⟩ u) g T vs:=by
 unfold ak at a|-;simp only[World.setCell,Array.getElem?_modify,if_neg c,a]
theorem bH(w:World)(T:TypeId)(vs:List Value):ak (w.alloc (.cells vs.toArray T)) w.heap.size T vs:=by
 unfold ak World.alloc;simp
theorem ak.keep(a:ak w g T vs)(b:aa w w'):ak w' g T vs:=(b.block g a.lt).trans a
end
theorem row_ne{w:World}{a b:Nat}{T d:TypeId}{vs us:List Value}(c:ak w a T vs)(k:ak w b d us)(f:T≠d):a≠b:=λe=>by
 subst e;unfold ak at c k;rw[c]at k;simp at k;exact f k.2
def wR(w:World):List Obj->World
 | []=>w
 | o::r=>wR (w.alloc o) r
theorem Eu:∀(l:List Obj) (w:World),aa w (wR w l)
 | [],w=>aa.refl w
 | o::r,w=>((aa.refl w).alloc o).trans (Eu r (w.alloc o))
theorem ef:∀(l:List Obj) (w:World) (i:Nat) (a:Obj),l[i]? =some a->(wR w l).heap[w.heap.size+i]? =some a
 | [],_,_,_,h=>by cases h
 | x::r,w,0,a,h=>by
   simp only[List.getElem?_cons_zero,lQ]at h;subst h;have b:(w.alloc x).heap[w.heap.size]? =some x:=(by unfold World.alloc;simp);exact((Eu r (w.alloc x)).block w.heap.size sP).trans b
 | x::r,w,i+1,a,h=>by
   have:=ef r (w.alloc x) i a (by simpa using h);rw[World.size_alloc]at this;rw[show w.heap.size+(i+1)=w.heap.size+1+i from oM];exact this
structure ag(w w':World)(S:List Nat):Prop where
 os:w'.os=w.os
 tape:w'.tape=w.tape
 output:w'.output=w.output
 size:w.heap.size<=w'.heap.size
 block:∀i,i<w.heap.size->i∉S->w'.heap[i]? =w.heap[i]?
section
variable {w w1 w2 w3:World} {S S':List Nat} {g:Nat} {T:TypeId} {vs:List Value}
theorem ag.refl(w:World)(S:List Nat):ag w w S:=⟨rfl,rfl,rfl,lc _,λ_ _ _=>rfl⟩
theorem ag.keep(h:aa w1 w2)(S:List Nat):ag w1 w2 S:=⟨h.os,h.tape,h.output,h.size,λi hi _=>h.block i hi⟩
theorem ag.trans(h:ag w1 w2 S)(k:ag w2 w3 S):ag w1 w3 S :=
 ⟨k.os.trans h.os,k.tape.trans h.tape,k.output.trans h.output,lk h.size k.size,λi hi hs=>(k.block i (lp hi h.size) hs).trans (h.block i hi hs)⟩
theorem ag.mono(a:ag w1 w2 S)(c:∀i,i∈S->i∈S'\/w1.heap.size<=i):ag w1 w2 S' :=
 ⟨a.os,a.tape,a.output,a.size,λi hi hn=>a.block i hi λhm=>by rcases c i hm with b|b;exact hn b;omega⟩
theorem ag.trans_up(a:ag w1 w2 S)(k:ag w2 w3 S')(b:∀i∈S',w1.heap.size<=i):ag w1 w3 S :=
 ⟨k.os.trans a.os,k.tape.trans a.tape,k.output.trans a.output,lk a.size k.size,λi hi hn=>(k.block i (lp hi a.size) (λhm=>by have:=b i hm;omega)).trans (a.block i hi hn)⟩
theorem ag.row(a:ag w1 w2 S)(r:ak w1 g T vs)(b:g∉S):ak w2 g T vs:=(a.block g r.lt b).trans r
theorem ag.set(w:World)(a:Addr)(u:Value):ag w (w.setCell a u) [a.block] :=
 ⟨rfl,rfl,rfl,sP,λi _ hi=>by simp only[World.setCell,Array.getElem?_modify];rw[if_neg (λe=>hi (by simp[e]))]⟩
theorem ag.after(a:aa w w1)(k:ag w1 w2 S)(b:∀i∈S,w.heap.size<=i):aa w w2 :=
 ⟨k.os.trans a.os,k.tape.trans a.tape,k.output.trans a.output,lk a.size k.size,λi hi=>(k.block i (lp hi a.size) (λhm=>by have:=b i hm;omega)).trans (a.block i hi)⟩
end
theorem ah.turn{b:Type}{w w':World}{base k:Nat}{e:TypeId}{enc:b->List Value}{v:Value}{xs:List b}{S:List Nat}(a:ah w base e k enc v xs)(f:ag w w' S)(d:∀i∈S,v.ownBlock≠some i):ah w' base e k enc v xs:=by
 refine⟨a.1,?_⟩
 rcases a.2 with h | ⟨g,m,j,rfl,l,c,rest⟩
 ·exact .inl h
 ·exact .inr ⟨g,m,j,rfl,l,(f.block g (La.1 c).1 (λhm=>d g hm rfl)).trans c,rest⟩
theorem bu{d:Type}{w:World}{base k b:Nat}{e T:TypeId}{enc:d->List Value}{v:Value}{xs:List d}{vs:List Value}(h:ah w base e k enc v xs)(c:ak w b T vs)(i:T≠e):v.ownBlock≠some b:=by
 intro f
 rcases h.2 with⟨rfl,_⟩ | ⟨g,m,l,rfl,_,a,_⟩
 ·cases f
 ·have j:g=b:=by simpa[Value.ownBlock]using f
  subst j;unfold ak at c;rw[c]at a;simp at a;exact i a.2
theorem qu(d:Nat){P:Program}{ops:Array Oper}{Q:Exit->Act->World->Prop}{rest:List Oper}{a:Act}{w:World}{b:Op}{ty:TypeId}{f:String}{c:Array Edge}{e:Option (Nat×Bool)}(h:Hid (wpList P ops Q (⟨some d,b,ty,f,c,e⟩::rest) a w)):wpList P ops Q (⟨some d,b,ty,f,c,e⟩::rest) a w:=h
theorem ak.sl_blk{a:Type}{w:World}{g k:Nat}{T:TypeId}{enc:a->List Value}{xs:List a}(f:∀x,(enc x).length=k)(b:ak w g T (xs.flatMap enc))(e:xs.length<=140737488355328){c:Nat}(h:xs.length<=c)(d:c<=9223372036854775807):Sl w k enc (some ⟨g,0,none⟩) c xs :=
 ⟨h,d,e,λi hi=>⟨g,0,rfl,λj u hu=>by
  have:=flat_get f xs i j hi u hu
  simpa using b.cell _ u this⟩⟩
end Go.Zone
namespace Go.Proofs.YtpkocnpamcchcaaGreatDoor
open Go.RowKit Go.Zone Go.Shelf Tryz
section
variable {b:Nat} {kind:Int} {A:Option Addr} {c:Nat} {xs:List ai}
theorem su(w:World)(a:fS w b kind A c xs):Rs 120 #[.pointer (some ⟨b,0,none⟩)] w (.bool (kind==0)):=by
 have d:=a.k;clear a;go_enter func120,ntmps120;go_wp2;go_ret;exact⟨rfl,rfl⟩
theorem M5(w:World)(f:fS w b kind A c xs):Rs 73 #[.pointer (some ⟨b,0,none⟩)] w (.int .i64 (if kind=0 then 0 else xs.length)):=by
 have i:=f.l;have d:=su w f;clear f
 by_cases a:kind=0
 ·rw[if_pos a];rw[show(kind==0)=true by simp[a]]at d;have g:=lh d;clear d a;go_enter func73,ntmps73;go_wp2_with (go_at_call 120;refine(g.o).mono ?_;rintro e h ⟨rfl,rfl⟩);go_ret;exact⟨rfl,rfl⟩
 ·rw[if_neg a];rw[show(kind==0)=false by simp[a]]at d;have g:=lh d;clear d a;go_enter func73,ntmps73;go_wp2_with (go_at_call 120;refine(g.o).mono ?_;rintro e h ⟨rfl,rfl⟩);go_ret;exact⟨rfl,rfl⟩
def ej:ai:=⟨0,0,⟨#[]⟩⟩
theorem LR(e:xs.Pairwise cz)(v:ai):∀i j,(hi:i<xs.length)->(a:j<xs.length)->i<=j->dA xs[j] v<0->dA xs[i] v<0:=λi j hi a hij h=>by
 rw[jG]at *
 rcases L8 i j with d|d
 ·exact(List.pairwise_iff_getElem.1 e i j hi a d).trans h
 ·have:i=j:=oM;subst this;exact h
def nM(kind:Int)(xs:List ai)(v:ai):Int×Bool:=if kind=0 then (0,false) else if jm xs v then (dE xs v,true) else (0,false)
theorem zH{a f:Int}{x e:Bool}(d:(a,x)=(f,e)):Ending.returned (.tuple #[.int .i64 a,.bool x])=.returned (.tuple #[.int .i64 f,.bool e]):=by
 simp only[Prod.mk.injEq]at d;obtain⟨rfl,rfl⟩:=d;rfl
theorem OX(v:ai)(w:World)(a:fS w b kind A c xs)(m:xs.Pairwise cz):Rt 72 #[.pointer (some ⟨b,0,none⟩),v.v] w (.tuple #[.int .i64 (nM kind xs v).1,.bool (nM kind xs v).2]):=by
 have g:=λW (hW:aa w W)=>Io A c xs v W (a.sl.keep hW) (LR m v);generalize i:nM kind xs v=R;have t:=a.l;have u:=a.lt
 by_cases h:kind=0
 ·have f:R=(0,false):=by rw[<-i];simp[nM,h]
  have d:=lh f;subst h;have j:=lh (λW (hW:aa w W)=>su W (a.keep hW));obtain⟨k,n,o⟩:=v;clear a f i t g;go_enter func72,ntmps72;go_wp2_with (go_at_call 120;refine(j.o _ kP).mono ?_;rintro e q ⟨rfl,rfl⟩);go_ret2;exact⟨zH d.o.symm,kP⟩
 ·have f:R=if jm xs v then ((dE xs v:Int),true) else (0,false):=by rw[<-i];simp[nM,h]
  have d:=lh f;have j:=lh (λW (hW:aa w W)=>by have:=su W (a.keep hW);rw[show(kind==0)=false by simp[h]]at this;exact this);generalize jm xs v=s at g d;generalize dE xs v=l at g d;obtain⟨k,n,o⟩:=v;have r:=lh g;clear a f i g
  cases s
  all_goals
   go_enter func72,ntmps72;go_wp2_with (go_at_call 120;refine(j.o _ kP).mono ?_;rintro e q ⟨rfl,rfl⟩);refine zR kR ?_
   repeat
    refine aR (λK hK=>?_);go_simp
    first
    | (refine hK _ _ ?_;clear hK K)
    | (apply Exists.intro
       refine⟨λp=>?_,hK _ _ ?_⟩
       ((go_at_call 121;exact Zone.zc (r.o _ kP)))
       clear hK K)
   refine bG ?_;intro p;simp only[aj];go_wp2;go_ret2;exact⟨zH d.o.symm,kP⟩
end
open Go.Roa Go.Sym
def u64(n:Int):Nat:=(n%18446744073709551616).toNat
theorem gP(n:Int):u64 n<18446744073709551616:=by unfold u64;omega
theorem eO(n:Int):IntKind.u64.wrap n=((u64 n:Nat):Int):=by unfold u64;simp[IntKind.wrap,IntKind.signed,IntKind.bits];omega
def vB(x:ai):List UInt8:=if x.k==1 then le (u64 x.n) 8 else if x.k==2 then vu 9 x.s.size++x.s.data.toList else []
theorem yg(s:ByteArray):Lib.strCells s=s.data.toList.flatMap b8:=by
 unfold Lib.strCells b8;generalize s.data.toList=l
 induction l with
 | nil=>rfl
 | cons x r ih=>simp[lN,<-ih]
theorem xi{ops:Array Oper}{rest:List Oper}{d:Oper}{a:Act}{w:World}{Q:Exit->Act->World->Prop}(g:d.guard=none)(e x:Operand)
 (l:d.op=.call { callee:=.builtin .append,args:=#[e,x],argTypes:=#[31,9] })
 {base:Nat} {v:Value} {bs:List UInt8} (hs:a.eval e=v) (hown:aE w base v bs) (s:ByteArray) (hx:a.eval x=.string s)
 (hbytes:bs.length+s.size<=140737488355328) (hbase:base<=w.heap.size)
 (h:∀c b,aE b base c (bs++s.data.toList)->w.grownBy b v.ownBlock->wpList prog ops Q rest (a.put d.dst c) b):wpList prog ops Q (d::rest) a w:=by
 obtain⟨i,hi,n,j,k⟩:=info_parts pd;refine Lib.wpList_append_own_string _ g e x 31 9 l base 5 i underlying31 underlying9 hi n j k v bs.length (bs.flatMap b8) hs hown s hx (by unfold maxLen;omega) hbytes hbase ?_;intro c b f m _;refine h c b ?_ m;unfold aE ah;rw[lg,lF,<-yg];exact f
theorem FG(A:Option Addr)(c:Nat)(xs:List UInt8)(v:ai)(w:World)(h:cH w A c xs)(x:xs.length<=130000000000000)(o:(v.s.size:Int)<=1000000000000) :
 Rb 125 #[.slice A xs.length c,v.v] w (xs++vB v):=by
 have j:=lh h;clear h;obtain⟨d,a,s0⟩:=v;simp only at o
 cases h1:(d==1)
 ·cases h2:(d==2)
  ·have g:Hid (vB ⟨d,a,s0⟩=[]):=(by show _=_;simp[vB,h1,h2]);go_enter func125,ntmps125;go_wp2_with (go_at_call 109;refine ae ?_);refine uM (wJ A c xs _ (j.o.keep kP)) ?_;rintro e l ⟨E,B,rfl,f,b⟩;go_wp2;go_ret;exact⟨_,rfl,by rw[g.o,lT];exact f.base_mono sP,aa.trans (aa.alloc (aa.refl _) _) b⟩
  ·have y:IntKind.u64.wrap (s0.size:Int)=(s0.size:Int):=(by rw[eO];unfold u64;omega);go_enter func125,ntmps125;go_wp2;refine zN 8 kR ?_;simp only[lX,lR,lZ,L4]
   iterate 5
    refine aR (λK hK=>?_);go_simp
    (refine hK _ _ ?_;clear hK K)
   refine bW 21 (λu W=>aE W (w.heap.size+1) u (xs++vu 9 s0.size)) rfl (λ_ _ _ b h=>ah.keep h b) ?_ ?_
   ·intro p;simp only[aj,aC,Lr];go_simp;go_at_call 165;refine(Qw A c xs s0.size oM _ (j.o.keep kP) oM).mono ?_;rintro e l ⟨u,rfl,f,b⟩;exact⟨u,rfl,f.base_mono (by simp[az]),b⟩
   ·simp only[aF,Lr];refine aR (λK hK=>?_);unfold aw au;rw[bZ (by rfl)];go_simp
    (refine hK _ _ ?_;clear hK K)
    refine aR (λK hK=>?_);unfold aw au;rw[bZ (by rfl)];go_simp
    (refine hK _ _ ?_;clear hK K)
    refine bG ?_;intro p;simp only[aj];intro u k;have i:=lh k;clear k;have g:Hid (vB ⟨d,a,s0⟩=vu 9 s0.size++s0.data.toList):=(by show _=_;simp[vB,h1,h2]);have D:=qS 9 s0.size;refine xi rfl (.tmp 21) (.tmp 23) rfl rfl i.o s0 rfl sO (by simp[az]) ?_;intro z C n m;have ⟨a1,a2,a3⟩:=i.o.after (w:=w) m kP (Nat.le_succ _);have t:=lh n;have q:=lh a1;clear n m a3 a2;go_wp2;go_ret;exact⟨_,rfl,(by have:=t.o;rw[lr,<-g.o]at this;exact ah.base_mono this oM),q.o⟩
 ·have g:Hid (vB ⟨d,a,s0⟩=le (u64 a) 8):=by show _=_;simp[vB,h1]
  have i:=eO a;have r:=gP a;go_enter func125,ntmps125;go_wp2_with (go_at_call 164;refine ae ?_);refine uM (Qx A c xs (u64 a) r _ (j.o.keep kP) oM) ?_;rintro e l ⟨u,rfl,f,b⟩;go_wp2;go_ret;exact⟨_,rfl,by rw[g.o];exact f.base_mono sP,aa.trans (aa.alloc (aa.refl _) _) b⟩
def iP(a:Int)(xs:List ai):List UInt8:=[UInt8.ofNat a.toNat]++le xs.length 4++xs.flatMap vB
theorem qT(x:ai):(vB x).length<=x.s.size+10:=by
 unfold vB;have:=qS 9 x.s.size;have a:x.s.data.toList.length=x.s.size:=by rw[Lib.size_eq]
 split
 ·simp[ay]
 ·split
  ·rw[lg];omega
  ·simp
theorem wv(xs:List ai)(m:Nat)(a:∀x∈xs,x.s.size<=m):(xs.flatMap vB).length<=xs.length*(m+10):=by
 induction xs with
 | nil=>simp
 | cons x r ih =>
   have d:=ih λy hy=>a y (by simp[hy]);have b:=qT x;have c:=a x sP;simp only[lN,lg,lw,lH];omega
theorem bytes_at{b c:Nat}{A:Option Addr}{xs:List ai}(a:Int)(w:World)(d:fS w b a A c xs)(a6:0<a)(aG:a<256)(a4:xs.length<=1000000)(D:∀x∈xs,x.s.size<=1000000) :
 Rb 75 #[.pointer (some ⟨b,0,none⟩)] w (iP a xs):=by
 have P:=lh (λW (hW:aa w W)=>by have:=su W (d.keep hW);rw[show(a==0)=false from sO]at this;exact this);have U:=d.k;have j:=d.l;have y:=d.lt;have R:=lh d.sl;have G:=lh D;have ab:IntKind.u32.wrap (xs.length:Int)=(xs.length:Int):=by simp[IntKind.wrap,IntKind.signed,IntKind.bits];omega
 clear d D;go_enter func75,ntmps75;go_wp2_with (go_at_call 120;refine(P.o _ kP).mono ?_;rintro e ac ⟨rfl,rfl⟩);refine zN 11 kR ?_;simp only[lX,lR,lZ,L4]
 iterate 4
  refine aR (λK hK=>?_);go_simp
  (refine hK _ _ ?_;clear hK K)
 refine bW 12 (λu W=>∃g,u=.slice (some ⟨g,0,none⟩) 1 1/\g<W.heap.size/\W.cell? ⟨g,0,none⟩=some (.int .u8 a)) rfl (λ_ W W' f ⟨g,j,h2,h3⟩=>⟨g,j,lp h2 f.size,(f.cell (p:=⟨g,0,none⟩) h2).trans h3⟩) ?_ ?_
 ·intro p;simp only[aj,aC,Lr];go_simp;exact aa.alloc (aa.refl _) _
 ·simp only[aF,Lr];refine aR (λK hK=>?_);unfold aw au;rw[bZ (by rfl)];go_simp
  (refine hK _ _ ?_;clear hK K)
  refine aR (λK hK=>?_);unfold aw au;rw[bZ (by rfl)];go_simp
  (refine hK _ _ ?_;clear hK K)
  refine aR (λK hK=>?_);unfold aw au;rw[bZ (by rfl)];go_simp
  (refine hK _ _ ?_;clear hK K)
  refine aR (λK hK=>?_);unfold aw au;rw[bZ (by rfl)];go_simp
  (refine hK _ _ ?_;clear hK K)
  refine aR (λK hK=>?_);unfold aw au;rw[bZ (by rfl)];go_simp
  (refine hK _ _ ?_;clear hK K)
  refine aR (λK hK=>?_);unfold aw au;rw[bZ (by rfl)];go_simp
  (refine hK _ _ ?_;clear hK K)
  refine bG ?_;intro p;simp only[aj];rintro u ⟨g,rfl,Y,C⟩;have M:=lh (show cH (w.gro p) (some ⟨g,0,none⟩) 1 [UInt8.ofNat a.toNat]from br _ oM oM (ed _ (by rw[C,dH];congr 2;omega)));clear Y C;go_wp2_with (go_at_call 31;refine ae ?_);refine uM (iQ (some ⟨g,0,none⟩) 1 [UInt8.ofNat a.toNat] xs.length oM _ M.o sP) ?_;rintro e z ⟨N,rfl,h,f⟩;have Q:=lh (show aE z w.heap.size N _ from h.base_mono (by simp[az]));have i:=aa.trans (aa.gro (aa.refl w) p) f;have J:=i.size;have a9:z.cell? ⟨b,1,none⟩=some (.slice A xs.length c):=(i.cell (p:=⟨b,1,none⟩) y).trans j;have aA:b<z.heap.size:=lp y J;have S:=lh i;clear h f i M U j y;go_wp2;go_loopw [25,3] (λvi vb wr=>∃(k:Nat) (q:Value),k<=xs.length/\vi=.int .i64 k/\q=vb/\Hid (aE wr w.heap.size q ([UInt8.ofNat a.toNat]++le xs.length 4++(xs.take k).flatMap vB))/\Hid (aa w wr)/\w.heap.size<=wr.heap.size) (λvi _ _=>xs.length-(intOf vi).toNat)
  case atStart=>exact⟨0,_,oM,rfl,rfl,(by show aE _ _ _ _;simp only[lR,List.flatMap_nil,lT];exact Q.o),S.o,J⟩
  case round =>
   obtain⟨k,q,f,rfl,rfl,E,m,ah⟩:=hrel
   by_cases t:k<xs.length
   ·obtain⟨ag,ak,rfl,ax,a7,av,af⟩:=dL (R.o.keep m.o) k t;have ap:=G.o xs[k] (ll t);have ad:=qT xs[k];have aB:=wv (xs.take k) 1000000 (λx hx=>G.o x (Lx hx));have a0:(xs.take k).length*(1000000+10)<=1000000*1000010:=Ln sO (lc _);have X:=lh (show(xs.take (k+1)).flatMap vB=(xs.take k).flatMap vB++vB xs[k] by rw[ly t,lF];simp);go_wp2_with (go_at_call 125;refine ae ?_);refine uM (FG none 0 [] xs[k] _ (Sl.nil_ _ oM) sP oM) ?_;rintro e a8 ⟨u,rfl,h,H⟩;simp only[lO]at h;obtain⟨al,a5,rfl,B⟩:=h.sl aO oM;have o:=aa.trans (aa.alloc (aa.refl wr) (.cells #[.int .u8 xs[k].k,.int .i64 xs[k].n,.string xs[k].s] 72)) H;have T:=lh B;have aq:=o.size;have F:=lh o;clear h H B o;go_wp2_with (at_builtin;refine ae ?_);refine ar ?_;have r:=E.o.keep F.o;refine aD bQ aO bT rfl (.tmp 29) (.tmp 31) rfl (ys:=vB xs[k]) r rfl rfl T.o (by simp only[lg,ay,lw,lB];omega) oM ?_;intro v5 ao I L _;have ⟨a1,a2,a3⟩:=r.after L (m.v F) (lc _);have Z:=lh I;have V:=lh a1;clear I L r a3;go_wp2;go_roundw
    case rel=>exact⟨k+1,_,oM,by go_num,rfl,(by show aE _ _ _ _;have:=Z.o;rw[lr,<-X.o]at this;exact this),V.o,oM⟩
    case measure=>simp[intOf];omega
   ·have O:k=xs.length:=oM;subst O;go_wp2;go_ret;refine⟨_,rfl,?_,m.o⟩;have:=E.o;rw[lC]at this;exact this
theorem ru{j:Type}{P:Program}{w:World}{t e:TypeId}{k i:Nat}(y:dX P t e k i){enc:j->List Value}(r:∀x,(enc x).length=k)(z:∀x,∀u∈enc x,u.oneCell'=true){ops:Array Oper}{b:Oper}{a:Act}{K:Act->World->Prop}{Q:Exit->Act->World->Prop}{N:Prop}
 (o:b.guard=none) (g x:Operand) (s:b.op=.call { callee:=.builtin .append,args:=#[g,x],argTypes:=#[t,t] })
 {base:Nat} {v:Value} {xs ys:List j} (hown:ah w base e k enc v xs) (hs:a.eval g=v) {A:Option Addr} {c:Nat} (hx:a.eval x=.slice A ys.length c) (hy:Sl w k enc A c ys)
 (hlen:(xs.length+ys.length)*i<=140737488355328) (hbase:base<=w.heap.size)
 (h:∀d f,ah f base e k enc d (xs++ys)->w.grownBy f v.ownBlock->(d.ownBlock=v.ownBlock\/d.ownBlock=some w.heap.size)->K (a.put b.dst d) f):if Region.wanted b (yielded ops a.tmps)=true then Oper.wp P b a w K Q else N:=by
 have n:Region.wanted b (yielded ops a.tmps)=true:=by simp[Region.wanted,o]
 rw[if_pos n];obtain⟨d,f,m,p,q,l⟩:=pZ (ty:=b.type) y r z hown hy hlen hbase;unfold Oper.wp execOp;simp only[s,resolve,invoke,builtin,Sem.run_bind,Sem.run_pure,Result.andThen_ok,List.map_toArray,lG,L3,hs,hx,m];exact h d f p q l
theorem GL{ops:Array Oper}{b:Oper}{a:Act}{w:World}{K:Act->World->Prop}{Q:Exit->Act->World->Prop}{N:Prop}(k:b.guard=none)(e x:Operand)
 (o:b.op=.call { callee:=.builtin .append,args:=#[e,x],argTypes:=#[31,9] })
 {base:Nat} {v:Value} {bs:List UInt8} (hs:a.eval e=v) (hown:aE w base v bs) (s:ByteArray) (hx:a.eval x=.string s)
 (hbytes:bs.length+s.size<=140737488355328) (hbase:base<=w.heap.size)
 (h:∀d c,aE c base d (bs++s.data.toList)->w.grownBy c v.ownBlock->K (a.put b.dst d) c):if Region.wanted b (yielded ops a.tmps)=true then Oper.wp prog b a w K Q else N:=by
 have j:Region.wanted b (yielded ops a.tmps)=true:=by simp[Region.wanted,k]
 rw[if_pos j];obtain⟨i,hi,p,l,m⟩:=info_parts pd;obtain⟨d,c,g,f,n,_⟩:=Lib.run_append_own_string (P:=prog) w base 31 9 b.type 5 i underlying31 underlying9 hi p l m v bs.length (bs.flatMap b8) hown s (by unfold maxLen;omega) hbytes hbase;unfold Oper.wp execOp;simp only[o,resolve,invoke,builtin,Sem.run_bind,Sem.run_pure,Result.andThen_ok,List.map_toArray,lG,L3,hs,hx,g];refine h d c ?_ n;unfold aE ah;rw[lg,lF,<-yg];exact f
end Go.Proofs.YtpkocnpamcchcaaGreatDoor
namespace Go.Zone
open Go.RowKit
section
variable {α:Type} {w w':World} {base g n c:Nat} {e:TypeId} {enc:α->List Value} {f:α->Value} {xs:List α}
theorem sX(a:∀x,enc x=[f x])(xs:List α):xs.flatMap enc=xs.map f:=by
 induction xs with
 | nil=>rfl
 | cons x r ih=>simp[a,ih]
theorem ah.cell1(m:∀x,enc x=[f x])(i:ah w base e 1 enc (.slice (some ⟨g,0,none⟩) n c) xs)(u:n=xs.length)(j:Nat)(k:j<xs.length) :
 w.cell? ⟨g,j,none⟩=some (f xs[j])/\w.frozen? ⟨g,j,none⟩=false/\g<w.heap.size/\base<=g:=by
 rcases i.2 with⟨a,_⟩ | ⟨s,o,t,a,l,b,r,p,q,h⟩
 ·simp at a
 ·simp only[Value.slice.injEq,lQ,Addr.mk.injEq,and_true,true_and]at a;obtain⟨rfl,_,_⟩:=a;refine⟨?_,by simp[World.frozen?,b],(La.1 b).1,l⟩;have d:(xs.flatMap enc)[j]? =some (f xs[j]):=by rw[sX m];simp[k]
  rw[<-h,List.getElem?_take,if_pos oM]at d;simp only[World.cell?,b,Option.isSome_none,lY,if_false]
  simpa using d
theorem ah.set1(a:∀x,enc x=[f x])(b:ah w base e 1 enc (.slice (some ⟨g,0,none⟩) n c) xs)(h:n=xs.length)(j:Nat)(x:α){u:Value}(d:u=f x) :
 ah (w.setCell ⟨g,j,none⟩ u) base e 1 enc (.slice (some ⟨g,0,none⟩) n c) (xs.set j x):=by
 subst h;subst d;have:=(World.ownsRow.stored b j (f x)).1;unfold ah;rw[Li,sX a,List.map_set,<-sX a];exact this
theorem oR{P:Program}{t:TypeId}{i:TypeInfo}{z:α}(r:∀x,enc x=[f x])(s:(f z).cells=#[f z])(m:P.underlying t=some (.slice e))(hi:P.info? e=some i)(j:i.zero=some (f z))(d:i.size=1)(n base:Nat)(a:World)(o:i.bytes*n<=281474976710656)(u:n<=9223372036854775807)(q:base<=a.heap.size) :
 ∃W',(Instr.makeSlice t (.int .i64 (n:Int)) (.int .i64 (n:Int))).run P a=.ok (.slice (some ⟨a.heap.size,0,none⟩) n n) W'/\ah W' base e 1 enc (.slice (some ⟨a.heap.size,0,none⟩) n n) (List.replicate n z)/\aa a W':=by
 obtain⟨W',l,h,b⟩:=run_make_full (P:=P) a base t e i (f z) 1 m hi j d .i64 .i64 n o (by unfold maxLen;omega) q;refine⟨W',l,?_,⟨b.os,b.tape,b.output,b.size,λk hk=>b.block k hk sP⟩⟩;unfold ah;rw[LH,sX r];have p:(madeCells (f z).cells (n*1)).toList=(List.replicate n z).map f:=by
  apply List.ext_getElem
  ·simp[madeCells]
  ·intro i j d;simp[madeCells,s,Nat.mod_one]
 rw[p]at h;exact h
end
end Go.Zone
