/- Parts. -/
import Derived.Test.YtpkocnpamcchcaaGreatDoorL13
set_option maxRecDepth 100000
set_option maxHeartbeats 40000000
set_option linter.all false
namespace Go.Proofs.YtpkocnpamcchcaaGreatDoor
open Go.RowKit Go.Zone Go.Shelf Tryz
def cT(x:Nat):List Value:=[.int .u16 (x:Int)]
theorem gU{w:World}{c:Nat}{A:Option Addr}{xs:List Nat}(e:Sl w 1 cT A c xs)(i:Nat)(hi:i<xs.length):∃b a,A=some ⟨b,a,none⟩/\b<w.heap.size/\w.cell? ⟨b,a+i,none⟩=some (.int .u16 (xs[i]:Int)):=by
 obtain⟨b,a,f,g⟩:=e.at_ i hi;have d:=g 0 _ rfl;rw[Lb,lE]at d;exact⟨b,a,f,World.block_lt_of_cell? w _ d,d⟩
theorem jQ{w:World}{c b d:Nat}{xs:List Nat}(e:Sl w 1 cT (some ⟨b,d,none⟩) c xs)(i:Nat)(hi:i<xs.length):b<w.heap.size/\w.cell? ⟨b,d+i,none⟩=some (.int .u16 (xs[i]:Int)):=by
 obtain⟨j,h,a,g,f⟩:=gU e i hi;injection a with a;injection a with e1 e2;subst e1;subst e2;exact⟨g,f⟩
theorem K9(k:Int)(w:World):Rs 291 #[.int .u16 k] w (.bool false):=by
 go_enter func291,ntmps291;go_wp2;go_ret;exact⟨sP,rfl⟩
theorem sC(x y:Nat)(w:World):Rt 282 #[.int .u16 (x:Int),.int .u16 (y:Int)] w (.bool (decide (x<y))):=by
 go_enter func282,ntmps282;go_wp2_with (go_at_call 291;refine(K9 _ _).mono ?_;rintro e a ⟨rfl,rfl⟩)
 all_goals go_ret
 all_goals exact⟨by simp_all,aa.refl _⟩
theorem Kr(e f c i j n:Nat)(xs:List Nat)(p:Value)(w:World)(h:xs.length=n)(d:Up xs)(a:Sl w 1 cT (some ⟨e,f,none⟩) c xs)(g:i<=j)(o:j<n) :
 Rt 293 #[.slice (some ⟨e,f,none⟩) n c,.int .i64 i,.int .i64 j,p] w (.tuple #[.int .i64 i,.int .i64 j]):=by
 obtain⟨q,k⟩:=jQ a i oM;obtain⟨_,m⟩:=jQ a j oM;have b:=d i j g oM;generalize xs[i]'oM=x at k b;generalize xs[j]'oM=y at m b;have l:=lh (show ∀W,Rt 282 #[.int .u16 (y:Int),.int .u16 (x:Int)] W (.bool false) from λW=>by
  have:=sC y x W
  rwa [show decide (y<x)=false from sO]at this)
 have hi:i<n:=oM;clear a d h b;go_enter func293,ntmps293;go_wp2;refine zR kR ?_
 repeat
  refine aR (λK hK=>?_);go_simp
  first
  | (refine hK _ _ ?_;clear hK K)
  | (apply Exists.intro
     refine⟨λp=>?_,hK _ _ ?_⟩
     ((go_at_call 282;exact Zone.zc (l.o _)))
     clear hK K)
 refine bG ?_;intro r;simp only[aj];go_wp2;exact bodyPost_ret (v:=.tuple #[.int .i64 i,.int .i64 j]) (by simp[results,results293,go_sem]) rfl ⟨rfl,kP⟩
theorem BK(f g c i j k n:Nat)(xs:List Nat)(p:Value)(w:World)(r:xs.length=n)(l:Up xs)(m:Sl w 1 cT (some ⟨f,g,none⟩) c xs)(o:i<=j)(z:j<=k)(y:k<n) :
 Rt 290 #[.slice (some ⟨f,g,none⟩) n c,.int .i64 i,.int .i64 j,.int .i64 k,p] w (.int .i64 j):=by
 have d:=lh (λW (hW:aa w W) (a b:Nat) (hab:a<=b) (hb:b<n)=>Kr f g c a b n xs p W r l (m.keep hW) hab hb);clear r l m;go_enter func290,ntmps290;go_wp2_with (go_at_call 293;refine ae ?_);refine uM (d.o _ (aa.refl _) i j o oM) ?_;rintro e C ⟨rfl,v⟩;have s:=lh v;clear v;go_wp2_with (go_at_call 293;refine ae ?_);refine uM (d.o _ s.o j k z y) ?_;rintro e B ⟨rfl,t⟩;have h:=s.u t;clear t;go_wp2_with (go_at_call 293;refine ae ?_);refine uM (d.o _ h.o i j o oM) ?_;rintro e A ⟨rfl,q⟩;have x:=h.u q;clear q;go_wp2;go_ret;exact⟨rfl,x.o⟩
theorem MF(b d c i n:Nat)(xs:List Nat)(p:Value)(w:World)(h:xs.length=n)(f:Up xs)(g:Sl w 1 cT (some ⟨b,d,none⟩) c xs)(hi:0<i)(k:i+1<n)(o:n<=1000000000) :
 Rt 289 #[.slice (some ⟨b,d,none⟩) n c,.int .i64 i,p] w (.int .i64 i):=by
 obtain⟨a,m⟩:∃a,a+1=i:=⟨i-1,oM⟩;have j:=lh (BK b d c a i (i+1) n xs p w h f g oM oM k);have q:IntKind.i64.wrap ((i:Int)-1)=(a:Int):=iW oM;have r:IntKind.i64.wrap ((i:Int)+1)=((i+1:Nat):Int):=iW oM;clear h f g m;go_enter func289,ntmps289;go_wp2_with (go_at_call 290;refine ae ?_);refine uM j.o ?_;rintro e s ⟨rfl,l⟩;go_wp2;go_ret;exact⟨rfl,l⟩
theorem NQ(h l c n:Nat)(xs:List Nat)(w:World)(j:xs.length=n)(f:Up xs)(g:Sl w 1 cT (some ⟨h,l,none⟩) c xs)(u:n<=1000000000) :
 Rt 276 #[.slice (some ⟨h,l,none⟩) n c,.int .i64 0,.int .i64 n] w (.tuple #[]):=by
 have m:=lh g;have o:=lh f;have b:=lh j;clear g f j;go_enter func276,ntmps276;go_wp2;go_loopw [6] (λvi wr=>∃i:Nat,vi=.int .i64 i/\1<=i/\Hid (aa w wr)) (λvi _=>n-(intOf vi).toNat)
 case atStart=>exact⟨1,by go_num,oM,aa.refl _⟩
 case round =>
  obtain⟨i,rfl,hi,d⟩:=hrel
  by_cases k:i<n
  ·obtain⟨a,s⟩:∃a,a+1=i:=⟨i-1,oM⟩;obtain⟨A,q⟩:=jQ (m.o.keep d.o) i (by rw[b.o];exact k);obtain⟨_,t⟩:=jQ (m.o.keep d.o) a (by rw[b.o];omega);have e:=o.o a i oM (by rw[b.o];exact k);generalize xs[a]'(by have:=b.o;omega)=x at t e;generalize xs[i]'(by have:=b.o;omega)=y at q e;have r:=lh (show ∀W,Rt 282 #[.int .u16 (y:Int),.int .u16 (x:Int)] W (.bool false) from λW=>by
    have:=sC y x W
    rwa [show decide (y<x)=false from sO]at this)
   have z:IntKind.i64.wrap ((i:Int)-1)=(a:Int):=iW oM;have B:a<n:=oM;have v:0<i:=oM;clear e s;go_wp2;refine wp_loop_rounds 1 ?_;rw[rounds_succ];go_wp2;refine zR kR ?_
   repeat
    refine aR (λK hK=>?_);go_simp
    first
    | (refine hK _ _ ?_;clear hK K)
    | (apply Exists.intro
       refine⟨λp=>?_,hK _ _ ?_⟩
       ((go_at_call 282;exact Zone.zc (r.o _)))
       clear hK K)
   refine bG ?_;intro p;simp only[aj];go_wp2;go_roundw
   case rel=>exact⟨i+1,by go_num,oM,d.o.trans kP⟩
   case measure=>simp[intOf];omega
  ·go_wp2;go_end0;exact⟨rfl,d.o⟩
theorem JY(h l c n:Nat)(xs:List Nat)(w:World)(j:xs.length=n)(f:Up xs)(g:Sl w 1 cT (some ⟨h,l,none⟩) c xs)(z:n<=1000000000)(o:1<=n) :
 Rt 281 #[.slice (some ⟨h,l,none⟩) n c,.int .i64 0,.int .i64 n] w (.bool true):=by
 have m:=lh g;have r:=lh f;have b:=lh j;clear g f j;go_enter func281,ntmps281;go_wp2;refine wp_loop_rounds 1 ?_;rw[rounds_succ];go_wp2;go_loopw [7] (λvi wr=>∃i:Nat,vi=.int .i64 i/\1<=i/\i<=n/\Hid (aa w wr)) (λvi _=>n-(intOf vi).toNat)
 case atStart=>exact⟨1,by go_num,oM,o,aa.refl _⟩
 case round =>
  obtain⟨i,rfl,hi,C,d⟩:=hrel
  by_cases k:i<n
  ·obtain⟨a,u⟩:∃a,a+1=i:=⟨i-1,oM⟩;obtain⟨D,s⟩:=jQ (m.o.keep d.o) i (by rw[b.o];exact k);obtain⟨_,v⟩:=jQ (m.o.keep d.o) a (by rw[b.o];omega);have e:=r.o a i oM (by rw[b.o];exact k);generalize xs[a]'(by have:=b.o;omega)=x at v e;generalize xs[i]'(by have:=b.o;omega)=y at s e;have t:=lh (show ∀W,Rt 282 #[.int .u16 (y:Int),.int .u16 (x:Int)] W (.bool false) from λW=>by
    have:=sC y x W
    rwa [show decide (y<x)=false from sO]at this)
   have B:IntKind.i64.wrap ((i:Int)-1)=(a:Int):=iW oM;have E:a<n:=oM;have A:0<i:=oM;clear e u;go_wp2;refine zR kR ?_
   repeat
    refine aR (λK hK=>?_);go_simp
    first
    | (refine hK _ _ ?_;clear hK K)
    | (apply Exists.intro
       refine⟨λp=>?_,hK _ _ ?_⟩
       ((go_at_call 282;exact Zone.zc (t.o _)))
       clear hK K)
   refine bG ?_;intro p;simp only[aj];go_wp2;go_roundw
   case rel=>exact⟨i+1,by go_num,oM,oM,d.o.trans kP⟩
   case measure=>simp[intOf];omega
  ·have q:i=n:=oM;subst q;go_wp2;refine zR kR ?_
   repeat
    refine aR (λK hK=>?_);go_simp
    first
    | (refine hK _ _ ?_;clear hK K)
    | (apply Exists.intro
       refine⟨λp=>?_,hK _ _ ?_⟩
       (fail)
       clear hK K)
   refine bG ?_;intro p;simp only[aj];go_wp2;go_ret;exact⟨rfl,d.o.trans kP⟩
theorem JQ(m q c n:Nat)(xs:List Nat)(w:World)(y:xs.length=n)(s:Up xs)(x:Sl w 1 cT (some ⟨m,q,none⟩) c xs)(I:n<=1000000000)(T:8<=n) :
 Calls prog 279 #[.slice (some ⟨m,q,none⟩) n c,.int .i64 0,.int .i64 n] w λe w'=>∃j:Nat,e=.returned (.tuple #[.int .i64 j,.int .i64 1])/\aa w w':=by
 have z:=lh (λ(W:World) (hW:aa w W) (p:Value) (i:Nat) (hi:0<i) (hk:i+1<n)=>MF m q c i n xs p W y s (x.keep hW) hi hk I);have E:=lh (λ(W:World) (hW:aa w W) (p:Value) (i j k:Nat) (hij:i<=j) (hjk:j<=k) (hk:k<n)=>BK m q c i j k n xs p W y s (x.keep hW) hij hjk hk);obtain⟨b,N⟩:∃b,b=n/4:=⟨_,rfl⟩;obtain⟨a,K⟩:∃a,a=b*2:=⟨_,rfl⟩;obtain⟨f,L⟩:∃f,f=b*3:=⟨_,rfl⟩;have U:(n:Int)/4=(b:Int):=oM;have X:(b:Int)*2=(a:Int):=oM;have P:(b:Int)*3=(f:Int):=oM;have D:0<b/\b+1<n/\0<a/\a+1<n/\0<f/\f+1<n/\b<=a/\a<=f/\f<n:=oM;have d:=lh D;clear y s x N K L D;go_enter func279,ntmps279;go_upto_if 32 with fail;have o:ak (w.alloc (.cells #[.int .i64 0] 3)) w.heap.size 3 [.int .i64 0]:=bH _ _ _;have t:aa w (w.alloc (.cells #[.int .i64 0] 3)):=aa.alloc (aa.refl _) _;generalize w.alloc (.cells #[.int .i64 0] 3)=Y at o t|-;generalize w.heap.size=S at o|-;have r:=lh o;have g:=lh t;clear o t
 by_cases V:50<=n
 ·go_wp2_with (go_at_call 289;refine ae ?_);refine uM (z.o _ g.o _ b d.o.1 d.o.2.1) ?_;rintro e Z ⟨rfl,H⟩;have F:=lh H;clear H;go_wp2_with (go_at_call 289;refine ae ?_);refine uM (z.o _ (g.v F) _ a d.o.2.2.1 d.o.2.2.2.1) ?_;rintro e R ⟨rfl,G⟩;have A:=F.u G;clear G;go_wp2_with (go_at_call 289;refine ae ?_);refine uM (z.o _ (g.v A) _ f d.o.2.2.2.2.1 d.o.2.2.2.2.2.1) ?_;rintro e Q ⟨rfl,C⟩;have B:=A.u C;clear C;go_wp2_with (go_at_call 290;refine ae ?_);refine uM (E.o _ (g.v B) _ b a f d.o.2.2.2.2.2.2.1 d.o.2.2.2.2.2.2.2.1 d.o.2.2.2.2.2.2.2.2) ?_;rintro e O ⟨rfl,l⟩;have h:=B.u l;clear l;have M:=(r.o.keep h.o).cell 0 _ rfl;have J:=(r.o.keep h.o).lt;go_wp2;exact bodyPost_ret (v:=.tuple #[.int .i64 a,.int .i64 1]) (by simp[results,results279,go_sem]) rfl ⟨a,rfl,g.o.trans h.o⟩
 ·go_wp2_with (go_at_call 290;refine ae ?_);refine uM (E.o _ g.o _ b a f d.o.2.2.2.2.2.2.1 d.o.2.2.2.2.2.2.2.1 d.o.2.2.2.2.2.2.2.2) ?_;rintro e O ⟨rfl,l⟩;have h:=lh l;clear l;have M:=(r.o.keep h.o).cell 0 _ rfl;have J:=(r.o.keep h.o).lt;go_wp2;exact bodyPost_ret (v:=.tuple #[.int .i64 a,.int .i64 1]) (by simp[results,results279,go_sem]) rfl ⟨a,rfl,g.o.trans h.o⟩
theorem JU(a b c n g:Nat)(xs:List Nat)(w:World)(h:xs.length=n)(d:Up xs)(f:Sl w 1 cT (some ⟨a,b,none⟩) c xs)(k:n<=1000000000)(l:12<n->0<g) :
 Rt 255 #[.slice (some ⟨a,b,none⟩) n c,.int .i64 0,.int .i64 n,.int .i64 g] w (.tuple #[]):=by
 have r:=lh (λ(W:World) (hW:aa w W)=>NQ a b c n xs W h d (f.keep hW) k);have q:=lh (λ(W:World) (hW:aa w W) (h8:8<=n)=>JQ a b c n xs W h d (f.keep hW) k h8);have s:=lh (λ(W:World) (hW:aa w W) (h1:1<=n)=>JY a b c n xs W h d (f.keep hW) k h1);clear h d f
 by_cases y:n<=12
 ·clear l;go_enter func255,ntmps255;go_wp2;refine wp_loop_rounds 1 ?_;rw[rounds_succ];go_wp2_with (go_at_call 276;refine ae ?_);refine uM (r.o _ (aa.refl _)) ?_;rintro e t ⟨rfl,i⟩;go_wp2;exact bodyPost_ret (v:=.tuple #[]) (by simp[results,results255,go_sem]) rfl ⟨rfl,i⟩
 ·have B:=l oM;have x:((g:Int)==0)=false:=sO;have A:¬(g:Int)=0:=oM;clear l;go_enter func255,ntmps255;go_wp2;refine wp_loop_rounds 1 ?_;rw[rounds_succ];go_wp2_with (go_at_call 279;refine ae ?_);refine uM (q.o _ (aa.refl _) oM) ?_;rintro e t ⟨j,rfl,i⟩;have m:=lh i;clear i;go_wp2_with (go_at_call 281;refine ae ?_);refine uM (s.o _ m.o oM) ?_;rintro e z ⟨rfl,o⟩;have p:=m.u o;clear o;go_wp2;exact bodyPost_ret (v:=.tuple #[]) (by simp[results,results255,go_sem]) rfl ⟨rfl,p.o⟩
theorem G8(A:Option Addr)(c:Nat)(xs:List Nat)(w:World)(h:Up xs)(f:Sl w 1 cT A c xs)(i:xs.length<=1000000000)(g:0<xs.length) :
 Rt 213 #[.slice A xs.length c] w (.tuple #[]):=by
 obtain⟨b,p,rfl,q,o⟩:=gU f 0 g;clear q o;have a:=lh (tJ xs.length oM);have d:=lh (λ(W:World) (hW:aa w W)=>JU b p c xs.length (Lib.bitLen xs.length) xs W rfl h (f.keep hW) i (λ_=>Em _ g oM));generalize xs.length=n at i a d;generalize Lib.bitLen n=s at a d;have t:IntKind.u64.wrap (n:Int)=(n:Int):=by rw[IntKind.wrap_u64]<;>omega
 clear f h g;go_enter func213,ntmps213;go_wp2_with (go_at_call 159;refine ae ?_);refine uM (a.o _) ?_;rintro e v ⟨rfl,l⟩;have j:=lh l;clear l;go_wp2_with (go_at_call 255;refine ae ?_);refine uM (d.o _ j.o) ?_;rintro e r ⟨rfl,k⟩;have m:=j.u k;clear k;go_wp2;go_end0;exact⟨rfl,m.o⟩
theorem NP(A:Option Addr)(c:Nat)(w:World):Rt 276 #[.slice A 0 c,.int .i64 0,.int .i64 0] w (.tuple #[]):=by
 go_enter func276,ntmps276;go_wp2;refine wp_loop_rounds 1 ?_;rw[rounds_succ];go_wp2;go_end0;exact⟨rfl,aa.refl _⟩
theorem JS(A:Option Addr)(c d:Nat)(w:World):Rt 255 #[.slice A 0 c,.int .i64 0,.int .i64 0,.int .i64 d] w (.tuple #[]):=by
 have a:=lh (NP A c);go_enter func255,ntmps255;go_wp2;refine wp_loop_rounds 1 ?_;rw[rounds_succ];go_wp2_with (go_at_call 276;refine ae ?_);refine uM (a.o _) ?_;rintro e f ⟨rfl,b⟩;go_wp2;exact bodyPost_ret (v:=.tuple #[]) (by simp[results,results255,go_sem]) rfl ⟨rfl,b⟩
theorem G7(A:Option Addr)(c:Nat)(w:World):Rt 213 #[.slice A 0 c] w (.tuple #[]):=by
 have d:=lh (tJ 0 oM);generalize Lib.bitLen 0=h at d;have i:=lh (JS A c h);go_enter func213,ntmps213;go_wp2_with (go_at_call 159;refine ae ?_);refine uM (d.o _) ?_;rintro e k ⟨rfl,b⟩;have g:=lh b;clear b;go_wp2_with (go_at_call 255;refine ae ?_);refine uM (i.o _) ?_;rintro e j ⟨rfl,a⟩;have f:=g.u a;clear a;go_wp2;go_end0;exact⟨rfl,f.o⟩
theorem G9(A:Option Addr)(c:Nat)(xs:List Nat)(w:World)(b:Up xs)(a:Sl w 1 cT A c xs)(d:xs.length<=1000000000) :
 Rt 213 #[.slice A xs.length c] w (.tuple #[]):=by
 rcases Nat.eq_zero_or_pos xs.length with e|e
 ·rw[e];exact G7 A c w
 ·exact G8 A c xs w b a d e
open Go.Roa Go.Star Go.Sym
theorem wrapN(n:Nat)(h:n<18446744073709551616):IntKind.u64.wrap (n:Int)=(n:Int):=by
 rw[eO];unfold u64;omega
theorem IL(A:Option Addr)(n:Nat)(cs:List aG)(c:bw)(w:World)(ai:Sl w 2 aG.cells A n cs)(a8:ff w c)(Q:Fits cs c) :
 Rb 14 #[.slice A cs.length n,c.v] w (gV cs c):=by
 have bb:=yD Q;obtain⟨s0,V,X,K,Y,Z,L,a3,a5,sp,E⟩:=c;simp only at bb;obtain⟨bX,bY⟩:=bb;have bR:=cE ai;have bS:=cE a8.i;have bU:=cE a8.r;have bN:cs.length<=256:=Q.may.hi;have bZ:sp.length<=8:=Q.few;have bO:1<=E:=Q.lo;have bP:E<=1000000:=Q.hi;have bg:=lh ai;have aw:=lh Q.may;have bm:=lh (show ∀j,(ai:j<sp.length)->0<=sp[j]/\sp[j]<256 from λj hj=>by have:=nR (Q.split j hj);simp only at this;omega);have bn:=lh (λW (hW:aa w W) (i:Int)=>oJ V X K i W (a8.i.keep hW));have bo:=lh (λW (hW:aa w W) (i:Int)=>oJ Y Z L i W (a8.r.keep hW));have bk:=lh a8.s;simp only[bw.v];clear ai Q a8;have bD:IntKind.u64.wrap (cs.length:Int)=(cs.length:Int):=wrapN _ oM;go_enter func14,ntmps14;go_upto_region 1 with fail;have J:cV w (w.alloc (.cells #[.int .i64 s0,.slice V K.length X,.slice Y L.length Z,.slice a3 sp.length a5,.int .i64 E] 26)) [.int .i64 s0,.slice V K.length X,.slice Y L.length Z,.slice a3 sp.length a5,.int .i64 E]:=cV.start (t:=26) (aa.refl _);generalize bB:World.alloc w _=g at J|-;have P:=J.lt;have a0:=lh J.keep;have aX:=lh (J.at_ 0 _ rfl);have aY:=lh (J.at_ 1 _ rfl);have aA:=lh (J.at_ 2 _ rfl);have aB:=lh (J.at_ 3 _ rfl);have aZ:=lh (J.at_ 4 _ rfl);clear bB J;have bG:=a0.o.size;generalize w.heap.size=ah at P bG aX aY aA aB aZ|-;go_wp2_with (go_at_call 15;refine ae ?_);refine uM (eE cs.length 2 oM dC _) ?_;rintro e c4 ⟨c3,rfl,b7,ab⟩
 have aT:=lh b7;have aP:=lh ab;clear b7 ab bD;go_wp2;go_loopw [5,6] (λv i wr=>∃(k:Nat) (l:Value) (a:List UInt8),k<=cs.length/\i=.int .i64 k/\l=v/\Hid (aE wr g.heap.size l a)/\Hid (a=le cs.length 2++(cs.take k).flatMap gG)/\a.length<=2+k*66/\Hid (aa g wr)) (λ_ i _=>cs.length-(intOf i).toNat)
 case atStart=>exact⟨0,_,_,lj _,rfl,rfl,aT.o,(by show _=_;simp),by simp[ay],aP.o⟩
 case round =>
  clear aT aP;obtain⟨k,l,a,ao,rfl,rfl,o,m,ap,d⟩:=hrel
  by_cases z:k<cs.length
  ·obtain⟨b,aJ,aC,a7,aj,ak⟩:=il (bg.o.keep a0.o) k z;have b6:=(aw.o.name k z).hi;have ab:=(aw.o.kind k z).1;have b4:=(aw.o.kind k z).2;have a6:=lh (show(cs.take (k+1)).flatMap gG=(cs.take k).flatMap gG++gG cs[k] by rw[ly z,lF];simp);subst aC;generalize cs[k]=bH at aj ak b6 ab b4 a6;obtain⟨I,aq⟩:=bH;simp only at aj ak b6 ab b4 a6;have aW:=lh (show I.data.toList.length=I.size by rw[Lib.size_eq]);have aS:=lh (λW (hW:aa g W)=>(hW.cell (p:=⟨b,aJ+k*2,none⟩) a7).trans aj);have h0:=aS.o _ d.o;have h1:=(d.o.cell (p:=⟨b,aJ+k*2+1,none⟩) a7).trans ak;have bL:=lp a7 d.o.size;have bi:=lh a7;clear aj ak a7;have c1:IntKind.u8.wrap (I.size:Int)=(I.size:Int):=(by simp[IntKind.wrap,IntKind.signed,IntKind.bits];omega);go_upto_region 5 with fail
   go_region_law (refine ru bQ aO bT rfl (.tmp 20) (.tmp 33) rfl (ys:=[UInt8.ofNat aq.toNat,UInt8.ofNat I.size]) (o.o.keep kP) rfl rfl (yJ (x:=UInt8.ofNat aq.toNat) (y:=UInt8.ofNat I.size) ?h0 ?h1) sO (by have:=d.o.size;simp;omega) ?_
                  case h0=>rw[dH,show((aq.toNat:Nat):Int)%256=aq from oM];simp[go_sem]
                  case h1=>rw[dH,show(I.size:Int)%256=(I.size:Int) from oM];simp[go_sem]
                  intro v3 aK b8 b2 bv;have au:=lh ((o.o.keep kP).kept (w:=g) b2 (d.o.trans kP) (lc _));have a9:=lh b8;clear b8 b2 bv)
   all_goals
    have z0:=aS.o _ au.o;have bM:=lp bi.o au.o.size;obtain⟨c2,ad,bu,⟨bJ,bK,rfl,ba⟩,aI⟩:=D8 I aK oM;have bl:=lh ba;have f:=lh (a9.o.keep aI);have aR:=lh (au.o.trans aI);clear ba aI a9;go_wp2_with (at_builtin;refine ae ?_);refine ar ?_;refine aD bQ aO bT rfl (.tmp 35) (.tmp 41) rfl (ys:=I.data.toList) f.o rfl rfl bl.o (by have:=aW.o;simp;omega) (by have:=aR.o.size;omega) ?_;intro v4 ac b9 b3 _;have ⟨a4,_,_⟩:=f.o.after b3 aR.o (lc _);have G:=lh b9;have bh:=lh a4;clear b9 b3 a4 bu;go_wp2;go_roundw
    case rel=>exact⟨k+1,_,_,oM,by go_num,rfl,G.o,(by
     show _=_;rw[a6.o,m.o];simp[gG]),(by
     have:=aW.o;simp only[lg,lw,lB];omega),bh.o⟩
    case measure=>simp[intOf];omega
  ·have h:k=cs.length:=oM;subst h;rw[lC]at m;have bd:=bE d.o P aX.o;have al:ah<wr.heap.size:=block_lt_of_cell bd;have bW:a.length<=20000:=oM;obtain⟨H,b5⟩:∃H:Nat,s0+1=(H:Int):=⟨(s0+1).toNat,oM⟩;have bj:=lh b5;have bV:H<65536:=oM;have bC:IntKind.u64.wrap (H:Int)=(H:Int):=wrapN _ oM;clear ap;go_wp2_with (go_at_call 15;refine ae ?_);refine uM (eE H 2 oM dC _) ?_;rintro e bc ⟨vl,rfl,S,h⟩;obtain⟨aN,b1,rfl,U⟩:=S.sl aO (by rw[ay];omega);have O:=lh U;have D:=lh (o.o.keep h);have B:=d.u h;clear S h U o;go_wp2_with (at_builtin;refine ae ?_);refine ar ?_;refine aD bQ aO bT rfl (.tmp 43) (.tmp 48) rfl (ys:=le H 2) D.o rfl rfl O.o (by simp[ay];omega) (by have:=B.o.size;omega) ?_;intro vm c5 T R _;have ⟨am,_,_⟩:=D.o.after R B.o (lc _);have ax:=lh T;have aQ:=lh am;clear T R am O D B;have aU:=lh (show a++le H 2=le cs.length 2++cs.flatMap gG++le (s0+1).toNat 2 by
    rw[m.o]
    congr 2
    have:=bj.o;omega)
   have bz:(a++le H 2).length<=20002:=(by simp[ay];omega);generalize a++le H 2=b0 at ax aU bz;clear m bd al b5 bC;go_wp2;go_loopw [5,7] (λv i wr=>∃(k:Nat) (l:Value) (a:List UInt8),k<=cs.length/\i=.int .i64 k/\l=v/\Hid (aE wr g.heap.size l a)/\Hid (a=b0++(List.range k).flatMap (fb ⟨s0,V,X,K,Y,Z,L,a3,a5,sp,E⟩))/\a.length<=20002+k/\Hid (aa g wr)) (λ_ i _=>cs.length-(intOf i).toNat)
   case atStart=>exact⟨0,_,_,lj _,rfl,rfl,ax.o,(by show _=_;simp),oM,aQ.o⟩
   case round =>
    clear ax aQ z ao d;obtain⟨k,l,a,ao,rfl,rfl,o,m,ap,d⟩:=hrel;have aL:=bE d.o P aY.o;have bf:=bE d.o P aA.o;have al:ah<wr.heap.size:=block_lt_of_cell aL
    by_cases z:k<cs.length
    ·have ag:=lh (show(List.range (k+1)).flatMap (fb ⟨s0,V,X,K,Y,Z,L,a3,a5,sp,E⟩)=(List.range k).flatMap (fb ⟨s0,V,X,K,Y,Z,L,a3,a5,sp,E⟩)++fb ⟨s0,V,X,K,Y,Z,L,a3,a5,sp,E⟩ k by rw[List.range_succ,lF];simp)
     cases bq:cD K (k:Int)
     all_goals cases bs:cD L (k:Int)
     all_goals
      have M:=lh (And.intro bq bs);go_wp2_with (go_at_call 46;refine ae ?_);refine ar ?_;with_reducible refine(bn.o _ (a0.v d) _).mono ?_;rintro e aK ⟨rfl,aF⟩;have af:=d.u aF;have a9:=lh (o.o.keep aF);have z2:=bE af.o P aA.o;have bx:ah<aK.heap.size:=block_lt_of_cell z2;clear aL bf aF o d;go_wp2_with (go_at_call 46;refine ae ?_);refine ar ?_;with_reducible refine(bo.o _ (a0.v af) _).mono ?_;rintro e ac ⟨rfl,aH⟩;have N:=af.u aH;have G:=lh (a9.o.keep aH);clear z2 aH a9 af bx;go_wp2_with (at_builtin;refine ae ?_);refine ar ?_
     ·have f:aE (ac.alloc (.cells #[.int .u8 0] 5)) g.heap.size l a:=G.o.keep (aa.alloc (aa.refl _) _);refine aD bQ aO bT rfl (.tmp 68) (.tmp 70) rfl (ys:=[0]) f rfl rfl (br _ oM oM (ed _ sG)) sO (by simp;exact Lv N.o.size) ?_;intro v5 ad s q _;have ⟨a1,a2,_⟩:=f.after (w:=g) q (N.o.trans (aa.alloc (aa.refl _) _)) (lc _);have C:=lh s;have F:=lh a1;clear s q a1 a2 f G;go_wp2;go_roundw
      case rel=>exact⟨k+1,_,_,oM,by go_num,rfl,C.o,(by
       show _=_;rw[ag.o,m.o];simp[fb,M.o.1,M.o.2]),sO,F.o⟩
      case measure=>simp[intOf];omega
     ·have f:aE (ac.alloc (.cells #[.int .u8 2] 5)) g.heap.size l a:=G.o.keep (aa.alloc (aa.refl _) _);refine aD bQ aO bT rfl (.tmp 68) (.tmp 70) rfl (ys:=[2]) f rfl rfl (br _ oM oM (ed _ sG)) sO (by simp;exact Lv N.o.size) ?_;intro v5 ad s q _;have ⟨a1,a2,_⟩:=f.after (w:=g) q (N.o.trans (aa.alloc (aa.refl _) _)) (lc _);have C:=lh s;have F:=lh a1;clear s q a1 a2 f G;go_wp2;go_roundw
      case rel=>exact⟨k+1,_,_,oM,by go_num,rfl,C.o,(by
       show _=_;rw[ag.o,m.o];simp[fb,M.o.1,M.o.2]),sO,F.o⟩
      case measure=>simp[intOf];omega
     ·have f:aE (ac.alloc (.cells #[.int .u8 1] 5)) g.heap.size l a:=G.o.keep (aa.alloc (aa.refl _) _);refine aD bQ aO bT rfl (.tmp 68) (.tmp 70) rfl (ys:=[1]) f rfl rfl (br _ oM oM (ed _ sG)) sO (by simp;exact Lv N.o.size) ?_;intro v5 ad s q _;have ⟨a1,a2,_⟩:=f.after (w:=g) q (N.o.trans (aa.alloc (aa.refl _) _)) (lc _);have C:=lh s;have F:=lh a1;clear s q a1 a2 f G;go_wp2;go_roundw
      case rel=>exact⟨k+1,_,_,oM,by go_num,rfl,C.o,(by
       show _=_;rw[ag.o,m.o];simp[fb,M.o.1,M.o.2]),sO,F.o⟩
      case measure=>simp[intOf];omega
     ·have f:aE (ac.alloc (.cells #[.int .u8 3] 5)) g.heap.size l a:=G.o.keep (aa.alloc (aa.refl _) _);refine aD bQ aO bT rfl (.tmp 68) (.tmp 70) rfl (ys:=[3]) f rfl rfl (br _ oM oM (ed _ sG)) sO (by simp;exact Lv N.o.size) ?_;intro v5 ad s q _;have ⟨a1,a2,_⟩:=f.after (w:=g) q (N.o.trans (aa.alloc (aa.refl _) _)) (lc _);have C:=lh s;have F:=lh a1;clear s q a1 a2 f G;go_wp2;go_roundw
      case rel=>exact⟨k+1,_,_,oM,by go_num,rfl,C.o,(by
       show _=_;rw[ag.o,m.o];simp[fb,M.o.1,M.o.2]),sO,F.o⟩
      case measure=>simp[intOf];omega
    ·have h:k=cs.length:=oM;subst h;have aM:=bE d.o P aB.o;have c0:IntKind.u8.wrap (sp.length:Int)=(sp.length:Int):=(by simp[IntKind.wrap,IntKind.signed,IntKind.bits];omega);clear aL bf;go_wp2_with (at_builtin;refine ae ?_);refine ar ?_;have f:aE (wr.alloc (.cells #[.int .u8 (sp.length:Int)] 5)) g.heap.size l a:=o.o.keep (aa.alloc (aa.refl _) _);refine aD bQ aO bT rfl (.tmp 72) (.tmp 77) rfl (ys:=[UInt8.ofNat sp.length]) f rfl rfl (br _ oM oM (ed _ (by rw[dH,show(sp.length:Int)%256=(sp.length:Int) from oM];simp[go_sem]))) sO (by simp;exact Lv d.o.size) ?_;intro v5 ad s q _;have ⟨a1,a2,_⟩:=f.after (w:=g) q (d.o.trans (aa.alloc (aa.refl _) _)) (lc _);have C:=lh s;have F:=lh a1;have aV:=lh (show a++[UInt8.ofNat sp.length]=b0++(List.range cs.length).flatMap (fb ⟨s0,V,X,K,Y,Z,L,a3,a5,sp,E⟩)++[UInt8.ofNat sp.length] by rw[m.o]);have bA:(a++[UInt8.ofNat sp.length]).length<=20300:=sO;generalize a++[UInt8.ofNat sp.length]=bp at C aV bA;clear s q a1 a2 f o aM al m ap;go_wp2;go_loopw [5,9] (λv i wr=>∃(k:Nat) (l:Value) (a:List UInt8),k<=sp.length/\i=.int .i64 k/\l=v/\Hid (aE wr g.heap.size l a)/\Hid (a=bp++(sp.take k).flatMap (λx=>le x.toNat 2))/\a.length<=20300+k*2/\Hid (aa g wr)) (λ_ i _=>sp.length-(intOf i).toNat)
     case atStart=>exact⟨0,_,_,lj _,rfl,rfl,C.o,(by show _=_;simp),oM,F.o⟩
     case round =>
      clear C F z ao d;obtain⟨k,l,a,ao,rfl,rfl,o,m,ap,d⟩:=hrel;have aM:=bE d.o P aB.o;have al:ah<wr.heap.size:=block_lt_of_cell aM
      by_cases z:k<sp.length
      ·obtain⟨b,aJ,aC,a7,h0⟩:=eZ (bk.o.keep (a0.v d)) k z;obtain⟨h1,bt⟩:=bm.o k z;have a6:=lh (show(sp.take (k+1)).flatMap (λx=>le x.toNat 2)=(sp.take k).flatMap (λx=>le x.toNat 2)++le sp[k].toNat 2 by rw[ly z,lF];simp);subst aC;generalize sp[k]=x at h0 h1 bt a6;obtain⟨y,rfl⟩:∃y:Nat,x=(y:Int):=⟨x.toNat,oM⟩;have bF:IntKind.u64.wrap (y:Int)=(y:Int):=wrapN _ oM;go_wp2_with (go_at_call 15;refine ae ?_);refine uM (eE y 2 oM dC _) ?_;rintro e bc ⟨vl,rfl,S,h⟩;obtain⟨aN,b1,rfl,U⟩:=S.sl aO (by rw[ay];omega);have O:=lh U;have D:=lh (o.o.keep h);have B:=d.u h;clear S h U o;go_wp2_with (at_builtin;refine ae ?_);refine ar ?_;refine aD bQ aO bT rfl (.tmp 86) (.tmp 93) rfl (ys:=le y 2) D.o rfl rfl O.o (by simp[ay];omega) (by have:=B.o.size;omega) ?_;intro vm bI T R _;have ⟨am,_,_⟩:=D.o.after R B.o (lc _);have az:=lh T;have av:=lh am;clear T R am O D B;go_wp2;go_roundw
       case rel=>exact⟨k+1,_,_,oM,by go_num,rfl,az.o,(by
        show _=_;rw[m.o,a6.o];simp),(by simp[ay];omega),av.o⟩
       case measure=>simp[intOf];omega
      ·have h:k=sp.length:=oM;subst h;rw[lC]at m;have c6:=bE d.o P aZ.o;obtain⟨y,rfl⟩:∃y:Nat,E=(y:Int):=⟨E.toNat,oM⟩;have bF:IntKind.u64.wrap (y:Int)=(y:Int):=wrapN _ oM;go_wp2_with (go_at_call 15;refine ae ?_);refine uM (eE y 4 oM dC _) ?_;rintro e bc ⟨vl,rfl,S,h⟩;obtain⟨aN,b1,rfl,U⟩:=S.sl aO (by rw[ay];omega);have O:=lh U;have D:=lh (o.o.keep h);have B:=d.u h;clear S h U o;go_wp2_with (at_builtin;refine ae ?_);refine ar ?_;refine aD bQ aO bT rfl (.tmp 95) (.tmp 99) rfl (ys:=le y 4) D.o rfl rfl O.o (by simp[ay];omega) (by have:=B.o.size;omega) ?_;intro vm bI T R _;have ⟨am,_,_⟩:=D.o.after R B.o (lc _);have az:=lh T;have av:=lh am;clear T R am O D B;go_wp2;go_ret;refine⟨_,rfl,?_,a0.o.trans av.o⟩;have:=az.o.base_mono a0.o.size;rw[m.o,aV.o,aU.o]at this
       simpa[gV]using this
theorem Qj(m:Nat)(h:m<=1):max 1 (Lib.bitLen m)=1:=by
 have:=(bitLen_le 1 m oM).2 oM;omega
theorem Qk(m:Nat)(b:1<m)(a:m<2^64):max 1 (Lib.bitLen m)=1+max 1 (Lib.bitLen (m/2)):=by
 have d:=Lib.bitLen_half m oM a;have c:¬ Lib.bitLen (m/2)<=0:=λh0=>by
  have:=(bitLen_le 0 (m/2) oM).1 h0;omega
 omega
theorem It(n:Nat)(g:n<18446744073709551616)(w:World):Rt 95 #[.int .u64 n] w (.int .i64 (jN n:Nat)):=by
 have j:=lh (show max 1 (Lib.bitLen n)=jN n from rfl);go_enter func95,ntmps95;go_wp2;go_loopw [0,3] (λvn vw wr=>∃(m k:Nat),m<18446744073709551616/\vn=.int .u64 m/\vw=.int .i64 (k:Nat)/\Hid (k+max 1 (Lib.bitLen m)=1+max 1 (Lib.bitLen n))/\k<=65/\Hid (k+max 1 (Lib.bitLen m)<=65)/\Hid (aa w wr)) (λvn _ _=>(intOf vn).toNat)
 case atStart=>exact⟨n,1,g,rfl,rfl,rfl,oM,(by show _<=_;have:=(bitLen_le 64 n oM).2 oM;omega),kP⟩
 case round =>
  obtain⟨m,k,o,rfl,rfl,a,l,b,e⟩:=hrel
  by_cases p:1<(m:Int)
  ·have i:=Qk m oM oM;have c:=lh (show(k+1)+max 1 (Lib.bitLen (m/2))=1+max 1 (Lib.bitLen n) by have:=a.o;omega);have d:=lh (show(k+1)+max 1 (Lib.bitLen (m/2))<=65 by have:=b.o;omega);have h:k+1<=65:=(by have:=d.o;omega);clear i a b;go_wp2;go_roundw
   case rel=>exact⟨m/2,k+1,oM,rfl,by go_num,c.o,h,d.o,e.o⟩
   case measure=>simp[intOf];omega
  ·have f:=Qj m oM;have c:=lh (show k=jN n by have:=a.o;have:=j.o;omega);clear a b f;go_wp2;go_ret;exact⟨dc (by rw[c.o]),e.o⟩
theorem I9(many:Nat)(c:many<=1000000000)(w:World):Rt 49 #[.int .i64 many] w (.int .i64 (cM many:Nat)):=by
 have d:=lh (λn c W=>It n c W);have b:=lh (show jN (many-1)=cM many from rfl)
 by_cases h:many<1
 ·have g:many=0:=oM;subst g;go_enter func49,ntmps49;go_wp2;go_ret;refine⟨by rw[<-b.o];rfl,kP⟩
 ·have i:IntKind.u64.wrap ((many:Int)-1)=((many-1:Nat):Int):=by rw[eO];unfold u64;omega
  go_enter func49,ntmps49;go_wp2_with (go_at_call 95;refine ae ?_);refine uM (d.o (many-1) oM _) ?_;rintro e j ⟨rfl,a⟩;have f:=lh a;clear a;go_wp2;go_ret;exact⟨dc (by rw[b.o]),f.o⟩
def hU(N q:Nat):List UInt8:=(List.range q).map λj=>UInt8.ofNat (N/2^j%2)
theorem tK(N q:Nat):(hU N q).length=q:=by simp[hU]
theorem Qn(N q:Nat):hU N (q+1)=hU N q++[UInt8.ofNat (N/2^q%2)]:=by simp[hU,List.range_succ]
theorem Cc(N q n:Nat)(h:N/2^q%2=0):le (N%2^(q+1)) n=le (N%2^q) n:=by rw[Ek,h];simp
theorem Cb(N a n:Nat)(d:a/8<n)(f:N/2^a%2=1):N%2^a/256^(a/8)%256+2^(a%8)<256/\le (N%2^(a+1)) n=(le (N%2^a) n).set (a/8) (UInt8.ofNat (N%2^a/256^(a/8)%256+2^(a%8))):=by
 have g:N%2^a<2^a:=Nat.mod_lt _ (Nat.two_pow_pos _);obtain⟨c,b⟩:=Eb (j:=a/8) g oM oM;have e:a-8*(a/8)=a%8:=oM;rw[e]at b;have h:2^(a%8)<=2^7:=Nat.pow_le_pow_right dC oM;refine⟨by rw[c];omega,?_⟩;rw[B9 _ _ _ d,f,c,or_bit b,Nat.one_mul]
theorem M8(N a:Nat)(c:a%8=0):le (N%2^a) (a/8)++[0]=le (N%2^a) (a/8+1):=by
 show _=le (N%2^a) (a/8)++[UInt8.ofNat (N%2^a/256^(a/8))];have b:N%2^a<2^a:=Nat.mod_lt _ (Nat.two_pow_pos _);have e:256^(a/8)=2^a:=by rw[se];congr 1;omega
 rw[e,Nat.div_eq_of_lt b];rfl
theorem Qo(N q i:Nat)(h:i<(hU N q).length):((hU N q)[i].toNat:Int)=((N/2^i%2:Nat):Int):=by
 have e:(hU N q)[i]=UInt8.ofNat (N/2^i%2):=by simp[hU]
 rw[e,dH];omega
theorem AV{a:Type}{w:World}{base k:Nat}{e:TypeId}{enc:a->List Value}{v:Value}{xs:List a}(b:ah w base e k enc v xs)(d:xs≠[]):∃g c,v=.slice (some ⟨g,0,none⟩) xs.length c:=by
 rcases b.2 with⟨rfl,h⟩ | ⟨g,f,i,rfl,_⟩
 ·exact absurd (Ly h) d
 ·exact⟨g,f,rfl⟩
theorem IO(A:Option Addr)(c a:Nat)(l:List Nat)(w:World)(al:Sl w 1 fr A c l)(J:1<=a)(ac:a<=64)(aP:l.length<=1000000)(r:∀x∈l,x<2^a) :
 Calls prog 50 #[.slice A l.length c,.int .i64 a] w λe w'=>∃v,e=.returned (.tuple #[v,.int .i64 0])/\aE w' w.heap.size v (fl l a)/\aa w w':=by
 have az:=lh r;have a8:2^a<=2^64:=Nat.pow_le_pow_right dC ac;have aS:=lh a8;have aC:=lh al;have av:l.length*a<=1000000*64:=Ln aP ac;have a4:=lh av;obtain⟨N,T⟩:∃N,N=fz a l:=⟨_,rfl⟩;have a9:=lh (λi k hi Z=>by rw[T];exact By l i k hi r Z:∀i k (hi:i<l.length),k<a->N/2^(i*a+k)%2=l[i]/2^k%2);have ag:=lh (show N<2^(l.length*a) by rw[T];exact vt l r);have af:=lh (show fl l a=le N ((l.length*a+7)/8) by rw[T];rfl);have aN:decide ((a:Int)<1)=false:=sO;have aA:decide (64<(a:Int))=false:=sO;clear al r a8 av T;go_enter func50,ntmps50;go_wp2;clear aN aA;go_loopw [6,7] (λvo vi wr=>∃(k:Nat) (n:Value),k<=l.length/\vi=.int .i64 k/\n=vo/\Hid (aE wr w.heap.size n (hU N (k*a)))/\Hid (aa w wr)) (λ_ i _=>l.length-(intOf i).toNat)
 case atStart=>exact⟨0,_,lj _,rfl,rfl,(by show aE _ _ _ _;rw[Lf];exact ah.nil_ _ _ _ _ _),kP⟩
 case round =>
  obtain⟨k,n,Z,rfl,rfl,d,f⟩:=hrel
  by_cases P:k<l.length
  ·obtain⟨b,aj,X,r,D⟩:=yH (aC.o.keep f.o) k P;have S:=az.o l[k] (ll P);have ad:l[k]<18446744073709551616:=lp S aS.o;have a0:=lh (λm=>a9.o k m P);have aw:k*a+a<=l.length*a:=(by rw[<-Nat.succ_mul];exact L7 _ P);obtain⟨Q,I⟩:∃Q,Q=k*a:=⟨_,rfl⟩;rw[<-I]at d aw a0;have aV:=lh I;have aZ:Q+a<=64000000:=(by have:=a4.o;omega);subst X;generalize l[k]=x at D S ad a0;have aG:=lh S;clear S I aw a9;go_wp2;clear D;go_loopw [6,8,9] (λvo vx vj wr=>∃(m:Nat) (n:Value),m<=a/\vj=.int .i64 m/\n=vo/\vx=.int .u64 ((x/2^m:Nat):Int)/\Hid (aE wr w.heap.size n (hU N (Q+m)))/\Hid (aa w wr)) (λ_ _ j _=>a-(intOf j).toNat)
   case atStart=>exact⟨0,_,lj _,rfl,rfl,(by rw[Nat.pow_zero,Nat.div_one]),d.o,f.o⟩
   case round =>
    clear d f;obtain⟨m,n,b6,rfl,rfl,rfl,d,f⟩:=hrel
    by_cases aK:m<a
    ·have au:=lh (show hU N (Q+(m+1))=hU N (Q+m)++[UInt8.ofNat (x/2^m%2)] by rw[<-a0.o m aK,<-Qn];rfl);have Y:x/2^m<18446744073709551616:=Nat.lt_of_le_of_lt (Nat.div_le_self _ _) ad;have ao:=lh (show x/2^m/2=x/2^(m+1) by rw[Nat.div_div_eq_div_mul,Nat.pow_succ]);generalize x/2^m=y at au Y ao;have aB:IntKind.u8.wrap ((y:Int)%2)=(y:Int)%2:=(by simp[IntKind.wrap,IntKind.signed,IntKind.bits];omega);go_wp2_with (at_builtin;refine ae ?_);refine ar ?_;have B:aE (wr.alloc (.cells #[.int .u8 ((y:Int)%2)] 5)) w.heap.size n (hU N (Q+m)):=d.o.keep (aa.alloc (aa.refl _) _);refine aD bQ aO bT rfl (.tmp 33) (.tmp 37) rfl (ys:=[UInt8.ofNat (y%2)]) B rfl rfl (br _ oM oM (ed _ (by rw[dH,show(((y%2:Nat):Int)%256)=(y:Int)%2 from oM];simp[go_sem]))) (by rw[tK];simp;omega) (by have:=f.o.size;simp;omega) ?_;intro aX aI H R _;have ⟨a1,a2,a3⟩:=B.after R (f.o.trans kP) (lc _);have G:=lh H;have E:=lh a1;clear H R B a1 a2 a3 aB;go_wp2;go_roundw
     case rel=>exact⟨m+1,_,oM,by go_num,rfl,(by rw[<-ao.o];rfl),(by have:=G.o;rw[<-au.o]at this;exact this),E.o⟩
     case measure=>simp[intOf];omega
    ·have aQ:m=a:=oM;subst aQ;have h:x/2^m=0:=Nat.div_eq_of_lt aG.o;rw[h];go_wp2;go_roundw
     case rel=>exact⟨k+1,_,oM,by go_num,rfl,(by have:=d.o;rw[aV.o,<-Nat.succ_mul]at this;exact this),f.o⟩
     case measure=>simp[intOf];omega
  ·have aM:k=l.length:=oM;subst aM;obtain⟨Q,I⟩:∃Q,Q=l.length*a:=⟨_,rfl⟩;rw[<-I]at d a4 af ag;have aZ:Q<=64000000:=(by have:=a4.o;omega);obtain⟨b4,b5,rfl,aq⟩:=d.o.sl aO (by rw[tK];omega);rw[tK];have aL:=lh aq;clear I aq d;go_wp2;rename World=>wm;have ap:=lh f.o;go_loopw [10,11] (λvo vi wq=>∃(i:Nat) (n:Value),i<=Q/\vi=.int .i64 i/\n=vo/\Hid (aE wq wm.heap.size n (le (N%2^i) ((i+7)/8)))/\Hid (aa wm wq)) (λ_ i _=>Q-(intOf i).toNat)
   case atStart=>exact⟨0,_,lj _,rfl,rfl,ah.nil_ _ _ _ _ _,kP⟩
   case round =>
    clear f P Z;obtain⟨i,n,hi,rfl,rfl,d,f⟩:=hrel
    by_cases aF:i<Q
    ·have ai:i<(hU N Q).length:=(by rw[tK];exact aF);obtain⟨b,aj,X,r,D⟩:=jw aL.o i ai;rw[Qo]at D;subst X;have ak:=lh (λW (hW:aa wm W)=>(hW.cell (p:=⟨b,aj+i,none⟩) r).trans D);have ab:=lh r;have b2:(i:Int).tmod 8=(i:Int)%8:=Int.tmod_eq_emod_of_nonneg oM;have b3:(i:Int).tdiv 8=(i:Int)/8:=Int.tdiv_eq_ediv_of_nonneg oM;have F:=lh (show(i+1+7)/8=i/8+1 from oM);clear ai D r
     by_cases aJ:i%8=0
     ·have Y:((i:Int)%8==0)=true:=sO;have g:=M8 N i aJ;rw[show(i+7)/8=i/8 from oM]at d;have s:=lh g;clear g;go_wp2_with (at_builtin;refine ae ?_);refine ar ?_;have B:aE (wr.alloc (.cells #[.int .u8 0] 5)) wm.heap.size n (le (N%2^i) (i/8)):=d.o.keep (aa.alloc (aa.refl _) _);refine aD bQ aO bT rfl (.tmp 52) (.tmp 53) rfl (ys:=[0]) B rfl rfl (br _ oM oM (ed _ sG)) (by rw[ay];simp;omega) (by have:=f.o.size;simp;omega) ?_;intro aX aI H R _;have ⟨a1,a2,a3⟩:=B.after R (f.o.trans kP) (lc _);rw[s.o]at H;have G:=lh H;have E:=lh a1;clear H R B a1 a2 a3 d f;have J:=ak.o _ E.o;have aR:=lp ab.o E.o.size
      rcases Nat.mod_two_eq_zero_or_one (N/2^i) with h|h
      ·rw[h]at J;have g:=Cc N i (i/8+1) h;have s:=lh g;clear g h;go_wp2;go_roundw
       case rel=>exact⟨i+1,_,oM,by go_num,rfl,(by have:=G.o;rw[<-s.o,<-F.o]at this;exact this),E.o⟩
       case measure=>simp[intOf];omega
      ·rw[h]at J;obtain⟨M,g⟩:=Cb N i (i/8+1) oM h;clear h;obtain⟨ax,aT,rfl⟩:=AV G.o (λe=>by have:=congrArg List.length e;rw[ay]at this;simp at this);obtain⟨o,a5,aW,L⟩:=G.o.cell1 nT rfl (i/8) (by rw[ay];omega);rw[ay];have q:=G.o;rw[ay]at q;rw[nJ,dH]at o;obtain⟨j,z⟩:∃j,j=i/8:=⟨_,rfl⟩;obtain⟨t,O⟩:∃t,t=i%8:=⟨_,rfl⟩;have aH:(i:Int)/8=(j:Int):=oM;have b1:(i:Int)%8=(t:Int):=oM;have b0:t<8:=oM;rw[<-z,<-O]at M g;rw[<-z]at o a5 q F|-;generalize U:N%2^i/256^j%256=y at o M g;have K:(((y:Nat):Int)%256)=(y:Int):=oM;rw[K]at o;have a7:=lh q;have s:=lh g;clear U K z O q g;have C:=a7.o.set1 nT (by rw[ay]) j (UInt8.ofNat (y+2^t)) (u:=.int .u8 (((y:Int)+2^t)%256)) (by rw[dH];push_cast;rfl);rw[<-s.o]at C;have V:=lh C;have a6:=lh L;clear C L;go_wp2;exact⟨⟨i+1,_,oM,by go_num,rfl,(by rw[F.o];exact V.o),E.o.setCell a6.o _⟩,by simp[intOf];omega⟩
     ·have Y:((i:Int)%8==0)=false:=sO;rw[show(i+7)/8=i/8+1 from oM]at d;have J:=ak.o _ f.o;have aR:=lp ab.o f.o.size
      rcases Nat.mod_two_eq_zero_or_one (N/2^i) with h|h
      ·rw[h]at J;have g:=Cc N i (i/8+1) h;have s:=lh g;clear g h;go_wp2;go_roundw
       case rel=>exact⟨i+1,_,oM,by go_num,rfl,(by have:=d.o;rw[<-s.o,<-F.o]at this;exact this),f.o⟩
       case measure=>simp[intOf];omega
      ·rw[h]at J;obtain⟨M,g⟩:=Cb N i (i/8+1) oM h;clear h;obtain⟨ax,aT,rfl⟩:=AV d.o (λe=>by have:=congrArg List.length e;rw[ay]at this;simp at this);obtain⟨o,a5,aW,L⟩:=d.o.cell1 nT rfl (i/8) (by rw[ay];omega);rw[ay];have q:=d.o;rw[ay]at q;rw[nJ,dH]at o;obtain⟨j,z⟩:∃j,j=i/8:=⟨_,rfl⟩;obtain⟨t,O⟩:∃t,t=i%8:=⟨_,rfl⟩;have aH:(i:Int)/8=(j:Int):=oM;have b1:(i:Int)%8=(t:Int):=oM;have b0:t<8:=oM;rw[<-z,<-O]at M g;rw[<-z]at o a5 q F|-;generalize U:N%2^i/256^j%256=y at o M g;have K:(((y:Nat):Int)%256)=(y:Int):=oM;rw[K]at o;have a7:=lh q;have s:=lh g;clear U K z O q g;have C:=a7.o.set1 nT (by rw[ay]) j (UInt8.ofNat (y+2^t)) (u:=.int .u8 (((y:Int)+2^t)%256)) (by rw[dH];push_cast;rfl);rw[<-s.o]at C;have V:=lh C;have a6:=lh L;clear C L;go_wp2;exact⟨⟨i+1,_,oM,by go_num,rfl,(by rw[F.o];exact V.o),f.o.setCell a6.o _⟩,by simp[intOf];omega⟩
    ·have aU:i=Q:=oM;subst aU;have aY:=lh (show le (N%2^i) ((i+7)/8)=fl l a by rw[af.o,Nat.mod_eq_of_lt ag.o]);go_wp2;exact bodyPost_ret (v:=.tuple #[n,.int .i64 0]) (by simp[results,results50,go_sem]) rfl ⟨_,rfl,(by have:=d.o.base_mono ap.o.size;rw[aY.o]at this;exact this),ap.o.trans f.o⟩
theorem O4:dX prog 104 47 1 8:=by
 obtain⟨i,hi,c,a,b⟩:=info_parts sM;exact⟨i,_,underlying104,hi,c,a,b,rfl,dC,dC⟩
theorem xH(x:Nat):(fr x).length=1:=rfl
theorem FZ(x:Nat):∀u∈fr x,u.oneCell'=true:=by simp[fr,Value.oneCell']
theorem zG(A:Option Addr)(c many:Nat)(xs:List Nat)(w:World)(z:Sl w 1 dD A c xs)(s:xs.length<=1000000)(H:many<=16777216)(a:∀x∈xs,x<many) :
 Rb 22 #[.slice A xs.length c,.int .i64 many] w (jl xs.length many (cM many) (fl xs (cM many))):=by
 have ai:=lh z;have P:=lh (λW=>I9 many oM W);have y:=lh (λA c W hs=>IO A c (cM many) xs W hs (tZ many) (by have:=mX many H;omega) s λx hx'=>xr many x H (a x hx'));have ac:=lh a;have af:=mX many H;have aH:=z.cap;have ab:(fl xs (cM many)).length<=30000000:=by
  unfold fl;rw[ay];have:xs.length*cM many<=1000000*24:=Ln s af;omega
 have F:=lh ab;generalize N:xs.length=n at s aH y;have o:=lh N;clear z a ab N;have aF:IntKind.u64.wrap (n:Int)=(n:Int):=wrapN _ oM;have au:IntKind.u64.wrap (many:Int)=(many:Int):=wrapN _ oM;have av:IntKind.u8.wrap (cM many:Int)=(cM many:Int):=by simp[IntKind.wrap,IntKind.signed,IntKind.bits];omega
 generalize fl xs (cM many)=PB at y F;go_enter func22,ntmps22;go_wp2_with (go_at_call 15;refine ae ?_);refine uM (eE n 4 oM dC _) ?_;rintro e aR ⟨aW,rfl,T,a9⟩;have a3:=lh T;have ap:=lh a9;clear T a9 aF;go_wp2_with (go_at_call 15;refine ae ?_);refine uM (eE many 4 oM dC _) ?_;rintro e aX ⟨vl,rfl,R,l⟩;obtain⟨Q,Y,rfl,f⟩:=R.sl aO (by rw[ay];omega);have d:=lh f;have t:=lh (a3.o.keep l);have G:=ap.u l;clear R l f a3;go_wp2_with (at_builtin;refine ae ?_);refine ar ?_;refine aD bQ aO bT rfl (.tmp 13) (.tmp 16) rfl (ys:=le many 4) t.o rfl rfl d.o (by simp[ay]<;>omega) (by have:=G.o.size;omega) ?_;intro vm aM a0 a2 _;have ⟨am,_,_⟩:=t.o.after a2 G.o (lc _);have K:=lh a0;have aG:=lh am;clear a0 a2 am d t G;clear au;go_wp2_with (go_at_call 49;refine ae ?_);refine uM (P.o _) ?_;rintro e al ⟨rfl,p⟩;have S:=lh (K.o.keep p);have L:=aG.u p;clear p K;go_wp2_with (at_builtin;refine ae ?_);refine ar ?_;have r:aE (al.alloc (.cells #[.int .u8 (cM many:Int)] 5)) w.heap.size vm (le n 4++le many 4):=S.o.keep (aa.alloc (aa.refl _) _)
 refine aD bQ aO bT rfl (.tmp 18) (.tmp 22) rfl (ys:=[UInt8.ofNat (cM many)]) r rfl rfl (br _ oM oM (ed _ (by rw[dH,show(cM many:Int)%256=(cM many:Int) from oM];simp[go_sem]))) (by simp[ay]) (by have:=L.o.size;simp;omega) ?_;intro v5 aZ Z O _;have ⟨a1,_,_⟩:=r.after (w:=w) O (L.o.trans kP) (lc _);have aB:=lh Z;have q:=lh a1;clear Z O a1 r S av;go_wp2;rename World=>wm;have aQ:=q.o.size;go_loopw [6,7] (λvo vi wq=>∃(k:Nat) (m:Value),k<=n/\vi=.int .i64 k/\m=vo/\Hid (ah wq wm.heap.size 47 1 fr m (xs.take k))/\Hid (aa wm wq)) (λ_ i _=>n-(intOf i).toNat)
 case atStart=>exact⟨0,_,lj _,rfl,rfl,ah.nil_ _ _ _ _ _,kP⟩
 case round =>
  obtain⟨k,m,aU,rfl,rfl,g,h⟩:=hrel
  by_cases aA:k<n
  ·have E:k<xs.length:=(by rw[o.o];exact aA);obtain⟨b,aP,ao,aN,ag⟩:=jS (ai.o.keep (q.v h)) k E;have a:=ac.o xs[k] (ll E);have M:=lh (show xs.take (k+1)=xs.take k++[xs[k]]from ly E);have az:=lh (show(xs.take k).length=k by rw[lD];omega);subst ao;generalize xs[k]=x at ag a M;have aq:IntKind.u64.wrap (x:Int)=(x:Int):=wrapN _ oM;go_wp2_with (at_builtin;refine ae ?_);refine ar ?_;have D:ah (wr.alloc (.cells #[.int .u64 (x:Int)] 47)) wm.heap.size 47 1 fr m (xs.take k):=g.o.keep (aa.alloc (aa.refl _) _);refine aD O4 xH FZ rfl (.tmp 30) (.tmp 36) rfl (ys:=[x]) D rfl rfl (br _ oM oM (λj u hu=>by
    match j,hu with
    | 0,hu=>cases hu;simp[go_sem])) (by have:=az.o;simp;omega) (by have:=h.o.size;simp;omega) ?_
   intro aI aS a7 I _;have ⟨a1,_,_⟩:=D.after (w:=wm) I (h.o.trans kP) (lc _);have ak:=lh a7;have aC:=lh a1;clear a7 I a1 D aq;go_wp2;go_roundw
   case rel=>exact⟨k+1,_,oM,by go_num,rfl,(by have:=ak.o;rw[<-M.o]at this;exact this),aC.o⟩
   case measure=>simp[intOf];omega
  ·have l:k=n:=oM;have X:xs.take k=xs:=lM (by have:=o.o;omega);rw[X]at g;obtain⟨Q,Y,rfl,f⟩:=g.o.sl xH (by have:=o.o;omega);have d:=lh f;rw[o.o];clear X f g;go_wp2_with (go_at_call 49;refine ae ?_);refine uM (P.o _) ?_;rintro e aJ ⟨rfl,B⟩;have a6:=lh (d.o.keep B);have ad:=h.u B;clear B d;go_wp2_with (go_at_call 50;refine ae ?_);refine uM (y.o Q Y _ a6.o) ?_;rintro e aY ⟨v9,rfl,J,a8⟩;have C:=ad.u a8;obtain⟨aK,aL,rfl,U⟩:=J.sl aO (by have:=F.o;omega);have aw:=lh U;have a4:=lh (aB.o.keep C.o);clear J a8 U a6;go_wp2_with (at_builtin;refine ae ?_);refine ar ?_;refine aD bQ aO bT rfl (.tmp 45) (.tmp 46) rfl (ys:=PB) a4.o rfl rfl aw.o (by have:=F.o;simp[ay];omega) (by have:=C.o.size;omega) ?_;intro aT aV a5 V _;have ⟨b1,_,_⟩:=a4.o.after (w:=w) V (q.v C) (lc _);have aj:=lh a5;have ax:=lh b1;clear a5 V b1;go_wp2;go_ret;exact⟨_,rfl,aj.o,ax.o⟩
end Go.Proofs.YtpkocnpamcchcaaGreatDoor
