/- Parts. -/
import Derived.Laws.ResultCell
import Derived.Test.YtpkocnpamcchcaaGreatDoorL18
set_option maxRecDepth 100000
set_option maxHeartbeats 40000000
set_option linter.all false
namespace Go.Zone
open Go.RowKit
theorem J2{b:Type}{w:World}{base g n k:Nat}{e:TypeId}{enc:b->List Value}{xs:List b}(h:∀x,(enc x).length=k)(d:ak w g e (xs.flatMap enc))(a:xs.length=n)(f:base<=g)(i:n<=9223372036854775807):ah w base e k enc (.slice (some ⟨g,0,none⟩) n n) xs:=by
 have c:=eL h xs;refine⟨?_,.inr ⟨g,n,(xs.flatMap enc).toArray,by rw[a],f,d,?_,?_,?_,?_⟩⟩
 all_goals first|(simp[a,c];done)|(show List.take (xs.length*k) (xs.flatMap enc)=xs.flatMap enc;rw[<-c,lC];done)|(rw[a];exact lc _)|(unfold maxLen;omega)|skip
end Go.Zone
namespace Go.Proofs.YtpkocnpamcchcaaGreatDoor
open Go.RowKit Go.Zone Go.Shelf Tryz Go.Roa
theorem ED(x y z k v:Nat)(d:k<1024)(c:z=if k=0 then x else y)(a:v=if k=0 then y else 0):(W0 z).set k v=W0 y:=by
 by_cases e:k=0
 ·subst e;rw[if_pos rfl]at a;rw[a,EE]
 ·rw[if_neg e]at c a;subst c;have f:=tL z k (by rw[eT];exact d);rw[if_neg e]at f;have b:=@List.set_getElem_self _ (W0 z) k (by rw[eT];exact d);rw[f]at b;rw[a];exact b
theorem Kx(x y:Nat)(w:World)(b:x<18446744073709551616)(c:y<18446744073709551616):Rt 260 #[.int .u64 (x:Int),.int .u64 (y:Int)] w (.int .u64 ((x ||| y:Nat):Int)):=by
 have a:bits .or .u64 (x:Int) (y:Int)=((x ||| y:Nat):Int):=u64_or_nat x y b c;generalize x ||| y=z at a|-
 go_enter func260,ntmps260;go_wp2;go_ret;exact⟨rfl,aa.refl _⟩
theorem Fb(A B:Option Addr)(c d x y:Nat)(w:World)(a7:x<18446744073709551616)(a8:y<18446744073709551616)(q:jp w A c x)(s:jp w B d y) :
 Calls prog 259 #[.slice A 1024 c,.slice B 1024 d,.func (.func 260) #[] #[]] w λe w'=>∃v,e=.returned v/\ei w' w.heap.size v (x ||| y)/\aa w w':=by
 obtain⟨b,ab,rfl,a2⟩:=pT q;obtain⟨a9,ac,rfl,a1⟩:=pT s;have a5:=lh q;have V:=lh s;obtain⟨W',G,O,J⟩:=BP w;have a:=lh O;have f:=lh J;clear q s O J;generalize Q:w.heap.size=g at a G;have a4:=lh Q;clear Q;go_enter func259,ntmps259;go_wp2;clear G;go_loopw [15] (λvi wr=>∃k:Nat,k<=1024/\vi=.int .i64 k/\Hid (ei wr g (.slice (some ⟨g,0,none⟩) 1024 1024) (if k=0 then 0 else x ||| y))/\Hid (aa w wr)) (λvi _=>1024-(intOf vi).toNat)
 case atStart=>exact⟨0,oM,rfl,a.o,f.o⟩
 case round =>
  clear a f;obtain⟨k,ad,rfl,a,f⟩:=hrel
  by_cases j:k<1024
  ·have N:=pU (a5.o.keep f.o) k j;have R:=pU (V.o.keep f.o) k j;have T:=lp a2 f.o.size;have Y:=lp a1 f.o.size;obtain⟨p,l⟩:∃p,p=if k=0 then x else 0:=⟨_,rfl⟩
   obtain⟨h,m⟩:∃h,h=if k=0 then y else 0:=⟨_,rfl⟩
   rw[<-l]at N;rw[<-m]at R;have a6:p<18446744073709551616:=(by rw[l];split<;>omega);have X:h<18446744073709551616:=(by rw[m];split<;>omega);have P:=lh (λW=>Kx p h W a6 X);obtain⟨z,C⟩:∃z,z=if k=0 then 0 else x ||| y:=⟨_,rfl⟩
   rw[<-C]at a;have L:=lh (ED 0 (x ||| y) z k (p ||| h) j C (by rw[l,m];by_cases e:k=0<;>simp[e]));obtain⟨o,Z,n,F⟩:=a.o.cell1 jt (eT z).symm k (by rw[eT];exact j);have E:=lh (λW (hW:aa wr W)=>(show ei (W.setCell ⟨g,k,none⟩ (.int .u64 ((p ||| h:Nat):Int))) g (.slice (some ⟨g,0,none⟩) 1024 1024) (x ||| y) from by
    have M:=(a.o.keep hW).set1 jt (eT z).symm k (p ||| h) rfl;rw[L.o]at M;exact M))
   have a3:=lh F;have I:=lh (λW (hW:aa wr W)=>(hW.cell (p:=⟨g,k,none⟩) n).trans o);have U:=lh (λW (hW:aa wr W)=>((a.o.keep hW).cell1 jt (eT z).symm k (by rw[eT];exact j)).2.1);generalize (W0 z)[k]'(by rw[eT];exact j)=t at o I;generalize p ||| h=r at P E
   have a0:¬ k+1=0:=Nat.succ_ne_zero _;clear F l m C L a;go_wp2;refine zN 12 kR ?_;simp only[lX,lR,lZ,L4]
   repeat
    refine aR (λK hK=>?_);go_simp
    first
    | (refine hK _ _ ?_;clear hK K)
    | (apply Exists.intro
       refine⟨λp=>?_,hK _ _ ?_⟩
       ((go_at_call 260;exact Zone.zc (P.o _)))
       clear hK K)
   refine bG ?_;intro D;simp only[aj];have i:aa wr (wr.gro D):=kP;generalize wr.gro D=u at i|-;have H:=lh i;have ae:=I.o u i;have d1:=U.o u i;have d2:=lp n i.size;clear o Z n N R T Y i;go_wp2;go_roundw
   case rel=>exact⟨k+1,oM,by go_num,(by show ei _ _ _ _;rw[if_neg a0];exact E.o u H.o),(f.v H).setCell (by rw[a4.o];exact a3.o) _⟩
   case measure=>simp[intOf];omega
  ·have S:k=1024:=oM;subst S;rw[if_neg dC]at a;go_wp2;exact bodyPost_ret (v:=.slice (some ⟨g,0,none⟩) 1024 1024) (by simp[results,results259,go_sem]) rfl ⟨_,rfl,a.o,f.o⟩
theorem xp(A B:Option Addr)(c d x y:Nat)(w:World)(j:x<18446744073709551616)(f:y<18446744073709551616)(a:jp w A c x)(b:jp w B d y) :
 Calls prog 217 #[.slice A 1024 c,.slice B 1024 d] w λe w'=>∃v,e=.returned v/\ei w' w.heap.size v (x ||| y)/\aa w w':=by
 have h:=lh (Fb A B c d x y w j f a b);clear a b;go_enter func217,ntmps217;go_wp2_with (go_at_call 259;refine ae ?_);refine uM h.o ?_;rintro e k ⟨v,rfl,g,i⟩;go_wp2;go_ret;exact⟨v,rfl,g,i⟩
theorem FT:(prog.info? 47).map (·.size)=some 1:=kR
theorem MR(a:World):∃W',(Instr.makeSlice 104 (.int .i64 1024) (.int .i64 1024)).run prog a=.ok (.slice (some ⟨a.heap.size,0,none⟩) 1024 1024) W'/\ak W' a.heap.size 47 ((W0 0).flatMap fr)/\aa a W':=by
 obtain⟨i,hi,c,d,b⟩:=info_parts sM;have h:=run_make (P:=prog) a 104 47 i _ underlying104 hi c .i64 .i64 1024 1024 oM oM (by rw[b];omega) oM;refine⟨_,h,?_,aa.alloc (aa.refl _) _⟩;rw[d];have e:(madeCells (Value.int .u64 0).cells ((1024:Int).toNat*1))=((W0 0).flatMap fr).toArray:=by
  rw[QJ,show(1024:Int).toNat*1=1024 from rfl];generalize 1024=n;apply Array.ext
  ·simp[madeCells,eL mY]
  ·intro i c d;have b:i<n:=(by simpa[madeCells]using c);have f:=flat_get (k:=1) (enc:=fr) mY (List.replicate n 0) i 0 (by simpa using b) (.int .u64 0) (by simp[fr]);rw[Lb,lE]at f;obtain⟨_,g⟩:=Lw.1 f;simp[madeCells,Value.cells,Nat.mod_one,g]
 rw[e];exact bH _ _ _
theorem Fa(A:Option Addr)(c x lo hi:Nat)(w:World)(T:x<18446744073709551616)(G:jp w A c x)(ac:lo<hi)(a9:hi<=64) :
 Calls prog 251 #[.slice A 1024 c,.int .i64 lo,.int .i64 hi] w λe w'=>∃v,e=.returned v/\ei w' w.heap.size v (g9 x lo hi)/\aa w w':=by
 have U:=lh G;obtain⟨W',P,M,K⟩:=MR w;have f:=lh M;have l:=lh K;clear G M K;generalize N:w.heap.size=g at f P;have y:=lh N;clear N;go_enter func251,ntmps251;go_wp2_with (with_reducible refine qu 14 ?_);refine ar ?_;clear P;refine xh rfl (.tmp 12) (.tmp 13) 104 104 47 rfl underlying104 FT mY FY rfl rfl (eT x).symm (U.o.keep l.o) f.o (by rw[eL mY,eT]) ?_;intro a5 Q R;have C:=lh (J2 mY Q (eT x) (lc g) dC);have q:=lh (ag.after l.o R (λi hi=>by simp only[lm]at hi;rw[hi,y.o];exact lc _));clear Q R f l;have ab:max (lo:Int) 0=(lo:Int):=oM;have a8:min (hi:Int) 65536=(hi:Int):=oM;go_wp2;go_loopw [19] (λvi wr=>∃k:Nat,k<=1024/\vi=.int .i64 k/\Hid (ei wr g (.slice (some ⟨g,0,none⟩) 1024 1024) (if k=0 then x else g9 x lo hi))/\Hid (aa w wr)) (λvi _=>1024-(intOf vi).toNat)
 case atStart=>exact⟨0,oM,rfl,C.o,q.o⟩
 case round =>
  clear C q;obtain⟨k,af,rfl,f,l⟩:=hrel
  by_cases I:k<1024
  ·have au:decide ((k:Int)<1024)=true:=sO;have ao:(k:Int)<1024:=oM;obtain⟨h,E⟩:∃h,h=64*k:=⟨_,rfl⟩;have ad:IntKind.i64.wrap (64*(k:Int))=(h:Int):=iW oM;obtain⟨t,B⟩:∃t,t=h+64:=⟨_,rfl⟩;have a3:IntKind.i64.wrap ((h:Int)+64)=(t:Int):=iW oM;have s:¬ k+1=0:=Nat.succ_ne_zero _
   by_cases j:k=0
   ·rw[if_pos j]at f;have W:max (lo:Int) (h:Int)=(lo:Int):=oM;have X:min (hi:Int) (t:Int)=(hi:Int):=oM;have L:=lh (ED x (g9 x lo hi) x k (g9 x lo hi) I (by rw[if_pos j]) (by rw[if_pos j]));obtain⟨S,aj,ah,F⟩:=f.o.cell1 jt (eT x).symm k (by rw[eT];exact I);rw[tL,if_pos j]at S;have p:=f.o.set1 jt (eT x).symm k (g9 x lo hi) rfl;rw[L.o]at p;have o:=lh p;obtain⟨d,J⟩:∃d,d=hi-lo:=⟨_,rfl⟩;obtain⟨u,D⟩:∃u,u=64-d:=⟨_,rfl⟩;have a4:IntKind.i64.wrap ((hi:Int)-(lo:Int))=(d:Int):=iW oM;have ai:IntKind.i64.wrap (64-(d:Int))=(u:Int):=iW oM;have al:u<64:=oM;have aq:lo<64:=oM;obtain⟨a,m⟩:∃a:Nat,a=(2^64-1) >>> u:=⟨_,rfl⟩;have ae:(18446744073709551615:Int)/2^u=(a:Int):=by
     rw[m,Nat.shiftRight_eq_div_pow,Int.natCast_ediv];simp
    have a2:a<18446744073709551616:=(by rw[m];exact Nat.lt_of_le_of_lt (Nat.shiftRight_le _ _) dC);obtain⟨b,n⟩:∃b:Nat,b=(a <<< lo)%2^64:=⟨_,rfl⟩;have a0:b<18446744073709551616:=(by rw[n];exact Nat.mod_lt _ dC);have a6:IntKind.u64.wrap ((a:Int)*2^lo)=(b:Int):=by
     rw[show((a:Int)*2^lo)=((a <<< lo:Nat):Int) by rw[Nat.shiftLeft_eq];simp];generalize (a <<< lo:Nat)=z at n;rw[IntKind.wrap_u64];omega
    have O:=lh (show g9 x lo hi=x ^^^ b by unfold g9;rw[n,m,D,J]);have Y:bits .xor .u64 (x:Int) (b:Int)=((g9 x lo hi:Nat):Int):=(by rw[O.o];exact u64_xor_nat x b T a0);have a7:IntKind.i64.wrap ((lo:Int)-(h:Int))=(lo:Int):=iW oM;have a1:decide ((lo:Int)<(hi:Int))=true:=sO;generalize g9 x lo hi=r at Y o;have H:=lh (l.o.setCell (a:=⟨g,k,none⟩) (by rw[y.o];exact F) (.int .u64 (r:Int)));clear E B j p F J D m n O L f;go_wp2;go_region;generalize Z:wr.setCell ⟨g,k,none⟩ (.int .u64 (r:Int))=ap at o H|-;clear Z;go_wp2;go_roundw
    case rel=>exact⟨k+1,oM,by go_num,(by show ei _ _ _ _;rw[if_neg s];exact o.o.keep kP),H.o.trans kP⟩
    case measure=>simp[intOf];omega
   ·rw[if_neg j]at f;have W:max (lo:Int) (h:Int)=(h:Int):=oM;have X:min (hi:Int) (t:Int)=(hi:Int):=oM;have a1:decide ((h:Int)<(hi:Int))=false:=sO;have ak:¬(h:Int)<(hi:Int):=oM;clear E B j;go_wp2;go_roundw
    case rel=>exact⟨k+1,oM,by go_num,(by show ei _ _ _ _;rw[if_neg s];exact f.o),l.o⟩
    case measure=>simp[intOf];omega
  ·have V:k=1024:=oM;subst V;rw[if_neg dC]at f;go_wp2;exact bodyPost_ret (v:=.slice (some ⟨g,0,none⟩) 1024 1024) (by simp[results,results251,go_sem]) rfl ⟨_,rfl,f.o,l.o⟩
end Go.Proofs.YtpkocnpamcchcaaGreatDoor
namespace Go.Proofs.YtpkocnpamcchcaaGreatDoor
open Go.RowKit Go.Zone Go.Shelf Tryz Go.Roa
theorem cU{a:Type}{w:World}{base k:Nat}{e:TypeId}{enc:a->List Value}{v:Value}{xs:List a}(b:ah w base e k enc v xs)(d:∀x,(enc x).length=k)(f:xs.length<=1000000):∃A c,v=.slice A xs.length c/\Sl w k enc A c xs:=b.sl d oM
theorem fO{a:Type}{w:World}{base k c:Nat}{e:TypeId}{enc:a->List Value}{A:Option Addr}{xs:List a}(b:ah w base e k enc (.slice A xs.length c) xs)(g:∀x,(enc x).length=k)(f:xs.length<=1000000):Sl w k enc A c xs:=by
 obtain⟨i,h,he,d⟩:=cU b g f;injection he with h1 _ h3;subst h1;subst h3;exact d
theorem ux{w:World}{A:Option Addr}{c x:Nat}(a:ei w 0 (.slice A 1024 c) x):jp w A c x:=by
 have b:ah w 0 47 1 fr (.slice A (W0 x).length c) (W0 x):=by rw[eT];exact a
 exact fO b mY (by rw[eT];decide)
inductive bP (w:World):ap->Value->Prop
 | arr (a:List Nat) (k:Nat) (A:Option Addr) (c:Nat) (hk:k=0\/k=1) (h:cJ w 0 (.slice A a.length c) a):bP w (.arr a) (.agg #[.int .u8 k,.slice A a.length c,.slice none 0 0,.slice none 0 0])
 | wrd (x:Nat) (A:Option Addr) (c:Nat) (h:ei w 0 (.slice A 1024 c) x):bP w (.wrd x) (.agg #[.int .u8 2,.slice none 0 0,.slice A 1024 c,.slice none 0 0])
 | run (r:List Pr) (A:Option Addr) (c:Nat) (h:ib w 0 (.slice A r.length c) r):bP w (.run r) (.agg #[.int .u8 3,.slice none 0 0,.slice none 0 0,.slice A r.length c])
theorem bP.keep{w e:World}{c:ap}{v:Value}(b:bP w c v)(d:aa w e):bP e c v:=by
 cases b with
 | arr a k A c hk' b=>exact .arr a k A c hk' (b.keep d)
 | wrd x A c b=>exact .wrd x A c (b.keep d)
 | run r A c b=>exact .run r A c (b.keep d)
theorem mG{w:World}{c:ap}{v:Value}(b:bP w c v):Rt 170 #[v] w (.int .u8 (c.kind:Nat)):=by
 cases b with
 | arr a k A c hk b =>
   simp only[ap.kind];generalize a.length=n;have d:max (k:Int) 1=1:=oM;clear b;go_enter func170,ntmps170;go_wp2;go_ret;exact⟨rfl,kP⟩
 | wrd x A c b =>
   simp only[ap.kind];clear b;go_enter func170,ntmps170;go_wp2;go_ret;exact⟨rfl,kP⟩
 | run r A c b =>
   simp only[ap.kind];generalize r.length=n;clear b;go_enter func170,ntmps170;go_wp2;go_ret;exact⟨rfl,kP⟩
theorem QD{w:World}{a:List Nat}{v:Value}(h:bP w (.arr a) v):Rt 206 #[v] w (.int .i64 (a.length:Nat)):=by
 cases h with
 | arr _ k A c hk h =>
   generalize a.length=n;clear h;go_enter func206,ntmps206;go_wp2;go_ret;exact⟨rfl,kP⟩
theorem E6{w:World}{x:Nat}{v:Value}(a:bP w (.wrd x) v):Rt 207 #[v] w (.int .i64 (eI x:Nat)):=by
 cases a with
 | wrd _ A c a =>
   have b:=lh (λW (hW:aa w W)=>E8 A c x W ((ux a).keep hW));generalize eI x=t at b|-;clear a;go_enter func207,ntmps207;go_wp2_with (go_at_call 245;refine ae ?_);refine uM (b.o _ kP) ?_;rintro e g ⟨rfl,f⟩;have d:=lh (aa.trans (show aa w _ from kP) f);go_wp2;go_ret;exact⟨rfl,d.o⟩
theorem IG{w:World}{r:List Pr}{v:Value}(a:bP w (.run r) v)(f:∀p∈r,p.1+p.2+1<=64)(d:r.length<=65536):Rt 208 #[v] w (.int .i64 (((r.map λp=>p.2+1).sum:Nat):Int)):=by
 cases a with
 | run _ A c a =>
   have b:=lh (λW (hW:aa w W)=>I3 A c r W ((fO a gv oM).keep hW) f d);generalize (r.map λp=>p.2+1).sum=t at b|-;generalize r.length=n at b|-;clear a f d;go_enter func208,ntmps208;go_wp2_with (go_at_call 246;refine ae ?_);refine uM (b.o _ kP) ?_;rintro e i ⟨rfl,h⟩;have g:=lh (aa.trans (show aa w _ from kP) h);go_wp2;go_ret;exact⟨rfl,g.o⟩
def Fit(c:ap):Prop:=c.Good/\c.W<=2000
theorem tG{w:World}{c:ap}{v:Value}(b:bP w c v)(i:Fit c):Rt 172 #[v] w (.int .i64 (c.len TB:Nat)):=by
 have d:=lh (λW (hW:aa w W)=>mG (b.keep hW));obtain⟨g,f⟩:=i
 cases b with
 | arr a k A c hk b =>
   have e:=lh (λW (hW:aa w W)=>QD (.arr a k A c hk (b.keep hW)));simp only[ap.kind]at d;rw[show((1:Nat):Int)=1 from rfl]at d;have h:∀W,(Instr.index 274 (.agg #[.nilFunc,.func (.func 206) #[] #[],.func (.func 207) #[] #[],.func (.func 208) #[] #[]]) (.int .u8 1)).run prog W=.ok (.func (.func 206) #[] #[]) W:=λW=>kR;simp only[ap.len];generalize a.length=n at d e|-;clear b g f;go_enter func172,ntmps172;go_wp2;refine zR kR ?_
   repeat
    refine aR (λK hK=>?_);go_simp
    first
    | (refine hK _ _ ?_;clear hK K)
    | (apply Exists.intro
       refine⟨λp=>?_,hK _ _ ?_⟩
       (first|(go_at_call 170;exact Zone.zc (d.o _ kP))|(go_at_call 206;exact Zone.zc (e.o _ kP)))
       clear hK K)
   refine bG ?_;intro p;simp only[aj];go_wp2;go_ret;exact⟨rfl,kP⟩
 | wrd x A c b =>
   have e:=lh (λW (hW:aa w W)=>E6 (.wrd x A c (b.keep hW)));simp only[ap.kind]at d;rw[show((2:Nat):Int)=2 from rfl]at d;have h:∀W,(Instr.index 274 (.agg #[.nilFunc,.func (.func 206) #[] #[],.func (.func 207) #[] #[],.func (.func 208) #[] #[]]) (.int .u8 2)).run prog W=.ok (.func (.func 207) #[] #[]) W:=λW=>kR;simp only[ap.len,TB];generalize eI x=t at e|-;clear b g f;go_enter func172,ntmps172;go_wp2;refine zR kR ?_
   repeat
    refine aR (λK hK=>?_);go_simp
    first
    | (refine hK _ _ ?_;clear hK K)
    | (apply Exists.intro
       refine⟨λp=>?_,hK _ _ ?_⟩
       (first|(go_at_call 170;exact Zone.zc (d.o _ kP))|(go_at_call 207;exact Zone.zc (e.o _ kP)))
       clear hK K)
   refine bG ?_;intro p;simp only[aj];go_wp2;go_ret;exact⟨rfl,kP⟩
 | run r A c b =>
   have e:=lh (λW (hW:aa w W)=>IG (.run r A c (b.keep hW)) g (by simp only[ap.W]at f;omega));simp only[ap.kind]at d;rw[show((3:Nat):Int)=3 from rfl]at d;have h:∀W,(Instr.index 274 (.agg #[.nilFunc,.func (.func 206) #[] #[],.func (.func 207) #[] #[],.func (.func 208) #[] #[]]) (.int .u8 3)).run prog W=.ok (.func (.func 208) #[] #[]) W:=λW=>kR;simp only[ap.len];generalize (r.map λp=>p.2+1).sum=t at e|-;generalize r.length=n at d e|-;clear b g f;go_enter func172,ntmps172;go_wp2;refine zR kR ?_
   repeat
    refine aR (λK hK=>?_);go_simp
    first
    | (refine hK _ _ ?_;clear hK K)
    | (apply Exists.intro
       refine⟨λp=>?_,hK _ _ ?_⟩
       (first|(go_at_call 170;exact Zone.zc (d.o _ kP))|(go_at_call 208;exact Zone.zc (e.o _ kP)))
       clear hK K)
   refine bG ?_;intro p;simp only[aj];go_wp2;go_ret;exact⟨rfl,kP⟩
theorem MM{w:World}{c:ap}{v:Value}(b:bP w c v)(j:Fit c):Rt 243 #[v] w (.int .i64 (c.many TB:Nat)):=by
 obtain⟨g,f⟩:=j
 cases b with
 | arr a k A c hk b =>
   have d:=lh (λW (hW:aa w W)=>Qv A c a W ((fO b dB (by simp only[ap.W]at f;omega)).keep hW) g (by simp only[ap.W]at f;omega));simp only[ap.many];generalize iF a a.length=t at d|-;generalize a.length=n at d|-;have q:((k:Int)==2)=false:=sO;have m:((k:Int)==3)=false:=sO;have o:¬(k:Int)=2:=oM;have p:¬(k:Int)=3:=oM;clear b g f hk;go_enter func243,ntmps243;go_wp2_with (go_at_call 273;refine ae ?_);refine uM (d.o _ kP) ?_;rintro e l ⟨rfl,i⟩;have h:=lh (aa.trans (show aa w _ from kP) i);go_wp2;go_ret;exact⟨rfl,h.o⟩
 | wrd x A c b =>
   have d:=lh (λW (hW:aa w W)=>EM A c x W g ((ux b).keep hW));simp only[ap.many,TB];generalize eI (x &&& (18446744073709551615-x*2%18446744073709551616))=t at d|-;clear b g f;go_enter func243,ntmps243;go_wp2_with (go_at_call 272;refine ae ?_);refine uM (d.o _ kP) ?_;rintro e l ⟨rfl,i⟩;have h:=lh (aa.trans (show aa w _ from kP) i);go_wp2;go_ret;exact⟨rfl,h.o⟩
 | run r A c b =>
   simp only[ap.many];generalize r.length=n;clear b g f;go_enter func243,ntmps243;go_wp2;go_ret;exact⟨rfl,kP⟩
theorem wL{w:World}{c:ap}{v:Value}(b:bP w c v)(s:Fit c)(q:Tab w):Calls prog 211 #[v] w λe w'=>∃u,e=.returned u/\cJ w' w.heap.size u (c.list TB)/\aa w w':=by
 obtain⟨l,g⟩:=s;have p:=lh q
 cases b with
 | arr a k A c hk b =>
   have h:=lh (λW (hW:aa w W)=>tD A c a W ((fO b dB (by simp only[ap.W]at g;omega)).keep hW) (by simp only[ap.W]at g;omega));simp only[ap.list];generalize m:a.length=n at h|-;have C:((k:Int)==2)=false:=sO;have t:((k:Int)==3)=false:=sO;have y:¬(k:Int)=2:=oM;have B:¬(k:Int)=3:=oM;clear b l g hk m;go_enter func211,ntmps211;go_wp2_with (go_at_call 205;refine ae ?_);refine uM (h.o _ kP) ?_;rintro e o ⟨D,z,rfl,d,f⟩;have j:=lh (d.base_mono (show w.heap.size<=_ from sP));have i:=lh (aa.trans (show aa w _ from kP) f);clear d f;go_wp2;go_ret;exact⟨_,rfl,j.o,i.o⟩
 | wrd x A c b =>
   have h:=lh (λW (hW:aa w W)=>E7 A c x W l ((ux b).keep hW) (p.o.keep hW));simp only[ap.list,TB];clear b l g;go_enter func211,ntmps211;go_wp2_with (go_at_call 252;refine ae ?_);refine uM (h.o _ kP) ?_;rintro e o ⟨u,rfl,d,f⟩;have j:=lh (d.base_mono (show w.heap.size<=_ from sP));have i:=lh (aa.trans (show aa w _ from kP) f);clear d f;go_wp2;go_ret;exact⟨_,rfl,j.o,i.o⟩
 | run r A c b =>
   have h:=lh (λW (hW:aa w W)=>I2 A c r W ((fO b gv (by simp only[ap.W]at g;omega)).keep hW) l (by simp only[ap.W]at g;omega));simp only[ap.list];generalize m:r.length=n at h|-;clear b l g m;go_enter func211,ntmps211;go_wp2_with (go_at_call 253;refine ae ?_);refine uM (h.o _ kP) ?_;rintro e o ⟨u,rfl,d,f⟩;have j:=lh (d.base_mono (show w.heap.size<=_ from sP));have i:=lh (aa.trans (show aa w _ from kP) f);clear d f;go_wp2;go_ret;exact⟨_,rfl,j.o,i.o⟩
theorem BZ{c:ap}(f:Fit c):(∀x∈c.list TB,x<64)/\(c.list TB).length<=65536:=by
 obtain⟨b,d⟩:=f
 cases c with
 | arr a=>exact⟨b,by simp only[ap.W]at d;simp only[ap.list];omega⟩
 | wrd x=>exact⟨wP (λx _=>qW x) 64 x,by have:=qF fi 64 x;simp only[ap.list,TB];omega⟩
 | run r=>exact⟨B0 b,by
    simp only[ap.W]at d;simp only[ap.list,sy];have e:∀p∈r,p.1+p.2+1<=64:=b;have:=uq r (B:=64) (λp hp=>by have:=e p hp;omega);omega⟩
theorem iz:(prog.info? 237).map (·.size)=some 4:=kR
theorem QR{l:Type}{w h:World}{k c g:Nat}{enc:l->List Value}{A:Option Addr}{xs:List l}{p:TypeId}{d:List Value}(a:Sl w k enc A c xs)(f:ak w g p d)(r:ag w h [g])(y:∀x,(enc x).length=k)(v:0<k)(q:∀x∈xs,∀u∈enc x,u∉d):Sl h k enc A c xs :=
 ⟨a.cap,a.big,a.len,λi hi=>by
  obtain⟨b,m,s,n⟩:=a.at_ i hi;refine⟨b,m,s,λj u hu=>r.cell (n j u hu) ?_⟩;simp only[lm];intro e;subst e;have o:=n j u hu;have t:d[m+i*k+j]? =some u:=by
   unfold ak at f;simp only[World.cell?,f]at o
   simpa using o
  exact q xs[i] (ll _) u (List.mem_of_getElem? hu) (List.mem_of_getElem? t)⟩
theorem zI{fn:Func}{p u:Tmp}{ty:TypeId}(b:fn.results=#[.cell p ty,.tmp u])(a:Array Value)(w:World)(g:Nat)(cs:Array Value)
 (c:a.getD p undef=.pointer (some ⟨g,0,none⟩)) (e:(loadVar ty ⟨g,0,none⟩).run prog w=.ok (.agg cs) w) :
 (results fn a).run prog w=.ok (.tuple #[.agg cs,a.getD u undef]) w:=by
 have d:a[p]?.getD undef=.pointer (some ⟨g,0,none⟩):=by simpa using c
 rw[results_cell_tmp b];simp[d,asAddr,e]
theorem BW{w:World}{g:Nat}{a b c d:Value}(h:ak w g 237 [a,b,c,d]):(loadVar 237 ⟨g,0,none⟩).run prog w=.ok (.agg #[a,b,c,d]) w :=
 run_loadVar_row w g _ 237 #[a,b,c,d] (0,0) _ h underlying237 rfl iz
theorem DW{w:World}{c:ap}{v:Value}(g:bP w c v)(F:Fit c)(N:Tab w):Calls prog 209 #[v] w λe w'=>∃u,e=.returned u/\ib w' w.heap.size u (c.runs TB)/\aa w w':=by
 have f:=lh (λW (hW:aa w W)=>wL (g.keep hW) F (N.keep hW));have j:=lh (BZ F);obtain⟨G,o⟩:=F
 cases g with
 | arr a k A c hk g =>
   have i:=lh (λW B d (hW:Sl W 1 cT B d a)=>zy B d a W hW j.o.1 j.o.2);simp only[ap.list]at f;simp only[ap.runs];have t:a.length<=1000000:=(by simp only[ap.W]at o;omega);have q:=lh t;generalize C:a.length=n at f i t|-;have Q:((k:Int)==3)=false:=sO;have S:¬(k:Int)=3:=oM;clear g G o hk j;go_enter func209,ntmps209;go_wp2_with (go_at_call 211;refine ae ?_);refine uM (f.o _ kP) ?_;rintro e J ⟨u,rfl,b,h⟩;obtain⟨B,d,s,y⟩:=cU b dB q.o;have l:=lh (aa.trans (show aa w _ from kP) h);have p:=lh (i.o _ B d y);rw[C]at s;subst s;clear b h y f C i q;go_wp2_with (go_at_call 248;refine ae ?_);refine uM p.o ?_;rintro e L ⟨P,rfl,b,z⟩;have E:=lh (b.base_mono l.o.size);have D:=l.u z;clear b z p;go_wp2;go_ret;exact⟨_,rfl,E.o,D.o⟩
 | wrd x A c g =>
   have i:=lh (λW B d (hW:Sl W 1 cT B d (dP fi 64 x))=>zy B d _ W hW j.o.1 j.o.2);have t:=qF fi 64 x;simp only[ap.list,TB]at f;simp only[ap.runs,TB];generalize dP fi 64 x=K at f i t|-;have q:=lh (show K.length<=1000000 from oM);clear g G o j t;go_enter func209,ntmps209;go_wp2_with (go_at_call 211;refine ae ?_);refine uM (f.o _ kP) ?_;rintro e J ⟨u,rfl,b,h⟩;obtain⟨B,d,s,y⟩:=cU b dB q.o;have l:=lh (aa.trans (show aa w _ from kP) h);have p:=lh (i.o _ B d y);generalize H:K.length=m at s p;have M:=lh H;subst s;clear b h y f i q H;go_wp2_with (go_at_call 248;refine ae ?_);refine uM p.o ?_;rintro e L ⟨P,rfl,b,z⟩;have E:=lh (b.base_mono l.o.size);have D:=l.u z;clear b z p;go_wp2;go_ret;exact⟨_,rfl,(by rw[M.o];exact E.o),D.o⟩
 | run r A c g =>
   have I:=lh (λW (hW:aa w W)=>PT A c r W ((fO g gv (by simp only[ap.W]at o;omega)).keep hW) (by simp only[ap.W]at o;omega));simp only[ap.runs];generalize C:r.length=n at I|-;clear g G o C f j;go_enter func209,ntmps209;go_wp2_with (go_at_call 247;refine ae ?_);refine uM (I.o _ kP) ?_;rintro e J ⟨T,R,rfl,b,h⟩;have O:=lh (b.base_mono (show w.heap.size<=_ from sP));have l:=lh (aa.trans (show aa w _ from kP) h);clear b h;go_wp2;go_ret;exact⟨_,rfl,O.o,l.o⟩
theorem KO(A:Option Addr)(c:Nat)(a:List Nat)(w:World)(j:Sl w 1 cT A c a)(hi:nY a)(o:a.length<=65536) :
 Calls prog 202 #[.slice A a.length c] w λe w'=>∃v,e=.returned (.tuple #[v,.bool true])/\bP w' (.arr a) v/\aa w w':=by
 have x:=lh (λW (hW:aa w W)=>QB A c a W (j.keep hW) hi o);have F:=lh (λW (hW:aa w W)=>tD A c a W (j.keep hW) oM);generalize t:a.length=n at x F;have r:=lh t;clear j hi o t;go_enter func202,ntmps202;go_wp2_with (go_at_call 242;refine ae ?_);refine ar ?_;have C:ak (w.alloc (.cells #[.int .u8 0,.slice none 0 0,.slice none 0 0,.slice none 0 0] 237)) w.heap.size 237 [.int .u8 0,.slice none 0 0,.slice none 0 0,.slice none 0 0]:=bH _ _ _;refine(x.o _ kP).mono ?_;rintro e T ⟨rfl,m⟩;have s:=lh (C.keep m);have z:=lh (aa.trans (show aa w _ from kP) m);clear m C;generalize G:w.heap.size=g at s|-;have h:=lh G;clear G;go_wp2_with (go_at_call 205;refine ae ?_);refine uM (F.o _ z.o) ?_;rintro e k ⟨f,d,rfl,E,l⟩;have D:=E.base_mono (lj _);have I:=z.u l;have b:=lh (s.o.keep l);have B:=lh D;have R:=b.o.cell 0 _ rfl;have K:=b.o.cell 1 _ rfl;have S:=b.o.cell 2 _ rfl;have Q:=b.o.cell 3 _ rfl;have U:=b.o.soft 0;have L:=b.o.soft 1;have P:=b.o.soft 2;have M:=b.o.soft 3;have N:=b.o.lt;clear E l D;have y:=lh ((((b.o.set 0 (.int .u8 1)).set 1 (.slice f n d)).set 2 (.slice none 0 0)).set 3 (.slice none 0 0))
 have q:=lh ((((I.o.setCell (a:=⟨g,0,none⟩) (lV h.o) (.int .u8 1)).setCell (a:=⟨g,1,none⟩) (lV h.o) (.slice f n d)).setCell (a:=⟨g,2,none⟩) (lV h.o) (.slice none 0 0)).setCell (a:=⟨g,3,none⟩) (lV h.o) (.slice none 0 0));have J:=lh (show ∀W,ag k W [g]->bP W (.arr a) (.agg #[.int .u8 1,.slice f n d,.slice none 0 0,.slice none 0 0]) from λW ht=>by
  have:=bP.arr (w:=W) a 1 f d (.inr rfl) (by rw[r.o];exact ah.turn B.o ht λi hi=>by simp only[lm]at hi;subst hi;exact bu B.o b.o dC)
  rwa [r.o]at this)
 have H:=lh ((((ag.set k ⟨g,0,none⟩ (.int .u8 1)).trans (ag.set _ ⟨g,1,none⟩ (.slice f n d))).trans (ag.set _ ⟨g,2,none⟩ (.slice none 0 0))).trans (ag.set _ ⟨g,3,none⟩ (.slice none 0 0)));go_wp2;generalize (((k.setCell ⟨g,0,none⟩ (.int .u8 1)).setCell ⟨g,1,none⟩ (.slice f n d)).setCell ⟨g,2,none⟩ (.slice none 0 0)).setCell ⟨g,3,none⟩ (.slice none 0 0)=O at y q H|-;exact bodyPost_ret (v:=.tuple #[.agg #[.int .u8 1,.slice f n d,.slice none 0 0,.slice none 0 0],.bool true]) (zI (fn:=Tryz.f202) (p:=2) (u:=3) (ty:=237) rfl _ _ g #[.int .u8 1,.slice f n d,.slice none 0 0,.slice none 0 0] rfl (BW y.o)) rfl ⟨_,rfl,J.o _ H.o,q.o⟩
end Go.Proofs.YtpkocnpamcchcaaGreatDoor
