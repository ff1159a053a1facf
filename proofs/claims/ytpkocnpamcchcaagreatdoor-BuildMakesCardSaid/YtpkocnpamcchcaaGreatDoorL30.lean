/- Parts. -/
import Derived.Test.YtpkocnpamcchcaaGreatDoorL25
set_option maxRecDepth 100000
set_option maxHeartbeats 40000000
set_option linter.all false
namespace Go.Proofs.YtpkocnpamcchcaaGreatDoor
open Go.RowKit Go.Zone Go.Shelf Tryz Go.Roa Go.Star Go.Sym
attribute [local go_sem ↓] kx mc
attribute [local go_sem] kU mL kJ kH kG mh QU mg mf kA
def EF(f:Nat)(j:Array Value)(h:Rc->Rc->Int)(i:Rc->Prop)(k:World)(g c base N d:Nat):Prop :=
 ∀(a m b:Nat) (xs:List Rc) (w:World),b-a<=d->(∀x∈xs,i x)->ag k w [g]->xs.length=N->bX w base (.slice (some ⟨g,0,none⟩) N c) xs->a<m->m<b->b<=N->bO (bU h) (aB xs a m)->bO (bU h) (aB xs m b) ->
   Calls prog 221 #[.slice (some ⟨g,0,none⟩) N c,.int .i64 a,.int .i64 m,.int .i64 b,.func (.func f) #[] j] w λe w'=>e=.returned (.tuple #[])/\∃ys,cA (bU h) xs a b ys/\bX w' base (.slice (some ⟨g,0,none⟩) N c) ys/\ag w w' [g]
theorem Fj(f:Nat)(a9:Array Value)(t:Rc->Rc->Int)(aw:Rc->Prop)(ab:World)(g c base N d:Nat)(b7:cF (bU t))(az:mP f a9 t aw ab g)(br:N<=1000000000)(bc:EF f a9 t aw ab g c base N d)
 (a m b:Nat) (xs:List Rc) (w:World) (bS:b-a<=d+1) (aW:∀x∈xs,aw x) (b9:ag ab w [g]) (aX:xs.length=N) (aU:bX w base (.slice (some ⟨g,0,none⟩) N c) xs) (bR:a+1<m) (bZ:m+1<b) (bo:b<=N) (aV:bO (bU t) (aB xs a m)) (aY:bO (bU t) (aB xs m b)) :
 Calls prog 221 #[.slice (some ⟨g,0,none⟩) N c,.int .i64 a,.int .i64 m,.int .i64 b,.func (.func f) #[] a9] w λe a4=>e=.returned (.tuple #[])/\∃ys,cA (bU t) xs a b ys/\bX a4 base (.slice (some ⟨g,0,none⟩) N c) ys/\ag w a4 [g]:=by
 have Q:=lh aU;have bh:=lh az.call;have bM:=az.enter;have af:=lh aW;have aq:=lh b9;have O:=lh b7;have T:=lh aV;have Y:=lh aY;have H:=lh aX;have aJ:=lh bc;obtain⟨u,bz⟩:∃u,u=m-a:=⟨_,rfl⟩;have bl:IntKind.i64.wrap ((m:Int)-(a:Int))=(u:Int):=iW oM;have ba:¬((u:Int)=1):=oM;have bA:((u:Int)==1)=false:=by simp[ba]
 obtain⟨v,bB⟩:∃v,v=b-m:=⟨_,rfl⟩;have bm:IntKind.i64.wrap ((b:Int)-(m:Int))=(v:Int):=iW oM;have bb:¬((v:Int)=1):=oM;have bC:((v:Int)==1)=false:=by simp[bb]
 obtain⟨q,P⟩:∃q,q=(a+b)/2:=⟨_,rfl⟩;have b5:((a:Int)+(b:Int))/2=(q:Int):=oM;obtain⟨n,b6⟩:∃n,n=q+m:=⟨_,rfl⟩;have bn:IntKind.i64.wrap ((q:Int)+(m:Int))=(n:Int):=iW oM;obtain⟨p,bu⟩:∃p,p+1=n:=⟨n-1,oM⟩;have bP:IntKind.i64.wrap ((n:Int)-1)=(p:Int):=iW oM;obtain⟨lo,F⟩:∃lo,lo=if q<m then q+m-b else a:=⟨_,rfl⟩
 obtain⟨hi,C⟩:∃hi,hi=if q<m then q else m:=⟨_,rfl⟩
 have bs:lo<=hi:=by rw[F,C];split<;>omega
 have bV:hi<=m:=by rw[C];split<;>omega
 have bY:a<q:=oM;have c0:q<b:=oM;have bj:=lh P;have aL:=lh b6;have aI:=lh (show ∀s,lo<=s->s<=hi->(s=hi\/∃(l:p-s<xs.length) (o:s<xs.length),bU t xs[p-s] xs[s]=true)->(s=lo\/∃(l:p-(s-1)<xs.length) (o:s-1<xs.length),bU t xs[p-(s-1)] xs[s-1]=false)->oa (bU t) xs a m b s from λs s1 s2 s3 s4=>by
  subst P;refine⟨by rw[<-F];exact s1,by rw[<-C];exact s2,λh=>?_,λh=>?_⟩
  ·rw[<-C]at h
   rcases s3 with s3 | ⟨l,o,a3⟩
   ·omega
   ·have e:(a+b)/2+m-1-s=p-s:=oM;refine⟨oM,o,?_⟩;simp only[e];exact a3
  ·rw[<-F]at h
   rcases s4 with s4 | ⟨l,o,a3⟩
   ·omega
   ·have e:(a+b)/2+m-s=p-(s-1):=oM;refine⟨oM,o,?_⟩;simp only[e];exact a3)
 have aK:=lh (show ∀s,lo<=s->s<hi->s<N/\s<=p/\p-s<N from λs s1 s2=>by
  rw[F]at s1;rw[C]at s2;refine⟨by split at s2<;>omega,by split at s2<;>omega,by split at s1<;>omega⟩)
 clear aU az aW b9 b7 aV aY aX bc bz bB b6 bu P;go_enter func221,ntmps221;go_upto_if 140 with fail;go_cut [20,21]from 138 to 146 (λs20 s21 wx=>s20=.int .i64 lo/\s21=.int .i64 hi/\wx=w)
 case first =>
  by_cases a8:q<m
  ·rw[if_pos a8]at F C;have bN:IntKind.i64.wrap ((n:Int)-(b:Int))=(lo:Int):=(by have:=aL.o;rw[IntWalk.i64_in _ ⟨oM,oM⟩];omega);subst C;clear F;go_wp2;go_meet
   case rel=>exact⟨rfl,rfl,rfl⟩
  ·rw[if_neg a8]at F C;subst F;subst C;go_wp2;go_meet
   case rel=>exact⟨rfl,rfl,rfl⟩
 case rest =>
  rename World=>wz;obtain⟨rfl,rfl,B⟩:=hcut
  replace B:=B.symm
  subst B;clear F C b5 bn bl bm ba bA bb bC;go_wp2;go_loopw [20,21] (λvi vj wr=>∃i j:Nat,vi=.int .i64 i/\vj=.int .i64 j/\lo<=i/\i<=j/\j<=hi/\Hid (i=lo\/∃(l:p-(i-1)<xs.length) (o:i-1<xs.length),bU t xs[p-(i-1)] xs[i-1]=false)/\Hid (j=hi\/∃(l:p-j<xs.length) (o:j<xs.length),bU t xs[p-j] xs[j]=true)/\Hid (aa w wr)) (λvi vj _=>(intOf vj).toNat-(intOf vi).toNat)
  case atStart=>exact⟨lo,hi,rfl,rfl,lc _,bs,lc _,.inl rfl,.inl rfl,aa.refl _⟩
  case round =>
   obtain⟨i,j,rfl,rfl,b0,bp,b1,ac,ad,D⟩:=hrel
   by_cases bW:i<j
   ·obtain⟨h,a8⟩:∃h:Nat,h=(i+j)/2:=⟨_,rfl⟩;have b5:((i:Int)+(j:Int))/2=(h:Int):=oM;have bw:i<=h:=oM;have c1:h<j:=oM;obtain⟨c2,c3,bx⟩:=aK.o h oM oM;have aD:h<xs.length:=(by have:=H.o;omega);have aC:p-h<xs.length:=(by have:=H.o;omega);obtain⟨a0,bI,a2⟩:=iV (Q.o.keep D.o) H.o h aD;obtain⟨aS,bk,_⟩:=iV (Q.o.keep D.o) H.o (p-h) aC;have R:=lh (λW (hW:ag ab W [g])=>bh.o W xs[p-h] xs[h] (af.o _ (ll _)) (af.o _ (ll _)) hW);have a5:=lh (λM:t xs[p-h] xs[h]<0=>(show h=hi\/∃(l:p-h<xs.length) (o:h<xs.length),bU t xs[p-h] xs[h]=true from .inr ⟨aC,aD,decide_eq_true M⟩));have a6:=lh (λM:¬ t xs[p-h] xs[h]<0=>(show h+1=lo\/∃(l:p-(h+1-1)<xs.length) (o:h+1-1<xs.length),bU t xs[p-(h+1-1)] xs[h+1-1]=false from .inr ⟨aC,aD,decide_eq_false M⟩));have aQ:=lh (aq.o.trans (ag.keep D.o _));generalize t xs[p-h] xs[h]=z at R a5 a6;generalize bD:xs[h]=x at a0 R;generalize bF:xs[p-h]=y at aS R;obtain⟨r,b8⟩:∃r,r=p-h:=⟨_,rfl⟩;have bQ:IntKind.i64.wrap ((p:Int)-(h:Int))=(r:Int):=iW oM;rw[<-b8]at aS bk bx;clear bD bF a8 b8
    by_cases M:z<0
    ·have av:=lh (a5.o M);clear a5 a6;go_wp2;refine zR kR ?_
     repeat
           refine aR (λK hK=>?_);go_simp
           first
           | (refine hK _ _ ?_;clear hK K)
           | (apply Exists.intro
              refine⟨λp=>?_,hK _ _ ?_⟩
              ((go_at_fn f;exact Zone.zc (R.o _ (aQ.o.trans (ag.keep kP _)))))
              clear hK K)
     refine bG ?_;intro bH;simp only[aj];go_wp2;go_roundw
     case rel=>exact⟨i,h,rfl,rfl,b0,bw,oM,ac.o,av.o,D.o.trans kP⟩
     case measure=>simp[intOf];omega
    ·have av:=lh (a6.o M);have bT:decide (z<0)=false:=decide_eq_false M;clear a5 a6;go_wp2;refine zR kR ?_
     repeat
           refine aR (λK hK=>?_);go_simp
           first
           | (refine hK _ _ ?_;clear hK K)
           | (apply Exists.intro
              refine⟨λp=>?_,hK _ _ ?_⟩
              ((go_at_fn f;exact Zone.zc (R.o _ (aQ.o.trans (ag.keep kP _)))))
              clear hK K)
     refine bG ?_;intro bH;simp only[aj];go_wp2;go_roundw
     case rel=>exact⟨h+1,j,by go_num,rfl,oM,oM,b1,av.o,ad.o,D.o.trans kP⟩
     case measure=>simp[intOf];omega
   ·have bq:j=i:=oM;subst bq;have S:=lh (aI.o j b0 b1 ad.o ac.o);clear ac ad aK aI;obtain⟨e,he⟩:∃e,e=n-j:=⟨_,rfl⟩;have aZ:=pm O.o oM oM (by have:=H.o;omega) T.o Y.o S.o;have P:=bj.o;have bt:=aL.o;have aA:(a+b)/2+m-j=e:=oM;rw[aA]at aZ;obtain⟨bJ,ax,ay,bK,_,_⟩:=aZ;have bL:IntKind.i64.wrap ((n:Int)-(j:Int))=(e:Int):=iW oM;have a7:b<=xs.length:=(by have:=H.o;omega);have aE:=CO O.o oM oM a7 T.o Y.o S.o;have aF:=λk=>CQ O.o oM oM a7 T.o Y.o S.o k;have aG:=λ(d2:List Rc) o k=>CP (d2:=d2) O.o oM oM a7 T.o Y.o S.o o k;have aH:=λ(d2 d3:List Rc) o a3=>x5 (d2:=d2) (d3:=d3) O.o oM oM a7 T.o Y.o S.o o a3;rw[aA,<-P]at aE aF aG aH;have bd:(bv xs j m e).length=N:=(iL xs j m e ax ay oM).trans H.o;have bf:=zp (d:=xs) ax ay af.o;have bg:¬(j<m/\m<e)->bv xs j m e=xs:=λk=>by
     rcases (show j=m\/e=m from oM) with l|l
     ·rw[l];exact uR xs m e ay
     ·rw[l];exact rT xs j m ax
    have Z:=lh (λ(l:j<m) (o:m<e)=>Fv g c base j m e N xs H.o (.func (.func f) #[] a9) wr (Q.o.keep D.o) l o oM br);have X:=lh aE;have ai:=lh aF;have aN:=lh aG;have ak:=lh aH;have al:=lh bd;have ao:=lh bf;have ap:=lh bg;clear aE aF aG aH bd bf bg P bt aA he bp;generalize bE:bv xs j m e=ys at Z X ai aN ak al ao ap;clear bE;go_upto_region 39 with fail;go_cut [185]from 178 to 185 (λsb wx=>∃A:Bool,sb=.bool A/\Hid (A=decide (j<m/\m<e))/\wx=wr)
    case first =>
     by_cases l:j<m
     ·by_cases o:m<e
      ·go_wp2;go_meet
       case rel=>exact⟨_,rfl,(by show _=_;simp[l,o]),rfl⟩
      ·go_wp2;go_meet
       case rel=>exact⟨_,rfl,(by show _=_;simp[l,o]),rfl⟩
     ·go_wp2;go_meet
      case rel=>exact⟨_,rfl,(by show _=_;simp[l]),rfl⟩
    case rest =>
    rename World=>wz;obtain⟨A,rfl,G,B⟩:=hcut
    replace B:=B.symm
    subst B;go_upto_if 185 with fail;go_cut []from 186 to 191 (λwx=>Hid (bX wx base (.slice (some ⟨g,0,none⟩) N c) ys)/\Hid (ag wr wx [g]))
    case first =>
     by_cases k:j<m/\m<e
     ·obtain rfl:A=true:=G.o.trans (decide_eq_true k);have I:=lh (Z.o k.1 k.2);clear k Z;go_wp2_with (go_at_call 264;refine ae ?_);refine uM I.o ?_;rintro aT a4 ⟨rfl,J,L⟩;have U:=lh J;have a1:=lh L;clear J L I;go_wp2;go_meet
      case rel=>exact⟨U.o,a1.o⟩
     ·obtain rfl:A=false:=G.o.trans (decide_eq_false k);have V:=lh (ap.o k);clear k Z;go_wp2;go_meet
      case rel=>exact⟨by show bX _ _ _ _;rw[V.o];exact Q.o.keep D.o,ag.refl _ _⟩
    case rest =>
    rename World=>w3;obtain⟨ah,aO⟩:=hcut;have ar:=lh ((ag.keep D.o [g]).trans aO.o);clear Z ap aO D Q
    trace_state
    go_upto_region 41 with fail;go_cut [199]from 192 to 199 (λsb wx=>∃A:Bool,sb=.bool A/\Hid (A=decide (a<j/\j<q))/\wx=w3)
    case first =>
     by_cases l:a<j
     ·by_cases o:j<q
      ·go_wp2;go_meet
       case rel=>exact⟨_,rfl,(by show _=_;simp[l,o]),rfl⟩
      ·go_wp2;go_meet
       case rel=>exact⟨_,rfl,(by show _=_;simp[l,o]),rfl⟩
     ·go_wp2;go_meet
      case rel=>exact⟨_,rfl,(by show _=_;simp[l]),rfl⟩
    case rest =>
    rename World=>wz;obtain⟨A,rfl,G,B⟩:=hcut
    replace B:=B.symm
    subst B;go_upto_if 199 with fail;go_cut []from 200 to 205 (λwx=>∃d2,Hid (cA (bU t) ys a q d2)/\Hid (bX wx base (.slice (some ⟨g,0,none⟩) N c) d2)/\Hid (ag w3 wx [g]))
    case first =>
     by_cases k:a<j/\j<q
     ·obtain rfl:A=true:=G.o.trans (decide_eq_true k);have I:=lh (aJ.o a j q ys w3 oM ao.o (aq.o.trans ar.o) al.o ah.o k.1 k.2 oM X.o.1 X.o.2.1);clear k;go_wp2_with (go_at_call 221;refine ae ?_);refine uM I.o ?_;rintro aT a4 ⟨rfl,d2,b3,J,L⟩;have E:=lh b3;have U:=lh J;have a1:=lh L;clear J L I b3;go_wp2;go_meet
      case rel=>exact⟨d2,E.o,U.o,a1.o⟩
     ·obtain rfl:A=false:=G.o.trans (decide_eq_false k);have V:=lh (ai.o k);clear k;go_wp2;go_meet
      case rel=>exact⟨ys,V.o,ah.o,ag.refl _ _⟩
    case rest =>
    rename World=>w4;obtain⟨d2,E,aM,aP⟩:=hcut;have au:=lh (ar.o.trans aP.o);clear ai ah aP ar;go_upto_region 43 with fail;go_cut [213]from 206 to 213 (λsb wx=>∃A:Bool,sb=.bool A/\Hid (A=decide (q<e/\e<b))/\wx=w4)
    case first =>
     by_cases l:q<e
     ·by_cases o:e<b
      ·go_wp2;go_meet
       case rel=>exact⟨_,rfl,(by show _=_;simp[l,o]),rfl⟩
      ·go_wp2;go_meet
       case rel=>exact⟨_,rfl,(by show _=_;simp[l,o]),rfl⟩
     ·go_wp2;go_meet
      case rel=>exact⟨_,rfl,(by show _=_;simp[l]),rfl⟩
    case rest =>
    rename World=>wz;obtain⟨A,rfl,G,B⟩:=hcut
    replace B:=B.symm
    subst B
    by_cases k:q<e/\e<b
    ·obtain rfl:A=true:=G.o.trans (decide_eq_true k);have b2:d2.length=N:=E.o.len.trans al.o;have s1:bO (bU t) (aB d2 q e):=(by rw[nz E.o.back];exact X.o.2.2.1);have s2:bO (bU t) (aB d2 e b):=(by rw[nz (qD oM E.o.back)];exact X.o.2.2.2);have I:=lh (aJ.o q e b d2 w4 oM (E.o.mem O.o oM ao.o) (aq.o.trans au.o) b2 aM.o k.1 k.2 bo s1 s2);clear k b2 s1 s2;go_wp2_with (go_at_call 221;refine ae ?_);refine uM I.o ?_;rintro aT a4 ⟨rfl,d3,b4,J,L⟩;have bi:=lh b4;have U:=lh J;have a1:=lh L;clear J L I b4;go_wp2;go_end0;exact⟨rfl,d3,ak.o d2 d3 E.o bi.o,U.o,au.o.trans a1.o⟩
    ·obtain rfl:A=false:=G.o.trans (decide_eq_false k);have V:=lh (ak.o d2 d2 E.o (aN.o d2 E.o k));clear k;go_wp2;go_end0;exact⟨rfl,d2,V.o,aM.o,au.o⟩
theorem xw(f:Nat)(j:Array Value)(e:Rc->Rc->Int)(i:Rc->Prop)(k:World)(g c base N:Nat)(o:cF (bU e))(l:mP f j e i k g)(n:N<=1000000000):∀d,EF f j e i k g c base N d
 | 0=>λa m b _ _ hd _ _ _ _ ham hmb _ _ _=>oM
 | d+1=>λa m b xs w hd hM ht hN h ham hmb hb hL hR=>by
   by_cases p:m=a+1
   ·exact Fh f j e i k g c base a m b N xs w o l hM ht hN h p hmb hb n hR
   ·by_cases q:b=m+1
    ·exact Fg f j e i k g c base a m b N xs w o l hM ht hN h oM q hb n hL
    ·exact Fj f j e i k g c base N d o l n (xw f j e i k g c base N o l n d) a m b xs w hd hM ht hN h oM oM hb hL hR
theorem Fo(f:Nat)(O:Array Value)(j:Rc->Rc->Int)(C:Rc->Prop)(P:World)(g c base n:Nat)(xs:List Rc)(w:World)(M:cF (bU j))(a0:mP f O j C P g)(F:∀x∈xs,C x)(E:ag P w [g])(ac:xs.length=n)(ab:bX w base (.slice (some ⟨g,0,none⟩) n c) xs)(af:n<=1000000000) :
 Calls prog 180 #[.slice (some ⟨g,0,none⟩) n c,.int .i64 n,.func (.func f) #[] O] w λe G=>e=.returned (.tuple #[])/\∃ys,ga (bU j) xs ys/\bX G base (.slice (some ⟨g,0,none⟩) n c) ys/\ag w G [g]:=by
 have a3:=lh ab;have a9:=lh M;have a7:=lh F;have aj:=lh ac;have T:=lh (λ(a b:Nat) (ys:List Rc) (W:World) (F:∀x∈ys,C x) (hW:ag w W [g]) (hn:ys.length=n) (ho2:bX W base (.slice (some ⟨g,0,none⟩) n c) ys) (Y:a<=b) (z:b<=n)=>FA f O j C P g c base a b n ys W M a0 F (E.trans hW) hn ho2 Y z af);have aa:=lh (λ(a m b:Nat) (ys:List Rc) (W:World) (F:∀x∈ys,C x) (hW:ag w W [g]) (hn:ys.length=n) (ho2:bX W base (.slice (some ⟨g,0,none⟩) n c) ys) (ham:a<m) (hmb:m<b) (z:b<=n) hL hR=>xw f O j C P g c base n M a0 af (b-a) a m b ys W (lc _) F (E.trans hW) hn ho2 ham hmb z hL hR);clear ab a0 F E ac M;go_enter func180,ntmps180;go_wp2;go_loopw [7,8] (λva vb wr=>∃(k a b:Nat) (ys:List Rc),va=.int .i64 a/\vb=.int .i64 b/\b=a+20/\a<=n/\Hid (a=k*20)/\Hid (ys.length=n)/\Hid (b9 (bU j) xs ys)/\Hid (eV (bU j) ys 20 (· < k))/\Hid (bX wr base (.slice (some ⟨g,0,none⟩) n c) ys)/\Hid (ag w wr [g])) (λ_ vb _=>n+20-(intOf vb).toNat)
 case atStart=>exact⟨0,0,20,xs,rfl,rfl,rfl,lj _,rfl,aj.o,b9.refl _,(λk hk=>absurd hk (lI _)),a3.o,ag.refl _ _⟩
 case round =>
  clear a3;obtain⟨k,a,b,ys,rfl,rfl,z,X,p,h,o,q,u,i⟩:=hrel;have U:=lh (λx hx=>a7.o x (o.o.symm.mem a9.o x hx):∀x∈ys,C x);have Y:a<=b:=oM;have S:=lh z;clear z
  by_cases I:b<=n
  ·have al:IntKind.i64.wrap ((b:Int)+20)=((b+20:Nat):Int):=iW oM;have r:=lh (T.o a b ys wr U.o i.o h.o u.o Y I);go_wp2_with (go_at_call 220;refine ae ?_);refine uM r.o ?_;rintro e G ⟨rfl,zs,l,v,y⟩;have s:=lh l;have A:=lh v;have B:=lh y;clear l v y r;go_wp2;go_roundw
   case rel=>exact⟨k+1,b,b+20,zs,rfl,by go_num,rfl,I,(by show _=_;rw[lH,<-p.o,S.o]),s.o.len.trans h.o,o.o.trans (s.o.cls oM),(by
    have H:=s.o;rw[p.o]at H;exact wM q.o H (by rw[S.o,lH,<-p.o])),A.o,i.o.trans B.o⟩
   case measure=>simp[intOf];omega
  ·have r:=lh (T.o a n ys wr U.o i.o h.o u.o X (lc _));go_wp2_with (go_at_call 220;refine ae ?_);refine uM r.o ?_;rintro e G ⟨rfl,zs,l,v,y⟩;have A:=lh v;have B:=lh (i.o.trans y);have a6:=lh (l.len.trans h.o);have a5:=lh (o.o.trans (l.cls X));have a4:=lh (show eV (bU j) zs 20 (λ_=>True) from by
    rw[p.o]at l;exact tI q.o l h.o (by rw[lH,<-p.o];have:=S.o;omega))
   clear l v y r T u i h o q p U;go_wp2;go_loopw [6,7,8,9] (λv6 _ _ _ wr=>∃(bs:Nat) (ys:List Rc),v6=.int .i64 bs/\20<=bs/\Hid (ys.length=n)/\Hid (b9 (bU j) xs ys)/\Hid (eV (bU j) ys bs (λ_=>True))/\Hid (bX wr base (.slice (some ⟨g,0,none⟩) n c) ys)/\Hid (ag w wr [g])) (λv6 _ _ _ _=>n-(intOf v6).toNat)
   case atStart=>exact⟨20,zs,rfl,lc _,a6.o,a5.o,a4.o,A.o,B.o⟩
   case round =>
    clear A B a6 a5 a4;obtain⟨bs,ys,rfl,av,h,o,q,u,i⟩:=hrel
    by_cases au:bs<n
    ·have ao:IntKind.i64.wrap (2*(bs:Int))=((2*bs:Nat):Int):=iW oM;have ap:IntKind.i64.wrap ((bs:Int)*2)=((2*bs:Nat):Int):=iW oM;obtain⟨t,E⟩:∃t,t=2*bs:=⟨_,rfl⟩;rw[<-E]at ao ap;have D:=lh E;clear E;go_wp2;go_loopw [7,8] (λva vb wr=>∃(k a b:Nat) (zs:List Rc),va=.int .i64 a/\vb=.int .i64 b/\b=a+t/\a<=n/\Hid (a=k*t)/\Hid (zs.length=n)/\Hid (b9 (bU j) xs zs)/\Hid (eV (bU j) zs t (· < k))/\Hid (eV (bU j) zs bs (2*k<=·))/\Hid (bX wr base (.slice (some ⟨g,0,none⟩) n c) zs)/\Hid (ag w wr [g])) (λ_ vb _=>n+t-(intOf vb).toNat)
     case atStart=>exact⟨0,0,t,ys,rfl,rfl,oM,lj _,(by show _=_;omega),h.o,o.o,(λk hk=>absurd hk (lI _)),(λk _=>q.o k trivial),u.o,i.o⟩
     case round =>
      clear u i h o q;obtain⟨k,a,b,zs,rfl,rfl,z,X,p,h,o,q,R,u,i⟩:=hrel;have Z:=z;have K:=lh z;clear z;have a8:=lh (λx hx=>a7.o x (o.o.symm.mem a9.o x hx):∀x∈zs,C x);have N:=D.o;have V:a=k*(2*bs):=(by have:=p.o;rw[N]at this;exact this);have a1:=ug R.o;rw[<-V]at a1;have L:=lh a1;have Q:=lh V;clear a1 V;have ar:IntKind.i64.wrap ((a:Int)+(bs:Int))=((a+bs:Nat):Int):=iW oM
      by_cases I:b<=n
      ·have al:IntKind.i64.wrap ((b:Int)+(t:Int))=((b+t:Nat):Int):=iW oM;have ad:a+bs+bs=b:=oM;have r:=lh (aa.o a (a+bs) b zs wr a8.o i.o h.o u.o oM oM I L.o.1 (by rw[<-ad];exact L.o.2));clear N ad Z;go_wp2_with (go_at_call 221;refine ae ?_);refine uM r.o ?_;rintro e G ⟨rfl,us,l,v,y⟩;have s:=lh l;have A:=lh v;have B:=lh y;clear l v y r;go_wp2;go_roundw
       case rel =>
        have J:=D.o;have a2:=xI (k:=k) (b:=b) (d:=zs) (d':=us) (bs:=bs) (by rw[<-J];exact q.o) R.o (by rw[<-Q.o];exact s.o) (by rw[lH,Nat.one_mul,<-Q.o];have:=K.o;omega);rw[<-J]at a2;exact⟨k+1,b,b+t,us,rfl,by go_num,rfl,I,(by show _=_;rw[lH,<-p.o,K.o,Nat.one_mul]),s.o.len.trans h.o,o.o.trans (s.o.cls (by have:=K.o;omega)),a2.1,a2.2,A.o,i.o.trans B.o⟩
       case measure=>have:=D.o;simp[intOf];omega
      ·by_cases aq:a+bs<n
       ·have ah:aB zs (a+bs) n=aB zs (a+bs) (a+bs+bs):=by
            have:=h.o;rw[oC zs (a+bs) (a+bs+bs) oM,this]
        have r:=lh (aa.o a (a+bs) n zs wr a8.o i.o h.o u.o oM aq (lc _) L.o.1 (by rw[ah];exact L.o.2));clear N ah Z;go_wp2_with (go_at_call 221;refine ae ?_);refine uM r.o ?_;rintro e G ⟨rfl,us,l,v,y⟩;have s:=lh l;have A:=lh v;have B:=lh y;clear l v y r;go_wp2;go_roundw
        case rel =>
            have H:=s.o;rw[p.o]at H;exact⟨t,us,rfl,(by have:=D.o;omega),s.o.len.trans h.o,o.o.trans (s.o.cls oM),tI q.o H h.o (by rw[lH,Nat.one_mul,<-p.o];have:=K.o;omega),A.o,i.o.trans B.o⟩
        case measure=>have:=D.o;simp[intOf];omega
       ·clear N Z;go_wp2;go_roundw
        case rel =>
            have J:=D.o;have he:=xJ (k:=k) (d:=zs) (bs:=bs) (by rw[<-J];exact q.o) R.o (by rw[<-Q.o,h.o];omega) oM;rw[<-J]at he;exact⟨t,zs,rfl,oM,h.o,o.o,he,u.o,i.o⟩
        case measure=>have:=D.o;simp[intOf];omega
    ·have ai:ga (bU j) xs ys:=⟨Eh q.o (by have:=h.o;omega),o.o⟩;have ak:=lh ai;clear ai;go_wp2;go_end0;exact⟨rfl,ys,ak.o,u.o,i.o⟩
def ki(x y:Int):Int:=if x<y then -1 else if y<x then 1 else 0
theorem xx(x y:Int)(w:World):Rs 181 #[.int .i64 x,.int .i64 y] w (.int .i64 (ki x y)):=by
 have f:∀(x:Int) (W:World),Rs 222 #[.int .i64 x] W (.bool false):=λx W=>by
  go_enter func222,ntmps222;go_wp2;go_ret;exact⟨sP,rfl⟩
 have b:=lh f;clear f;unfold ki
 rcases Int.lt_trichotomy x y with a|a|a
 ·rw[if_pos a];go_enter func181,ntmps181;go_wp2_with (go_at_call 222;refine(b.o _ _).mono ?_;rintro e d ⟨rfl,rfl⟩);go_ret;exact⟨rfl,rfl⟩
 ·have c:¬ x<y:=oM;have g:¬ y<x:=oM;rw[if_neg c,if_neg g];clear a;go_enter func181,ntmps181;go_wp2_with (go_at_call 222;refine(b.o _ _).mono ?_;rintro e d ⟨rfl,rfl⟩);go_ret;exact⟨rfl,rfl⟩
 ·have c:¬ x<y:=oM;rw[if_neg c,if_pos a];go_enter func181,ntmps181;go_wp2_with (go_at_call 222;refine(b.o _ _).mono ?_;rintro e d ⟨rfl,rfl⟩);go_ret;exact⟨rfl,rfl⟩
def cmpL:List Int->List Int->Int
 | x::r,y::s=>if ki x y=0 then cmpL r s else ki x y
 | _,_=>0
theorem FD(xs ys:List Int)(k:Nat)(a:k<xs.length)(b:k<ys.length):cmpL (xs.drop k) (ys.drop k)=if ki xs[k] ys[k]=0 then cmpL (xs.drop (k+1)) (ys.drop (k+1)) else ki xs[k] ys[k]:=by
 rw[Lh a,Lh b];rfl
theorem FC(A B:Option Addr)(c d:Nat)(xs ys:List Int)(w:World)(m:Sl w 1 bM A c xs)(t:Sl w 1 bM B d ys)(j:ys.length=xs.length) :
 Rs 140 #[.slice A xs.length c,.slice B ys.length d] w (.int .i64 (cmpL xs ys)):=by
 have C:=m.len;have D:=lh m;have u:=lh t;have q:=lh j;rw[j];clear m t j;obtain⟨n,o⟩:∃n,xs.length=n:=⟨_,rfl⟩;have a:=lh o;rw[o]at C|-;clear o;go_enter func140,ntmps140;go_wp2;go_loop [11] (λi=>∃k:Nat,k<=n/\i=.int .i64 k/\Hid (cmpL xs ys=cmpL (xs.drop k) (ys.drop k))) (λi=>n-(intOf i).toNat)
 case atStart=>exact⟨0,lj _,rfl,rfl⟩
 case round =>
  obtain⟨k,O,rfl,l⟩:=hrel
  by_cases b:k<n
  ·obtain⟨g,M,H,Q,J⟩:=eZ D.o k (by rw[a.o];exact b);obtain⟨L,N,v,P,E⟩:=eZ u.o k (by rw[q.o,a.o];exact b);have h:=lh (FD xs ys k (by rw[a.o];exact b) (by rw[q.o,a.o];exact b));have F:k<xs.length:=(by rw[a.o];exact b);have K:k<ys.length:=(by rw[q.o,a.o];exact b);generalize xs[k]=x at J h;generalize ys[k]=y at E h;clear F K;subst H v
   by_cases f:ki x y=0
   ·have r:=lh f;go_wp2_with (go_at_call 181;refine(xx x y _).mono ?_;rintro e G ⟨rfl,rfl⟩;rw[f]);go_round
    case rel=>exact⟨k+1,oM,by go_num,by rw[l.o,h.o,if_pos r.o];rfl⟩
    case measure=>simp[intOf];omega
   ·have r:=lh f;have I:(ki x y==0)=false:=(by simpa using f);obtain⟨z,p⟩:∃z,ki x y=z:=⟨_,rfl⟩;have s:=lh p;rw[p]at I;clear f p;go_wp2_with (go_at_call 181;refine(xx x y _).mono ?_;rintro e G ⟨rfl,rfl⟩;rw[s.o]);go_ret;exact⟨by rw[l.o,h.o,if_neg r.o,s.o];rfl,rfl⟩
  ·have:n=k:=oM;subst this;go_wp2;go_ret;exact⟨by rw[l.o,List.drop_of_length_le (by rw[a.o];exact lc _)];rfl,rfl⟩
theorem D4:∀(xs ys:List Int),xs.length=ys.length->(decide (cmpL xs ys<0))=eK xs ys
 | [],[],_=>rfl
 | x::r,y::s,h=>by
   unfold cmpL eK;rw[<-D4 r s (by simpa using h)];unfold ki
   rcases Int.lt_trichotomy x y with a|a|a
   ·simp[a]
   ·subst a;simp
   ·have b:¬ x<y:=oM;have c:¬ x=y:=oM;simp[a,b,c]
def Rc.ids(x:Rc):List Int:=[x.i0,x.i1,x.i2,x.i3,x.i4,x.i5,x.i6,x.i7]
def jn(x y:Rc):Int:=cmpL x.ids y.ids
theorem BR(x y:Rc):bU jn x y=eK x.ids y.ids:=D4 _ _ rfl
theorem Kp:cF (bU jn):=by
 have h:∀x y,bU jn x y=dk ⟨x.ids,0,[]⟩ ⟨y.ids,0,[]⟩:=λx y=>BR x y;constructor
 ·intro a b;rw[h,h];exact oV.asym _ _
 ·intro a b c;rw[h,h,h];exact oV.trans _ _ _
theorem yK{a:World}{g:Nat}(xs:List Int)(c:xs.length=8)(b:∀j u,xs[j]? =some u->a.cell? ⟨g,j,none⟩=some (.int .i64 u)):Sl a 1 bM (some ⟨g,0,none⟩) 8 xs :=
 ⟨oM,dC,oM,λi hi=>⟨g,0,rfl,λj u hu=>by
  match j,hu with
  | 0,hu =>
    cases hu
    simpa using b i _ (lu hi)⟩⟩
theorem B5{P:Nat->Int->Prop}{a0 c a2 a3 a4 a5 b a:Int}(d:P 0 a0)(m:P 1 c)(e:P 2 a2)(i:P 3 a3)(g:P 4 a4)(k:P 5 a5)(f:P 6 b)(l:P 7 a):∀j u,[a0,c,a2,a3,a4,a5,b,a][j]? =some u->P j u
 | 0,_,h=>by cases h;exact d
 | 1,_,h=>by cases h;exact m
 | 2,_,h=>by cases h;exact e
 | 3,_,h=>by cases h;exact i
 | 4,_,h=>by cases h;exact g
 | 5,_,h=>by cases h;exact k
 | 6,_,h=>by cases h;exact f
 | 7,_,h=>by cases h;exact l
 | j+8,_,h=>by simp at h
theorem Gl(x y:Rc)(w:World) :
 Rt 139 #[x.v,y.v] w (.int .i64 (jn x y)):=by
 obtain⟨a0,m,a2,a3,a4,a5,k,j,an,s,t,u⟩:=x;obtain⟨b,a,f,e,g,h,l,i,q,r,o,n⟩:=y;show Rt 139 #[.agg #[.int .i64 a0,.int .i64 m,.int .i64 a2,.int .i64 a3,.int .i64 a4,.int .i64 a5,.int .i64 k,.int .i64 j,.int .i64 an,.slice s t u],.agg #[.int .i64 b,.int .i64 a,.int .i64 f,.int .i64 e,.int .i64 g,.int .i64 h,.int .i64 l,.int .i64 i,.int .i64 q,.slice r o n]] w (.int .i64 (cmpL [a0,m,a2,a3,a4,a5,k,j] [b,a,f,e,g,h,l,i]));have G:=lh (λW A B c d (h1:Sl W 1 bM A c [a0,m,a2,a3,a4,a5,k,j]) (h2:Sl W 1 bM B d [b,a,f,e,g,h,l,i])=>FC A B c d [a0,m,a2,a3,a4,a5,k,j] [b,a,f,e,g,h,l,i] W h1 h2 rfl);generalize cmpL [a0,m,a2,a3,a4,a5,k,j] [b,a,f,e,g,h,l,i]=z at G|-;go_enter func139,ntmps139;go_upto_region 1 with fail;have E:Sl ((w.alloc (.cells #[.int .i64 a0,.int .i64 m,.int .i64 a2,.int .i64 a3,.int .i64 a4,.int .i64 a5,.int .i64 k,.int .i64 j,.int .i64 an,.slice s t u] 158)).alloc (.cells #[.int .i64 b,.int .i64 a,.int .i64 f,.int .i64 e,.int .i64 g,.int .i64 h,.int .i64 l,.int .i64 i,.int .i64 q,.slice r o n] 158)) 1 bM (some ⟨w.heap.size,0,none⟩) 8 [a0,m,a2,a3,a4,a5,k,j]:=yK _ rfl (B5 sG sG sG sG sG sG sG sG)
 have H:Sl ((w.alloc (.cells #[.int .i64 a0,.int .i64 m,.int .i64 a2,.int .i64 a3,.int .i64 a4,.int .i64 a5,.int .i64 k,.int .i64 j,.int .i64 an,.slice s t u] 158)).alloc (.cells #[.int .i64 b,.int .i64 a,.int .i64 f,.int .i64 e,.int .i64 g,.int .i64 h,.int .i64 l,.int .i64 i,.int .i64 q,.slice r o n] 158)) 1 bM (some ⟨w.heap.size+1,0,none⟩) 8 [b,a,f,e,g,h,l,i]:=yK _ rfl (B5 sG sG sG sG sG sG sG sG);have D:=lh E;have C:=lh H;have F:=lh (show aa w ((w.alloc (.cells #[.int .i64 a0,.int .i64 m,.int .i64 a2,.int .i64 a3,.int .i64 a4,.int .i64 a5,.int .i64 k,.int .i64 j,.int .i64 an,.slice s t u] 158)).alloc (.cells #[.int .i64 b,.int .i64 a,.int .i64 f,.int .i64 e,.int .i64 g,.int .i64 h,.int .i64 l,.int .i64 i,.int .i64 q,.slice r o n] 158)) from kP);have I:w.heap.size<((w.alloc (.cells #[.int .i64 a0,.int .i64 m,.int .i64 a2,.int .i64 a3,.int .i64 a4,.int .i64 a5,.int .i64 k,.int .i64 j,.int .i64 an,.slice s t u] 158)).alloc (.cells #[.int .i64 b,.int .i64 a,.int .i64 f,.int .i64 e,.int .i64 g,.int .i64 h,.int .i64 l,.int .i64 i,.int .i64 q,.slice r o n] 158)).heap.size:=sO
 have J:w.heap.size+1<((w.alloc (.cells #[.int .i64 a0,.int .i64 m,.int .i64 a2,.int .i64 a3,.int .i64 a4,.int .i64 a5,.int .i64 k,.int .i64 j,.int .i64 an,.slice s t u] 158)).alloc (.cells #[.int .i64 b,.int .i64 a,.int .i64 f,.int .i64 e,.int .i64 g,.int .i64 h,.int .i64 l,.int .i64 i,.int .i64 q,.slice r o n] 158)).heap.size:=sP;clear E H;generalize (w.alloc _).alloc _=L at D C F I J|-;refine zR kR ?_
 repeat
  refine aR (λK hK=>?_);go_simp
  first
  | (refine hK _ _ ?_;clear hK K)
  | (apply Exists.intro
     refine⟨λp=>?_,hK _ _ ?_⟩
     ((go_at_call 140;exact Zone.zs (G.o _ _ _ _ _ (D.o.keep kP) (C.o.keep kP))))
     clear hK K)
 refine bG ?_;intro p;simp only[aj];go_wp2;go_ret;exact⟨rfl,F.o.trans kP⟩
theorem Fq(f:Nat)(b:Array Value)(a:Rc->Rc->Int)(i:Rc->Prop)(h:World)(g c base n:Nat)(xs:List Rc)(w:World)(j:cF (bU a))(r:mP f b a i h g)(t:∀x∈xs,i x)(o:ag h w [g])(u:xs.length=n)(m:bX w base (.slice (some ⟨g,0,none⟩) n c) xs)(l:n<=1000000000) :
 Calls prog 138 #[.slice (some ⟨g,0,none⟩) n c,.func (.func f) #[] b] w λe d=>e=.returned (.tuple #[])/\bX d base (.slice (some ⟨g,0,none⟩) n c) (dO (bU a) xs)/\ag w d [g]:=by
 have q:=lh (Fo f b a i h g c base n xs w j r t o u m l);have z:=lh j;clear j r t o u m l;go_enter func138,ntmps138;go_wp2_with (go_at_call 180;refine ae ?_);refine uM q.o ?_;rintro e d ⟨rfl,ys,k,p,s⟩;have v:=lh (rB z.o k);have A:=lh p;have y:=lh s;clear k p s q;go_wp2;go_end0;exact⟨rfl,by rw[<-v.o];exact A.o,y.o⟩
theorem PQ(a:World)(g:Nat):mP 139 #[] jn (λ_=>True) a g :=
 ⟨enters_of func139 kR rfl,λW x y _ _ _=>Gl x y W⟩
theorem Ft(g c base n:Nat)(xs:List Rc)(w:World)(d:xs.length=n)(a:bX w base (.slice (some ⟨g,0,none⟩) n c) xs)(b:n<=1000000000) :
 Calls prog 138 #[.slice (some ⟨g,0,none⟩) n c,.func (.func 139) #[] #[]] w λe w'=>e=.returned (.tuple #[])/\bX w' base (.slice (some ⟨g,0,none⟩) n c) (dO (bU jn) xs)/\ag w w' [g] :=
 Fq 139 #[] jn (λ_=>True) w g c base n xs w Kp (PQ w g) (λ_ _=>trivial) (ag.refl _ _) d a b
abbrev SM:=Int×Int×Int
def jP(s:SM):List Value:=[.int .i64 s.1,.int .i64 s.2.1,.int .i64 s.2.2]
theorem nt(x:SM):(jP x).length=3:=rfl
theorem yG(x:SM):∀u∈jP x,u.oneCell'=true:=by simp[jP,Value.oneCell']
theorem Dy:dX prog 156 160 3 24:=by
 obtain⟨i,hi,c,a,b⟩:=info_parts (show(prog.info? 160).map (λi=>(i.zero,i.size,i.bytes))=some (some (.agg #[.int .i64 0,.int .i64 0,.int .i64 0]),3,24) from kR);exact⟨i,_,underlying156,hi,c,a,b,rfl,dC,dC⟩
theorem tj:dX prog 151 158 10 96:=by
 obtain⟨i,hi,c,a,b⟩:=info_parts (show(prog.info? 158).map (λi=>(i.zero,i.size,i.bytes))=some (some (.agg #[.int .i64 0,.int .i64 0,.int .i64 0,.int .i64 0,.int .i64 0,.int .i64 0,.int .i64 0,.int .i64 0,.int .i64 0,.slice none 0 0]),10,96) from kR);exact⟨i,_,underlying151,hi,c,a,b,rfl,dC,dC⟩
abbrev kp(w:World)(base:Nat)(v:Value)(xs:List SM):Prop:=ah w base 160 3 jP v xs
def Rc.sv(r:Rc):Value:=.slice r.A r.l r.c
def jH(r:Rc):Option Nat:=r.sv.ownBlock
structure eN(W:World)(base:Nat)(r:Rc)(x:Star.SR):Prop where
 ids:r.ids=x.ids
 n:r.n=x.n
 own:kp W base r.sv x.sums
 nil_:x.sums=[]->r.A=none
theorem eN.keep{w b:World}{base:Nat}{r:Rc}{x:Star.SR}(a:eN w base r x)(c:aa w b):eN b base r x:=⟨a.ids,a.n,a.own.keep c,a.nil_⟩
theorem eN.base{w:World}{base base':Nat}{r:Rc}{x:Star.SR}(a:eN w base r x)(b:base'<=base):eN w base' r x:=⟨a.ids,a.n,a.own.base_mono b,a.nil_⟩
theorem eN.turn{w b:World}{base:Nat}{r:Rc}{x:Star.SR}{S:List Nat}(a:eN w base r x)(d:ag w b S)(c:∀i∈S,jH r≠some i):eN b base r x:=⟨a.ids,a.n,a.own.turn d c,a.nil_⟩
theorem eN.len{w:World}{base:Nat}{r:Rc}{x:Star.SR}(b:eN w base r x):r.l=x.sums.length:=by
 rcases b.own.2 with⟨a,c⟩ | ⟨g,d,f,a,_⟩<;>(unfold Rc.sv at a;injection a with _ e _;try omega)
theorem eN.len8{w:World}{base:Nat}{r:Rc}{x:Star.SR}(h:eN w base r x):x.ids.length=8:=by rw[<-h.ids];rfl
def Apart(P:List (Rc×Star.SR)):Prop:=P.Pairwise λp q=>∀b,jH p.1=some b->jH q.1≠some b
def dV(W:World)(base:Nat)(P:List (Rc×Star.SR)):Prop:=∀p∈P,eN W base p.1 p.2
theorem dV.keep{w a:World}{base:Nat}{P:List (Rc×Star.SR)}(b:dV w base P)(c:aa w a):dV a base P:=λp hp=>(b p hp).keep c
theorem dV.base{w:World}{base base':Nat}{P:List (Rc×Star.SR)}(a:dV w base P)(b:base'<=base):dV w base' P:=λp hp=>(a p hp).base b
theorem Fz{i f:Type}{w:World}{base base' k n:Nat}{e j:TypeId}{enc:i->List Value}{p:f->List Value}{v h:Value}{xs:List i}{ys:List f}(l:ah w base e k enc v xs)(o:ah w base' j n p h ys)(m:e≠j):∀b,v.ownBlock=some b->h.ownBlock≠some b:=by
 intro b c d
 rcases l.2 with⟨rfl,_⟩ | ⟨g,x,t,rfl,_,q,_⟩
 ·cases c
 ·rcases o.2 with⟨rfl,_⟩ | ⟨r,u,s,rfl,_,a,_⟩
  ·cases d
  ·simp only[Value.ownBlock,lQ]at c d;subst c;subst d;rw[q]at a;simp at a;exact m a.2
theorem dV.turn{w c:World}{base base' k:Nat}{e:TypeId}{b:Type}{enc:b->List Value}{v:Value}{xs:List b}{S:List Nat}{P:List (Rc×Star.SR)}(a:dV w base P)(f:ah w base' e k enc v xs)(he:e≠160)(g:ag w c S)(d:∀i∈S,v.ownBlock=some i):dV c base P:=λp hp=>(a p hp).turn g λi hi=>Fz f (a p hp).own he i (d i hi)
structure Nc where
 d:Int
 lo:Int
 hi:Int
 A:Option Addr
 l:Nat
 c:Nat
def Nc.cells(x:Nc):List Value:=[.int .i64 x.d,.int .i64 x.lo,.int .i64 x.hi,.slice x.A x.l x.c]
theorem j6(x:Nc):x.cells.length=4:=rfl
theorem BC(x:Nc):∀u∈x.cells,u.oneCell'=true:=by simp[Nc.cells,Value.oneCell']
def kQ(s:Int×Nat):List Value:=[.int .i64 s.1,.int .i64 (s.2:Int)]
theorem mH(x:Int×Nat):(kQ x).length=2:=rfl
theorem qt(x:Int×Nat):∀u∈kQ x,u.oneCell'=true:=by simp[kQ,Value.oneCell']
theorem qC:dX prog 115 119 2 16:=by
 obtain⟨i,hi,c,a,b⟩:=info_parts (show(prog.info? 119).map (λi=>(i.zero,i.size,i.bytes))=some (some (.agg #[.int .i64 0,.int .i64 0]),2,16) from kR);exact⟨i,_,underlying115,hi,c,a,b,rfl,dC,dC⟩
theorem DD:dX prog 107 117 4 48:=by
 obtain⟨i,hi,c,a,b⟩:=info_parts (show(prog.info? 117).map (λi=>(i.zero,i.size,i.bytes))=some (some (.agg #[.int .i64 0,.int .i64 0,.int .i64 0,.slice none 0 0]),4,48) from kR);exact⟨i,_,underlying107,hi,c,a,b,rfl,dC,dC⟩
abbrev kX(w:World)(base:Nat)(v:Value)(xs:List (Int×Nat)):Prop:=ah w base 119 2 kQ v xs
abbrev pC(w:World)(base:Nat)(v:Value)(xs:List Nc):Prop:=ah w base 117 4 Nc.cells v xs
structure nX(W:World)(base:Nat)(r:Nc)(x:Star.SN):Prop where
 d:r.d=(x.depth:Int)
 lo:r.lo=(x.lo:Int)
 hi:r.hi=(x.hi:Int)
 own:kX W base (.slice r.A r.l r.c) x.kids
def EH(W:World)(base:Nat)(P:List (Nc×Star.SN)):Prop:=∀p∈P,nX W base p.1 p.2
def RN(W:World)(i:Nat):Prop:=∃cs f,W.heap[i]? =some (.cells cs 158 f)\/W.heap[i]? =some (.cells cs 117 f)
structure Gw(base gt:Nat)(W W':World):Prop where
 os:W'.os=W.os
 tape:W'.tape=W.tape
 output:W'.output=W.output
 size:W.heap.size<=W'.heap.size
 block:∀i,i<W.heap.size->(i<base\/(i≠gt/\¬ RN W i))->W'.heap[i]? =W.heap[i]?
section
variable {base gt:Nat} {w W W' W2:World}
theorem Gw.refl(base gt:Nat)(W:World):Gw base gt W W:=⟨rfl,rfl,rfl,lc _,λ_ _ _=>rfl⟩
theorem Gw.keep(h:aa W W')(base gt:Nat):Gw base gt W W':=⟨h.os,h.tape,h.output,h.size,λi hi _=>h.block i hi⟩
theorem Gw.trans(a:Gw base gt W W')(k:Gw base gt W' W2):Gw base gt W W2 :=
 ⟨k.os.trans a.os,k.tape.trans a.tape,k.output.trans a.output,lk a.size k.size,λi hi b=>by
  have e:=a.block i hi b;refine(k.block i (lp hi a.size) ?_).trans e
  rcases b with b | ⟨d,c⟩
  ·exact .inl b
  ·refine .inr ⟨d,λ⟨cs,f,hq⟩=>c ⟨cs,f,?_⟩⟩;rw[e]at hq;exact hq⟩
theorem Gw.of_turn{S:List Nat}(b:ag W W' S)(e:∀i∈S,base<=i/\(i=gt\/RN W i\/W.heap.size<=i)):Gw base gt W W' :=
 ⟨b.os,b.tape,b.output,b.size,λi hi c=>b.block i hi λhm=>by
  obtain⟨g,a⟩:=e i hm
  rcases c with c | ⟨f,d⟩
  ·omega
  ·rcases a with a|a|a
   ·exact f a
   ·exact d a
   ·omega⟩
theorem Gw.own{i:Type}{b k:Nat}{e h:TypeId}{enc:i->List Value}{v:Value}{xs:List i}{m:List Value}(c:ah W b e k enc v xs)(t:Gw base gt W W')(u:e≠158)(o:e≠117)(j:ak W gt h m)(r:h≠e):ah W' b e k enc v xs:=by
 have l:=bu c j r;refine⟨c.1,?_⟩
 rcases c.2 with n | ⟨g,s,p,rfl,q,d,rest⟩
 ·exact .inl n
 ·refine .inr ⟨g,s,p,rfl,q,(t.block g (La.1 d).1 (.inr ⟨λe=>l (by rw[e];rfl),λ⟨cs,f,a⟩=>?_⟩)).trans d,rest⟩;rw[d]at a;simp only[lQ,Obj.cells.injEq]at a
  rcases a with a|a
  ·exact u a.2.1
  ·exact o a.2.1
theorem Gw.row{g:Nat}{c d:TypeId}{e us:List Value}(b:ak W g c e)(j:Gw base gt W W')(k:c≠158)(i:c≠117)(l:ak W gt d us)(h:c≠d):ak W' g c e:=by
 refine(j.block g b.lt (.inr ⟨row_ne b l h,λ⟨cs,f,a⟩=>?_⟩)).trans b;unfold ak at b;rw[b]at a;simp only[lQ,Obj.cells.injEq]at a
 rcases a with a|a
 ·exact k a.2.1
 ·exact i a.2.1
theorem Gw.after(a:aa w W)(k:Gw base gt W W')(b:w.heap.size<=base):aa w W' :=
 ⟨k.os.trans a.os,k.tape.trans a.tape,k.output.trans a.output,lk a.size k.size,λi hi=>(k.block i (lp hi a.size) (.inl oM)).trans (a.block i hi)⟩
end
theorem AY{c:Type}{w:World}{b k i:Nat}{e:TypeId}{enc:c->List Value}{v:Value}{xs:List c}(f:ah w b e k enc v xs)(he:e=158\/e=117)(a:v.ownBlock=some i):b<=i/\RN w i:=by
 rcases f.2 with⟨rfl,_⟩ | ⟨g,l,h,rfl,j,d,_⟩
 ·cases a
 ·simp only[Value.ownBlock,lQ]at a;subst a;refine⟨j,h,(0,0),?_⟩
  rcases he with rfl|rfl
  ·exact .inl d
  ·exact .inr d
end Go.Proofs.YtpkocnpamcchcaaGreatDoor
