/- Parts. -/
import Derived.Test.YtpkocnpamcchcaaGreatDoorL16
set_option maxRecDepth 100000
set_option maxHeartbeats 40000000
set_option linter.all false
namespace Go.Proofs.YtpkocnpamcchcaaGreatDoor
open Go.RowKit Go.Zone Go.Shelf Tryz Go.Roa Go.Sym
structure mV(f:Nat)(lb:Array Value)(cm:Rw->Rw->Int)(M:Rw->Prop)(w0:World)(g:Nat):Prop where
 enter:∀args w,(callFunc f args).run prog w=.ok (.enter f args) w
 call:∀(W:World) (x y:Rw),M x->M y->ag w0 W [g]->Rt f (#[.slice x.A x.vs.length x.c,.slice y.A y.vs.length y.c]++lb) W (.int .i64 (cm x y))
def bJ(a:Rw->Rw->Int)(x y:Rw):Bool:=decide (a x y<0)
theorem NU(f:Nat)(ar:Array Value)(k:Rw->Rw->Int)(a9:Rw->Prop)(Y:World)(g c base a b N:Nat)(xs:List Rw)(w:World)(v:cF (bJ k))(Q:mV f ar k a9 Y g)(ad:∀x∈xs,a9 x)(ap:ag Y w [g])(aB:xs.length=N)(E:cw w base (.slice (some ⟨g,0,none⟩) N c) xs)(aC:a<=b)(aL:b<=N)(aQ:N<=1000000000) :
 Calls prog 151 #[.slice (some ⟨g,0,none⟩) N c,.int .i64 a,.int .i64 b,.func (.func f) #[] ar] w λe w'=>e=.returned (.tuple #[])/\∃ys,cA (bJ k) xs a b ys/\cw w' base (.slice (some ⟨g,0,none⟩) N c) ys/\ag w w' [g]:=by
 have Z:=lh E;have a1:=lh Q.call;have aK:=Q.enter;have aw:=lh ad;have ax:=lh ap;have a7:=lh v;have az:IntKind.i64.wrap ((a:Int)+1)=((a+1:Nat):Int):=iW oM;clear E Q ad ap v;go_enter func151,ntmps151;go_wp2;go_loopw [8] (λvi wr=>∃(i:Nat) (ys:List Rw),vi=.int .i64 i/\a+1<=i/\i<=b+1/\Hid (cA (bJ k) xs a (min i b) ys)/\Hid (cw wr base (.slice (some ⟨g,0,none⟩) N c) ys)/\Hid (ag w wr [g])) (λvi _=>b+1-(intOf vi).toNat)
 case atStart =>
  refine⟨a+1,xs,by go_num,lc _,oM,?_,Z.o,ag.refl _ _⟩;show cA _ _ _ _ _;refine cA.refl ?_
  rcases Nat.eq_or_lt_of_le aC with e|e
  ·rw[show min (a+1) b=a from oM];exact za _ _
  ·rw[show min (a+1) b=a+1 from oM];exact y6 _ _ oM
 case round =>
  clear Z az;obtain⟨i,ys,rfl,aN,aO,r,q,m⟩:=hrel
  by_cases aS:i<b
  ·have al:ys.length=N:=r.o.len.trans aB;have av:=lh al;have ae:i<ys.length:=oM;have B:=lh ae;have a5:=lh (r.o.mem a7.o oM aw.o);have aU:0<a+1:=Nat.succ_pos _;clear al ae;go_wp2;go_loopw [9] (λvj wq=>∃j:Nat,vj=.int .i64 j/\a<=j/\j<=i/\Hid (j=i\/∃E:j<ys.length,bJ k (ys[i]'B.o) ys[j]=true)/\Hid (cw wq base (.slice (some ⟨g,0,none⟩) N c) (bv ys j i (i+1)))/\Hid (ag w wq [g])) (λvj _=>(intOf vj).toNat)
   case atStart=>exact⟨i,rfl,oM,lc _,.inl rfl,(by show cw _ _ _ _;rw[rQ];exact q.o),m.o⟩
   case round =>
    clear q m;obtain⟨j,rfl,aD,G,au,q,m⟩:=hrel;have ao:(j=a\/∃E:j-1<ys.length,bJ k (ys[i]'B.o) ys[j-1]=false)->cA (bJ k) xs a (i+1) (bv ys j i (i+1)):=λhs=>by
     have ac:=r.o.stb.1;rw[show min i b=i from oM]at ac;have aA:=sL a7.o aD G B.o ac hs au.o;have ab:=r.o;rw[show min i b=i from oM]at ab;exact ab.more aA oM oM
    have M:=lh ao;clear ao
    by_cases aF:a<j
    ·have S:=B.o;have ak:=av.o;obtain⟨h,V⟩:=zx ys j i G S;obtain⟨d,U⟩:∃d,d+1=j:=⟨j-1,oM⟩;have ai:j-1=d:=oM;obtain⟨T,X⟩:=zw ys j i d G S oM;have aE:d<ys.length:=oM;have I:N=(bv ys j i (i+1)).length:=(by rw[iL ys j i (i+1) G oM oM];exact ak.symm);have R:=rS ys j d i U G S;rw[oo h T,V,X]at R;have s:=lh (λ(W:World) (F:aa wr W)=>(show(W.cell? ⟨g,j,none⟩=some (.slice ys[i].A ys[i].vs.length ys[i].c)/\W.frozen? ⟨g,j,none⟩=false/\g<W.heap.size)/\(W.cell? ⟨g,d,none⟩=some (.slice ys[d].A ys[d].vs.length ys[d].c)/\W.frozen? ⟨g,d,none⟩=false)/\cw ((W.setCell ⟨g,j,none⟩ (.slice ys[d].A ys[d].vs.length ys[d].c)).setCell ⟨g,d,none⟩ (.slice ys[i].A ys[i].vs.length ys[i].c)) base (.slice (some ⟨g,0,none⟩) N c) (bv ys d i (i+1)) from by
      have v:=q.o.keep F;obtain⟨a0,C,a2,a3⟩:=v.cell1 gW I j h;obtain⟨u,D,aH,aI⟩:=v.cell1 gW I d T;rw[V]at a0;rw[X]at u;refine⟨⟨a0,C,a2⟩,⟨u,D⟩,?_⟩;have aG:=v.set1 gW I j ys[d] rfl;have H:=aG.set1 gW (by rw[Li];exact I) d ys[i] rfl;rw[R]at H;exact H))
     have o:=lh (λW (F:ag Y W [g])=>a1.o W ys[i] ys[d] (a5.o _ (ll _)) (a5.o _ (ll _)) F);have t:=lh (λn:k ys[i] ys[d]<0=>(show d=i\/∃E:d<ys.length,bJ k (ys[i]'B.o) ys[d]=true from .inr ⟨oM,decide_eq_true n⟩));have O:=lh (λn:¬ k ys[i] ys[d]<0=>M.o (.inr ⟨oM,by simp only[ai];exact decide_eq_false n⟩));have a8:=lh (ax.o.trans m.o);generalize k ys[i] ys[d]=z at o t O;generalize aq:ys[i]=x at s o;have ay:=lh aq;clear aq;generalize ys[d]=y at s o;clear R V X h T I M a1;have aJ:IntKind.i64.wrap ((j:Int)-1)=(d:Int):=iW oM;have aV:d<N:=oM;have L:=lh U;have aP:j<N:=oM;clear U ai ak aE;obtain⟨⟨a0,C,a2⟩,⟨u,D⟩,_⟩:=s.o wr (aa.refl _)
     by_cases n:z<0
     ·go_wp2;refine zR kR ?_
      repeat
       refine aR (λK hK=>?_);go_simp
       first
       | (refine hK _ _ ?_;clear hK K)
       | (apply Exists.intro
          refine⟨λp=>?_,hK _ _ ?_⟩
          ((go_at_fn f;exact Zone.zc (o.o _ (a8.o.trans (ag.keep kP _)))))
          clear hK K)
      refine bG ?_;intro p;simp only[aj];have h:aa wr (wr.gro p):=kP;generalize wr.gro p=J at h|-;have l:=lh h;clear a0 C a2 u D h;obtain⟨⟨a0,C,a2⟩,⟨u,D⟩,H⟩:=s.o J l.o;have a6:=lh H;have a4:=lh (ag.set2 J g j d (.slice y.A y.vs.length y.c) (.slice x.A x.vs.length x.c));have aT:j≠d:=(by have:=L.o;omega);have P:=lh (t.o n);clear H t O s o;go_wp2;go_region;generalize F:(J.setCell ⟨g,j,none⟩ (.slice y.A y.vs.length y.c)).setCell ⟨g,d,none⟩ (.slice x.A x.vs.length x.c)=aW at a6 a4|-;clear F;go_wp2;go_roundw
      case rel=>obtain rfl:=ay.o;exact⟨d,rfl,by have:=L.o;omega,by have:=L.o;omega,P.o,a6.o.keep kP,m.o.trans ((ag.keep l.o _).trans (a4.o.trans (ag.keep kP _)))⟩
      case measure=>have:=L.o;simp[intOf];omega
     ·have aM:decide (z<0)=false:=decide_eq_false n;go_wp2;refine zR kR ?_
      repeat
       refine aR (λK hK=>?_);go_simp
       first
       | (refine hK _ _ ?_;clear hK K)
       | (apply Exists.intro
          refine⟨λp=>?_,hK _ _ ?_⟩
          ((go_at_fn f;exact Zone.zc (o.o _ (a8.o.trans (ag.keep kP _)))))
          clear hK K)
      refine bG ?_;intro p;simp only[aj];have h:aa wr (wr.gro p):=kP;generalize wr.gro p=J at h|-;have l:=lh h;have P:=lh (O.o n);clear a0 C a2 u D h t O s o n;go_wp2;go_roundw
      case rel=>exact⟨i+1,_,by go_num,oM,oM,(by show cA _ _ _ _ _;rw[show min (i+1) b=i+1 from oM];exact P.o),q.o.keep l.o,m.o.trans (ag.keep l.o _)⟩
      case measure=>simp[intOf];omega
    ·have ah:j=a:=oM;have t:=lh (M.o (.inl ah));clear M aF;subst ah;go_wp2;refine zR kR ?_
     repeat
      refine aR (λK hK=>?_);go_simp
      first
      | (refine hK _ _ ?_;clear hK K)
      | (apply Exists.intro
         refine⟨λp=>?_,hK _ _ ?_⟩
         (fail)
         clear hK K)
     refine bG ?_;intro p;simp only[aj];have h:aa wr (wr.gro p):=kP;generalize wr.gro p=J at h|-;have l:=lh h;clear h;go_wp2;go_roundw
     case rel=>exact⟨i+1,_,by go_num,oM,oM,(by show cA _ _ _ _ _;rw[show min (i+1) b=i+1 from oM];exact t.o),q.o.keep l.o,m.o.trans (ag.keep l.o _)⟩
     case measure=>simp[intOf];omega
  ·have af:min i b=b:=oM;rw[af]at r;clear af;go_wp2;go_end0;exact⟨rfl,ys,r.o,q.o,m.o⟩
theorem jY{b:World}{base g N c:Nat}{a:List Rw}(d:cw b base (.slice (some ⟨g,0,none⟩) N c) a)(e:a.length=N)(j:Nat)(f:j<a.length) :
 b.cell? ⟨g,j,none⟩=some (.slice a[j].A a[j].vs.length a[j].c)/\b.frozen? ⟨g,j,none⟩=false/\g<b.heap.size:=by
 obtain⟨a0,h,a2,_⟩:=d.cell1 gW e.symm j f;exact⟨a0,h,a2⟩
theorem AU{d:World}{base g N c:Nat}{a:List Rw}(e:cw d base (.slice (some ⟨g,0,none⟩) N c) a)(b:a.length=N)(i j:Nat)(hi:i<a.length)(h:j<a.length) :
 cw ((d.setCell ⟨g,i,none⟩ (.slice a[j].A a[j].vs.length a[j].c)).setCell ⟨g,j,none⟩ (.slice a[i].A a[i].vs.length a[i].c)) base (.slice (some ⟨g,0,none⟩) N c) (Sym.swp a i j):=by
 rw[oo hi h];have f:=e.set1 gW b.symm i a[j] rfl;exact f.set1 gW (by rw[Li];exact b.symm) j a[i] rfl
theorem GA(f:Nat)(ad:Array Value)(d:Rw->Rw->Int)(a7:Rw->Prop)(S:World)(g c base a m b N:Nat)(xs:List Rw)(w:World)(a8:cF (bJ d))(O:mV f ad d a7 S g)(a1:∀x∈xs,a7 x)(a3:ag S w [g])(a9:xs.length=N)(q:cw w base (.slice (some ⟨g,0,none⟩) N c) xs)(a6:m=a+1)(aJ:m<b)(aM:b<=N)(aQ:N<=1000000000)(u:bO (bJ d) (aB xs m b)) :
 Calls prog 152 #[.slice (some ⟨g,0,none⟩) N c,.int .i64 a,.int .i64 m,.int .i64 b,.func (.func f) #[] ad] w λe w'=>e=.returned (.tuple #[])/\∃ys,cA (bJ d) xs a b ys/\cw w' base (.slice (some ⟨g,0,none⟩) N c) ys/\ag w w' [g]:=by
 have C:=lh q;have aE:=lh O.call;have aN:=O.enter;have Y:=lh a1;have ay:=lh a3;have ap:=lh a8;have aq:=lh u;have X:=lh a6;have r:=lh a9;have aT:IntKind.i64.wrap ((m:Int)-(a:Int))=1:=iW oM;have aS:a<N:=oM;have aG:0<m:=oM;have h:=lh (show a<xs.length from oM);clear q O a1 a3 a8 u a9 a6;go_enter func152,ntmps152;go_wp2;go_loopw [10,11] (λvi vj wr=>∃i j:Nat,vi=.int .i64 i/\vj=.int .i64 j/\m<=i/\i<=j/\j<=b/\Hid (i=m\/∃q:i-1<xs.length,bJ d xs[i-1] (xs[a]'h.o)=true)/\Hid (j=b\/∃q:j<xs.length,bJ d xs[j] (xs[a]'h.o)=false)/\Hid (aa w wr)) (λvi vj _=>(intOf vj).toNat-(intOf vi).toNat)
 case atStart=>exact⟨m,b,rfl,rfl,lc _,oM,lc _,.inl rfl,.inl rfl,aa.refl _⟩
 case round =>
  obtain⟨i,j,rfl,rfl,af,ai,T,H,P,n⟩:=hrel
  by_cases aU:i<j
  ·obtain⟨p,aC⟩:∃p:Nat,p=(i+j)/2:=⟨_,rfl⟩;have aI:((i:Int)+(j:Int))/2=(p:Int):=oM;have al:i<=p:=oM;have aP:p<j:=oM;have aH:p<N:=oM;have M:p<xs.length:=(by have:=r.o;omega);obtain⟨a0,az,a2⟩:=jY (C.o.keep n.o) r.o p M;obtain⟨J,aA,_⟩:=jY (C.o.keep n.o) r.o a h.o;have s:=lh (λW (Q:ag S W [g])=>aE.o W xs[p] (xs[a]'h.o) (Y.o _ (ll _)) (Y.o _ (ll _)) Q);have F:=lh (λo:d xs[p] (xs[a]'h.o)<0=>(show p+1=m\/∃q:p+1-1<xs.length,bJ d xs[p+1-1] (xs[a]'h.o)=true from .inr ⟨M,decide_eq_true o⟩));have E:=lh (λo:¬ d xs[p] (xs[a]'h.o)<0=>(show p=b\/∃q:p<xs.length,bJ d xs[p] (xs[a]'h.o)=false from .inr ⟨M,decide_eq_false o⟩));have ac:=lh (ay.o.trans (ag.keep n.o _));generalize d xs[p] (xs[a]'h.o)=z at s F E;generalize ar:xs[p]=x at a0 s;generalize U:(xs[a]'h.o)=y at J s;have a5:=lh U;clear ar U aC
   by_cases o:z<0
   ·have R:=lh (F.o o);clear F E;go_wp2;refine zR kR ?_
    repeat
     refine aR (λK hK=>?_);go_simp
     first
     | (refine hK _ _ ?_;clear hK K)
     | (apply Exists.intro
        refine⟨λp=>?_,hK _ _ ?_⟩
        ((go_at_fn f;exact Zone.zc (s.o _ (ac.o.trans (ag.keep kP _)))))
        clear hK K)
    refine bG ?_;intro au;simp only[aj];go_wp2;go_roundw
    case rel=>obtain rfl:=a5.o;exact⟨p+1,j,by go_num,rfl,oM,oM,T,R.o,P.o,n.o.trans kP⟩
    case measure=>simp[intOf];omega
   ·have R:=lh (E.o o);have aW:decide (z<0)=false:=decide_eq_false o;clear F E;go_wp2;refine zR kR ?_
    repeat
     refine aR (λK hK=>?_);go_simp
     first
     | (refine hK _ _ ?_;clear hK K)
     | (apply Exists.intro
        refine⟨λp=>?_,hK _ _ ?_⟩
        ((go_at_fn f;exact Zone.zc (s.o _ (ac.o.trans (ag.keep kP _)))))
        clear hK K)
    refine bG ?_;intro au;simp only[aj];go_wp2;go_roundw
    case rel=>obtain rfl:=a5.o;exact⟨i,p,rfl,rfl,af,al,oM,H.o,R.o,n.o.trans kP⟩
    case measure=>simp[intOf];omega
  ·have av:j=i:=oM;subst av;clear ai;obtain⟨l,a4⟩:∃l,l+1=j:=⟨j-1,oM⟩;have aV:IntKind.i64.wrap ((j:Int)-1)=(l:Int):=iW oM;have ax:=lh a4;have aw:=lh (show cA (bJ d) xs a b (bv xs a (a+1) j) from by
    have ao:=X.o;have u:=aq.o;have ab:=H.o;rw[ao]at u ab;exact CE ap.o oM T (by have:=r.o;omega) u h.o ab P.o)
   have ah:a<=l:=(by have:=X.o;omega);have aL:l<N:=oM;clear a4;go_wp2;go_loopw [13] (λvk wr=>∃k:Nat,vk=.int .i64 k/\a<=k/\k<=l/\Hid (cw wr base (.slice (some ⟨g,0,none⟩) N c) (bv xs a (a+1) (k+1)))/\Hid (ag w wr [g])) (λvk _=>l-(intOf vk).toNat)
   case atStart=>exact⟨a,rfl,lc _,ah,(by show cw _ _ _ _;rw[rT xs a (a+1) oM];exact C.o.keep n.o),ag.keep n.o _⟩
   case round =>
    clear C H P n;obtain⟨k,rfl,aD,aX,t,V⟩:=hrel
    by_cases aY:k<l
    ·have B:(bv xs a (a+1) (k+1)).length=N:=(by have:=r.o;have:=h.o;rw[iL xs a (a+1) (k+1) oM oM oM];omega);have ae:=zo xs a k aD (by have:=r.o;omega);have L:k<(bv xs a (a+1) (k+1)).length:=oM;have G:k+1<(bv xs a (a+1) (k+1)).length:=oM;obtain⟨a0,az,a2⟩:=jY t.o B k L;obtain⟨J,aA,_⟩:=jY t.o B (k+1) G;have I:=AU t.o B k (k+1) L G;rw[ae]at I;have D:=lh I;generalize (bv xs a (a+1) (k+1))[k]=x at a0 D;generalize (bv xs a (a+1) (k+1))[k+1]=y at J D;have Z:=lh (ag.set2 wr g k (k+1) (.slice y.A y.vs.length y.c) (.slice x.A x.vs.length x.c));have aF:k≠k+1:=oM;have aO:k+1<N:=oM;clear I ae L G B;go_wp2;go_region;generalize Q:(wr.setCell ⟨g,k,none⟩ (.slice y.A y.vs.length y.c)).setCell ⟨g,k+1,none⟩ (.slice x.A x.vs.length x.c)=aK at D Z|-;clear Q;go_wp2;go_roundw
     case rel=>exact⟨k+1,by go_num,oM,oM,D.o.keep kP,V.o.trans (Z.o.trans (ag.keep kP _))⟩
     case measure=>simp[intOf];omega
    ·have ak:k=l:=oM;subst ak;rw[ax.o]at t;go_wp2;exact bodyPost_ret (v:=.tuple #[]) (by simp[results,results152,go_sem]) rfl ⟨rfl,_,aw.o,t.o,V.o⟩
theorem Gy(f:Nat)(af:Array Value)(l:Rw->Rw->Int)(a9:Rw->Prop)(V:World)(g c base a m b N:Nat)(xs:List Rw)(w:World)(ac:cF (bJ l))(Q:mV f af l a9 V g)(a4:∀x∈xs,a9 x)(a6:ag V w [g])(ad:xs.length=N)(q:cw w base (.slice (some ⟨g,0,none⟩) N c) xs)(aQ:a+1<m)(a5:b=m+1)(aL:b<=N)(aO:N<=1000000000)(a8:bO (bJ l) (aB xs a m)) :
 Calls prog 152 #[.slice (some ⟨g,0,none⟩) N c,.int .i64 a,.int .i64 m,.int .i64 b,.func (.func f) #[] af] w λe w'=>e=.returned (.tuple #[])/\∃ys,cA (bJ l) xs a b ys/\cw w' base (.slice (some ⟨g,0,none⟩) N c) ys/\ag w w' [g]:=by
 have t:=lh q;have aE:=lh Q.call;have aM:=Q.enter;have a1:=lh a4;have az:=lh a6;have aq:=lh ac;have aw:=lh a8;have ak:=lh a5;have F:=lh ad;obtain⟨u,ap⟩:∃u,u=m-a:=⟨_,rfl⟩;have aP:IntKind.i64.wrap ((m:Int)-(a:Int))=(u:Int):=iW oM;have ar:¬((u:Int)=1):=oM;have aJ:((u:Int)==1)=false:=by simp[ar]
 have aY:IntKind.i64.wrap ((b:Int)-(m:Int))=1:=iW oM;have aV:m<N:=oM;have h:=lh (show m<xs.length from oM);clear q Q a4 a6 ac a8 ad a5 ap;go_enter func152,ntmps152;go_wp2;go_loopw [14,15] (λvi vj wr=>∃i j:Nat,vi=.int .i64 i/\vj=.int .i64 j/\a<=i/\i<=j/\j<=m/\Hid (i=a\/∃q:i-1<xs.length,bJ l (xs[m]'h.o) xs[i-1]=false)/\Hid (j=m\/∃q:j<xs.length,bJ l (xs[m]'h.o) xs[j]=true)/\Hid (aa w wr)) (λvi vj _=>(intOf vj).toNat-(intOf vi).toNat)
 case atStart=>exact⟨a,m,rfl,rfl,lc _,oM,lc _,.inl rfl,.inl rfl,aa.refl _⟩
 case round =>
  obtain⟨i,j,rfl,rfl,X,ai,G,I,S,n⟩:=hrel
  by_cases aT:i<j
  ·obtain⟨p,aD⟩:∃p:Nat,p=(i+j)/2:=⟨_,rfl⟩;have aH:((i:Int)+(j:Int))/2=(p:Int):=oM;have ao:i<=p:=oM;have aN:p<j:=oM;have aG:p<N:=oM;have P:p<xs.length:=(by have:=F.o;omega);obtain⟨a0,aA,a2⟩:=jY (t.o.keep n.o) F.o p P;obtain⟨M,aC,_⟩:=jY (t.o.keep n.o) F.o m h.o;have r:=lh (λW (T:ag V W [g])=>aE.o W (xs[m]'h.o) xs[p] (a1.o _ (ll _)) (a1.o _ (ll _)) T);have E:=lh (λo:l (xs[m]'h.o) xs[p]<0=>(show p=m\/∃q:p<xs.length,bJ l (xs[m]'h.o) xs[p]=true from .inr ⟨P,decide_eq_true o⟩));have D:=lh (λo:¬ l (xs[m]'h.o) xs[p]<0=>(show p+1=a\/∃q:p+1-1<xs.length,bJ l (xs[m]'h.o) xs[p+1-1]=false from .inr ⟨P,decide_eq_false o⟩));have ae:=lh (az.o.trans (ag.keep n.o _));generalize l (xs[m]'h.o) xs[p]=z at r E D;generalize au:xs[p]=x at a0 r;generalize Y:(xs[m]'h.o)=y at M r;have a7:=lh Y;clear au Y aD
   by_cases o:z<0
   ·have U:=lh (E.o o);clear E D;go_wp2;refine zR kR ?_
    repeat
     refine aR (λK hK=>?_);go_simp
     first
     | (refine hK _ _ ?_;clear hK K)
     | (apply Exists.intro
        refine⟨λp=>?_,hK _ _ ?_⟩
        ((go_at_fn f;exact Zone.zc (r.o _ (ae.o.trans (ag.keep kP _)))))
        clear hK K)
    refine bG ?_;intro av;simp only[aj];go_wp2;go_roundw
    case rel =>
     obtain rfl:=a7.o;exact⟨i,p,rfl,rfl,X,ao,oM,I.o,U.o,n.o.trans kP⟩
    case measure=>simp[intOf];omega
   ·have U:=lh (D.o o);have aW:decide (z<0)=false:=decide_eq_false o;clear E D;go_wp2;refine zR kR ?_
    repeat
     refine aR (λK hK=>?_);go_simp
     first
     | (refine hK _ _ ?_;clear hK K)
     | (apply Exists.intro
        refine⟨λp=>?_,hK _ _ ?_⟩
        ((go_at_fn f;exact Zone.zc (r.o _ (ae.o.trans (ag.keep kP _)))))
        clear hK K)
    refine bG ?_;intro av;simp only[aj];go_wp2;go_roundw
    case rel =>
     obtain rfl:=a7.o;exact⟨p+1,j,by go_num,rfl,oM,oM,G,U.o,S.o,n.o.trans kP⟩
    case measure=>simp[intOf];omega
  ·have ax:j=i:=oM;subst ax;clear ai;have ay:=lh (show cA (bJ l) xs a b (bv xs j m (m+1)) from by
    rw[ak.o];exact sL aq.o X G h.o aw.o I.o S.o)
   go_wp2;go_loopw [17] (λvk wr=>∃k:Nat,vk=.int .i64 k/\j<=k/\k<=m/\Hid (cw wr base (.slice (some ⟨g,0,none⟩) N c) (bv xs k m (m+1)))/\Hid (ag w wr [g])) (λvk _=>(intOf vk).toNat)
   case atStart=>exact⟨m,rfl,G,lc _,(by show cw _ _ _ _;rw[rQ];exact t.o.keep n.o),ag.keep n.o _⟩
   case round =>
    clear t I S n;obtain⟨k,rfl,aZ,ab,B,Z⟩:=hrel
    by_cases aX:j<k
    ·obtain⟨d,L⟩:∃d,d+1=k:=⟨k-1,oM⟩;have aU:IntKind.i64.wrap ((k:Int)-1)=(d:Int):=iW oM;have s:(bv xs k m (m+1)).length=N:=(by have:=F.o;have:=h.o;rw[iL xs k m (m+1) ab oM oM];omega);have ah:=rS xs k d m L ab h.o;have O:k<(bv xs k m (m+1)).length:=oM;have H:d<(bv xs k m (m+1)).length:=oM;obtain⟨a0,aA,a2⟩:=jY B.o s k O;obtain⟨M,aC,_⟩:=jY B.o s d H;have J:=AU B.o s k d O H;rw[ah]at J;have C:=lh J;generalize (bv xs k m (m+1))[k]=x at a0 C;generalize (bv xs k m (m+1))[d]=y at M C;have a3:=lh (ag.set2 wr g k d (.slice y.A y.vs.length y.c) (.slice x.A x.vs.length x.c));have aF:k≠d:=oM;have aK:d<N:=oM;have aS:k<N:=oM;have R:=lh L;clear J ah O H s L;go_wp2;go_region;generalize T:(wr.setCell ⟨g,k,none⟩ (.slice y.A y.vs.length y.c)).setCell ⟨g,d,none⟩ (.slice x.A x.vs.length x.c)=aI at C a3|-;clear T;go_wp2;go_roundw
     case rel=>exact⟨d,rfl,by have:=R.o;omega,by have:=R.o;omega,C.o.keep kP,Z.o.trans (a3.o.trans (ag.keep kP _))⟩
     case measure=>have:=R.o;simp[intOf];omega
    ·have al:k=j:=oM;subst al;go_wp2;exact bodyPost_ret (v:=.tuple #[]) (by simp[results,results152,go_sem]) rfl ⟨rfl,_,ay.o,B.o,Z.o⟩
open Go.Star
def EG(f:Nat)(j:Array Value)(h:Rw->Rw->Int)(i:Rw->Prop)(k:World)(g c base N d:Nat):Prop :=
 ∀(a m b:Nat) (xs:List Rw) (w:World),b-a<=d->(∀x∈xs,i x)->ag k w [g]->xs.length=N->cw w base (.slice (some ⟨g,0,none⟩) N c) xs->a<m->m<b->b<=N->bO (bJ h) (aB xs a m)->bO (bJ h) (aB xs m b) ->
   Calls prog 152 #[.slice (some ⟨g,0,none⟩) N c,.int .i64 a,.int .i64 m,.int .i64 b,.func (.func f) #[] j] w λe w'=>e=.returned (.tuple #[])/\∃ys,cA (bJ h) xs a b ys/\cw w' base (.slice (some ⟨g,0,none⟩) N c) ys/\ag w w' [g]
theorem GE(f:Nat)(a9:Array Value)(t:Rw->Rw->Int)(aw:Rw->Prop)(ab:World)(g c base N d:Nat)(b7:cF (bJ t))(az:mV f a9 t aw ab g)(br:N<=1000000000)(bc:EG f a9 t aw ab g c base N d)
 (a m b:Nat) (xs:List Rw) (w:World) (bT:b-a<=d+1) (aW:∀x∈xs,aw x) (b9:ag ab w [g]) (aX:xs.length=N) (aU:cw w base (.slice (some ⟨g,0,none⟩) N c) xs) (bS:a+1<m) (bY:m+1<b) (bo:b<=N) (aV:bO (bJ t) (aB xs a m)) (aY:bO (bJ t) (aB xs m b)) :
 Calls prog 152 #[.slice (some ⟨g,0,none⟩) N c,.int .i64 a,.int .i64 m,.int .i64 b,.func (.func f) #[] a9] w λe a4=>e=.returned (.tuple #[])/\∃ys,cA (bJ t) xs a b ys/\cw a4 base (.slice (some ⟨g,0,none⟩) N c) ys/\ag w a4 [g]:=by
 have Q:=lh aU;have bh:=lh az.call;have bN:=az.enter;have af:=lh aW;have aq:=lh b9;have O:=lh b7;have T:=lh aV;have Y:=lh aY;have H:=lh aX;have aJ:=lh bc;obtain⟨u,bz⟩:∃u,u=m-a:=⟨_,rfl⟩;have bl:IntKind.i64.wrap ((m:Int)-(a:Int))=(u:Int):=iW oM;have ba:¬((u:Int)=1):=oM;have bA:((u:Int)==1)=false:=by simp[ba]
 obtain⟨v,bB⟩:∃v,v=b-m:=⟨_,rfl⟩;have bm:IntKind.i64.wrap ((b:Int)-(m:Int))=(v:Int):=iW oM;have bb:¬((v:Int)=1):=oM;have bC:((v:Int)==1)=false:=by simp[bb]
 obtain⟨q,P⟩:∃q,q=(a+b)/2:=⟨_,rfl⟩;have b5:((a:Int)+(b:Int))/2=(q:Int):=oM;obtain⟨n,b6⟩:∃n,n=q+m:=⟨_,rfl⟩;have bn:IntKind.i64.wrap ((q:Int)+(m:Int))=(n:Int):=iW oM;obtain⟨p,bu⟩:∃p,p+1=n:=⟨n-1,oM⟩;have bQ:IntKind.i64.wrap ((n:Int)-1)=(p:Int):=iW oM;obtain⟨lo,F⟩:∃lo,lo=if q<m then q+m-b else a:=⟨_,rfl⟩
 obtain⟨hi,C⟩:∃hi,hi=if q<m then q else m:=⟨_,rfl⟩
 have bs:lo<=hi:=by rw[F,C];split<;>omega
 have bV:hi<=m:=by rw[C];split<;>omega
 have bX:a<q:=oM;have bZ:q<b:=oM;have bj:=lh P;have aL:=lh b6;have aI:=lh (show ∀s,lo<=s->s<=hi->(s=hi\/∃(l:p-s<xs.length) (o:s<xs.length),bJ t xs[p-s] xs[s]=true)->(s=lo\/∃(l:p-(s-1)<xs.length) (o:s-1<xs.length),bJ t xs[p-(s-1)] xs[s-1]=false)->oa (bJ t) xs a m b s from λs s1 s2 s3 s4=>by
  subst P;refine⟨by rw[<-F];exact s1,by rw[<-C];exact s2,λh=>?_,λh=>?_⟩
  ·rw[<-C]at h
   rcases s3 with s3 | ⟨l,o,a3⟩
   ·omega
   ·have e:(a+b)/2+m-1-s=p-s:=oM;refine⟨oM,o,?_⟩;simp only[e];exact a3
  ·rw[<-F]at h
   rcases s4 with s4 | ⟨l,o,a3⟩
   ·omega
   ·have e:(a+b)/2+m-s=p-(s-1):=oM;refine⟨oM,o,?_⟩;simp only[e];exact a3)
 have aK:=lh (show ∀s,lo<=s->s<hi->s<N/\s<=p/\p-s<N from λs s1 s2=>by
  rw[F]at s1;rw[C]at s2;refine⟨by split at s2<;>omega,by split at s2<;>omega,by split at s1<;>omega⟩)
 clear aU az aW b9 b7 aV aY aX bc bz bB b6 bu P;go_enter func152,ntmps152;go_upto_if 140 with fail;go_cut [20,21]from 138 to 146 (λs20 s21 wx=>s20=.int .i64 lo/\s21=.int .i64 hi/\wx=w)
 case first =>
  by_cases a8:q<m
  ·rw[if_pos a8]at F C;have bP:IntKind.i64.wrap ((n:Int)-(b:Int))=(lo:Int):=(by have:=aL.o;rw[IntWalk.i64_in _ ⟨oM,oM⟩];omega);subst C;clear F;go_wp2;go_meet
   case rel=>exact⟨rfl,rfl,rfl⟩
  ·rw[if_neg a8]at F C;subst F;subst C;go_wp2;go_meet
   case rel=>exact⟨rfl,rfl,rfl⟩
 case rest =>
  rename World=>wz;obtain⟨rfl,rfl,B⟩:=hcut
  replace B:=B.symm
  subst B;clear F C b5 bn bl bm ba bA bb bC;go_wp2;go_loopw [20,21] (λvi vj wr=>∃i j:Nat,vi=.int .i64 i/\vj=.int .i64 j/\lo<=i/\i<=j/\j<=hi/\Hid (i=lo\/∃(l:p-(i-1)<xs.length) (o:i-1<xs.length),bJ t xs[p-(i-1)] xs[i-1]=false)/\Hid (j=hi\/∃(l:p-j<xs.length) (o:j<xs.length),bJ t xs[p-j] xs[j]=true)/\Hid (aa w wr)) (λvi vj _=>(intOf vj).toNat-(intOf vi).toNat)
  case atStart=>exact⟨lo,hi,rfl,rfl,lc _,bs,lc _,.inl rfl,.inl rfl,aa.refl _⟩
  case round =>
   obtain⟨i,j,rfl,rfl,b0,bp,b1,ac,ad,D⟩:=hrel
   by_cases bW:i<j
   ·obtain⟨h,a8⟩:∃h:Nat,h=(i+j)/2:=⟨_,rfl⟩;have b5:((i:Int)+(j:Int))/2=(h:Int):=oM;have bw:i<=h:=oM;have c0:h<j:=oM;obtain⟨c1,c2,bx⟩:=aK.o h oM oM;have aD:h<xs.length:=(by have:=H.o;omega);have aC:p-h<xs.length:=(by have:=H.o;omega);obtain⟨a0,bI,a2⟩:=jY (Q.o.keep D.o) H.o h aD;obtain⟨aS,bk,_⟩:=jY (Q.o.keep D.o) H.o (p-h) aC;have R:=lh (λW (hW:ag ab W [g])=>bh.o W xs[p-h] xs[h] (af.o _ (ll _)) (af.o _ (ll _)) hW);have a5:=lh (λM:t xs[p-h] xs[h]<0=>(show h=hi\/∃(l:p-h<xs.length) (o:h<xs.length),bJ t xs[p-h] xs[h]=true from .inr ⟨aC,aD,decide_eq_true M⟩));have a6:=lh (λM:¬ t xs[p-h] xs[h]<0=>(show h+1=lo\/∃(l:p-(h+1-1)<xs.length) (o:h+1-1<xs.length),bJ t xs[p-(h+1-1)] xs[h+1-1]=false from .inr ⟨aC,aD,decide_eq_false M⟩));have aQ:=lh (aq.o.trans (ag.keep D.o _));generalize t xs[p-h] xs[h]=z at R a5 a6;generalize bD:xs[h]=x at a0 R;generalize bF:xs[p-h]=y at aS R;obtain⟨r,b8⟩:∃r,r=p-h:=⟨_,rfl⟩;have bR:IntKind.i64.wrap ((p:Int)-(h:Int))=(r:Int):=iW oM;rw[<-b8]at aS bk bx;clear bD bF a8 b8
    by_cases M:z<0
    ·have av:=lh (a5.o M);clear a5 a6;go_wp2;refine zR kR ?_
     repeat
           refine aR (λK hK=>?_);go_simp
           first
           | (refine hK _ _ ?_;clear hK K)
           | (apply Exists.intro
              refine⟨λp=>?_,hK _ _ ?_⟩
              ((go_at_fn f;exact Zone.zc (R.o _ (aQ.o.trans (ag.keep kP _)))))
              clear hK K)
     refine bG ?_;intro bH;simp only[aj];go_wp2;go_roundw
     case rel=>exact⟨i,h,rfl,rfl,b0,bw,oM,ac.o,av.o,D.o.trans kP⟩
     case measure=>simp[intOf];omega
    ·have av:=lh (a6.o M);have bU:decide (z<0)=false:=decide_eq_false M;clear a5 a6;go_wp2;refine zR kR ?_
     repeat
           refine aR (λK hK=>?_);go_simp
           first
           | (refine hK _ _ ?_;clear hK K)
           | (apply Exists.intro
              refine⟨λp=>?_,hK _ _ ?_⟩
              ((go_at_fn f;exact Zone.zc (R.o _ (aQ.o.trans (ag.keep kP _)))))
              clear hK K)
     refine bG ?_;intro bH;simp only[aj];go_wp2;go_roundw
     case rel=>exact⟨h+1,j,by go_num,rfl,oM,oM,b1,av.o,ad.o,D.o.trans kP⟩
     case measure=>simp[intOf];omega
   ·have bq:j=i:=oM;subst bq;have S:=lh (aI.o j b0 b1 ad.o ac.o);clear ac ad aK aI;obtain⟨e,he⟩:∃e,e=n-j:=⟨_,rfl⟩;have aZ:=pm O.o oM oM (by have:=H.o;omega) T.o Y.o S.o;have P:=bj.o;have bt:=aL.o;have aA:(a+b)/2+m-j=e:=oM;rw[aA]at aZ;obtain⟨bK,ax,ay,bL,_,_⟩:=aZ;have bM:IntKind.i64.wrap ((n:Int)-(j:Int))=(e:Int):=iW oM;have a7:b<=xs.length:=(by have:=H.o;omega);have aE:=CO O.o oM oM a7 T.o Y.o S.o;have aF:=λk=>CQ O.o oM oM a7 T.o Y.o S.o k;have aG:=λ(d2:List Rw) o k=>CP (d2:=d2) O.o oM oM a7 T.o Y.o S.o o k;have aH:=λ(d2 d3:List Rw) o a3=>x5 (d2:=d2) (d3:=d3) O.o oM oM a7 T.o Y.o S.o o a3;rw[aA,<-P]at aE aF aG aH;have bd:(bv xs j m e).length=N:=(iL xs j m e ax ay oM).trans H.o;have bf:=zp (d:=xs) ax ay af.o;have bg:¬(j<m/\m<e)->bv xs j m e=xs:=λk=>by
     rcases (show j=m\/e=m from oM) with l|l
     ·rw[l];exact uR xs m e ay
     ·rw[l];exact rT xs j m ax
    have Z:=lh (λ(l:j<m) (o:m<e)=>IU g c base j m e N xs H.o (.func (.func f) #[] a9) wr (Q.o.keep D.o) l o oM br);have X:=lh aE;have ai:=lh aF;have aN:=lh aG;have ak:=lh aH;have al:=lh bd;have ao:=lh bf;have ap:=lh bg;clear aE aF aG aH bd bf bg P bt aA he bp;generalize bE:bv xs j m e=ys at Z X ai aN ak al ao ap;clear bE;go_upto_region 39 with fail;go_cut [185]from 178 to 185 (λsb wx=>∃A:Bool,sb=.bool A/\Hid (A=decide (j<m/\m<e))/\wx=wr)
    case first =>
     by_cases l:j<m
     ·by_cases o:m<e
      ·go_wp2;go_meet
       case rel=>exact⟨_,rfl,(by show _=_;simp[l,o]),rfl⟩
      ·go_wp2;go_meet
       case rel=>exact⟨_,rfl,(by show _=_;simp[l,o]),rfl⟩
     ·go_wp2;go_meet
      case rel=>exact⟨_,rfl,(by show _=_;simp[l]),rfl⟩
    case rest =>
    rename World=>wz;obtain⟨A,rfl,G,B⟩:=hcut
    replace B:=B.symm
    subst B;go_upto_if 185 with fail;go_cut []from 186 to 191 (λwx=>Hid (cw wx base (.slice (some ⟨g,0,none⟩) N c) ys)/\Hid (ag wr wx [g]))
    case first =>
     by_cases k:j<m/\m<e
     ·obtain rfl:A=true:=G.o.trans (decide_eq_true k);have I:=lh (Z.o k.1 k.2);clear k Z;go_wp2_with (go_at_call 187;refine ae ?_);refine uM I.o ?_;rintro aT a4 ⟨rfl,J,L⟩;have U:=lh J;have a1:=lh L;clear J L I;go_wp2;go_meet
      case rel=>exact⟨U.o,a1.o⟩
     ·obtain rfl:A=false:=G.o.trans (decide_eq_false k);have V:=lh (ap.o k);clear k Z;go_wp2;go_meet
      case rel=>exact⟨by show cw _ _ _ _;rw[V.o];exact Q.o.keep D.o,ag.refl _ _⟩
    case rest =>
    rename World=>w3;obtain⟨ah,aO⟩:=hcut;have ar:=lh ((ag.keep D.o [g]).trans aO.o);clear Z ap aO D Q
    trace_state
    go_upto_region 41 with fail;go_cut [199]from 192 to 199 (λsb wx=>∃A:Bool,sb=.bool A/\Hid (A=decide (a<j/\j<q))/\wx=w3)
    case first =>
     by_cases l:a<j
     ·by_cases o:j<q
      ·go_wp2;go_meet
       case rel=>exact⟨_,rfl,(by show _=_;simp[l,o]),rfl⟩
      ·go_wp2;go_meet
       case rel=>exact⟨_,rfl,(by show _=_;simp[l,o]),rfl⟩
     ·go_wp2;go_meet
      case rel=>exact⟨_,rfl,(by show _=_;simp[l]),rfl⟩
    case rest =>
    rename World=>wz;obtain⟨A,rfl,G,B⟩:=hcut
    replace B:=B.symm
    subst B;go_upto_if 199 with fail;go_cut []from 200 to 205 (λwx=>∃d2,Hid (cA (bJ t) ys a q d2)/\Hid (cw wx base (.slice (some ⟨g,0,none⟩) N c) d2)/\Hid (ag w3 wx [g]))
    case first =>
     by_cases k:a<j/\j<q
     ·obtain rfl:A=true:=G.o.trans (decide_eq_true k);have I:=lh (aJ.o a j q ys w3 oM ao.o (aq.o.trans ar.o) al.o ah.o k.1 k.2 oM X.o.1 X.o.2.1);clear k;go_wp2_with (go_at_call 152;refine ae ?_);refine uM I.o ?_;rintro aT a4 ⟨rfl,d2,b3,J,L⟩;have E:=lh b3;have U:=lh J;have a1:=lh L;clear J L I b3;go_wp2;go_meet
      case rel=>exact⟨d2,E.o,U.o,a1.o⟩
     ·obtain rfl:A=false:=G.o.trans (decide_eq_false k);have V:=lh (ai.o k);clear k;go_wp2;go_meet
      case rel=>exact⟨ys,V.o,ah.o,ag.refl _ _⟩
    case rest =>
    rename World=>w4;obtain⟨d2,E,aM,aP⟩:=hcut;have au:=lh (ar.o.trans aP.o);clear ai ah aP ar;go_upto_region 43 with fail;go_cut [213]from 206 to 213 (λsb wx=>∃A:Bool,sb=.bool A/\Hid (A=decide (q<e/\e<b))/\wx=w4)
    case first =>
     by_cases l:q<e
     ·by_cases o:e<b
      ·go_wp2;go_meet
       case rel=>exact⟨_,rfl,(by show _=_;simp[l,o]),rfl⟩
      ·go_wp2;go_meet
       case rel=>exact⟨_,rfl,(by show _=_;simp[l,o]),rfl⟩
     ·go_wp2;go_meet
      case rel=>exact⟨_,rfl,(by show _=_;simp[l]),rfl⟩
    case rest =>
    rename World=>wz;obtain⟨A,rfl,G,B⟩:=hcut
    replace B:=B.symm
    subst B
    by_cases k:q<e/\e<b
    ·obtain rfl:A=true:=G.o.trans (decide_eq_true k);have b2:d2.length=N:=E.o.len.trans al.o;have s1:bO (bJ t) (aB d2 q e):=(by rw[nz E.o.back];exact X.o.2.2.1);have s2:bO (bJ t) (aB d2 e b):=(by rw[nz (qD oM E.o.back)];exact X.o.2.2.2);have I:=lh (aJ.o q e b d2 w4 oM (E.o.mem O.o oM ao.o) (aq.o.trans au.o) b2 aM.o k.1 k.2 bo s1 s2);clear k b2 s1 s2;go_wp2_with (go_at_call 152;refine ae ?_);refine uM I.o ?_;rintro aT a4 ⟨rfl,d3,b4,J,L⟩;have bi:=lh b4;have U:=lh J;have a1:=lh L;clear J L I b4;go_wp2;go_end0;exact⟨rfl,d3,ak.o d2 d3 E.o bi.o,U.o,au.o.trans a1.o⟩
    ·obtain rfl:A=false:=G.o.trans (decide_eq_false k);have V:=lh (ak.o d2 d2 E.o (aN.o d2 E.o k));clear k;go_wp2;go_end0;exact⟨rfl,d2,V.o,aM.o,au.o⟩
theorem ya(f:Nat)(j:Array Value)(e:Rw->Rw->Int)(i:Rw->Prop)(k:World)(g c base N:Nat)(o:cF (bJ e))(l:mV f j e i k g)(n:N<=1000000000):∀d,EG f j e i k g c base N d
 | 0=>λa m b _ _ hd _ _ _ _ ham hmb _ _ _=>oM
 | d+1=>λa m b xs w hd hM ht hN h ham hmb hb hL hR=>by
   by_cases p:m=a+1
   ·exact GA f j e i k g c base a m b N xs w o l hM ht hN h p hmb hb n hR
   ·by_cases q:b=m+1
    ·exact Gy f j e i k g c base a m b N xs w o l hM ht hN h oM q hb n hL
    ·exact GE f j e i k g c base N d o l n (ya f j e i k g c base N o l n d) a m b xs w hd hM ht hN h oM oM hb hL hR
theorem GU(f:Nat)(O:Array Value)(j:Rw->Rw->Int)(C:Rw->Prop)(P:World)(g c base n:Nat)(xs:List Rw)(w:World)(M:cF (bJ j))(a0:mV f O j C P g)(F:∀x∈xs,C x)(E:ag P w [g])(ac:xs.length=n)(ab:cw w base (.slice (some ⟨g,0,none⟩) n c) xs)(af:n<=1000000000) :
 Calls prog 104 #[.slice (some ⟨g,0,none⟩) n c,.int .i64 n,.func (.func f) #[] O] w λe G=>e=.returned (.tuple #[])/\∃ys,ga (bJ j) xs ys/\cw G base (.slice (some ⟨g,0,none⟩) n c) ys/\ag w G [g]:=by
 have a3:=lh ab;have a9:=lh M;have a7:=lh F;have aj:=lh ac;have T:=lh (λ(a b:Nat) (ys:List Rw) (W:World) (F:∀x∈ys,C x) (hW:ag w W [g]) (hn:ys.length=n) (ho2:cw W base (.slice (some ⟨g,0,none⟩) n c) ys) (Y:a<=b) (z:b<=n)=>NU f O j C P g c base a b n ys W M a0 F (E.trans hW) hn ho2 Y z af);have aa:=lh (λ(a m b:Nat) (ys:List Rw) (W:World) (F:∀x∈ys,C x) (hW:ag w W [g]) (hn:ys.length=n) (ho2:cw W base (.slice (some ⟨g,0,none⟩) n c) ys) (ham:a<m) (hmb:m<b) (z:b<=n) hL hR=>ya f O j C P g c base n M a0 af (b-a) a m b ys W (lc _) F (E.trans hW) hn ho2 ham hmb z hL hR);clear ab a0 F E ac M;go_enter func104,ntmps104;go_wp2;go_loopw [7,8] (λva vb wr=>∃(k a b:Nat) (ys:List Rw),va=.int .i64 a/\vb=.int .i64 b/\b=a+20/\a<=n/\Hid (a=k*20)/\Hid (ys.length=n)/\Hid (b9 (bJ j) xs ys)/\Hid (eV (bJ j) ys 20 (· < k))/\Hid (cw wr base (.slice (some ⟨g,0,none⟩) n c) ys)/\Hid (ag w wr [g])) (λ_ vb _=>n+20-(intOf vb).toNat)
 case atStart=>exact⟨0,0,20,xs,rfl,rfl,rfl,lj _,rfl,aj.o,b9.refl _,(λk hk=>absurd hk (lI _)),a3.o,ag.refl _ _⟩
 case round =>
  clear a3;obtain⟨k,a,b,ys,rfl,rfl,z,X,p,h,o,q,u,i⟩:=hrel;have U:=lh (λx hx=>a7.o x (o.o.symm.mem a9.o x hx):∀x∈ys,C x);have Y:a<=b:=oM;have S:=lh z;clear z
  by_cases I:b<=n
  ·have al:IntKind.i64.wrap ((b:Int)+20)=((b+20:Nat):Int):=iW oM;have r:=lh (T.o a b ys wr U.o i.o h.o u.o Y I);go_wp2_with (go_at_call 151;refine ae ?_);refine uM r.o ?_;rintro e G ⟨rfl,zs,l,v,y⟩;have s:=lh l;have A:=lh v;have B:=lh y;clear l v y r;go_wp2;go_roundw
   case rel=>exact⟨k+1,b,b+20,zs,rfl,by go_num,rfl,I,(by show _=_;rw[lH,<-p.o,S.o]),s.o.len.trans h.o,o.o.trans (s.o.cls oM),(by
    have H:=s.o;rw[p.o]at H;exact wM q.o H (by rw[S.o,lH,<-p.o])),A.o,i.o.trans B.o⟩
   case measure=>simp[intOf];omega
  ·have r:=lh (T.o a n ys wr U.o i.o h.o u.o X (lc _));go_wp2_with (go_at_call 151;refine ae ?_);refine uM r.o ?_;rintro e G ⟨rfl,zs,l,v,y⟩;have A:=lh v;have B:=lh (i.o.trans y);have a6:=lh (l.len.trans h.o);have a5:=lh (o.o.trans (l.cls X));have a4:=lh (show eV (bJ j) zs 20 (λ_=>True) from by
    rw[p.o]at l;exact tI q.o l h.o (by rw[lH,<-p.o];have:=S.o;omega))
   clear l v y r T u i h o q p U;go_wp2;go_loopw [6,7,8,9] (λv6 _ _ _ wr=>∃(bs:Nat) (ys:List Rw),v6=.int .i64 bs/\20<=bs/\Hid (ys.length=n)/\Hid (b9 (bJ j) xs ys)/\Hid (eV (bJ j) ys bs (λ_=>True))/\Hid (cw wr base (.slice (some ⟨g,0,none⟩) n c) ys)/\Hid (ag w wr [g])) (λv6 _ _ _ _=>n-(intOf v6).toNat)
   case atStart=>exact⟨20,zs,rfl,lc _,a6.o,a5.o,a4.o,A.o,B.o⟩
   case round =>
    clear A B a6 a5 a4;obtain⟨bs,ys,rfl,av,h,o,q,u,i⟩:=hrel
    by_cases au:bs<n
    ·have ao:IntKind.i64.wrap (2*(bs:Int))=((2*bs:Nat):Int):=iW oM;have ap:IntKind.i64.wrap ((bs:Int)*2)=((2*bs:Nat):Int):=iW oM;obtain⟨t,E⟩:∃t,t=2*bs:=⟨_,rfl⟩;rw[<-E]at ao ap;have D:=lh E;clear E;go_wp2;go_loopw [7,8] (λva vb wr=>∃(k a b:Nat) (zs:List Rw),va=.int .i64 a/\vb=.int .i64 b/\b=a+t/\a<=n/\Hid (a=k*t)/\Hid (zs.length=n)/\Hid (b9 (bJ j) xs zs)/\Hid (eV (bJ j) zs t (· < k))/\Hid (eV (bJ j) zs bs (2*k<=·))/\Hid (cw wr base (.slice (some ⟨g,0,none⟩) n c) zs)/\Hid (ag w wr [g])) (λ_ vb _=>n+t-(intOf vb).toNat)
     case atStart=>exact⟨0,0,t,ys,rfl,rfl,oM,lj _,(by show _=_;omega),h.o,o.o,(λk hk=>absurd hk (lI _)),(λk _=>q.o k trivial),u.o,i.o⟩
     case round =>
      clear u i h o q;obtain⟨k,a,b,zs,rfl,rfl,z,X,p,h,o,q,R,u,i⟩:=hrel;have Z:=z;have K:=lh z;clear z;have a8:=lh (λx hx=>a7.o x (o.o.symm.mem a9.o x hx):∀x∈zs,C x);have N:=D.o;have V:a=k*(2*bs):=(by have:=p.o;rw[N]at this;exact this);have a1:=ug R.o;rw[<-V]at a1;have L:=lh a1;have Q:=lh V;clear a1 V;have ar:IntKind.i64.wrap ((a:Int)+(bs:Int))=((a+bs:Nat):Int):=iW oM
      by_cases I:b<=n
      ·have al:IntKind.i64.wrap ((b:Int)+(t:Int))=((b+t:Nat):Int):=iW oM;have ad:a+bs+bs=b:=oM;have r:=lh (aa.o a (a+bs) b zs wr a8.o i.o h.o u.o oM oM I L.o.1 (by rw[<-ad];exact L.o.2));clear N ad Z;go_wp2_with (go_at_call 152;refine ae ?_);refine uM r.o ?_;rintro e G ⟨rfl,us,l,v,y⟩;have s:=lh l;have A:=lh v;have B:=lh y;clear l v y r;go_wp2;go_roundw
       case rel =>
        have J:=D.o;have a2:=xI (k:=k) (b:=b) (d:=zs) (d':=us) (bs:=bs) (by rw[<-J];exact q.o) R.o (by rw[<-Q.o];exact s.o) (by rw[lH,Nat.one_mul,<-Q.o];have:=K.o;omega);rw[<-J]at a2;exact⟨k+1,b,b+t,us,rfl,by go_num,rfl,I,(by show _=_;rw[lH,<-p.o,K.o,Nat.one_mul]),s.o.len.trans h.o,o.o.trans (s.o.cls (by have:=K.o;omega)),a2.1,a2.2,A.o,i.o.trans B.o⟩
       case measure=>have:=D.o;simp[intOf];omega
      ·by_cases aq:a+bs<n
       ·have ah:aB zs (a+bs) n=aB zs (a+bs) (a+bs+bs):=by
            have:=h.o;rw[oC zs (a+bs) (a+bs+bs) oM,this]
        have r:=lh (aa.o a (a+bs) n zs wr a8.o i.o h.o u.o oM aq (lc _) L.o.1 (by rw[ah];exact L.o.2));clear N ah Z;go_wp2_with (go_at_call 152;refine ae ?_);refine uM r.o ?_;rintro e G ⟨rfl,us,l,v,y⟩;have s:=lh l;have A:=lh v;have B:=lh y;clear l v y r;go_wp2;go_roundw
        case rel =>
            have H:=s.o;rw[p.o]at H;exact⟨t,us,rfl,(by have:=D.o;omega),s.o.len.trans h.o,o.o.trans (s.o.cls oM),tI q.o H h.o (by rw[lH,Nat.one_mul,<-p.o];have:=K.o;omega),A.o,i.o.trans B.o⟩
        case measure=>have:=D.o;simp[intOf];omega
       ·clear N Z;go_wp2;go_roundw
        case rel =>
            have J:=D.o;have he:=xJ (k:=k) (d:=zs) (bs:=bs) (by rw[<-J];exact q.o) R.o (by rw[<-Q.o,h.o];omega) oM;rw[<-J]at he;exact⟨t,zs,rfl,oM,h.o,o.o,he,u.o,i.o⟩
        case measure=>have:=D.o;simp[intOf];omega
    ·have ai:ga (bJ j) xs ys:=⟨Eh q.o (by have:=h.o;omega),o.o⟩;have ak:=lh ai;clear ai;go_wp2;go_end0;exact⟨rfl,ys,ak.o,u.o,i.o⟩
end Go.Proofs.YtpkocnpamcchcaaGreatDoor
