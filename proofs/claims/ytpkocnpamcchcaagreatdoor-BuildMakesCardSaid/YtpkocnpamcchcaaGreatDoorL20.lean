/- Parts. -/
import Derived.Test.YtpkocnpamcchcaaGreatDoorL16
set_option maxRecDepth 100000
set_option maxHeartbeats 40000000
set_option linter.all false
namespace Go.Proofs.YtpkocnpamcchcaaGreatDoor
open Go.RowKit Go.Zone Go.Shelf Tryz
theorem O3(A:Option Addr)(c:Nat)(xs:List Int)(w:World)(d:Sl w 1 bM A c xs) :
 Rt 47 #[.slice A xs.length c] w (.tuple #[.int .i64 (j7 xs),.int .i64 (ke xs)]):=by
 have t:=lh d;have s:=d.cap;have q:=cE d;generalize l:xs.length=n at s q;have h:=lh l;clear d l;go_enter func47,ntmps47;go_wp2;go_loopw [4,5,6] (λva vb vi wr=>∃(k:Nat) (lo hi:Int),k<=n/\vi=.int .i64 k/\va=.int .i64 lo/\vb=.int .i64 hi/\Hid (lo=(xs.take k).foldl min 9223372036854775807)/\Hid (hi=(xs.take k).foldl max (-9223372036854775808))/\wr=w) (λ_ _ vi _=>n-(intOf vi).toNat)
 case atStart=>exact⟨0,_,_,lj _,rfl,rfl,rfl,rfl,rfl,rfl⟩
 case round =>
  obtain⟨k,lo,hi,z,rfl,rfl,rfl,j,i,rfl⟩:=hrel
  by_cases r:k<n
  ·have e:k<xs.length:=(by rw[h.o];exact r);obtain⟨b,y,p,o⟩:=t.o.at_ k e;have m:=o 0 (.int .i64 xs[k]) rfl;simp only[Lb,lE]at m;subst p;have f:=lh (show(xs.take (k+1)).foldl min 9223372036854775807=min lo xs[k] by rw[sU min _ xs k e,<-j.o]);have a:=lh (show(xs.take (k+1)).foldl max (-9223372036854775808)=max hi xs[k] by rw[sU max _ xs k e,<-i.o]);generalize xs[k]=x at m f a;clear e o
   by_cases B:x<lo
   all_goals
    by_cases u:hi<x
    all_goals
     go_wp2;go_roundw
     case rel=>exact⟨k+1,_,_,oM,by go_num,rfl,rfl,(by show _=_;rw[f.o];omega),(by show _=_;rw[a.o];omega),trivial⟩
     case measure=>simp[intOf];omega
  ·have g:k=n:=oM;have f:=lh (show lo=j7 xs by rw[j.o,g,<-h.o,lC];rfl);have a:=lh (show hi=ke xs by rw[i.o,g,<-h.o,lC];rfl);subst g;go_wp2;exact bodyPost_ret (v:=.tuple #[.int .i64 lo,.int .i64 hi]) (by simp[results,results47,go_sem]) rfl ⟨by rw[<-f.o,<-a.o],kP⟩
open Go.Roa Go.Sym
theorem ud(n:Int):∃q:Nat,q<18446744073709551616/\IntKind.u64.wrap n=(q:Int)/\le q 8=dJ n:=by
 refine⟨(n%18446744073709551616).toNat,oM,?_,rfl⟩;rw[eO];unfold u64;omega
theorem I1(A:Option Addr)(c:Nat)(xs:List Int)(w:World)(i:Sl w 1 bM A c xs)(aK:xs.length<=1000000) :
 Rb 19 #[.slice A xs.length c] w (fZ xs):=by
 have a:=lh (O3 A c xs w i);have au:=lh i;have aM:=i.cap;obtain⟨h,aw,ac,aj⟩:=ud (j7 xs);obtain⟨g,az,T,ab⟩:=ud (ke xs);have d:=lh (show fZ xs=le xs.length 4++le h 8++le g 8++xs.flatMap dJ by rw[aj,ab];rfl);clear aj ab;generalize j7 xs=lo at ac a;generalize ke xs=hi at T a;generalize G:xs.length=n at aM aK a d;have ai:=lh G;clear i G;have aF:IntKind.u64.wrap (n:Int)=(n:Int):=by rw[eO];unfold u64;omega
 go_enter func19,ntmps19;go_wp2_with (go_at_call 47;refine ae ?_);refine uM a.o ?_;rintro e aX ⟨rfl,ak⟩;have O:=lh ak;clear ak a;go_wp2_with (go_at_call 15;refine ae ?_);refine uM (eE n 4 oM oM _) ?_;rintro e aR ⟨v2,rfl,a5,a8⟩;have ao:=lh (ah.base_mono a5 O.o.size);have aJ:=O.u a8;clear a5 a8 aF;go_wp2_with (go_at_call 15;refine ae ?_);refine uM (eE h 8 aw oM _) ?_;rintro e aQ ⟨v3,rfl,P,l⟩;obtain⟨aU,aZ,rfl,W⟩:=P.sl aO (by rw[ay];omega);have R:=lh W;have N:=lh (ao.o.keep l);have E:=aJ.u l;have j:=lh (ay h 8);generalize le h 8=z at R j d|-;clear P l W;go_wp2_with (at_builtin;refine ae ?_);refine ar ?_;refine aD bQ aO bT rfl (.tmp 16) (.tmp 19) rfl (ys:=z) N.o rfl rfl R.o (by have:=j.o;simp[ay];omega) (by have:=E.o.size;omega) ?_;intro v4 b7 ag C _;have ⟨a1,a2,a3⟩:=N.o.after C E.o (lc _);have aB:=lh ag;have av:=lh a1;clear ag C a1 a2 a3 ac;go_wp2_with (go_at_call 15;refine ae ?_);refine uM (eE g 8 az oM _) ?_;rintro e ba ⟨v5,rfl,X,r⟩;obtain⟨aS,aY,rfl,Y⟩:=X.sl aO (by rw[ay];omega);have Q:=lh Y;have a0:=lh (aB.o.keep r);have F:=av.u r;have o:=lh (ay g 8);generalize le g 8=B at Q o d|-;clear X r Y;go_wp2_with (at_builtin;refine ae ?_);refine ar ?_
 refine aD bQ aO bT rfl (.tmp 21) (.tmp 24) rfl (ys:=B) a0.o rfl rfl Q.o (by have:=j.o;have:=o.o;simp[ay];omega) (by have:=F.o.size;omega) ?_;intro b5 b4 H S _;have ⟨b1,b2,b3⟩:=a0.o.after S F.o (lc _);have a6:=lh H;have aA:=lh b1;have V:=lh (show(le n 4++z++B).length=20 by have:=j.o;have:=o.o;simp[ay];omega);generalize le n 4++z++B=a4 at a6 V d;clear H S b1 b2 b3 T;go_wp2;go_loopw [5,6] (λvb vi wr=>∃(k:Nat) (y:Value),k<=n/\vi=.int .i64 k/\y=vb/\Hid (aE wr w.heap.size y (a4++(xs.take k).flatMap dJ))/\Hid (aa w wr)) (λ_ vi _=>n-(intOf vi).toNat)
 case atStart=>exact⟨0,_,lj _,rfl,rfl,(by show aE _ _ _ _;simp only[lR,List.flatMap_nil,lT];exact a6.o),aA.o⟩
 case round =>
  obtain⟨k,y,b6,rfl,rfl,q,s⟩:=hrel
  by_cases aG:k<n
  ·have m:k<xs.length:=(by rw[ai.o];exact aG);obtain⟨b,aT,ax,al⟩:=(au.o.keep s.o).at_ k m;have t:=al 0 (.int .i64 xs[k]) rfl;simp only[Lb,lE]at t;subst ax;have f:=lh (show(xs.take (k+1)).flatMap dJ=(xs.take k).flatMap dJ++dJ xs[k] by rw[ly m,lF];simp);have Z:=lh (show((xs.take k).flatMap dJ).length=k*8 by rw[sW,lD,Nat.min_eq_left oM]);generalize xs[k]=x at t f;generalize (xs.take k).flatMap dJ=aW at f Z q;obtain⟨p,aH,aC,K⟩:=ud x;have M:=lh (f.o.trans (by rw[<-K]));clear m al K f;go_wp2_with (go_at_call 15;refine ae ?_);refine uM (eE p 8 aH oM _) ?_;rintro e b0 ⟨aN,rfl,af,v⟩;obtain⟨aV,b8,rfl,L⟩:=af.sl aO (by rw[ay];omega);have D:=lh L;have J:=lh (q.o.keep v);have a9:=s.u v;have I:=lh (ay p 8);generalize le p 8=aq at D I M|-;clear af v L t;go_wp2_with (at_builtin;refine ae ?_);refine ar ?_;refine aD bQ aO bT rfl (.tmp 32) (.tmp 38) rfl (ys:=aq) J.o rfl rfl D.o (by have:=V.o;have:=Z.o;have:=I.o;simp;omega) (by have:=a9.o.size;omega) ?_;intro b9 aP ad a7 _;have ⟨d1,d2,d3⟩:=J.o.after a7 a9.o (lc _);have aL:=lh ad;have ap:=lh d1;clear ad a7 d1 d2 d3 aC;go_wp2;go_roundw
   case rel=>exact⟨k+1,_,oM,by go_num,rfl,(by show aE _ _ _ _;rw[M.o,<-lr];exact aL.o),ap.o⟩
   case measure=>simp[intOf];omega
  ·have U:k=n:=oM;have aI:=lh (show a4++(xs.take k).flatMap dJ=fZ xs by rw[d.o,U,<-ai.o,lC]);subst U;go_wp2;go_ret;exact⟨_,rfl,(by have:=q.o;rw[aI.o]at this;exact this),s.o⟩
attribute [local go_sem high] kE kD kF
theorem Og{a p:Nat}(d:p≠a)(c:List Nat):(c++if a<p+1 then [a] else [])=c++if a<p then [a] else []:=by
 congr 1
 by_cases b:a<p
 ·rw[if_pos b,if_pos oM]
 ·rw[if_neg b,if_neg oM]
theorem Oh(q:Nat)(L:List Nat):(L++if q<q+1 then [q] else [])=(L++if q<q then [q] else [])++[q]:=by
 rw[if_pos (Nat.lt_succ_self q),if_neg (Nat.lt_irrefl q),lT]
theorem M1(t l:Int)(A:Option Addr)(c:Nat)(xs:List ai)(w:World)(S:l=if t=2 then 2 else 1)(h:Sl w 3 ai.cells A c xs)(he:fC l xs=0)(a9:∀x∈xs,x.s.size<=maxLen)(aJ:xs.length<=64) :
 Calls prog 20 #[.int .u8 t,.slice A xs.length c] w λe w'=>∃G q v,e=.returned (.tuple #[.slice G (aQ xs).length q,v])/\Sl w' 3 ai.cells G q (aQ xs)/\ah w' w.heap.size 3 1 dD v (bF xs)/\aa w w':=by
 have r:=lh (λW (hW:aa w W)=>IY l A c xs W (h.keep hW) a9 oM);have aE:=lh h;have a4:iq l xs=(aQ xs,0):=by rw[Jq,if_pos he]
 rw[a4]at r;have aj:=(kW xs).1;have av:=lh (show ∀x∈xs,∀p (X:p<(aQ xs).length),eM (aQ xs)[p] x=decide (p=dE (aQ xs) x) from λx hx p X=>by
  have aq:=Ep aj p X (v:=x);rw[Bool.eq_iff_iff,pj,decide_eq_true_iff,aq];exact⟨λh=>h.2,λh=>⟨(qh hx).1,h⟩⟩)
 have af:=lh (show ∀x∈xs,dE (aQ xs) x<(aQ xs).length from λx hx=>(qh hx).2);have K:=jF xs;have a8:(bF xs).length=xs.length:=by simp[bF]
 have Y:=lh (show ∀i (hi:i<xs.length),(bF xs).take (i+1)=(bF xs).take i++[dE (aQ xs) xs[i]]from λi hi=>by
  rw[ly oM];simp[bF])
 have V:=lh (show(bF xs).take xs.length=bF xs by rw[<-a8];exact lC);generalize bF xs=F at a8 Y V|-;generalize aQ xs=d at av af K r Y|-;generalize a5:xs.length=n at aJ K r V|-;have aS:=lh a5;have aP:=lh K;clear h he a9 a4 aj a5;have J:(decide (t=2))=true\/decide (t=2)=false:=by cases decide (t=2)<;>simp
 rcases J with J|J
 all_goals
  have U:=J;simp only[decide_eq_true_iff,decide_eq_false_iff_not]at U
  first
   | (have Z:l=2:=by rw[S,if_pos U])
   | (have Z:l=1:=by rw[S,if_neg U])
  subst Z;clear S;go_enter func20,ntmps20;go_wp2_with (go_at_call 48;refine ae ?_);refine uM (r.o _ (aa.refl _)) ?_;rintro e m ⟨G,q,rfl,ap,aw⟩;have a6:=lh ap;have Q:=lh aw;have b0:d.length<=64:=by have:=aP.o;omega
  clear ap aw r K;go_wp2;go_loopw [22,9] (λi v wr=>∃(k:Nat) (B:Value),k<=n/\i=.int .i64 k/\B=v/\Hid (ah wr m.heap.size 3 1 dD B (F.take k))/\Hid (aa m wr)) (λi _ _=>n-(intOf i).toNat)
  case atStart=>exact⟨0,_,lj _,rfl,rfl,ah.nil_ _ _ _ _ _,aa.refl _⟩
  case round =>
   obtain⟨k,B,aW,rfl,rfl,N,R⟩:=hrel
   by_cases aK:k<n
   ·have L:k<xs.length:=(by rw[aS.o];exact aK);obtain⟨b,I,ac,ad,o,E,C⟩:=dL (aE.o.keep Q.o) k L;have T:=lh (Y.o k L);have O:=lh (av.o _ (ll L));have a0:=af.o _ (ll L);generalize aA:xs[k]=x at o E C T O a0;generalize dE d x=g at T O a0;obtain⟨ab,ag,au⟩:=x;simp only at o E C;have aM:A=some ⟨b,I,none⟩:=ac;clear aA ac;have aT:=lh o;have aF:=lh E;have aB:=lh C;have H:=lh ad;clear o E C ad;subst aM;obtain⟨ao,aU⟩:∃ao,ao=wr:=⟨_,rfl⟩;subst aU;go_wp2;go_loopw [27,9] (λi v wq=>∃(p:Nat) (z:Value),p<=d.length/\i=.int .i64 p/\z=v/\Hid (ah wq m.heap.size 3 1 dD z (F.take k++if g<p then [g] else []))/\Hid (aa m wq)) (λi _ _=>d.length-(intOf i).toNat)
    case atStart=>exact⟨0,_,lj _,rfl,rfl,(by show ah _ _ _ _ _ _ _;rw[if_neg oM,lT];exact N.o),R.o⟩
    case round =>
     obtain⟨p,z,X,rfl,rfl,M,a⟩:=hrel
     by_cases az:p<d.length
     ·obtain⟨aY,b1,aR,b3,a7,d1,d2⟩:=dL (a6.o.keep a.o) p az;have o:=(a.o.cell (p:=⟨b,I+k*3,none⟩) H.o).trans aT.o;have E:=(a.o.cell (p:=⟨b,I+k*3+1,none⟩) H.o).trans aF.o;have C:=(a.o.cell (p:=⟨b,I+k*3+2,none⟩) H.o).trans aB.o;have aZ:=lp H.o a.o.size;have f:=O.o p az;generalize d[p]=y at a7 d1 d2 f;obtain⟨ay,ak,ys⟩:=y;simp only[eM]at a7 d1 d2 f;subst aR
      by_cases D:p=g
      ·have aH:jD ay ak ab ag ys au=true:=(by rw[f];simpa using D);have aG:=lh D;clear f D;have b4:=a.o.size;go_upto_region 12 with fail;go_quiet (fail);go_wp2_with (at_builtin;refine ae ?_);refine ar ?_;have P:ah ((wr.drewN nq).alloc (.cells #[.int .i64 p] 3)) m.heap.size 3 1 dD z (F.take k++if g<p then [g] else []):=M.o.keep kP;have aN:((wr.drewN nq).alloc (.cells #[.int .i64 p] 3)).cell? ⟨(wr.drewN nq).heap.size,0,none⟩=some (.int .i64 p):=(by generalize wr.drewN nq=W0;simp[go_sem]);refine aD nP mE vv rfl (.tmp 39) (.tmp 41) rfl (ys:=[p]) P rfl rfl (br _ oM oM (λj u hu=>by
        match j,hu with
        | 0,hu=>cases hu;exact aN)) (by
        have aq:(F.take k).length<=k:=List.length_take_le _ _;have aV:(if g<p then [g] else []).length<=1:=(by split<;>simp);rw[lg,lJ];omega) sO ?_
       intro b2 aX al ax _;have ⟨a1,a2,a3⟩:=P.after ax (a.o.trans kP) (lc _);have aI:=lh al;have aC:=lh a1;clear al ax P a3;go_wp2;go_roundw
       case rel=>exact⟨p+1,_,oM,by go_num,rfl,(by show ah _ _ _ _ _ _ _;have:=aI.o;rw[<-aG.o]at this|-;rw[Oh];exact this),aC.o⟩
       case measure=>simp[intOf];omega
      ·have aH:jD ay ak ab ag ys au=false:=(by rw[f];simpa using D);clear f;go_upto_region 12 with fail;go_quiet (fail);go_wp2;go_roundw
       case rel=>exact⟨p+1,_,oM,by go_num,rfl,(by show ah _ _ _ _ _ _ _;rw[Og D];exact M.o.keep kP),a.o.trans kP⟩
       case measure=>simp[intOf];omega
     ·have f:p=d.length:=oM;have aO:=lh (show ah wr m.heap.size 3 1 dD z (F.take (k+1)) by rw[T.o];have:=M.o;rw[if_pos oM]at this;exact this);subst f;go_wp2;go_roundw
      case rel=>exact⟨k+1,_,oM,by go_num,rfl,aO.o,a.o⟩
      case measure=>simp[intOf];omega
   ·have aL:k=n:=oM;subst aL;rw[V.o]at N;go_wp2;exact bodyPost_ret (v:=.tuple #[.slice G d.length q,B]) (by simp[results,results20,go_sem]) rfl ⟨G,q,B,rfl,a6.o.keep R.o,N.o.base_mono Q.o.size,Q.o.trans R.o⟩
end Go.Proofs.YtpkocnpamcchcaaGreatDoor
