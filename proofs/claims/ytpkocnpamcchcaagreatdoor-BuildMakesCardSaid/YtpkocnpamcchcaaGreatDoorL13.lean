/- Parts. -/
import Derived.BigRegion
import Derived.Test.YtpkocnpamcchcaaGreatDoorL10
import Derived.Test.YtpkocnpamcchcaaGreatDoorL11
import Derived.Test.YtpkocnpamcchcaaGreatDoorL12
set_option maxRecDepth 100000
set_option maxHeartbeats 40000000
set_option linter.all false
namespace Go.Proofs.YtpkocnpamcchcaaGreatDoor
open Go.RowKit Go.Zone Go.Shelf Tryz Go.Roa Go.Star Go.Sym
theorem yJ{w:World}{g c:Nat}{x y:UInt8}(a:w.cell? ⟨g,0,none⟩=some (.int .u8 (x.toNat:Int)))(b:w.cell? ⟨g,1,none⟩=some (.int .u8 (y.toNat:Int)))(d:2<=c:=by decide)(hc2:c<=9223372036854775807:=by decide):cH w (some ⟨g,0,none⟩) c [x,y] :=
 ⟨d,hc2,sP,λi hi=>⟨g,0,rfl,λj u hu=>by
  match i,hi,j,hu with
  | 0,_,0,hu=>cases hu;exact a
  | 1,_,0,hu=>cases hu;exact b⟩⟩
def gG(c:aG):List UInt8:=[UInt8.ofNat c.kind.toNat,UInt8.ofNat c.name.size]++c.name.data.toList
def fb(c:bw)(i:Nat):List UInt8:=[UInt8.ofNat ((if cD c.inv (i:Int) then 1 else 0)+(if cD c.rng (i:Int) then 2 else 0))]
def gV(cs:List aG)(c:bw):List UInt8:=le cs.length 2++cs.flatMap gG++le (c.sort+1).toNat 2++(List.range cs.length).flatMap (fb c)++[UInt8.ofNat c.split.length]++c.split.flatMap (λx=>le x.toNat 2)++le c.leaf.toNat 4
theorem nR{l:List aG}{i:Int}(a:bR l i=true):0<=i/\i<l.length:=by
 cases i with
 | ofNat k =>
   by_cases b:k<l.length
   ·exact⟨sP,sO⟩
   ·simp[bR,b]at a
 | negSucc k=>simp[bR]at a
theorem yD{l:List aG}{c:bw}(b:Fits l c): -1<=c.sort/\c.sort<256:=by
 have a:=b.sort;have d:=b.may.hi
 rcases a with a|a
 ·omega
 ·have:=nR a;omega
theorem bE{a wr:World}{g j:Nat}{u:Value}(d:aa a wr)(c:g<a.heap.size)(b:a.cell? ⟨g,j,none⟩=some u):wr.cell? ⟨g,j,none⟩=some u:=(d.cell (p:=⟨g,j,none⟩) c).trans b
theorem Iq(A:Option Addr)(n:Nat)(cs:List aG)(c:bw)(w:World)(a9:Sl w 2 aG.cells A n cs)(bc:∀x∈cs,x.name.size<=140737488355328)(X:ff w c)(I:Fits cs c) :
 Calls prog 29 #[.slice A cs.length n,c.v] w λe w'=>∃v,e=.returned (.tuple #[v,.int .i64 0])/\aE w' w.heap.size v (gV cs c)/\aa w w':=by
 have bl:=lh (λW (hW:aa w W)=>fits_any A n cs c W (a9.keep hW) bc (X.keep hW));have bD:=ew I;have bh:=yD I;obtain⟨s0,O,M,F,R,S,G,Y,T,sp,C⟩:=c;simp only at bh;obtain⟨c4,bZ⟩:=bh;have c2:=cE a9;have c3:=cE X.i;have cb:=cE X.r;have c5:cs.length<=256:=I.may.hi;have bX:sp.length<=8:=I.few;have c7:1<=C:=I.lo;have c9:C<=1000000:=I.hi;have bt:=lh a9;have aR:=lh I.may;have bU:=lh (show ∀j,(a9:j<sp.length)->0<=sp[j]/\sp[j]<256 from λj hj=>by have:=nR (I.split j hj);simp only at this;omega);have bA:=lh (λW (hW:aa w W) (i:Int)=>sQ O M F i W (X.i.keep hW));have bC:=lh (λW (hW:aa w W) (i:Int)=>sQ R S G i W (X.r.keep hW));have bM:=lh X.s;simp only[bw.v];clear a9 I X bc;go_enter func29,ntmps29;go_upto_region 1 with fail;have J:cV w (w.alloc (.cells #[.int .i64 s0,.slice O F.length M,.slice R G.length S,.slice Y sp.length T,.int .i64 C] 26)) [.int .i64 s0,.slice O F.length M,.slice R G.length S,.slice Y sp.length T,.int .i64 C]:=cV.start (t:=26) (aa.refl _);generalize bn:World.alloc w _=f at J|-;have L:=J.lt;have aI:=J.at_ 0 _ rfl;have aC:=J.at_ 1 _ rfl;have aP:=J.at_ 2 _ rfl;have aN:=J.at_ 3 _ rfl;have aJ:=J.at_ 4 _ rfl;have U:=lh J.keep;have b2:=lh aI;have b8:=lh aC;have aM:=lh aP;have aH:=lh aN;have b0:=lh aJ;clear bn J;generalize w.heap.size=a5 at L aI aC aP aN aJ b2 b8 aM aH b0|-;go_wp2_with (go_at_call 55;refine ae ?_)
 refine uM (bl.o _ U.o) ?_;rintro e cc ⟨rfl,aX⟩;have av:=lh aX;clear aI aC aP aN aJ bl aX;go_wp2_with (go_at_call 64;refine ae ?_);refine uM (iG none 0 [] cs.length oM _ (Sl.nil_ _ dC) sP) ?_;rintro e c1 ⟨ca,rfl,b5,ag⟩;have bf:=lh (b5.base_mono av.o.size);have b4:=av.u ag;clear b5 ag av bD;go_wp2;go_loopw [6,23] (λv i wr=>∃(k:Nat) (l:Value) (d:List UInt8),k<=cs.length/\i=.int .i64 k/\l=v/\Hid (aE wr f.heap.size l d)/\Hid (d=le cs.length 2++(cs.take k).flatMap gG)/\d.length<=2+k*66/\Hid (aa f wr)) (λ_ i _=>cs.length-(intOf i).toNat)
 case atStart=>exact⟨0,_,_,lj _,rfl,rfl,bf.o,(by show _=_;simp),by simp[ay],b4.o⟩
 case round =>
  clear bf b4;obtain⟨k,l,d,aq,rfl,rfl,s,m,au,a⟩:=hrel
  by_cases z:k<cs.length
  ·obtain⟨b,bB,aF,b6,h0,h1⟩:=il (bt.o.keep (U.v a)) k z;have aV:=(aR.o.name k z).hi;have ag:=(aR.o.kind k z).1;have ab:=(aR.o.kind k z).2;have Z:=lh (show(cs.take (k+1)).flatMap gG=(cs.take k).flatMap gG++gG cs[k] by rw[ly z,lF];simp);subst aF;generalize cs[k]=bp at h0 h1 aV ag ab Z;obtain⟨p,P⟩:=bp;simp only at h0 h1 aV ag ab Z;have bx:=lh (show p.data.toList.length=p.size by rw[Lib.size_eq]);go_upto_region 7 with fail;have ah:aa wr (wr.alloc (.cells #[.string p,.int .u8 P] 53)):=kP;have aj:(wr.alloc (.cells #[.string p,.int .u8 P] 53)).cell? ⟨wr.heap.size,0,none⟩=some (.string p):=sG;have bi:(wr.alloc (.cells #[.string p,.int .u8 P] 53)).cell? ⟨wr.heap.size,1,none⟩=some (.int .u8 P):=sG;have b3:=s.o.lt;have az:l.ownBlock≠some wr.heap.size:=λe=>(by have:=(b3 _ e).2;omega);have aU:=lh (s.o.keep ah);have aS:=a.u ah;generalize bV:World.alloc wr _=c6 at ah aj bi aU aS|-;generalize wr.heap.size=g at aj bi az|-;have bP:=block_lt_of_cell aj;have bN:=lh az;have c8:=aS.o.size;clear bV ah b3 az s a h0 h1 b6;have bW:IntKind.u8.wrap (p.size:Int)=(p.size:Int):=(by simp[IntKind.wrap,IntKind.signed,IntKind.bits];omega);go_region_law (first
    | (refine ru bQ aO bT rfl (.tmp 27) (.tmp 34) rfl (ys:=[UInt8.ofNat P.toNat,UInt8.ofNat p.size]) (aU.o.keep kP) rfl rfl (yJ (x:=UInt8.ofNat P.toNat) (y:=UInt8.ofNat p.size) ?h0 ?h1) sO sO ?_
       case h0=>rw[dH,show((P.toNat:Nat):Int)%256=P from oM];simp[go_sem]
       case h1=>rw[dH,show(p.size:Int)%256=(p.size:Int) from oM];simp[go_sem]
       intro v3 ak bk aA bO;have bG:ak.cell? ⟨g,0,none⟩=some (.string p):=aA.cell (by simp[go_sem,aj,bP]) λhj=>bN.o hj.symm;have c0:g<ak.heap.size:=block_lt_of_cell bG;have bm:=lh ((aU.o.keep kP).kept (w:=f) aA (aS.o.trans kP) (lc _));have a6:=lh bk;clear bk aA bO)
    | (refine GL rfl (.tmp 35) (.tmp 37) rfl rfl a6.o p rfl sO bm.o.size ?_
       intro v4 ac bj aW;have bF:=lh (a6.o.kept (w:=f) aW bm.o (lc _));have E:=lh bj;clear bj aW))
   all_goals
    go_wp2;go_roundw
    case rel=>exact⟨k+1,_,_,oM,by go_num,rfl,E.o,(by
     show _=_;rw[Z.o,m.o];simp[gG]),(by
     have:=bx.o;simp only[lg,lw,lB];omega),bF.o⟩
    case measure=>simp[intOf];omega
  ·have a7:k=cs.length:=oM;subst a7;rw[lC]at m;have aY:=bE a.o L b2.o;have a0:a5<wr.heap.size:=block_lt_of_cell aY;have ba:d.length<=20000:=oM;obtain⟨H,ao,al,rfl,a3,_,Q⟩:=oU s.o oM;have bu:H.length<=20000:=(by rw[Q.o];exact ba);obtain⟨V,b1⟩:∃V:Nat,s0+1=(V:Int):=⟨(s0+1).toNat,oM⟩;have bv:=lh b1;have bL:V<65536:=oM;clear au ba;go_wp2_with (go_at_call 64;refine ae ?_);refine uM (iG ao al H V bL _ (a3.o.keep kP) oM) ?_;rintro e bz ⟨v2,rfl,b9,ab⟩;have bg:=a.u ab;have aw:=lh (b9.base_mono a.o.size:aE bz f.heap.size v2 _);have bb:=lh (show H++le V 2=le cs.length 2++cs.flatMap gG++le (s0+1).toNat 2 by
    rw[Q.o,m.o]
    congr 2
    have:=bv.o;omega)
   have bR:(H++le V 2).length<=20002:=(by simp[ay];omega);generalize H++le V 2=aZ at aw bb bR;clear b9 ab s m a3 Q aY a0 b1;go_wp2;go_loopw [6,48] (λv i wr=>∃(k:Nat) (l:Value) (d:List UInt8),k<=cs.length/\i=.int .i64 k/\l=v/\Hid (aE wr f.heap.size l d)/\Hid (d=aZ++(List.range k).flatMap (fb ⟨s0,O,M,F,R,S,G,Y,T,sp,C⟩))/\d.length<=20002+k/\Hid (aa f wr)) (λ_ i _=>cs.length-(intOf i).toNat)
   case atStart=>exact⟨0,_,_,lj _,rfl,rfl,aw.o,(by show _=_;simp),oM,bg.o⟩
   case round =>
    clear aw bg z aq a;obtain⟨k,l,d,aq,rfl,rfl,s,m,au,a⟩:=hrel;have aT:=bE a.o L b8.o;have b7:=bE a.o L aM.o;have a0:a5<wr.heap.size:=block_lt_of_cell aT
    by_cases z:k<cs.length
    ·have ap:=lh (show(List.range (k+1)).flatMap (fb ⟨s0,O,M,F,R,S,G,Y,T,sp,C⟩)=(List.range k).flatMap (fb ⟨s0,O,M,F,R,S,G,Y,T,sp,C⟩)++fb ⟨s0,O,M,F,R,S,G,Y,T,sp,C⟩ k by rw[List.range_succ,lF];simp)
     cases bK:cD F (k:Int)
     all_goals cases bs:cD G (k:Int)
     all_goals
      have N:=lh (And.intro bK bs);go_wp2_with (go_at_call 56;refine ae ?_);refine ar ?_;with_reducible refine(bA.o _ (U.v a) _).mono ?_;rintro e ak ⟨rfl,ax⟩;have ai:=a.u ax;have a6:=lh (s.o.keep ax);have z2:=bE ai.o L aM.o;have bo:a5<ak.heap.size:=block_lt_of_cell z2;clear aT b7 ax s a;go_wp2_with (go_at_call 56;refine ae ?_);refine ar ?_;with_reducible refine(bC.o _ (U.v ai) _).mono ?_;rintro e ac ⟨rfl,aL⟩;have K:=ai.u aL;have E:=lh (a6.o.keep aL);clear z2 aL a6 ai bo;go_wp2_with (at_builtin;refine ae ?_);refine ar ?_
     ·have h:aE (ac.alloc (.cells #[.int .u8 0] 5)) f.heap.size l d:=E.o.keep (aa.alloc (aa.refl _) _);refine aD bQ aO bT rfl (.tmp 61) (.tmp 63) rfl (ys:=[0]) h rfl rfl (br _ oM oM (ed _ sG)) sO (by simp;exact Lv K.o.size) ?_;intro v5 ad q o _;have ⟨a1,a2,_⟩:=h.after (w:=f) o (K.o.trans (aa.alloc (aa.refl _) _)) (lc _);have D:=lh q;have B:=lh a1;clear q o a1 a2 h E;go_wp2;go_roundw
      case rel=>exact⟨k+1,_,_,oM,by go_num,rfl,D.o,(by
       show _=_;rw[ap.o,m.o];simp[fb,N.o.1,N.o.2]),sO,B.o⟩
      case measure=>simp[intOf];omega
     ·have h:aE (ac.alloc (.cells #[.int .u8 2] 5)) f.heap.size l d:=E.o.keep (aa.alloc (aa.refl _) _);refine aD bQ aO bT rfl (.tmp 61) (.tmp 63) rfl (ys:=[2]) h rfl rfl (br _ oM oM (ed _ sG)) sO (by simp;exact Lv K.o.size) ?_;intro v5 ad q o _;have ⟨a1,a2,_⟩:=h.after (w:=f) o (K.o.trans (aa.alloc (aa.refl _) _)) (lc _);have D:=lh q;have B:=lh a1;clear q o a1 a2 h E;go_wp2;go_roundw
      case rel=>exact⟨k+1,_,_,oM,by go_num,rfl,D.o,(by
       show _=_;rw[ap.o,m.o];simp[fb,N.o.1,N.o.2]),sO,B.o⟩
      case measure=>simp[intOf];omega
     ·have h:aE (ac.alloc (.cells #[.int .u8 1] 5)) f.heap.size l d:=E.o.keep (aa.alloc (aa.refl _) _);refine aD bQ aO bT rfl (.tmp 61) (.tmp 63) rfl (ys:=[1]) h rfl rfl (br _ oM oM (ed _ sG)) sO (by simp;exact Lv K.o.size) ?_;intro v5 ad q o _;have ⟨a1,a2,_⟩:=h.after (w:=f) o (K.o.trans (aa.alloc (aa.refl _) _)) (lc _);have D:=lh q;have B:=lh a1;clear q o a1 a2 h E;go_wp2;go_roundw
      case rel=>exact⟨k+1,_,_,oM,by go_num,rfl,D.o,(by
       show _=_;rw[ap.o,m.o];simp[fb,N.o.1,N.o.2]),sO,B.o⟩
      case measure=>simp[intOf];omega
     ·have h:aE (ac.alloc (.cells #[.int .u8 3] 5)) f.heap.size l d:=E.o.keep (aa.alloc (aa.refl _) _);refine aD bQ aO bT rfl (.tmp 61) (.tmp 63) rfl (ys:=[3]) h rfl rfl (br _ oM oM (ed _ sG)) sO (by simp;exact Lv K.o.size) ?_;intro v5 ad q o _;have ⟨a1,a2,_⟩:=h.after (w:=f) o (K.o.trans (aa.alloc (aa.refl _) _)) (lc _);have D:=lh q;have B:=lh a1;clear q o a1 a2 h E;go_wp2;go_roundw
      case rel=>exact⟨k+1,_,_,oM,by go_num,rfl,D.o,(by
       show _=_;rw[ap.o,m.o];simp[fb,N.o.1,N.o.2]),sO,B.o⟩
      case measure=>simp[intOf];omega
    ·have a7:k=cs.length:=oM;subst a7;have bI:=bE a.o L aH.o;have bY:IntKind.u8.wrap (sp.length:Int)=(sp.length:Int):=(by simp[IntKind.wrap,IntKind.signed,IntKind.bits];omega);clear aT b7;go_wp2_with (at_builtin;refine ae ?_);refine ar ?_;have h:aE (wr.alloc (.cells #[.int .u8 (sp.length:Int)] 5)) f.heap.size l d:=s.o.keep (aa.alloc (aa.refl _) _);refine aD bQ aO bT rfl (.tmp 66) (.tmp 71) rfl (ys:=[UInt8.ofNat sp.length]) h rfl rfl (br _ oM oM (ed _ (by rw[dH,show(sp.length:Int)%256=(sp.length:Int) from oM];simp[go_sem]))) sO (by simp;exact Lv a.o.size) ?_;intro v5 ad q o _;have ⟨a1,a2,_⟩:=h.after (w:=f) o (a.o.trans (aa.alloc (aa.refl _) _)) (lc _);have D:=lh q;have B:=lh a1;have bd:=lh (show d++[UInt8.ofNat sp.length]=aZ++(List.range cs.length).flatMap (fb ⟨s0,O,M,F,R,S,G,Y,T,sp,C⟩)++[UInt8.ofNat sp.length] by rw[m.o]);have bJ:(d++[UInt8.ofNat sp.length]).length<=20300:=sO;generalize d++[UInt8.ofNat sp.length]=bH at D bd bJ;clear q o a1 a2 h s bI a0 m au;have z3:=bE B.o L aH.o;have a0:a5<ad.heap.size:=block_lt_of_cell z3;go_wp2;clear z3 a0
     go_loopw [6,76] (λv i wr=>∃(k:Nat) (l:Value) (d:List UInt8),k<=sp.length/\i=.int .i64 k/\l=v/\Hid (aE wr f.heap.size l d)/\Hid (d=bH++(sp.take k).flatMap (λx=>le x.toNat 2))/\d.length<=20300+k*2/\Hid (aa f wr)) (λ_ i _=>sp.length-(intOf i).toNat)
     case atStart=>exact⟨0,_,_,lj _,rfl,rfl,D.o,(by show _=_;simp),oM,B.o⟩
     case round =>
      clear D B z aq a;obtain⟨k,l,d,aq,rfl,rfl,s,m,au,a⟩:=hrel;obtain⟨H,ao,al,rfl,a3,_,Q⟩:=oU s.o oM;have bu:H.length<=20320:=by rw[Q.o];omega
      by_cases z:k<sp.length
      ·obtain⟨b,bB,aF,b6,h0⟩:=eZ (bM.o.keep (U.v a)) k z;obtain⟨h1,bq⟩:=bU.o k z;have Z:=lh (show(sp.take (k+1)).flatMap (λx=>le x.toNat 2)=(sp.take k).flatMap (λx=>le x.toNat 2)++le sp[k].toNat 2 by rw[ly z,lF];simp);subst aF;generalize sp[k]=x at h0 h1 bq Z;obtain⟨y,rfl⟩:∃y:Nat,x=(y:Int):=⟨x.toNat,oM⟩;go_wp2_with (go_at_call 64;refine ae ?_);refine uM (iG ao al H y oM _ (a3.o.keep kP) oM) ?_;rintro e aK ⟨a4,rfl,af,a8⟩;have aQ:=a.u a8;have aB:=lh (af.base_mono a.o.size:aE aK f.heap.size a4 _);clear af a8;go_wp2;go_roundw
       case rel=>exact⟨k+1,_,_,oM,by go_num,rfl,aB.o,(by
        show _=_;rw[Q.o,m.o,Z.o];simp),(by rw[Q.o];simp[ay];omega),aQ.o⟩
       case measure=>simp[intOf];omega
      ·have a7:k=sp.length:=oM;subst a7;rw[lC]at m;have bS:=bE a.o L b0.o;have a0:a5<wr.heap.size:=block_lt_of_cell bS;obtain⟨y,rfl⟩:∃y:Nat,C=(y:Int):=⟨C.toNat,oM⟩;go_wp2_with (go_at_call 31;refine ae ?_);refine uM (iQ ao al H y oM _ (a3.o.keep kP) oM) ?_;rintro e aK ⟨a4,rfl,af,a8⟩;have aQ:=a.u a8;have aB:=lh (af.base_mono a.o.size:aE aK f.heap.size a4 _);clear af a8;go_wp2;exact bodyPost_ret (v:=.tuple #[a4,.int .i64 0]) (by simp[results,results29,go_sem]) rfl ⟨a4,rfl,by
        have:=aB.o.base_mono U.o.size;rw[Q.o,m.o,bd.o,bb.o]at this
        simpa[gV]using this,U.o.trans aQ.o⟩
theorem OP(w:World):Rt 122 #[.int .i64 0,.int .i64 0] w (.bool true):=by
 go_enter func122,ntmps122;go_wp2;go_ret;exact⟨rfl,kP⟩
structure kZ(w:World)(b rows many wd:Nat)(A:Option Addr)(c:Nat)(bs:List UInt8):Prop where
 r:w.cell? ⟨b,0,none⟩=some (.int .i64 rows)
 m:w.cell? ⟨b,1,none⟩=some (.int .i64 many)
 w_:w.cell? ⟨b,2,none⟩=some (.int .i64 wd)
 b_:w.cell? ⟨b,3,none⟩=some (.slice A bs.length c)
 sl:cH w A c bs
theorem kZ.keep{w f:World}{b rows many e c:Nat}{A:Option Addr}{bs:List UInt8}(a:kZ w b rows many e A c bs)(d:aa w f):kZ f b rows many e A c bs :=
 ⟨(d.cell (p:=⟨b,0,none⟩) (block_lt_of_cell a.r)).trans a.r,(d.cell (p:=⟨b,1,none⟩) (block_lt_of_cell a.m)).trans a.m,(d.cell (p:=⟨b,2,none⟩) (block_lt_of_cell a.w_)).trans a.w_,(d.cell (p:=⟨b,3,none⟩) (block_lt_of_cell a.b_)).trans a.b_,a.sl.keep d⟩
theorem NV{b rows many a c:Nat}{A:Option Addr}{bs:List UInt8}(w:World)(d:kZ w b rows many a A c bs)(f:0<a):Rt 126 #[.pointer (some ⟨b,0,none⟩)] w (.bool false):=by
 have e:=d.w_;have g:=block_lt_of_cell e;have h:((a:Int)==0)=false:=sO;clear d;go_enter func126,ntmps126;go_wp2;go_ret;exact⟨rfl,kP⟩
def PB(base:Nat)(bs:List UInt8):dQ:=λv W=>∃A c,v=.slice A bs.length c/\aE W base (.slice A bs.length c) bs
theorem PB.mono{base:Nat}{bs:List UInt8}:ku (PB base bs):=λ_ _ _ hk ⟨A,c,h1,h2⟩=>⟨A,c,h1,h2.keep hk⟩
theorem AQ{b:World}{base:Nat}{v:Value}{bs:List UInt8}(a:aE b base v bs)(d:bs.length<=1000):PB base bs v b:=by
 obtain⟨A,c,rfl⟩:=bp a;exact⟨A,c,rfl,a⟩
def jl(rows many a:Nat)(bs:List UInt8):List UInt8:=le rows 4++le many 4++[UInt8.ofNat a]++bs
theorem On{b rows many d c:Nat}{A:Option Addr}{bs:List UInt8}(w:World)(t:kZ w b rows many d A c bs)(W:0<d)(al:d<=64)(a0:rows<4294967296)(a8:many<4294967296)(ao:bs.length<=1000000000) :
 Rb 76 #[.pointer (some ⟨b,0,none⟩)] w (jl rows many d bs):=by
 have Q:=lh (NV w t W);have E:=lh t;clear t;go_enter func76,ntmps76;go_wp2_with (go_at_call 126;refine ae ?_);refine uM Q.o ?_;rintro e a ⟨rfl,y⟩;have F:=lh y;have h:=lh (E.o.keep y);clear Q E y;go_wp2;have H:=h.o.r;have V:=h.o.m;have k:=block_lt_of_cell H;have a3:IntKind.u32.wrap (rows:Int)=(rows:Int):=by simp[IntKind.wrap,IntKind.signed,IntKind.bits];omega
 have a4:IntKind.u32.wrap (many:Int)=(many:Int):=by simp[IntKind.wrap,IntKind.signed,IntKind.bits];omega
 refine zR kR ?_
 iterate 5
  refine aR (λK hK=>?_);go_simp
  (refine hK _ _ ?_;clear hK K)
 refine bW 11 (PB a.heap.size (le rows 4)) rfl PB.mono ?_ ?_
 ·intro p;simp only[aj,aC,Lr];go_simp;go_at_call 31;refine(iQ none 0 [] rows a0 _ (Sl.nil_ _ dC) sP).mono ?_;rintro e o ⟨u,rfl,q,x⟩;exact⟨u,rfl,AQ (q.base_mono (by simp[az])) (by simp[ay]),x⟩
 simp only[aF,Lr]
 iterate 5
  refine aR (λK hK=>?_);unfold aw au;rw[bZ (by rfl)];go_simp
  (refine hK _ _ ?_;clear hK K)
 refine bW 17 (PB a.heap.size (le rows 4++le many 4)) rfl PB.mono ?_ ?_
 ·intro p;rw[show aC _ _ _=[(11,PB a.heap.size (le rows 4))]from rfl];rintro v ⟨X,Y,rfl,M⟩;have a1:=ah.sl M aO (by simp[ay]);obtain⟨ag,aD,D,s⟩:=a1;simp only[Value.slice.injEq,true_and]at D;obtain⟨rfl,rfl⟩:=D;obtain⟨g,f⟩:∃g,g=le rows 4:=⟨_,rfl⟩;rw[<-f]at s|-;have R:g.length=4:=by rw[f,ay]
  have S:=lh s;have J:=lh R;clear s M f R;go_simp;go_at_call 31;refine(iQ X Y g many a8 _ S.o (by rw[J.o];decide)).mono ?_;rintro e o ⟨u,rfl,q,x⟩;exact⟨u,rfl,AQ (q.base_mono (by simp[az])) (by simp[J.o,ay]),x⟩
 refine bW 3 (PB a.heap.size (le rows 4++le many 4)) rfl PB.mono ?_ ?_
 ·intro p;rw[show aC _ _ _=[(17,PB a.heap.size (le rows 4++le many 4))]from rfl];rintro v Z;go_simp
  (try exact⟨Z,aa.refl _⟩)
 refine bG ?_;intro p2;simp only[aj];rintro v3 U aq _ af _;simp only[Lr,aj];obtain⟨ak,ap,rfl,G⟩:=U;have j:=lh G;have i:=lh (show aa a (a.gro p2) from ce a p2);generalize a9:a.gro p2=o at j i|-;obtain⟨g,f⟩:∃g,g=le rows 4++le many 4:=⟨_,rfl⟩;rw[<-f]at j|-;have a7:=lh f;have O:g.length=8:=by rw[f];simp[ay]
 have L:=lh O;clear a9 H V a3 a4 f O G;go_simp;go_wp2;have ax:=(i.o.cell (p:=⟨b,2,none⟩) k).trans h.o.w_;have av:=(i.o.cell (p:=⟨b,3,none⟩) k).trans h.o.b_;have aA:b<o.heap.size:=lp k i.o.size;have ai:=i.o.size;have ad:IntKind.u8.wrap (d:Int)=(d:Int):=by simp[IntKind.wrap,IntKind.signed,IntKind.bits];omega
 have B:=lh (show b<a.heap.size from k);go_region_law (first
  | (refine ru bQ aO bT rfl (.tmp 18) (.tmp 24) rfl (ys:=[UInt8.ofNat d]) (j.o.keep kP) rfl rfl (br _ oM oM (ed _ ?h0)) (by have:=L.o;simp;omega) sO ?_
     case h0=>rw[dH,show(d:Int)%256=d from oM];simp[go_sem]
     intro v4 a5 P z ab;have l:=(j.o.keep kP).kept (w:=a) z (i.o.trans kP) (lc _);have ar:=(l.cell (p:=⟨b,3,none⟩) B.o).trans h.o.b_;have ac:b<a5.heap.size:=lp B.o l.size;have n:=lh l;have I:=lh P;clear P z ab l)
  | (refine ru bQ aO bT rfl (.tmp 25) (.tmp 29) rfl (ys:=bs) I.o rfl rfl (h.o.sl.keep n.o) (by have:=L.o;simp;omega) n.o.size ?_
     intro v5 aB N C a6;have T:=lh (I.o.kept (w:=a) C n.o (lc _));have a2:=lh N;clear N C a6))
 all_goals
  go_wp2;go_ret;exact⟨_,rfl,by
   have:=a2.o.base_mono F.o.size;rw[a7.o]at this;exact this,F.o.trans T.o⟩
def wY(many n:Nat):Prop:=(1<=many/\many<=16777216)\/(many=0/\n=0)
def cM(many:Nat):Nat:=jN (many-1)
theorem tZ(many:Nat):1<=cM many:=by unfold cM jN;omega
theorem mX(many:Nat)(h:many<=16777216):cM many<=24:=by
 unfold cM jN;have:=(bitLen_le 24 (many-1) oM).2 oM;omega
theorem xr(many x:Nat)(a:many<=16777216)(b:x<many):x<2^cM many:=by
 have c:=(bitLen_le (cM many) (many-1) oM).1 (by unfold cM jN;omega);omega
def dD(x:Nat):List Value:=[.int .i64 (x:Int)]
theorem qp(x:Nat):dD x=[.int .i64 (x:Int)]:=rfl
theorem jt(x:Nat):fr x=[.int .u64 (x:Int)]:=rfl
theorem jS{w:World}{c:Nat}{A:Option Addr}{xs:List Nat}(e:Sl w 1 dD A c xs)(i:Nat)(hi:i<xs.length):∃b a,A=some ⟨b,a,none⟩/\b<w.heap.size/\w.cell? ⟨b,a+i,none⟩=some (.int .i64 (xs[i]:Int)):=by
 obtain⟨b,a,f,g⟩:=e.at_ i hi;have d:=g 0 _ rfl;rw[Lb,lE]at d;exact⟨b,a,f,World.block_lt_of_cell? w _ d,d⟩
theorem sM:(prog.info? 47).map (λi=>(i.zero,i.size,i.bytes))=some (some (.int .u64 0),1,8):=kR
theorem OQ(n many:Nat)(a:wY many n)(w:World):Rt 122 #[.int .i64 n,.int .i64 many] w (.bool true):=by
 rcases a with⟨e,c⟩ | ⟨rfl,rfl⟩
 ·have b:decide ((1:Int)<=(many:Int))=true:=sO;have d:decide ((many:Int)<=16777216)=true:=sO;go_enter func122,ntmps122;go_wp2
  all_goals go_ret
  all_goals exact⟨by simp_all,kP⟩
 ·exact OP w
theorem OM(many:Nat)(b:many<=16777216)(w:World):Rt 123 #[.int .i64 many] w (.int .i64 (cM many:Nat)):=by
 have a:=lh (E9 (many-1) oM);have c:IntKind.u64.wrap (max ((many:Int)-1) 0)=((many-1:Nat):Int):=by
  rw[IntKind.wrap_u64]<;>omega
 go_enter func123,ntmps123;go_wp2_with (go_at_call 160;refine uC (a.o _) λp=>?_);go_ret;exact⟨rfl,kP⟩
theorem OO(A:Option Addr)(c many:Nat)(a:List Nat)(w:World)(l:Sl w 1 dD A c a)(G:wY many a.length)(a9:a.length<=16777216)(q:∀x∈a,x<many) :
 Calls prog 74 #[.slice A a.length c,.int .i64 many] w λe w'=>∃b A' c',e=.returned (.tuple #[.pointer (some ⟨b,0,none⟩),.int .i64 0])/\kZ w' b a.length many (cM many) A' c' (fl a (cM many))/\w.heap.size<=b/\(∀bb h,A'=some ⟨bb,h,none⟩->w.heap.size<=bb)/\aa w w':=by
 have J:many<=16777216:=by rcases G with l|l<;>omega
 have M:=lh (OQ a.length many G);have a5:=lh (OM many J);have I:=lh q;have a4:=lh l;have ag:=l.cap;have al:=l.big;have r:=lh J;clear l q G;generalize a3:a.length=n at a9 ag M;have E:=lh a3;go_enter func74,ntmps74;go_wp2_with (go_at_call 122;refine uC (M.o _) λp=>?_);rename GB=>p;have m:aa w (w.gro p):=ce _ _;generalize w.gro p=j at m|-;obtain⟨i0,N,R,i2,i3⟩:=info_parts sM;obtain⟨W',V,Z,B⟩:=oR (P:=prog) (z:=(0:Nat)) jt rfl underlying104 N R i2 n w.heap.size j (by rw[i3];omega) oM m.size;rw[V];have d:=lh Z;have f:=lh (m.trans B);clear Z B V i0 N R i2 i3 m;generalize j.heap.size=g at d|-;clear j;go_wp2;go_loopw [22] (λi wr=>∃k:Nat,k<=n/\i=.int .i64 k/\Hid (ah wr w.heap.size 47 1 fr (.slice (some ⟨g,0,none⟩) n n) (a.take k++List.replicate (n-k) 0))/\Hid (aa w wr)) (λi _=>n-(intOf i).toNat)
 case atStart=>exact⟨0,lj _,rfl,d.o,f.o⟩
 case round =>
  clear d f;obtain⟨k,B,rfl,d,f⟩:=hrel
  by_cases W:k<n
  ·have F:k<a.length:=(by rw[E.o];exact W);obtain⟨b,h,a6,q,ak⟩:=jS (a4.o.keep f.o) k F;have K:=I.o a[k] (ll F);have o:(a.take k++List.replicate (n-k) 0).length=n:=sO;obtain⟨a2,av,au,U⟩:=d.o.cell1 jt o.symm k oM;have T:(a.take k++List.replicate (n-k) 0).set k a[k]=a.take (k+1)++List.replicate (n-(k+1)) 0:=by
    rw[Lg _ _ (by rw[lD];omega),lD,Nat.min_eq_left oM,Nat.sub_self,show n-k=(n-(k+1))+1 from oM,List.replicate_succ,List.set_cons_zero,ly F,lr];rfl
   have C:=d.o.set1 jt o.symm k a[k] rfl;rw[T]at C;generalize (a.take k++List.replicate (n-k) 0)[k]'(by rw[o];exact W)=y at a2;have a1:=lh C;have ai:=lh U;have ao:IntKind.u64.wrap (a[k]:Int)=(a[k]:Int):=(by rw[IntKind.wrap_u64]<;>omega);have ax:(a[k]:Int)<(many:Int):=oM;have ap:decide ((many:Int)<=(a[k]:Int))=false:=sO;subst a6;clear C T o U;go_wp2;go_roundw
   case rel=>exact⟨k+1,oM,by go_num,a1.o,f.o.setCell ai.o _⟩
   case measure=>simp[intOf];omega
  ·have a8:k=n:=oM;subst a8;rw[Nat.sub_self,List.replicate_zero,lT,<-E.o,lC]at d;have aq:decide ((16777216:Int)<(k:Int))=false:=sO;go_wp2_with (go_at_call 123;refine ae ?_);refine uM (a5.o _) ?_;rintro e j ⟨rfl,H⟩;have Q:=f.u H;have ac:=lh (d.o.keep H);clear H d f;obtain⟨aj,aw,t,X⟩:=ac.o.sl (λ_=>rfl) oM;injection t with t _ hc8;subst t;subst hc8;have D:=J0 (some ⟨g,0,none⟩) a.length (cM many) a j X (tZ many) (by have:=mX many r.o;omega) oM (λx K=>xr many x r.o (I.o x K));rw[E.o]at D;have ab:=lh D;clear D X;go_wp2_with (go_at_call 124;refine ae ?_);refine uM ab.o ?_;rintro e O ⟨v,rfl,s,Y⟩;obtain⟨L,af,rfl,S⟩:=s.sl aO (by
    have ar:a.length*cM many<=16777216*24:=Ln oM (mX many r.o);simp only[fl,ay];omega)
   have a7:=lh (show ∀bb h,L=some ⟨bb,h,none⟩->j.heap.size<=bb from λbb h e=>(s.lt bb (by rw[e];rfl)).1);have ad:=lh S;have a0:=Q.u Y;clear s S Y;go_wp2;exact bodyPost_ret (v:=.tuple #[.pointer (some ⟨O.heap.size,0,none⟩),.int .i64 0]) (by simp[results,results74,go_sem]) rfl
    ⟨O.heap.size,L,af,rfl,⟨sG,sG,sG,sG,ad.o.keep kP⟩,a0.o.size,λbb h e=>lk Q.o.size (a7.o bb h e),a0.o.trans kP⟩
def fL(x:Nat):List Value:=[.int .u32 (x:Int)]
theorem rF{w:World}{c:Nat}{A:Option Addr}{xs:List Nat}(e:Sl w 1 fL A c xs)(i:Nat)(hi:i<xs.length):∃b a,A=some ⟨b,a,none⟩/\b<w.heap.size/\w.cell? ⟨b,a+i,none⟩=some (.int .u32 (xs[i]:Int)):=by
 obtain⟨b,a,f,g⟩:=e.at_ i hi;have d:=g 0 _ rfl;rw[Lb,lE]at d;exact⟨b,a,f,World.block_lt_of_cell? w _ d,d⟩
theorem nu{w:World}{c b d:Nat}{xs:List Nat}(e:Sl w 1 fL (some ⟨b,d,none⟩) c xs)(i:Nat)(hi:i<xs.length):b<w.heap.size/\w.cell? ⟨b,d+i,none⟩=some (.int .u32 (xs[i]:Int)):=by
 obtain⟨j,h,a,g,f⟩:=rF e i hi;injection a with a;injection a with e1 e2;subst e1;subst e2;exact⟨g,f⟩
def Up(xs:List Nat):Prop:=∀i j,(hij:i<=j)->(h:j<xs.length)->xs[i]'(Nat.lt_of_le_of_lt hij h)<=xs[j]
theorem K8(k:Int)(w:World):Rs 271 #[.int .u32 k] w (.bool false):=by
 go_enter func271,ntmps271;go_wp2;go_ret;exact⟨sP,rfl⟩
theorem vN(x y:Nat)(w:World):Rt 239 #[.int .u32 (x:Int),.int .u32 (y:Int)] w (.bool (decide (x<y))):=by
 go_enter func239,ntmps239;go_wp2_with (go_at_call 271;refine(K8 _ _).mono ?_;rintro e a ⟨rfl,rfl⟩)
 all_goals go_ret
 all_goals exact⟨by simp_all,aa.refl _⟩
theorem Ks(e f c i j n:Nat)(xs:List Nat)(p:Value)(w:World)(h:xs.length=n)(d:Up xs)(a:Sl w 1 fL (some ⟨e,f,none⟩) c xs)(g:i<=j)(o:j<n) :
 Rt 287 #[.slice (some ⟨e,f,none⟩) n c,.int .i64 i,.int .i64 j,p] w (.tuple #[.int .i64 i,.int .i64 j]):=by
 obtain⟨q,k⟩:=nu a i oM;obtain⟨_,m⟩:=nu a j oM;have b:=d i j g oM;generalize xs[i]'oM=x at k b;generalize xs[j]'oM=y at m b;have l:=lh (show ∀W,Rt 239 #[.int .u32 (y:Int),.int .u32 (x:Int)] W (.bool false) from λW=>by
  have:=vN y x W
  rwa [show decide (y<x)=false from sO]at this)
 have hi:i<n:=oM;clear a d h b;go_enter func287,ntmps287;go_wp2;refine zR kR ?_
 repeat
  refine aR (λK hK=>?_);go_simp
  first
  | (refine hK _ _ ?_;clear hK K)
  | (apply Exists.intro
     refine⟨λp=>?_,hK _ _ ?_⟩
     ((go_at_call 239;exact Zone.zc (l.o _)))
     clear hK K)
 refine bG ?_;intro r;simp only[aj];go_wp2;exact bodyPost_ret (v:=.tuple #[.int .i64 i,.int .i64 j]) (by simp[results,results287,go_sem]) rfl ⟨rfl,kP⟩
theorem BL(f g c i j k n:Nat)(xs:List Nat)(p:Value)(w:World)(r:xs.length=n)(l:Up xs)(m:Sl w 1 fL (some ⟨f,g,none⟩) c xs)(o:i<=j)(z:j<=k)(y:k<n) :
 Rt 270 #[.slice (some ⟨f,g,none⟩) n c,.int .i64 i,.int .i64 j,.int .i64 k,p] w (.int .i64 j):=by
 have d:=lh (λW (hW:aa w W) (a b:Nat) (hab:a<=b) (hb:b<n)=>Ks f g c a b n xs p W r l (m.keep hW) hab hb);clear r l m;go_enter func270,ntmps270;go_wp2_with (go_at_call 287;refine ae ?_);refine uM (d.o _ (aa.refl _) i j o oM) ?_;rintro e C ⟨rfl,v⟩;have s:=lh v;clear v;go_wp2_with (go_at_call 287;refine ae ?_);refine uM (d.o _ s.o j k z y) ?_;rintro e B ⟨rfl,t⟩;have h:=s.u t;clear t;go_wp2_with (go_at_call 287;refine ae ?_);refine uM (d.o _ h.o i j o oM) ?_;rintro e A ⟨rfl,q⟩;have x:=h.u q;clear q;go_wp2;go_ret;exact⟨rfl,x.o⟩
theorem MG(b d c i n:Nat)(xs:List Nat)(p:Value)(w:World)(h:xs.length=n)(f:Up xs)(g:Sl w 1 fL (some ⟨b,d,none⟩) c xs)(hi:0<i)(k:i+1<n)(o:n<=1000000000) :
 Rt 269 #[.slice (some ⟨b,d,none⟩) n c,.int .i64 i,p] w (.int .i64 i):=by
 obtain⟨a,m⟩:∃a,a+1=i:=⟨i-1,oM⟩;have j:=lh (BL b d c a i (i+1) n xs p w h f g oM oM k);have q:IntKind.i64.wrap ((i:Int)-1)=(a:Int):=iW oM;have r:IntKind.i64.wrap ((i:Int)+1)=((i+1:Nat):Int):=iW oM;clear h f g m;go_enter func269,ntmps269;go_wp2_with (go_at_call 270;refine ae ?_);refine uM j.o ?_;rintro e s ⟨rfl,l⟩;go_wp2;go_ret;exact⟨rfl,l⟩
theorem NT(h l c n:Nat)(xs:List Nat)(w:World)(j:xs.length=n)(f:Up xs)(g:Sl w 1 fL (some ⟨h,l,none⟩) c xs)(u:n<=1000000000) :
 Rt 233 #[.slice (some ⟨h,l,none⟩) n c,.int .i64 0,.int .i64 n] w (.tuple #[]):=by
 have m:=lh g;have o:=lh f;have b:=lh j;clear g f j;go_enter func233,ntmps233;go_wp2;go_loopw [6] (λvi wr=>∃i:Nat,vi=.int .i64 i/\1<=i/\Hid (aa w wr)) (λvi _=>n-(intOf vi).toNat)
 case atStart=>exact⟨1,by go_num,oM,aa.refl _⟩
 case round =>
  obtain⟨i,rfl,hi,d⟩:=hrel
  by_cases k:i<n
  ·obtain⟨a,s⟩:∃a,a+1=i:=⟨i-1,oM⟩;obtain⟨A,q⟩:=nu (m.o.keep d.o) i (by rw[b.o];exact k);obtain⟨_,t⟩:=nu (m.o.keep d.o) a (by rw[b.o];omega);have e:=o.o a i oM (by rw[b.o];exact k);generalize xs[a]'(by have:=b.o;omega)=x at t e;generalize xs[i]'(by have:=b.o;omega)=y at q e;have r:=lh (show ∀W,Rt 239 #[.int .u32 (y:Int),.int .u32 (x:Int)] W (.bool false) from λW=>by
    have:=vN y x W
    rwa [show decide (y<x)=false from sO]at this)
   have z:IntKind.i64.wrap ((i:Int)-1)=(a:Int):=iW oM;have B:a<n:=oM;have v:0<i:=oM;clear e s;go_wp2;refine wp_loop_rounds 1 ?_;rw[rounds_succ];go_wp2;refine zR kR ?_
   repeat
    refine aR (λK hK=>?_);go_simp
    first
    | (refine hK _ _ ?_;clear hK K)
    | (apply Exists.intro
       refine⟨λp=>?_,hK _ _ ?_⟩
       ((go_at_call 239;exact Zone.zc (r.o _)))
       clear hK K)
   refine bG ?_;intro p;simp only[aj];go_wp2;go_roundw
   case rel=>exact⟨i+1,by go_num,oM,d.o.trans kP⟩
   case measure=>simp[intOf];omega
  ·go_wp2;go_end0;exact⟨rfl,d.o⟩
theorem JZ(h l c n:Nat)(xs:List Nat)(w:World)(j:xs.length=n)(f:Up xs)(g:Sl w 1 fL (some ⟨h,l,none⟩) c xs)(z:n<=1000000000)(o:1<=n) :
 Rt 238 #[.slice (some ⟨h,l,none⟩) n c,.int .i64 0,.int .i64 n] w (.bool true):=by
 have m:=lh g;have r:=lh f;have b:=lh j;clear g f j;go_enter func238,ntmps238;go_wp2;refine wp_loop_rounds 1 ?_;rw[rounds_succ];go_wp2;go_loopw [7] (λvi wr=>∃i:Nat,vi=.int .i64 i/\1<=i/\i<=n/\Hid (aa w wr)) (λvi _=>n-(intOf vi).toNat)
 case atStart=>exact⟨1,by go_num,oM,o,aa.refl _⟩
 case round =>
  obtain⟨i,rfl,hi,C,d⟩:=hrel
  by_cases k:i<n
  ·obtain⟨a,u⟩:∃a,a+1=i:=⟨i-1,oM⟩;obtain⟨D,s⟩:=nu (m.o.keep d.o) i (by rw[b.o];exact k);obtain⟨_,v⟩:=nu (m.o.keep d.o) a (by rw[b.o];omega);have e:=r.o a i oM (by rw[b.o];exact k);generalize xs[a]'(by have:=b.o;omega)=x at v e;generalize xs[i]'(by have:=b.o;omega)=y at s e;have t:=lh (show ∀W,Rt 239 #[.int .u32 (y:Int),.int .u32 (x:Int)] W (.bool false) from λW=>by
    have:=vN y x W
    rwa [show decide (y<x)=false from sO]at this)
   have B:IntKind.i64.wrap ((i:Int)-1)=(a:Int):=iW oM;have E:a<n:=oM;have A:0<i:=oM;clear e u;go_wp2;refine zR kR ?_
   repeat
    refine aR (λK hK=>?_);go_simp
    first
    | (refine hK _ _ ?_;clear hK K)
    | (apply Exists.intro
       refine⟨λp=>?_,hK _ _ ?_⟩
       ((go_at_call 239;exact Zone.zc (t.o _)))
       clear hK K)
   refine bG ?_;intro p;simp only[aj];go_wp2;go_roundw
   case rel=>exact⟨i+1,by go_num,oM,oM,d.o.trans kP⟩
   case measure=>simp[intOf];omega
  ·have q:i=n:=oM;subst q;go_wp2;refine zR kR ?_
   repeat
    refine aR (λK hK=>?_);go_simp
    first
    | (refine hK _ _ ?_;clear hK K)
    | (apply Exists.intro
       refine⟨λp=>?_,hK _ _ ?_⟩
       (fail)
       clear hK K)
   refine bG ?_;intro p;simp only[aj];go_wp2;go_ret;exact⟨rfl,d.o.trans kP⟩
theorem JR(m q c n:Nat)(xs:List Nat)(w:World)(y:xs.length=n)(s:Up xs)(x:Sl w 1 fL (some ⟨m,q,none⟩) c xs)(I:n<=1000000000)(T:8<=n) :
 Calls prog 236 #[.slice (some ⟨m,q,none⟩) n c,.int .i64 0,.int .i64 n] w λe w'=>∃j:Nat,e=.returned (.tuple #[.int .i64 j,.int .i64 1])/\aa w w':=by
 have z:=lh (λ(W:World) (hW:aa w W) (p:Value) (i:Nat) (hi:0<i) (hk:i+1<n)=>MG m q c i n xs p W y s (x.keep hW) hi hk I);have E:=lh (λ(W:World) (hW:aa w W) (p:Value) (i j k:Nat) (hij:i<=j) (hjk:j<=k) (hk:k<n)=>BL m q c i j k n xs p W y s (x.keep hW) hij hjk hk);obtain⟨b,N⟩:∃b,b=n/4:=⟨_,rfl⟩;obtain⟨a,K⟩:∃a,a=b*2:=⟨_,rfl⟩;obtain⟨f,L⟩:∃f,f=b*3:=⟨_,rfl⟩;have U:(n:Int)/4=(b:Int):=oM;have X:(b:Int)*2=(a:Int):=oM;have P:(b:Int)*3=(f:Int):=oM;have D:0<b/\b+1<n/\0<a/\a+1<n/\0<f/\f+1<n/\b<=a/\a<=f/\f<n:=oM;have d:=lh D;clear y s x N K L D;go_enter func236,ntmps236;go_upto_if 32 with fail;have o:ak (w.alloc (.cells #[.int .i64 0] 3)) w.heap.size 3 [.int .i64 0]:=bH _ _ _;have t:aa w (w.alloc (.cells #[.int .i64 0] 3)):=aa.alloc (aa.refl _) _;generalize w.alloc (.cells #[.int .i64 0] 3)=Y at o t|-;generalize w.heap.size=S at o|-;have r:=lh o;have g:=lh t;clear o t
 by_cases V:50<=n
 ·go_wp2_with (go_at_call 269;refine ae ?_);refine uM (z.o _ g.o _ b d.o.1 d.o.2.1) ?_;rintro e Z ⟨rfl,H⟩;have F:=lh H;clear H;go_wp2_with (go_at_call 269;refine ae ?_);refine uM (z.o _ (g.v F) _ a d.o.2.2.1 d.o.2.2.2.1) ?_;rintro e R ⟨rfl,G⟩;have A:=F.u G;clear G;go_wp2_with (go_at_call 269;refine ae ?_);refine uM (z.o _ (g.v A) _ f d.o.2.2.2.2.1 d.o.2.2.2.2.2.1) ?_;rintro e Q ⟨rfl,C⟩;have B:=A.u C;clear C;go_wp2_with (go_at_call 270;refine ae ?_);refine uM (E.o _ (g.v B) _ b a f d.o.2.2.2.2.2.2.1 d.o.2.2.2.2.2.2.2.1 d.o.2.2.2.2.2.2.2.2) ?_;rintro e O ⟨rfl,l⟩;have h:=B.u l;clear l;have M:=(r.o.keep h.o).cell 0 _ rfl;have J:=(r.o.keep h.o).lt;go_wp2;exact bodyPost_ret (v:=.tuple #[.int .i64 a,.int .i64 1]) (by simp[results,results236,go_sem]) rfl ⟨a,rfl,g.o.trans h.o⟩
 ·go_wp2_with (go_at_call 270;refine ae ?_);refine uM (E.o _ g.o _ b a f d.o.2.2.2.2.2.2.1 d.o.2.2.2.2.2.2.2.1 d.o.2.2.2.2.2.2.2.2) ?_;rintro e O ⟨rfl,l⟩;have h:=lh l;clear l;have M:=(r.o.keep h.o).cell 0 _ rfl;have J:=(r.o.keep h.o).lt;go_wp2;exact bodyPost_ret (v:=.tuple #[.int .i64 a,.int .i64 1]) (by simp[results,results236,go_sem]) rfl ⟨a,rfl,g.o.trans h.o⟩
theorem JW(a b c n g:Nat)(xs:List Nat)(w:World)(h:xs.length=n)(d:Up xs)(f:Sl w 1 fL (some ⟨a,b,none⟩) c xs)(k:n<=1000000000)(l:12<n->0<g) :
 Rt 201 #[.slice (some ⟨a,b,none⟩) n c,.int .i64 0,.int .i64 n,.int .i64 g] w (.tuple #[]):=by
 have r:=lh (λ(W:World) (hW:aa w W)=>NT a b c n xs W h d (f.keep hW) k);have q:=lh (λ(W:World) (hW:aa w W) (h8:8<=n)=>JR a b c n xs W h d (f.keep hW) k h8);have s:=lh (λ(W:World) (hW:aa w W) (h1:1<=n)=>JZ a b c n xs W h d (f.keep hW) k h1);clear h d f
 by_cases y:n<=12
 ·clear l;go_enter func201,ntmps201;go_wp2;refine wp_loop_rounds 1 ?_;rw[rounds_succ];go_wp2_with (go_at_call 233;refine ae ?_);refine uM (r.o _ (aa.refl _)) ?_;rintro e t ⟨rfl,i⟩;go_wp2;exact bodyPost_ret (v:=.tuple #[]) (by simp[results,results201,go_sem]) rfl ⟨rfl,i⟩
 ·have B:=l oM;have x:((g:Int)==0)=false:=sO;have A:¬(g:Int)=0:=oM;clear l;go_enter func201,ntmps201;go_wp2;refine wp_loop_rounds 1 ?_;rw[rounds_succ];go_wp2_with (go_at_call 236;refine ae ?_);refine uM (q.o _ (aa.refl _) oM) ?_;rintro e t ⟨j,rfl,i⟩;have m:=lh i;clear i;go_wp2_with (go_at_call 238;refine ae ?_);refine uM (s.o _ m.o oM) ?_;rintro e z ⟨rfl,o⟩;have p:=m.u o;clear o;go_wp2;exact bodyPost_ret (v:=.tuple #[]) (by simp[results,results201,go_sem]) rfl ⟨rfl,p.o⟩
theorem tJ(n:Nat)(c:n<2^64)(w:World):Rt 159 #[.int .u64 (n:Int)] w (.int .i64 (Lib.bitLen n:Nat)):=by
 have a:=lh (vP n c);go_enter func159,ntmps159;go_wp2_with (go_at_call 163;refine ae ?_);refine uM (a.o _) ?_;rintro e d ⟨rfl,b⟩;go_wp2;go_ret;exact⟨rfl,b⟩
theorem Em(n:Nat)(b:0<n)(a:n<2^64):0<Lib.bitLen n:=by
 rcases Nat.eq_zero_or_pos (Lib.bitLen n) with e|e
 ·have:=(bitLen_le 0 n a).1 oM;simp at this;omega
 ·exact e
theorem He(A:Option Addr)(c:Nat)(xs:List Nat)(w:World)(h:Up xs)(f:Sl w 1 fL A c xs)(i:xs.length<=1000000000)(g:0<xs.length) :
 Rt 167 #[.slice A xs.length c] w (.tuple #[]):=by
 obtain⟨b,p,rfl,q,o⟩:=rF f 0 g;clear q o;have a:=lh (tJ xs.length oM);have d:=lh (λ(W:World) (hW:aa w W)=>JW b p c xs.length (Lib.bitLen xs.length) xs W rfl h (f.keep hW) i (λ_=>Em _ g oM));generalize xs.length=n at i a d;generalize Lib.bitLen n=s at a d;have t:IntKind.u64.wrap (n:Int)=(n:Int):=by rw[IntKind.wrap_u64]<;>omega
 clear f h g;go_enter func167,ntmps167;go_wp2_with (go_at_call 159;refine ae ?_);refine uM (a.o _) ?_;rintro e v ⟨rfl,l⟩;have j:=lh l;clear l;go_wp2_with (go_at_call 201;refine ae ?_);refine uM (d.o _ j.o) ?_;rintro e r ⟨rfl,k⟩;have m:=j.u k;clear k;go_wp2;go_end0;exact⟨rfl,m.o⟩
theorem NR(A:Option Addr)(c:Nat)(w:World):Rt 233 #[.slice A 0 c,.int .i64 0,.int .i64 0] w (.tuple #[]):=by
 go_enter func233,ntmps233;go_wp2;refine wp_loop_rounds 1 ?_;rw[rounds_succ];go_wp2;go_end0;exact⟨rfl,aa.refl _⟩
theorem JV(A:Option Addr)(c d:Nat)(w:World):Rt 201 #[.slice A 0 c,.int .i64 0,.int .i64 0,.int .i64 d] w (.tuple #[]):=by
 have a:=lh (NR A c);go_enter func201,ntmps201;go_wp2;refine wp_loop_rounds 1 ?_;rw[rounds_succ];go_wp2_with (go_at_call 233;refine ae ?_);refine uM (a.o _) ?_;rintro e f ⟨rfl,b⟩;go_wp2;exact bodyPost_ret (v:=.tuple #[]) (by simp[results,results201,go_sem]) rfl ⟨rfl,b⟩
theorem Ha(A:Option Addr)(c:Nat)(w:World):Rt 167 #[.slice A 0 c] w (.tuple #[]):=by
 have d:=lh (tJ 0 oM);generalize Lib.bitLen 0=h at d;have i:=lh (JV A c h);go_enter func167,ntmps167;go_wp2_with (go_at_call 159;refine ae ?_);refine uM (d.o _) ?_;rintro e k ⟨rfl,b⟩;have g:=lh b;clear b;go_wp2_with (go_at_call 201;refine ae ?_);refine uM (i.o _) ?_;rintro e j ⟨rfl,a⟩;have f:=g.u a;clear a;go_wp2;go_end0;exact⟨rfl,f.o⟩
theorem Hf(A:Option Addr)(c:Nat)(xs:List Nat)(w:World)(b:Up xs)(a:Sl w 1 fL A c xs)(d:xs.length<=1000000000) :
 Rt 167 #[.slice A xs.length c] w (.tuple #[]):=by
 rcases Nat.eq_zero_or_pos xs.length with e|e
 ·rw[e];exact Ha A c w
 ·exact He A c xs w b a d e
theorem MJ{x:ai}(a:jB x=true):x.s.size<=65535:=by
 unfold jB at a
 split at a
 ·have b:x.s.toList.length=0:=by rw[List.isEmpty_iff.1 a];rfl
  rw[Lib.toList_data]at b;have:x.s.size=0:=b;omega
 ·split at a
  ·simp only[L6,decide_eq_true_eq]at a;omega
  ·cases a
theorem td{b:Int}{xs:List ai}(a:fC b xs=0):∀x∈aQ xs,x.s.size<=65535:=λx hx=>by
 have c:=((kW xs).2 x).1 hx;unfold fC at a
 split at a
 ·cases a
 ·split at a
  ·cases a
  ·rename_i h2;refine MJ ?_;have:xs.any cZ=false:=(by simpa using h2);have:=List.any_eq_false.1 this x c
   simpa[cZ]using this
theorem qh{xs:List ai}{v:ai}(b:v∈xs):jm (aQ xs) v=true/\dE (aQ xs) v<(aQ xs).length:=by
 have a:=kW xs;obtain⟨i,hi,he⟩:=lU ((a.2 v).2 b);have:=(Ep a.1 i hi (v:=v)).1 he;exact⟨this.1,by rw[<-this.2];exact hi⟩
def bF(xs:List ai):List Nat:=xs.map (dE (aQ xs))
theorem sN(xs:List ai):∀x∈bF xs,x<(aQ xs).length:=λx hx=>by
 obtain⟨v,a,rfl⟩:=lW.1 hx;exact(qh a).2
theorem J4(xs:List ai)(b:xs.length<=16777216):wY (aQ xs).length (bF xs).length:=by
 have c:=jF xs
 rcases Nat.eq_zero_or_pos (aQ xs).length with a|a
 ·refine .inr ⟨a,?_⟩;rw[bF,ld]
  rcases xs with _ | ⟨x,r⟩
  ·rfl
  ·have:=(qh (xs:=x::r) (v:=x) sP).2;omega
 ·exact .inl ⟨a,oM⟩
end Go.Proofs.YtpkocnpamcchcaaGreatDoor
