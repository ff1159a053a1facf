/- BuildMakes: for every input the law answers true, and what it is handed reads as before; the tables that the program's own text lays are tied. No condition. -/
import Derived.ProofKit
import Derived.LaidMore
import Derived.OpenShut
import Derived.SevenTiedAt
import Derived.MakeChecks
import Derived.Stop.LaidErr
import Derived.Test.YtpkocnpamcchcaaGreatDoorRows
import Derived.Test.YtpkocnpamcchcaaGreatDoorCards
import Derived.Test.YtpkocnpamcchcaaGreatDoorTie
import Derived.Test.YtpkocnpamcchcaaGreatDoorL20
import Derived.Test.YtpkocnpamcchcaaGreatDoorL45
set_option maxRecDepth 100000
set_option maxHeartbeats 40000000
set_option linter.all false
namespace Go.Proofs.YtpkocnpamcchcaaGreatDoor
open Go.RowKit Go.Zone Go.Shelf Go.Proofs.Tryz Go.Roa Go.Star Go.Sym
theorem MP(A B:Option Addr)(n m:Nat)(cs:List aG)(c:bw)(rows:List Rw)(w:World)(g:Sl w 2 aG.cells A n cs)(cX:∀x∈cs,x.name.size<=140737488355328)(b2:ff w c)(fx:∀aq b8,c.iA=some ⟨aq,b8,none⟩->aq<w.heap.size)(fJ:∀aq b8,c.rA=some ⟨aq,b8,none⟩->aq<w.heap.size)
 (l:Sl w 1 Rw.cells B m rows) (c0:dG w rows) (gC:∀r∈rows,∀x∈r.vs,qI x) (eA:jo w) (eB:Tab w) :
 Rt 3 #[.slice A cs.length n,c.v,.slice B rows.length m] w (.bool true):=by
 have dK:=lh (λa (hW:aa w a)=>OD A B n m cs c rows a (g.keep hW) cX (b2.keep hW) (l.keep hW) (c0.keep hW));have d9:=lh (λa (hW:aa w a)=>Nl a (eA.keep hW) (eB.keep hW));have eO:=lh (λhl cT a (hW:aa w a)=>Ji B m rows a (l.keep hW) (c0.keep hW) hl cT);have de:=lh (λ(aK:Option Addr) (d:Nat) (rs:List Rw) a (hW:aa w a) (Z:Sl a 1 Rw.cells aK d rs) (hsa:dG a rs) he=>Qe cs c A aK n d rs a (g.keep hW) cX (b2.keep hW) Z hsa he);have d4:=lh (λ(aK:Option Addr) (d:Nat) (rs:List Rw) aS a (hW:aa w a) (Z:Sl a 1 Rw.cells aK d rs) (hsa:dG a rs) bB hrs he hS=>Ed cs c A aK n d rs a (g.keep hW) aS (b2.keep hW) (λaq b8 e=>lp (fx aq b8 e) hW.size) (λaq b8 e=>lp (fJ aq b8 e) hW.size) Z hsa bB hrs he (eA.keep hW) (eB.keep hW) hS);have dr:=lh (λaS hl he a (hW:aa w a)=>IJ A B n m cs c rows a (g.keep hW) cX (b2.keep hW) aS (l.keep hW) (c0.keep hW) hl he);have bU:=lh (λhl he a (hW:aa w a)=>II A B n m cs c rows a (g.keep hW) cX (b2.keep hW) (l.keep hW) (c0.keep hW) hl he);have dm:=lh (λ(rs:List (List ai)) aS he bB S hS=>Hg (cs:=cs) (c:=c) (rows:=rs) (S:=S) aS he bB hS);have d5:=lh (λrs=>Qs (cs:=cs) (c:=c) (rows:=rs));have dd:=lh (λhl a (hW:aa w a)=>IZ A n cs c a (g.keep hW) (b2.keep hW) hl);have dk:=lh (λaS a (hW:aa w a)=>IL A n cs c a (g.keep hW) (b2.keep hW) aS);have fY:=lh g;have dS:=lh l
 have dh:=lh c0;have fc:=lh b2.s;have bB:=cE l;have h7:=cE g;have fu:∀rs,fq cs c rs=0\/(fq cs c rs≠0/\(fq cs c rs=2\/fq cs c rs=3\/fq cs c rs=9)):=λrs=>by
  have:=rh cs rs;unfold fq
  split
  ·rcases this with g|g|g|g<;>simp[g]
  ·simp
 have dH:=lh fu;clear fu g cX b2 fx fJ l c0 gC eA eB;obtain⟨s0,a8,a9,ac,af,aj,al,ao,G,sp,ad⟩:=c;simp only[bw.v]at dK de d4 dr bU dm d5 dH dd dk fc|-;go_enter func3,ntmps3;go_upto_region 1 with fail;have aZ:cV w (w.alloc (.cells #[.int .i64 s0,.slice a8 ac.length a9,.slice af al.length aj,.slice ao sp.length G,.int .i64 ad] 26)) [.int .i64 s0,.slice a8 ac.length a9,.slice af al.length aj,.slice ao sp.length G,.int .i64 ad]:=cV.start (t:=26) (aa.refl _);generalize gB:World.alloc w _=d1 at aZ|-;have fr:=aZ.lt;have O:=lh aZ.keep;have aA:=lh (aZ.at_ 0 _ rfl);have aB:=lh (aZ.at_ 1 _ rfl);have aC:=lh (aZ.at_ 2 _ rfl);have aE:=lh (aZ.at_ 3 _ rfl);have aF:=lh (aZ.at_ 4 _ rfl);clear gB aZ;generalize w.heap.size=bh at fr aA aB aC aE aF|-;have f:=lh fr;have y:=bE (aa.refl d1) f.o aA.o;have K:=bE (aa.refl d1) f.o aB.o;have L:=bE (aa.refl d1) f.o aC.o;have M:=bE (aa.refl d1) f.o aE.o;have N:=bE (aa.refl d1) f.o aF.o;go_wp2_with (go_at_call 6;refine ae ?_);refine uM (dK.o _ O.o) ?_;rintro e hk ⟨⟨b,rfl,du⟩,fA⟩;have c8:=lh fA;have eQ:=lh du;clear y K L M N fA dK du
 cases b
 ·have fw:=eQ.o sP;have ha:rows.length<=60:=oM;have dg:=lh fw.2;clear fw eQ;go_wp2_with (go_at_call 8;refine ae ?_);refine uM (eO.o oM (λr l=>by have:=dg.o r l;omega) _ (O.v c8)) ?_;rintro e ap ⟨v2,T,rfl,fE,fC,cQ,cO⟩;have cG:T.length=rows.length:=by simpa using congrArg List.length cQ
  obtain⟨aK,d,rfl,fL⟩:=fE.sl i8 oM;have ct:=lh fL;have cd:=lh (show dG ap T from λr l=>by
   obtain⟨bJ,bW,g7,et⟩:=(fC r l).sl di (by
    have J:r.vs∈rows.map (·.vs):=cQ▸Le l;obtain⟨eE,cT,e⟩:=lW.1 J;have:=dg.o eE cT;rw[<-e];omega)
   injection g7 with cD _ e3;rw[cD,e3];exact et)
  have bn:=lh cQ;have bP:=lh cG;have eV:=lh (show ∀r∈T,r.vs.length<=300 from λr l=>by
   have J:r.vs∈rows.map (·.vs):=cQ▸Le l;obtain⟨eE,cT,e⟩:=lW.1 J;rw[<-e];exact dg.o eE cT)
  have av:=c8.u cO;clear fE fC cQ cG fL cO c8;have y:=bE av.o f.o aA.o;have K:=bE av.o f.o aB.o;have L:=bE av.o f.o aC.o;have M:=bE av.o f.o aE.o;have N:=bE av.o f.o aF.o;have X:bh<ap.heap.size:=block_lt_of_cell y
  rcases dH.o (rows.map (·.vs)) with cY | ⟨cY,c1⟩
  ·obtain⟨aS,he⟩:=d5.o _ cY;have V:=lh aS;have eP:=lh he;have dJ:=lh (show da cs (T.map (·.vs))=0 by rw[bn.o];exact he);clear cY aS he de bU d5 dH;go_wp2_with (go_at_call 9;refine ae ?_);refine uM (d4.o aK d T V.o _ (O.v av) ct.o cd.o (by have:=bP.o;omega) (λr l=>by have:=eV.o r l;omega) dJ.o (λS hS=>dm.o _ V.o dJ.o (by rw[ld];have:=bP.o;omega) S hS)) ?_;rintro e dB ⟨hh,cx,rfl,er,ez,fG,bA⟩;rw[bn.o]at er;obtain⟨fW,bv,rfl,dx⟩:=fG.sl aO (Oe ez).1;have bQ:=lh er;have dn:=lh ez;have aw:=lh dx;have bO:=lh bA;have H:=av.u bA;clear y K L M N X er ez fG dx bA d4 dm dJ;have y:=bE H.o f.o aA.o;have K:=bE H.o f.o aB.o;have L:=bE H.o f.o aC.o;have M:=bE H.o f.o aE.o;have N:=bE H.o f.o aF.o;have X:bh<dB.heap.size:=block_lt_of_cell y;go_wp2_with (go_at_call 10;refine ae ?_);refine uM (dr.o V.o oM eP.o _ (O.v H)) ?_;rintro e a5 ⟨v2,rfl,es,b3⟩;have e9:=Hk s0 rows;have e8:=rD s0 rows;have dT:=lh (show ∀r∈ek s0 rows,r∈rows from λr l=>(yE s0 rows r).1 l);generalize ek s0 rows=R at es e9 e8 dT;have dU:=lh e9;have dj:=lh e8;obtain⟨eI,fj,rfl,fM⟩:=es.sl i8 oM;have fd:=lh fM;have aL:=H.u b3;have d8:=lh b3
   have f5:=lh (show dG a5 R from λr l=>(dh.o r (dT.o r l)).keep (O.o.trans (H.o.trans b3)));have aP:=lh (λa (hW:aa a5 a)=>zf aK B d m T rows a (ct.o.keep (bO.o.trans (d8.o.trans hW))) (λr l=>(cd.o r l).keep (bO.o.trans (d8.o.trans hW))) (dS.o.keep (O.o.trans (aL.o.trans hW))) (dh.o.keep (O.o.trans (aL.o.trans hW))));have cU:pB (T.map (·.vs)=rows.map (·.vs))=true:=ew bn.o;rw[cU]at aP;clear y K L M N X es e9 e8 fM b3 dr cU;go_wp2_with (go_at_call 11;refine ae ?_);refine uM (aP.o _ (aa.refl _)) ?_;rintro e eF ⟨rfl,aH⟩;have c9:=aL.u aH;have dV:=lh (aw.o.keep (d8.o.trans aH));have fe:=lh (fd.o.keep aH);have f6:=lh (show dG eF R from λr l=>(f5.o r l).keep aH);clear aH aw fd f5 aP;obtain⟨dE,e6⟩:∃dE,dE=fK cx:=⟨_,rfl⟩;rw[<-e6]at dV|-;have eM:=lh e6;clear e6;have f7:=lh (λ(A:Option Addr) (aR:Nat) a g=>zh A aR cx dE a eM.o g dn.o);go_wp2_with (go_at_call 12;refine ae ?_);refine uM (f7.o fW bv _ dV.o) ?_;rintro e eG ⟨gL,gU,U,rfl,fO,fN,en,b4⟩;have cf:=lh (en.trans bQ.o);have f3:=lh (show ∀c2∈U,c2.name.size<=1000000 from λc2 Z=>by
    have J:cI c2∈cx.map cI:=en▸Le Z;obtain⟨hf,et,e⟩:=lW.1 J;obtain⟨i,hi,rfl⟩:=lU et;have a3:=(dn.o.name i hi).hi;have cD:cx[i].name=c2.name:=congrArg Prod.fst e;rw[cD]at a3;omega)
   have dL:=lh b4;have aM:=c9.u b4;have eW:=lh fO;have eJ:=lh fN;clear fO fN en b4 f7;have y:=bE aM.o f.o aA.o;have K:=bE aM.o f.o aB.o;have L:=bE aM.o f.o aC.o;have M:=bE aM.o f.o aE.o;have N:=bE aM.o f.o aF.o;have X:bh<eG.heap.size:=block_lt_of_cell y;go_wp2_with (go_at_call 13;refine ae ?_);refine uM (dd.o (V.o.may.hi) _ (O.v aM)) ?_;rintro e aU ⟨hj,rfl,fF,bY⟩;have dv:U.map (·.name)=nH cs _:=(show U.map (·.name)=(U.map cI).map (·.1) by rw[List.map_map];rfl).trans (by rw[cf.o];exact Oc V.o);have cL:=congrArg List.length dv;rw[ld]at cL;have h8:U.length<=2000:=by
    have J:=(vT V.o.may.hi bQ.o).2.2;have a3:U.length=cx.length:=(by simpa using congrArg List.length (cf.o.trans bQ.o.symm));omega
   obtain⟨gM,gW,rfl,eu⟩:=fF.sl jA oM;generalize nH cs _=bV at dv cL eu;rw[<-cL];have f2:=lh dv;have bS:=lh cL;have f1:=lh eu;have D:=aM.u bY;have eX:=lh (eW.o.keep bY);have eK:=lh (eJ.o.keep bY);have g2:=lh (fe.o.keep (dL.o.trans bY));have g1:=lh (show dG aU R from λr l=>(f6.o r l).keep (dL.o.trans bY));have bg:=lh (FR V.o.may.hi bQ.o);rw[<-dU.o]at bg cf;clear y K L M N X fF eu bY dv cL eW eJ fe f6 dd dV;have y:=bE D.o f.o aA.o;have K:=bE D.o f.o aB.o;have L:=bE D.o f.o aC.o;have M:=bE D.o f.o aE.o;have N:=bE D.o f.o aF.o;have X:bh<aU.heap.size:=block_lt_of_cell y;have fb:=lh (show(gV cs (⟨s0,a8,a9,ac,af,aj,al,ao,G,sp,ad⟩:bw)).length<=140737488355328 from by have:=uJ V.o;have:=V.o.may.hi;have:=V.o.few;omega);have gv:=dj.o;go_upto_region 14 with fail;clear gv;refine Jb (va:=.slice A cs.length n) (vc:=.agg #[.int .i64 s0,.slice a8 ac.length a9,.slice af al.length aj,.slice ao sp.length G,.int .i64 ad]) (vo:=.slice eI rows.length fj) (vl:=.int .i64 rows.length) (vu:=.int .u64 rows.length) (p1:=gV cs (⟨s0,a8,a9,ac,af,aj,al,ao,G,sp,ad⟩:bw)) (p2:=le rows.length 4) kR kR kR rfl
    ⟨rfl,rfl,kR,?r0,?r1,?r2,?r3,?r4,?r5,?r6,?r7,?r8,?r9,?r10,?r11,?r12,?r13,?r14,?r15⟩ ?go
   case r0 =>
    intro s q b a;obtain rfl:=ls (show some _=some s from q)
    kernel_rfl
   case r1 =>
    intro s q b a g;obtain rfl:=ls (show some _=some s from q);exact u9 rfl g
   case r2 =>
    intro s q b a g az;obtain rfl:=ls (show some _=some s from q);clear y K L M N X;have y:=bE (D.o.trans az) f.o aA.o;have K:=bE (D.o.trans az) f.o aB.o;have L:=bE (D.o.trans az) f.o aC.o;have M:=bE (D.o.trans az) f.o aE.o;have N:=bE (D.o.trans az) f.o aF.o;exact KE rfl g y K L M N
   case r3 =>
    intro s q b a J a3 az;obtain rfl:=ls (show some _=some s from q);refine⟨14,#[.slice A cs.length n,.agg #[.int .i64 s0,.slice a8 ac.length a9,.slice af al.length aj,.slice ao sp.length G,.int .i64 ad]],?_,?_⟩
    ·exact Eq.trans (b:=.ok (.enter 14 #[b.eval (.tmp 85),b.eval (.tmp 86)]) a) kR (by rw[J,a3])
    ·refine(dk.o V.o a (O.o.trans (D.o.trans az))).mono ?_;rintro e W' ⟨v,rfl,I,eh⟩;obtain⟨bJ,bW,rfl,Z⟩:=I.sl aO fb.o;exact⟨bJ,bW,rfl,Z,eh⟩
   case r4 =>
    intro s q b a A c g Z;obtain rfl:=ls (show some _=some s from q);exact Bl rfl g Z
   case r5 =>
    intro s q b a g;obtain rfl:=ls (show some _=some s from q);exact Bi rfl g
   case r6 =>
    intro s q b a W' b9 J a3 l;obtain rfl:=ls (show some _=some s from q);exact Bj rfl J rfl a3 l
   case r7 =>
    intro s q b a g;obtain rfl:=ls (show some _=some s from q);exact u9 rfl g
   case r8 =>
    intro s q b a g;obtain rfl:=ls (show some _=some s from q);exact KD rfl g
   case r9 =>
    intro s q b a g;obtain rfl:=ls (show some _=some s from q);exact KB oM rfl g
   case r10 =>
    intro s q b a g az;obtain rfl:=ls (show some _=some s from q);refine⟨15,#[.int .u64 rows.length,.int .i64 4],?_,?_⟩
    ·exact Eq.trans (b:=.ok (.enter 15 #[b.eval (.tmp 92),.int .i64 4]) a) kR (by rw[g])
    ·refine(vI rows.length 4 oM dC a).mono ?_;rintro e W' ⟨v,rfl,I,eh⟩;obtain⟨bJ,bW,rfl,Z⟩:=I.sl aO (by simp[ay]);exact⟨bJ,bW,rfl,Z,eh⟩
   case r11 =>
    intro s q b a A c g Z;obtain rfl:=ls (show some _=some s from q);exact Bl rfl g Z
   case r12 =>
    intro s q b a g;obtain rfl:=ls (show some _=some s from q);exact Bi rfl g
   case r13 =>
    intro s q b a W' b9 J a3 l;obtain rfl:=ls (show some _=some s from q);exact Bj rfl J rfl a3 l
   case r14 =>
    intro s q b a b9 g;obtain rfl:=ls (show some _=some s from q);exact u9 rfl g
   case r15 =>
    intro s q b a b9 g;obtain rfl:=ls (show some _=some s from q);exact KH rfl g
   case go =>
    intro ba b9 gN gX gO gY em fH ep;clear y K L M N X;have eo:(R.map (·.vs)).length=rows.length:=(by rw[ld];exact dj.o);have dw:=OE bg.o;rw[eo]at dw;generalize f14 _ _ true true=fX at ep dw;have ca:=D.u em;have dM:=lh em;have dR:=lh ep;have eR:=lh dw;have db:=lh eo;clear em ep dw eo dk;simp only[rX];generalize gV cs _=hg;have y:=bE ca.o f.o aA.o;have K:=bE ca.o f.o aB.o;have L:=bE ca.o f.o aC.o;have M:=bE ca.o f.o aE.o;have N:=bE ca.o f.o aF.o;have X:bh<ba.heap.size:=block_lt_of_cell y;have fI:b9<ba.heap.size:=dR.o.lt;have eC:aU.heap.size<=ba.heap.size:=dM.o.size;have gs:=BO cs.length (by have:=V.o.may.hi;omega);go_wp2;have cu:=lh (show fR (ba.alloc (.cells (Array.replicate cs.length (.slice none 0 0)) 24)) aU (ba.alloc (.cells (Array.replicate cs.length (.slice none 0 0)) 24)).heap.size b9 ba.heap.size cs.length cs (⟨s0,a8,a9,ac,af,aj,al,ao,G,sp,ad⟩:bw) (R.map (·.vs)) 0 2 (.slice none 0 0) [] (List.replicate cs.length ⟨none,0,[]⟩) fX from
     { keep:=dM.o.trans ((aa.refl _).alloc _),qb:=fH,ab:=eC,mb:=sO,bz:=lc _,mp:=dR.o.keep ((aa.refl _).alloc _),few:=oM,good:=eR.o
       ra:=by
           have g:=bH ba 24 (List.replicate cs.length (.slice none 0 0));rw[List.toArray_replicate]at g;rw[List.map_replicate];exact g
       la:=sP
       ia:=λr l=>by rw[List.eq_of_mem_replicate l];exact ah.nil_ _ _ _ _ _
       dims:=λj a4=>absurd a4 (lI _)
       mt:=ah.nil_ _ _ _ _ _
       mr:=λr l=>by cases l
       mx:=rfl })
    generalize gA:World.alloc ba _=eH at cu|-;generalize eH.heap.size=base at cu;generalize ba.heap.size=e2 at cu X fI eC|-;clear y K L M N X fI eC gs gA dR eR dM;have dZ:=lh (show da cs (R.map (·.vs))=0 by rw[dU.o,Gx];exact eP.o);have dP:=lh (λ(p:Nat) (bZ:p<cs.length) a (hW:aa aU a)=>Na eI fj p R a (g2.o.keep hW) (λr l=>(g1.o r l).keep hW) (by have:=dj.o;omega) (λr l=>by have:=((re dZ.o).2 r.vs (Le l)).1;omega));rw[dj.o]at dP;have bK:=lh (show ∀p∈dq cs (⟨s0,a8,a9,ac,af,aj,al,ao,G,sp,ad⟩:bw) (R.map (·.vs)),p.2.length<=140737488355328 from λp bZ=>by
     rw[dU.o,<-bQ.o]at bZ;obtain⟨c2,Z,rfl⟩:=lW.1 bZ;have:=(dn.o.at_ c2 Z).2;simp only[cI];omega)
    clear eO ct cd bn bP eV bO d8 dL eM dS dh dg dT bQ dn fb av H aL c9 aM fH;go_loopw [17,102] (λvm vi wr=>∃(k n:Nat) (e0:Value) (e1 d2:List Ir) (d3:ByteArray->Option ByteArray),k<=cs.length/\vi=.int .i64 k/\e0=vm/\Hid (fR wr aU base b9 e2 cs.length cs (⟨s0,a8,a9,ac,af,aj,al,ao,G,sp,ad⟩:bw) (R.map (·.vs)) k n e0 e1 d2 d3)) (λ_ vi _=>cs.length-(intOf vi).toNat)
    case atStart=>exact⟨0,2,_,_,_,_,lj _,rfl,rfl,cu.o⟩
    case round =>
     clear cu;obtain⟨k,n,e0,e1,d2,d3,az,rfl,rfl,P⟩:=hrel;have h5:=V.o.may.hi;have gm:=P.o.few
     by_cases E:k<cs.length
     ·have bX:=DL V.o.may.kind E;have ej:=V.o.may.kind k E;have ee:cs.getD k default=cs[k]:=(by rw[L9,lu E];rfl);have bd:=lh (show dp (cs.getD k default)=if cs[k].kind=2 then 2 else 1 from by rw[ee];rfl);have c6:=lh (ee▸D1 dZ.o E);have d6:=lh (λa (hW:aa aU a)=>il (fY.o.keep (O.o.trans (D.o.trans hW))) k E);have ce:=lh (dP.o k E);have a6:=lh (show(bD (R.map (·.vs)) k).length=rows.length by unfold bD;rw[ld];exact db.o);have cl:=lh (λa7=>MC (c:=(⟨s0,a8,a9,ac,af,aj,al,ao,G,sp,ad⟩:bw)) (rows:=R.map (·.vs)) E a7);have ci:=lh (λa7=>ME (c:=(⟨s0,a8,a9,ac,af,aj,al,ao,G,sp,ad⟩:bw)) (rows:=R.map (·.vs)) E a7);have cj:=lh (λa7=>MD (c:=(⟨s0,a8,a9,ac,af,aj,al,ao,G,sp,ad⟩:bw)) (rows:=R.map (·.vs)) E a7);clear ee;generalize cs[k]=fi at bX ej bd d6;obtain⟨h,eb⟩:∃h,h=bD (R.map (·.vs)) k:=⟨_,rfl⟩;rw[<-eb]at c6 ce a6 cl ci cj;have cw:=lh eb;clear eb;go_wp2_with (go_at_call 16;refine ae ?_);refine uM (DN k oM _) ?_;rintro e fS ⟨rfl,fB⟩;have gj:=nL k oM;have gk:(ec k).size<=4:=(by unfold ec;rw[LA];show 1+_<=4;omega);have fv:(⟨#[46]⟩:ByteArray)++ey k=ec k:=rfl;generalize ey k=h2 at gj fv|-;have aw:=lh (P.o.keep_ fB);clear fB P;obtain⟨b,b8,fk,du,g5,bv⟩:=d6.o _ aw.o.keep
      have bL:=lh (show ∀a,aa aU a->a.cell? ⟨b,b8+k*2+1,none⟩=some (.int .u8 fi.kind)/\b<a.heap.size from λa hW=>by
           obtain⟨gS,hd,fm,gd,_,g6⟩:=d6.o a hW;rw[fk]at fm
           cases fm
           exact⟨g6,gd⟩)
      subst fk;clear g5 d6;generalize ec k=cB at fv gk cl ci cj;generalize fi.kind=bl at bX ej bd bv bL
      by_cases cF:bl=3
      ·have a7:bR cs (k:Int)=false:=(by rw[bX,cF];rfl);have dI:=lh a7;have eY:=lh (cl.o a7);clear bX a7 cl ci cj bd c6 ej bL;subst cF;go_wp2_with (go_at_call 18;refine ae ?_);refine uM (ce.o _ aw.o.keep) ?_;rintro e fV ⟨vc,rfl,bj,bi⟩;obtain⟨bb,aR,rfl,bk⟩:=bj.sl di (by have:=a6.o;omega);have bq:=lh bk;have cv:=lh (aw.o.keep_ bi);clear bj bk bi;go_wp2_with (go_at_call 17;refine ae ?_);refine uM (BX bb aR h _ bq.o (by have:=a6.o;omega)) ?_;rintro e bI ⟨gH,rfl,b7,aI⟩;obtain⟨a0,b6⟩:∃a0,a0=cC h:=⟨_,rfl⟩;rw[<-b6]at b7;obtain⟨aV,aY,rfl⟩:=bp b7;have cm:=lh b6;have bS:=lh (show a0.length=rows.length by rw[b6];unfold cC;rw[ld];exact a6.o);have cq:=lh (b7.base_mono (lj _));have ax:=lh (cv.o.keep_ aI);clear b6 b7 aI bq cv;clear bv du;go_wp2_with (at_builtin;refine ae ?_);refine ar ?_;have o:aa bI (bI.alloc (.cells #[.slice aV a0.length aY] 54)):=aa.alloc (aa.refl _) _;have ev:Sl (bI.alloc (.cells #[.slice aV a0.length aY] 54)) 1 Ir.cells (some ⟨bI.heap.size,0,none⟩) 1 [(⟨aV,aY,a0⟩:Ir)]:=br _ oM oM λj u hu=>by
            match j,hu with
            | 0,hu =>
              cases hu
              exact(bH bI 54 [.slice aV a0.length aY]).cell 0 _ rfl
       generalize bI.alloc (.cells #[.slice aV a0.length aY] 54)=dA at o ev|-;have aN:=lh (ax.o.keep_ o);have f4:=lh (cq.o.keep o);have gt:e1.length<=256:=by
            have J:=congrArg List.length ax.o.mx;rw[ld]at J;unfold fa at J;rw[ld]at J;have a3:=List.length_filter_le (λj:Nat=>!bR cs (j:Int)) (List.range k);rw[LB]at a3;omega
       refine aD DF mI sH rfl (.tmp 114) (.tmp 119) rfl (ys:=[(⟨aV,aY,a0⟩:Ir)]) aN.o.mt rfl rfl ev sO aN.o.bz ?_;intro ds gI cS cN _;have a2:=lh (aN.o.met dI.o ⟨aV,aY,a0⟩ f4.o (by rw[cm.o,cw.o]) cS cN);clear cS cN o ev cq f4 aw ax aN gt cm;go_wp2_with (go_at_call 18;refine ae ?_);refine uM (ce.o _ a2.o.keep) ?_;rintro e fV ⟨vc,rfl,bj,bi⟩;obtain⟨bb,aR,rfl,bk⟩:=bj.sl di (by have:=a6.o;omega);have bq:=lh bk;have cv:=lh (a2.o.keep_ bi);clear bj bk bi;go_wp2_with (go_at_call 17;refine ae ?_);refine uM (BX bb aR h _ bq.o (by have:=a6.o;omega)) ?_;rintro e bI ⟨gH,rfl,b7,aI⟩;obtain⟨a0,b6⟩:∃a0,a0=cC h:=⟨_,rfl⟩;rw[<-b6]at b7;obtain⟨aV,aY,rfl⟩:=bp b7;have cm:=lh b6;have bS:=lh (show a0.length=rows.length by rw[b6];unfold cC;rw[ld];exact a6.o);have cq:=lh (b7.base_mono (lj _));have bf:=lh (cv.o.keep_ aI);clear b6 b7 aI bq cv;obtain⟨gP,h1,g8,fP⟩:=cq.o.sl ea (by have:=bS.o;omega);injection g8 with cD _ e3;subst cD;subst e3;have bU:=lh fP;clear fP cq;go_wp2_with (go_at_call 19;refine ae ?_);refine uM (I1 aV aY a0 _ bU.o (by have:=bS.o;omega)) ?_;rintro e fT ⟨d0,rfl,I,a1⟩;have dQ:=lh (cm.o▸eY.o);obtain⟨c3,cz,rfl,F⟩:=I.sl aO (bK.o _ dQ.o);have Q:=lh (bf.o.keep_ a1);have cJ:=ii F
       obtain⟨fU,b5,Y,W⟩:=mF Q.o.mp oM ((⟨#[109,101,116,114,105,99]⟩:ByteArray)++cB) ⟨(fZ a0).toArray⟩ (by rw[LA];show 6+_<=_;omega);unfold dY at b5;have cr:=lh (Q.o.put Y oM (mJ bg.o Q.o.good dQ.o) W);clear I a1 F Y W a2 bf Q dQ eY cm bU;go_wp2;go_roundw
       case rel=>exact⟨k+1,_,_,_,_,_,oM,by go_num,rfl,cr.o⟩
       case measure=>simp[intOf];omega
      ·have ei:bl=1\/bl=2:=oM;have a7:bR cs (k:Int)=true:=(by rw[bX];rcases ei with e|e<;>rw[e]<;>rfl);have dI:=lh a7;have dc:=lh (ci.o a7);have ck:=lh (cj.o a7);rw[db.o]at ck;have aP:=lh (td c6.o);have g3:=lh (show ∀x∈h,x.s.size<=maxLen from λx hx=>by
            have:=td c6.o x (((kW _).2 x).2 hx);unfold maxLen;omega)
       have d7:=lh (jF h);have bN:=lh (show(bF h).length=rows.length by unfold bF;rw[ld];exact a6.o);have gp:((bl:Int)==3)=false:=(by simpa using cF);have eS:=lh (λbb aR a (Z:Sl a 3 ai.cells bb aR h)=>M1 bl _ bb aR h a bd.o Z c6.o g3.o (by have:=a6.o;omega));clear bX a7 cl ci cj;go_upto_region 24 with fail;clear gp;go_cut [20,21]from 131 to 142 (λs20 s21 wx=>∃(c4:Option Addr) (cA:Nat),s20=.slice c4 (aQ h).length cA/\Hid (Sl wx 3 ai.cells c4 cA (aQ h))/\Hid (ah wx 0 3 1 dD s21 (bF h))/\Hid (aa fS wx))
       case first =>
            go_region_with (first
              | (go_at_call 18
                 refine(ce.o _ (aw.o.keep.trans kP)).mono ?_;rintro e fV ⟨vc,rfl,bj,bi⟩;obtain⟨bb,aR,rfl,bk⟩:=bj.sl di (by have:=a6.o;omega);have bq:=lh bk;have dO:=lh (aa.trans (show aa fS _ from kP) bi);have h4:=(bL.o _ (aw.o.keep.trans dO.o)).1;have h6:=(bL.o _ (aw.o.keep.trans dO.o)).2;clear bj bi bk)
              | (go_at_call 20
                 refine(eS.o bb aR _ (bq.o.keep kP)).mono ?_;rintro e ho ⟨bJ,bW,vi,rfl,gy,gu,gq⟩))
            all_goals
              go_wp2_with fail;go_meet;exact⟨bJ,bW,rfl,gy,gu.base_mono (lj _),(dO.o.trans kP).trans gq⟩
       case rest =>
            rename World=>dA;obtain⟨c4,cA,rfl,f9,co,eU⟩:=hcut;have ax:=lh (aw.o.keep_ eU.o);obtain⟨bm,bx,rfl⟩:=bp co.o;have bT:=lh (show ah dA 0 3 1 bM (Ir.v ⟨bm,bx,(bF h).map λx:Nat=>(x:Int)⟩) ((bF h).map λx:Nat=>(x:Int)) from by
              unfold Ir.v;rw[ld];exact J5 co.o)
            have aT:k<d2.length:=(by rw[ax.o.la];exact E);have gb:=ax.o.ra.cell k (d2[k]).v (by rw[lP,lu aT];rfl);have gc:=ax.o.ra.soft k;have ef:=ax.o.ra.lt;clear aw eU eS ce;go_upto_region 26 with fail;have dz:=ax.o.set dI.o E ⟨bm,bx,(bF h).map λx:Nat=>(x:Int)⟩ bT.o (by rw[cw.o]);rw[show Ir.v ⟨bm,bx,(bF h).map λx:Nat=>(x:Int)⟩=.slice bm (bF h).length bx by unfold Ir.v;rw[ld]]at dz;have dt:=ag.set dA ⟨e2,k,none⟩ (.slice bm (bF h).length bx);generalize dA.setCell ⟨e2,k,none⟩ _=gI at dz dt|-;have aN:=lh dz;have dl:=lh (Sl.off_row ax.o.ra f9.o (λx=>⟨_,rfl,λhm=>by obtain⟨r,_,e⟩:=lW.1 hm;cases e⟩) dt);have df:=lh (co.o.turn dt (λj a4=>by simp only[ln,lL,or_false]at a4;rw[a4];exact bu co.o ax.o.ra dC));obtain⟨bv,fp⟩:=bL.o _ aN.o.keep;clear dz dt gb gc ef aT bT ax f9 co bL
            by_cases a3:bl=2
            ·have el:((bl:Int)==2)=true:=(by simp[a3]);have aX:=lh dc.o;rw[show dp (cs.getD k default)=2 by rw[bd.o,if_pos a3]]at aX;clear dc bd ei cF;go_upto_region 29 with fail;clear bv fp el;go_wp2_with (go_at_call 21;refine ae ?_);refine uM (zM 2 c4 cA (aQ h) _ dl.o dC dC (by have:=d7.o;have:=a6.o;omega) (λx hx=>by have:=aP.o x hx;omega)) ?_;rintro e fT ⟨d0,rfl,I,a1⟩;obtain⟨c3,cz,rfl,F⟩:=I.sl aO (bK.o _ aX.o);have a2:=lh (aN.o.keep_ a1);have bo:=lh (df.o.keep a1);have cJ:=ii F;obtain⟨fU,b5,Y,W⟩:=mF a2.o.mp oM ((⟨#[100,105,99,116]⟩:ByteArray)++cB) ⟨(iP 2 (aQ h)).toArray⟩ (by rw[LA];show 4+_<=_;omega);unfold dY at b5;have cp:=lh (bo.o.turn W (λj a4=>by simp only[ln,lL,or_false]at a4;rw[a4];exact oQ bo.o a2.o.mp));have bf:=lh (a2.o.put Y oM (mJ bg.o a2.o.good aX.o) W);clear I a1 F Y W aN a2 df bo dl aX;go_wp2_with (go_at_call 22;refine ae ?_);refine uM (zG bm bx (aQ h).length (bF h) _ (jZ (n:=(bF h).length) cp.o mE (by have:=bN.o;omega)) (by have:=bN.o;omega) (by have:=d7.o;have:=a6.o;omega) (sN h)) ?_;rintro e gJ ⟨d0,rfl,I,a1⟩;rw[bN.o]at I;obtain⟨c3,cz,rfl,F⟩:=I.sl aO (bK.o _ ck.o);have Q:=lh (bf.o.keep_ a1);have cK:=ii F
             obtain⟨gK,eq,Y,W⟩:=mF Q.o.mp oM ((⟨#[102,111,114,119,97,114,100]⟩:ByteArray)++cB) ⟨(jl rows.length (aQ h).length (cM (aQ h).length) (fl (bF h) (cM (aQ h).length))).toArray⟩ (by rw[LA];show 7+_<=_;omega);unfold dY at eq;have cr:=lh (Q.o.put Y oM (mJ bg.o Q.o.good ck.o) W);clear I a1 F Y W bf Q cp cJ b5;go_wp2;go_roundw
             case rel=>exact⟨k+1,_,_,_,_,_,oM,by go_num,rfl,cr.o⟩
             case measure=>simp[intOf];omega
            ·have el:((bl:Int)==2)=false:=(by simpa using a3);have aX:=lh dc.o;rw[show dp (cs.getD k default)=1 by rw[bd.o,if_neg a3]]at aX;clear dc bd ei cF;go_upto_region 29 with fail;clear bv fp el;go_wp2_with (go_at_call 21;refine ae ?_);refine uM (zM 1 c4 cA (aQ h) _ dl.o dC dC (by have:=d7.o;have:=a6.o;omega) (λx hx=>by have:=aP.o x hx;omega)) ?_;rintro e fT ⟨d0,rfl,I,a1⟩;obtain⟨c3,cz,rfl,F⟩:=I.sl aO (bK.o _ aX.o);have a2:=lh (aN.o.keep_ a1);have bo:=lh (df.o.keep a1);have cJ:=ii F;obtain⟨fU,b5,Y,W⟩:=mF a2.o.mp oM ((⟨#[100,105,99,116]⟩:ByteArray)++cB) ⟨(iP 1 (aQ h)).toArray⟩ (by rw[LA];show 4+_<=_;omega);unfold dY at b5;have cp:=lh (bo.o.turn W (λj a4=>by simp only[ln,lL,or_false]at a4;rw[a4];exact oQ bo.o a2.o.mp));have bf:=lh (a2.o.put Y oM (mJ bg.o a2.o.good aX.o) W);clear I a1 F Y W aN a2 df bo dl aX;go_wp2_with (go_at_call 22;refine ae ?_);refine uM (zG bm bx (aQ h).length (bF h) _ (jZ (n:=(bF h).length) cp.o mE (by have:=bN.o;omega)) (by have:=bN.o;omega) (by have:=d7.o;have:=a6.o;omega) (sN h)) ?_;rintro e gJ ⟨d0,rfl,I,a1⟩;rw[bN.o]at I;obtain⟨c3,cz,rfl,F⟩:=I.sl aO (bK.o _ ck.o);have Q:=lh (bf.o.keep_ a1);have cK:=ii F
             obtain⟨gK,eq,Y,W⟩:=mF Q.o.mp oM ((⟨#[102,111,114,119,97,114,100]⟩:ByteArray)++cB) ⟨(jl rows.length (aQ h).length (cM (aQ h).length) (fl (bF h) (cM (aQ h).length))).toArray⟩ (by rw[LA];show 7+_<=_;omega);unfold dY at eq;have cr:=lh (Q.o.put Y oM (mJ bg.o Q.o.good ck.o) W);clear I a1 F Y W bf Q cp cJ b5;go_wp2;go_roundw
             case rel=>exact⟨k+1,_,_,_,_,_,oM,by go_num,rfl,cr.o⟩
             case measure=>simp[intOf];omega
     ·have o:k=cs.length:=oM;subst o;have bc:=lh P.o.keep;have y:=bE (D.o.trans P.o.keep) f.o aA.o;have K:=bE (D.o.trans P.o.keep) f.o aB.o;have L:=bE (D.o.trans P.o.keep) f.o aC.o;have M:=bE (D.o.trans P.o.keep) f.o aE.o;have N:=bE (D.o.trans P.o.keep) f.o aF.o;have X:bh<wr.heap.size:=block_lt_of_cell y;clear az E dP dZ
      by_cases dy:sp=[]
      ·subst dy;have aW:=lh P.o.mp;have c5:=lh P.o.good;have H:=lh P.o.keep;clear bc gm;generalize n=eD at aW;generalize d3=dF at aW c5;go_wp2;go_loopw [203] (λvi wr=>∃k:Nat,k<=U.length/\vi=.int .i64 k/\Hid (dW wr b9 eD dF)/\Hid (aa aU wr)) (λvi _=>U.length-(intOf vi).toNat)
       case atStart=>exact⟨0,lj _,rfl,aW.o,H.o⟩
       case round =>
            clear aW H;obtain⟨k,az,rfl,cg,z⟩:=hrel
            by_cases E:k<U.length
            ·obtain⟨bt,cZ,e4,b0,bC,bG⟩:=jR (eX.o.keep z.o) k E;have aI:k<bV.length:=(by rw[<-bS.o];exact E);obtain⟨cy,on,e5,cH⟩:=(f1.o.keep z.o).at_ k aI;have au:=cH 0 _ rfl;rw[Lb,lE]at au;have b1:=block_lt_of_cell au;simp only at b1;have cR:bV[k]=U[k].name:=by
              have J:bV[k]? =some U[k].name:=(by rw[<-f2.o,lP,lu E];rfl);rw[lu aI]at J;exact ls J
             rw[cR]at au;obtain⟨v,aq,aT,cW⟩:=BV cg.o cf.o c5.o (ll E) (f3.o _ (ll E));unfold dY at aT;subst e4;subst e5;have F:=eK.o.keep z.o U[k] (ll E);have c7:=lh cW;clear cH cR cW;generalize U[k]=G at bC bG au aT F c7;go_upto_region 44 with fail;have aJ:ak (wr.alloc (.cells #[.string v] 45)) wr.heap.size 45 [.string v]:=bH wr _ _;have o:aa wr (wr.alloc (.cells #[.string v] 45)):=aa.alloc (aa.refl _) _;generalize wr.heap.size=g9 at aJ|-;generalize wr.alloc (.cells #[.string v] 45)=a5 at aJ o|-;have g4:=aJ.cell 0 _ rfl;have gh:=aJ.lt;have gE:=(o.cell (p:=⟨bt,cZ+k*2,none⟩) b0).trans bC;have gF:=(o.cell (p:=⟨bt,cZ+k*2+1,none⟩) b0).trans bG;have gG:=(o.cell (p:=⟨cy,on+k,none⟩) b1).trans au;have gf:bt<a5.heap.size:=lp b0 o.size;have gg:cy<a5.heap.size:=lp b1 o.size;have cK:∀m,(convert 31 9 (.slice G.A G.bs.length G.c)).run prog (a5.drewN m)=.ok (.string ⟨G.bs.toArray⟩) (a5.drewN m):=λm=>ii ((F.keep o).keep kP);have cb:=lh o;have ch:=lh (cg.o.keep o);clear bC bG au b0 b1 F aT aJ o
             cases aq
             ·clear cK;go_quiet (fail);go_wp2;go_roundw
              case rel=>exact⟨k+1,oM,by go_num,ch.o.keep kP,(z.v cb).trans kP⟩
              case measure=>simp[intOf];omega
             ·obtain rfl:=c7.o rfl;go_quiet (fail);go_wp2;go_roundw
              case rel=>exact⟨k+1,oM,by go_num,ch.o.keep kP,(z.v cb).trans kP⟩
              case measure=>simp[intOf];omega
            ·have cc:=lh (O.o.trans (D.v z));go_wp2_with (go_at_call 7;refine ae ?_);refine uM (d9.o _ cc.o) ?_;rintro e eH ⟨rfl,cP⟩;have dN:=cc.u cP;clear cP;go_wp2;go_ret;exact⟨rfl,dN.o⟩
      ·have dx:1<=sp.length:=LJ.2 dy;have gw:sp.length<=8:=V.o.few;obtain⟨T,e7,fo,fQ,fy,bB⟩:=P.o.split rfl V.o (by have:=db.o;omega);have cG:T.length=sp.length:=e7;have bP:=lh e7;have eL:=lh fo;have cw:=lh fQ;have eT:=lh fy;have f8:=lh bB;clear e7 fo fQ fy bB;go_wp2;go_loopw [23,178] (λvm vi ap=>∃(j:Nat) (ds:Value),j<=sp.length/\vi=.int .i64 j/\ds=vm/\Hid (pz ap wr.heap.size ds (T.take j))/\Hid (aa wr ap)) (λ_ vi _=>sp.length-(intOf vi).toNat)
       case atStart=>exact⟨0,_,lj _,rfl,rfl,ah.nil_ _ _ _ _ _,aa.refl _⟩
       case round =>
            clear y K L M N X;rename World=>ap;obtain⟨j,ds,a4,rfl,rfl,cn,z⟩:=hrel;have hb:=z.o.size
            by_cases eg:j<sp.length
            ·have fz:j<T.length:=oM;obtain⟨p,bZ,h9,fn⟩:=eL.o j eg fz;obtain⟨gT,hc,gx,ge,ft⟩:=eZ (fc.o.keep (O.o.trans (D.o.trans (bc.v z)))) j eg;rw[show sp[j]=(p:Int) from bZ]at ft;subst gx;have ed:=(P.o.ra.keep z.o).cell p (T[j]).v (by rw[lP,fn];rfl);have ef:=(P.o.ra.keep z.o).lt;unfold Ir.v at ed;have fh:=lh (show T.take (j+1)=T.take j++[T[j]]from ly fz);have gz:(T.take j).length=j:=(by rw[lD];omega);clear bZ fn;generalize T[j]=r at ed fh;go_wp2_with (at_builtin;refine ae ?_);refine ar ?_;have o:aa ap (ap.alloc (.cells #[.slice r.A r.xs.length r.c] 24)):=aa.alloc (aa.refl _) _;have ex:Sl (ap.alloc (.cells #[.slice r.A r.xs.length r.c] 24)) 1 Ir.cells (some ⟨ap.heap.size,0,none⟩) 1 [r]:=br _ oM oM λj u hu=>by
              match j,hu with
              | 0,hu =>
                cases hu
                exact(bH ap 24 [.slice r.A r.xs.length r.c]).cell 0 _ rfl
             generalize ap.alloc (.cells #[.slice r.A r.xs.length r.c] 24)=dB at o ex|-;have gD:=o.size;have bT:=cn.o.keep o;refine aD Dx mI sH rfl (.tmp 182) (.tmp 187) rfl (ys:=[r]) bT rfl rfl ex sO oM ?_;intro gR a5 cS cN _;have aL:=lh (ag.after (z.o.trans o) (ag.of_grown cN) λx hx=>(bT.lt x (by simpa using hx)).1);have g0:=lh (fh.o▸cS);clear cS cN o ex gD bT gz ed ef ge ft;go_wp2;go_roundw
             case rel=>exact⟨j+1,_,oM,by go_num,rfl,g0.o,aL.o⟩
             case measure=>simp[intOf];omega
            ·have gn:j=sp.length:=oM;subst gn;rw[<-cG,lC]at cn;obtain⟨gQ,gZ,rfl⟩:=bp cn.o;have fg:=lh (jZ cn.o mI oM);obtain⟨C,h0,ga⟩:=bp P.o.mt;subst ga;obtain⟨leaf,gr⟩:∃leaf:Nat,ad=(leaf:Int):=⟨ad.toNat,by have:=V.o.lo;simp only at this;omega⟩;subst gr;have dX:=lh (P.o.star rfl V.o (by have:=db.o;omega) oM bP.o cw.o eT.o f8.o dy (leaf:=leaf) rfl rfl z.o fg.o);rw[cG]at dX;have y:=bE (D.o.trans (bc.v z)) f.o aA.o;have K:=bE (D.o.trans (bc.v z)) f.o aB.o;have L:=bE (D.o.trans (bc.v z)) f.o aC.o;have M:=bE (D.o.trans (bc.v z)) f.o aE.o;have N:=bE (D.o.trans (bc.v z)) f.o aF.o;have X:bh<ap.heap.size:=block_lt_of_cell y;have fD:=MB (cs:=cs) (c:=⟨s0,a8,a9,ac,af,aj,al,ao,G,sp,(leaf:Int)⟩) (rows:=R.map (·.vs)) dy;have f0:=lh fD;have gl:=P.o.few;clear a4 eg dx gw fD eL cw eT f8 cn fg;go_wp2_with (go_at_call 23;refine ae ?_);refine uM dX.o ?_;rintro e eF ⟨h3,rfl,aH,fs⟩;have eN:=lh fs;clear fs dX;go_wp2_with (go_at_call 24;refine ae ?_);refine uM (eN.o _ (aa.refl _)) ?_;rintro e eG ⟨d0,rfl,I,b4⟩;obtain⟨c3,cz,rfl,F⟩:=I.sl aO (bK.o _ f0.o);have Q:=lh (P.o.keep_ ((z.o.trans aH).trans b4));have cJ:=ii F
             obtain⟨hn,b5,Y,W⟩:=mF Q.o.mp oM (⟨#[115,116,97,114]⟩:ByteArray) ⟨(iJ cs ⟨s0,a8,a9,ac,af,aj,al,ao,G,sp,(leaf:Int)⟩ (R.map (·.vs))).toArray⟩ dC;unfold dY at b5;have aW:=lh Y;have c5:=lh (mJ bg.o Q.o.good f0.o);have H:=lh (ag.after Q.o.keep W λj a4=>by simp only[ln,lL,or_false]at a4;rw[a4];exact Q.o.qb);clear I aH b4 F Y W eN Q gl P z bc bP y K L M N X;generalize n+1=eD at aW;generalize jV d3 _ _=dF at aW c5;go_wp2;go_loopw [203] (λvi wr=>∃k:Nat,k<=U.length/\vi=.int .i64 k/\Hid (dW wr b9 eD dF)/\Hid (aa aU wr)) (λvi _=>U.length-(intOf vi).toNat)
             case atStart=>exact⟨0,lj _,rfl,aW.o,H.o⟩
             case round =>
              clear aW H;obtain⟨k,az,rfl,cg,z⟩:=hrel
              by_cases E:k<U.length
              ·obtain⟨bt,cZ,e4,b0,bC,bG⟩:=jR (eX.o.keep z.o) k E;have aI:k<bV.length:=(by rw[<-bS.o];exact E);obtain⟨cy,on,e5,cH⟩:=(f1.o.keep z.o).at_ k aI;have au:=cH 0 _ rfl;rw[Lb,lE]at au;have b1:=block_lt_of_cell au;simp only at b1;have cR:bV[k]=U[k].name:=by
                    have J:bV[k]? =some U[k].name:=(by rw[<-f2.o,lP,lu E];rfl);rw[lu aI]at J;exact ls J
               rw[cR]at au;obtain⟨v,aq,aT,cW⟩:=BV cg.o cf.o c5.o (ll E) (f3.o _ (ll E));unfold dY at aT;subst e4;subst e5;have F:=eK.o.keep z.o U[k] (ll E);have c7:=lh cW;clear cH cR cW;generalize U[k]=G at bC bG au aT F c7;go_upto_region 44 with fail;have aJ:ak (wr.alloc (.cells #[.string v] 45)) wr.heap.size 45 [.string v]:=bH wr _ _;have o:aa wr (wr.alloc (.cells #[.string v] 45)):=aa.alloc (aa.refl _) _;generalize wr.heap.size=g9 at aJ|-;generalize wr.alloc (.cells #[.string v] 45)=a5 at aJ o|-;have g4:=aJ.cell 0 _ rfl;have gh:=aJ.lt;have gE:=(o.cell (p:=⟨bt,cZ+k*2,none⟩) b0).trans bC;have gF:=(o.cell (p:=⟨bt,cZ+k*2+1,none⟩) b0).trans bG;have gG:=(o.cell (p:=⟨cy,on+k,none⟩) b1).trans au;have gf:bt<a5.heap.size:=lp b0 o.size;have gg:cy<a5.heap.size:=lp b1 o.size;have cK:∀m,(convert 31 9 (.slice G.A G.bs.length G.c)).run prog (a5.drewN m)=.ok (.string ⟨G.bs.toArray⟩) (a5.drewN m):=λm=>ii ((F.keep o).keep kP);have cb:=lh o;have ch:=lh (cg.o.keep o);clear bC bG au b0 b1 F aT aJ o
               cases aq
               ·clear cK;go_quiet (fail);go_wp2;go_roundw
                case rel=>exact⟨k+1,oM,by go_num,ch.o.keep kP,(z.v cb).trans kP⟩
                case measure=>simp[intOf];omega
               ·obtain rfl:=c7.o rfl;go_quiet (fail);go_wp2;go_roundw
                case rel=>exact⟨k+1,oM,by go_num,ch.o.keep kP,(z.v cb).trans kP⟩
                case measure=>simp[intOf];omega
              ·have cc:=lh (O.o.trans (D.v z));go_wp2_with (go_at_call 7;refine ae ?_);refine uM (d9.o _ cc.o) ?_;rintro e eH ⟨rfl,cP⟩;have dN:=cc.u cP;clear cP;go_wp2;go_ret;exact⟨rfl,dN.o⟩
  ·clear d4 dr dm d5 dk dd;go_wp2_with (go_at_call 9;refine ae ?_);refine uM (de.o aK d T _ (O.v av) ct.o cd.o (by rw[bn.o];exact cY)) ?_;rintro e dB ⟨rfl,bA⟩;rw[bn.o];have H:=av.u bA;have bO:=lh bA;clear y K L M N X bA de;have y:=bE H.o f.o aA.o;have K:=bE H.o f.o aB.o;have L:=bE H.o f.o aC.o;have M:=bE H.o f.o aE.o;have N:=bE H.o f.o aF.o;have X:bh<dB.heap.size:=block_lt_of_cell y
   rcases c1 with c1|c1|c1
   all_goals
    rw[c1];go_wp2_with (go_at_call 10;refine ae ?_);refine uM (bU.o oM (by simpa using cY) _ (O.v H)) ?_;rintro e a5 ⟨rfl,b3⟩;rw[c1];have aL:=H.u b3;have aP:=lh (λa (hW:aa a5 a)=>zf aK B d m T rows a (ct.o.keep (bO.o.trans (b3.trans hW))) (λr l=>(cd.o r l).keep (bO.o.trans (b3.trans hW))) (dS.o.keep (O.o.trans (aL.o.trans hW))) (dh.o.keep (O.o.trans (aL.o.trans hW))));have cU:pB (T.map (·.vs)=rows.map (·.vs))=true:=ew bn.o;rw[cU]at aP;clear y K L M N X b3 cU;go_wp2_with (go_at_call 11;refine ae ?_);refine uM (aP.o _ (aa.refl _)) ?_;rintro e eF ⟨rfl,aH⟩;have c9:=lh ((O.v aL).trans aH);clear aH aP;go_wp2_with (go_at_call 7;refine ae ?_);refine uM (d9.o _ c9.o) ?_;rintro e eG ⟨rfl,b4⟩;have aM:=c9.u b4;clear b4;go_wp2;go_ret;exact⟨rfl,aM.o⟩
 ·go_wp2_with (go_at_call 7;refine ae ?_);refine uM (d9.o _ (O.v c8)) ?_;rintro e ap ⟨rfl,cO⟩;have av:=lh ((O.v c8).trans cO);clear cO;go_wp2;go_ret;exact⟨rfl,av.o⟩
open Go.ChangeAt Go.ChangeMaps Go.ChangeShapes Go.Proofs.Tryz Go.WideShapes
theorem Gt{a:World}(d:laidMetH prog Rows.buildMakesRow.laid a):jo a/\Tab a:=by
 rw[Go.MakeChecks.laidMetH_plain _ _ _ kR]at d;have c:laidMet prog (("math/bits.deBruijn64tab",Rows.laid_math_bits_deBruijn64tab)::("internal/strconv.uint64pow10",Rows.laid_internal_strconv_uint64pow10)::[]) a:=d.tail;have f:laidMet prog (("internal/strconv.uint64pow10",Rows.laid_internal_strconv_uint64pow10)::[]) a:=c.tail;have h:(Rows.laid_math_bits_deBruijn64tab:DataW Unit)=Lib.tabData .u8 (pK.map λn:Nat=>(n:Int)):=rfl;have i:(Rows.laid_internal_strconv_uint64pow10:DataW Unit)=Lib.tabData .u64 Lib.pow10Tab:=rfl;rw[h]at c;rw[i]at f;refine⟨Lib.tabIs_of_head (t:=290) (e:=47) (n:=20) rfl kR kR kR kR kR f,λj hj=>?_⟩;have g:prog.globalNamed "math/bits.deBruijn64tab"=some 2:=kR;have l:=Lib.tabIs_of_head (t:=341) (e:=5) (n:=64) g kR kR kR kR kR c;have b:j<pK.length:=hj;have k:=l.cell g j (by rw[ld];exact b);rw[k]
 congr 2
 rw[L9,lP,lu b,L9,lu b];rfl
theorem H7{w:World}{b:Nat}{x:TypeId×Nat}(a:w.shape? b=some x):b<w.heap.size:=by
 rcases L8 b w.heap.size with c|c
 ·exact c
 ·unfold World.shape? at a;rw[Array.getElem?_eq_none c]at a
  cases a
theorem Dl{w:World}{r:Reach}{d:Nat}{A:Option Addr}{n c:Nat}(a:Cell.okWide prog w r d 23 (.slice A n c)):∀bb off,A=some ⟨bb,off,none⟩->bb<w.heap.size:=λbb off e=>by
 subst e;unfold Cell.okWide at a;rw[qV]at a;simp only at a;unfold Cell.ok at a;rw[qV]at a;simp only at a;obtain⟨_,_,_,_,g,f,b,_⟩:=a;exact H7 b
theorem PU{w:World}{r:Reach}{l:Nat}{c:bw}(a:Value.okWide prog w r l 26 c.v):(∀bb off,c.iA=some ⟨bb,off,none⟩->bb<w.heap.size)/\∀bb off,c.rA=some ⟨bb,off,none⟩->bb<w.heap.size:=by
 obtain⟨C,A,t,p,n,h,_⟩:=xF;unfold Value.okWide at a;rw[h]at a;simp only at a;obtain⟨cs,e,_,q,b,_,g⟩:=a;have i:prog.cellTypes prog.depth 26=some [3,23,23,24,3]:=kR;rw[i]at b;injection b with b;subst b;obtain⟨s0,u,z,o,s,x,E,y,B,sp,F⟩:=c;simp only[bw.v]at e;injection e with e;subst e;obtain⟨m,f,k⟩:=g 1 _ rfl;obtain⟨D,d,j⟩:=g 2 _ rfl;injection f with f;injection d with d;subst f;subst d;exact⟨Dl k,Dl j⟩
theorem door_met(os:Os)(args:Array Value):laidMetH prog Rows.buildMakesRow.laid ((World.doorLaid prog 24 os).forCall (λ_ _=>0) ⟨#[],args,[]⟩).memory :=
 laidMetH_of_parts3 (fuel:=8) (laidMet_of_run' 8 kR kR) kR kR
theorem AT:Tryz.f3.params=#[22,26,27]:=kR
theorem MO(os:Os)(N:os.Started)(G:Type)(enc:TypeId×Value->G) :
 ReturnsInHanded {} Tryz.checked os 3 .any (λw args=>(Rows.buildMakesSpec.pre enc prog Tryz.f3 Rows.buildMakesRow.domain false w args/\laidMetH prog Rows.buildMakesRow.laid w)/\sizedMet enc prog Tryz.f3 (OpenSpec.ofChange Rows.buildMakesSpec) false w args)
  (Rows.buildMakesSpec.post enc prog Tryz.f3 false true false false):=by
 refine returnsInHanded_of_change_and (C:=Tryz.checked) (X:=λw _=>laidMetH prog Rows.buildMakesRow.laid w) (λ_ _ _ hh h=>h.of_heap hh) J9 N kR func3
  (ChangeSpec.witness_shaped (enc:=enc) (C:=Tryz.checked) (os:=os) (X:=λw _=>laidMetH prog Rows.buildMakesRow.laid w) false (World.doorLaid prog 24 os) #[.slice none 0 0,.agg #[.int .i64 0,.slice none 0 0,.slice none 0 0,.slice none 0 0,.int .i64 0],.slice none 0 0] 8 rfl (World.shaped_of_RefB kR kR) kR kR kR (door_met os _)) ?_
 intro b base args K Y a0 z q _ u R _;have a:∀(j:Nat) t v,Tryz.f3.params[j]? =some t->args[j]? =some v->Value.okWide prog b .any base t v:=z;have g:=q;obtain⟨p,Z,E,J,rfl,W,a1⟩:=q;have r:DataW.TrodAll enc prog b 0 (λ_=>true) true Tryz.f3.params.toList args.toList K p:=E;rw[AT]at r a;obtain⟨v0,M,v2,F,d1,d2,l,p1,p2,rfl,rfl,rfl,D,H,s⟩:=trodAll_three r;obtain⟨rfl,rfl⟩:=trodVars_none J;have k:∀x∈l++p1++p2++[],x.block<b.heap.size:=λx i=>by simpa using g.lt x i
 have o:=List.all_eq_true.1 u;have f:∀(j:Nat) (t:TypeId) (d:DataW G),(Tryz.f3.params.toList++Rows.buildMakesSpec.plain.varTypes prog)[j]? =some t->([F,d1,d2]++[])[j]? =some d->∀n∈d.weights prog t,n<=reachBytes:=λj t d ht hd n hn=>by
  simpa using o _ (DataW.weights_mem_each ht hd n hn)
 obtain⟨A,n,cs,rfl,Q,i⟩:=Kz (a 0 _ v0 rfl rfl) D (f 0 _ F rfl rfl);obtain⟨c,rfl,P⟩:=KA (a 1 _ M rfl rfl) H (f 1 _ d1 rfl rfl);obtain⟨B,m,rows,rfl,U,V,S⟩:=Ky (a 2 _ v2 rfl rfl) s (f 2 _ d2 rfl rfl);obtain⟨T,L⟩:=PU (a 1 _ c.v rfl rfl);obtain⟨O,I⟩:=Gt R;clear E z u o f;simp only[lT]at g;refine(MP A B n m cs c rows b Q i P T L U V S O I).mono λe W' ⟨he,hg⟩=>?_;subst he
 exact⟨_,rfl,JL (pa:=l++p1++p2) (pv:=[]) g (λ_ _ _=>trodAll_mk1 (shut_bool uc _))
  (λsp hsp=>by
    have:=trodAll_mk3 (stays vQ kR (of_decide_eq_true kR) D hg (λy hy=>k y (by simp[hy])) (sp:=sp) (λy hy=>hsp y (by simp[hy])))
       (stays vQ kR (of_decide_eq_true kR) H hg (λy hy=>k y (by simp[hy])) (sp:=sp) (λy hy=>hsp y (by simp[hy])))
       (stays vQ kR (of_decide_eq_true kR) s hg (λy hy=>k y (by simp[hy])) (sp:=sp) (λy hy=>hsp y (by simp[hy])))
    rw[<-lr]at this
    first
       | exact this
       | (rw[lT]at this;exact this)
       | (rw[lO,lT]at this;exact this)) (λ_ _=>rfl) sP
  hg (ok_one kR rfl (okWide_bool_mk uc _))⟩
theorem Nz:(Rows.buildMakesRow.inPlace==prog.inPlace 3)=true:=kR
theorem Nx:(Rows.buildMakesRow.unfollowed==prog.unfollowed 3)=true:=kR
theorem Ny:(Rows.buildMakesRow.recurses==prog.recurses 3)=true:=kR
theorem NA:(Rows.buildMakesRow.named==prog.varsNamed 3)=true:=kR
theorem NB:false=prog.looks []:=kR
theorem NC:false=Rows.buildMakesRow.goesBy prog:=kR
theorem ND:joinedFacts prog 3 Tryz.f3 Rows.buildMakesSpec Rows.buildMakesRow=true:=by
 unfold joinedFacts;simp only[L6]
 and_intros
 all_goals first
  | with_reducible exact Nz
  | with_reducible exact Nx
  | with_reducible exact Ny
  | with_reducible exact NA
  | kernel_rfl
theorem MN:Rows.BuildMakesSaid :=
 OpenClaim.holds_of_wide 3 Tryz.f3 rfl rfl rfl rfl rfl rfl rfl ⟨rfl,rfl,rfl,rfl,rfl⟩ rfl rfl rfl rfl rfl kR func3 ND
  (of_decide_eq_true kR) (by unfold Func.isWrapper;first|(rw[if_pos (by decide +kernel)];kernel_rfl)|(rw[if_neg (by decide +kernel)];exact⟨rfl,rfl⟩))
  (λos started H enc _=>MO os started H enc)
theorem makes_holds:Rows.BuildMakesCardSaid :=
 Claim7.holds_tied_plain_at .later [] [.data,.data,.data] true Rows.buildMakesCard.stood.harness false
  MN (λ_ h=>by cases h) kR (λ_ h=>by cases h) buildMakes_row_tie rfl ⟨rfl,rfl⟩ kR rfl
  (λf fn hf hfn=>by
    obtain rfl:f=3:=ls ((show prog.funcNamed "isinglass/isinglasslaw22.BuildMakes"=some 3 from kR).symm.trans hf) |>.symm
    obtain rfl:fn=Tryz.f3:=(ls (func3.symm.trans hfn)).symm;exact⟨NB,λj t ht=>by
     rw[AT]at ht;have b:t∈[22,26,27]:=(by simpa using Array.mem_of_getElem? ht);have a:([22,26,27].all λu=>!prog.wantsStandIn u)=true:=kR;exact(show prog.wantsStandIn t=false by simpa using List.all_eq_true.1 a t b)⟩)
  NC
#print axioms makes_holds
end Go.Proofs.YtpkocnpamcchcaaGreatDoor
