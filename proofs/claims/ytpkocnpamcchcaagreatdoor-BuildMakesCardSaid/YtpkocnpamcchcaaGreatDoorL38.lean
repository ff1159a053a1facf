/- Parts. -/
import Derived.Test.YtpkocnpamcchcaaGreatDoorL24
import Derived.Test.YtpkocnpamcchcaaGreatDoorL31
import Derived.Test.YtpkocnpamcchcaaGreatDoorL35
set_option maxRecDepth 100000
set_option maxHeartbeats 40000000
set_option linter.all false
namespace Go.Proofs.YtpkocnpamcchcaaGreatDoor
open Go.RowKit Go.Zone Go.Shelf Tryz Go.Roa Go.Star Go.Sym
theorem yY{b:Option ap}{B C:Nat}(a:eh b B)(d:B<=C):eh b C:=⟨a.good,a.notW,λc e=>lk (a.w c e) d⟩
theorem yW(b:List (Option ap))(B:Nat)(c:∀s∈b,eh s B)(d:b.length<=1000):(b.flatMap cP).length<=1000*(16+2*B):=by
 have e:∀b:List (Option ap),(∀s∈b,eh s B)->(b.flatMap cP).length<=b.length*(16+2*B):=λb=>by
  induction b with
  | nil=>intro _;simp
  | cons a l ih =>
    intro c;have g:=ih λs hs=>c s (Lm _ hs);have f:=ny (c a (Lt ..));rw[lN,lg,lw,lH];omega
 exact lk (e b c) (L7 _ d)
theorem yx(many:Nat)(a:List Nat):(ik (fV many a)).length<=a.length:=by
 unfold fV
 cases h:eY many a a.length with
 | none=>simp[ik]
 | some l =>
   have:=uw many a a.length l h;simp only[]
   split
   ·exact this
   ·simp[ik]
theorem G1(many:Nat)(a:List Nat)(b:a.length<=64):(ik (fV many a)).length<=16777216:=by
 have:=yx many a;omega
theorem G3(many:Nat)(b:List Nat):(ky (fV many b)).length<=4*b.length:=by
 have c:∀l:List Nat,(l.flatMap (le · 4)).length=4*l.length:=λl=>by
  induction l with
  | nil=>rfl
  | cons a l ih=>rw[lN,lg,ay,ih,lw];omega
 have:=yx many b;unfold ky;rw[c];omega
theorem G2(many:Nat)(a:List Nat)(b:a.length<=64):(ky (fV many a)).length<=256:=by
 have:=G3 many a;omega
def fF(a:ByteArray)(p:Nat):ByteArray:=a++(⟨#[46]⟩++ey p)
def rL:ByteArray:=⟨#[105,110,118,101,114,116,101,100]⟩
def rK:ByteArray:=⟨#[114,97,110,103,101,100]⟩
def rJ:ByteArray:=⟨#[115,111,114,116,101,100]⟩
def jE(k:Int)(p n:Nat)(xs:List ai)(i r s:Bool):List (ByteArray×List UInt8) :=
 [(fF mB p,iP k (aQ xs)),(fF mA p,jl n (aQ xs).length (cM (aQ xs).length) (fl (bF xs) (cM (aQ xs).length)))]++(if i then [(fF rL p,(fP (bF xs) (aQ xs).length).flatMap cP)] else [])++(if r then [(fF rK p,(fy (bF xs) (aQ xs).length).flatMap cP)] else [])++(if s then [(fF rJ p,ky (fV (aQ xs).length (bF xs)))] else [])
theorem MH{pv f d b2:Value}(b base gi j:Nat)(S:List bI)(cs:List aG)(A X:Option Addr)(n aA pl:Nat)(rows:List Rw)(s0:Int)(aj a4:Option Addr)(ap aC:Nat)(Y V:List Bool)(vi D:List Value)(w:World)
 (dn:Sl w 2 aG.cells A n cs) (cU:Sl w 1 Rw.cells X aA rows) (ei:dG w rows) (bg:rows.length<=64) (ea:Sl w 1 kT aj ap Y) (dS:Sl w 1 kT a4 aC V)
 (eP:pl<cs.length) (ez:pl<1000)
 (bx:ak w b 77 (fG (.slice A cs.length n) (.int .i64 s0) (.slice aj Y.length ap) (.slice a4 V.length aC) pv f (.slice X rows.length aA) d (.slice (some ⟨gi,0,none⟩) vi.length vi.length) (.slice (some ⟨j,0,none⟩) D.length D.length) b2))
 (cT:ak w gi 24 vi) (dj:ak w j 3 D) (eF:pl<vi.length) (f3:pl<D.length) (ek:eB w base d S) (ds:eU w S) (b8:b<base) (eK:gi<base) (fe:j<base) (b5:base<=w.heap.size) (gd:S.length<=2000) (a8:World) (aI:aa a8 w) (fn:a8.heap.size<=b/\a8.heap.size<=gi/\a8.heap.size<=j) (fK:jo a8) (ex:Tab a8)
 (ba:fC (dp cs[pl]) (bD (rows.map (·.vs)) pl)=0)
 (da:∀bb h,aj=some ⟨bb,h,none⟩->bb∉[b,gi,j]/\bb<base) (cR:∀bb h,a4=some ⟨bb,h,none⟩->bb∉[b,gi,j]/\bb<base) :
 Calls prog 34 #[.pointer (some ⟨b,0,none⟩),.int .i64 pl] w λe R=>e=.returned (.int .i64 0)/\∃o' S' X',ak R b 77 (fG (.slice A cs.length n) (.int .i64 s0) (.slice aj Y.length ap) (.slice a4 V.length aC) pv f (.slice X rows.length aA) o' (.slice (some ⟨gi,0,none⟩) vi.length vi.length) (.slice (some ⟨j,0,none⟩) D.length D.length) b2) /\
  ak R gi 24 (vi.set pl X')/\(∃g c,X'=.slice (some ⟨g,0,none⟩) rows.length c)/\ah R w.heap.size 3 1 dD X' (bF (bD (rows.map (·.vs)) pl))/\ak R j 3 (D.set pl (.int .i64 (aQ (bD (rows.map (·.vs)) pl)).length)) /\
  eB R base o' S'/\eU R S'/\S'.map cI=S.map cI++jE (dp cs[pl]) pl rows.length (bD (rows.map (·.vs)) pl) (cD Y (pl:Int)) (cD V (pl:Int)) (s0==(pl:Int))/\ag w R (b::gi::j::d.ownBlock.toList):=by
 have bl:(bD (rows.map (·.vs)) pl).length=rows.length:=by simp[bD]
 have aI:dp cs[pl]≠0:=by unfold dp;split<;>decide
 have bB:=lh (show dp cs[pl]=1\/dp cs[pl]=2 by unfold dp;split<;>simp);have c8:=lh (λW (hW:aa w W)=>xU X aA pl rows W (cU.keep hW) (ei.keep hW) oM);have b9:=lh (Ql cs[pl]);rw[show(if cs[pl].kind=2 then (2:Int) else 1)=dp cs[pl]from rfl]at b9;generalize bD (rows.map (·.vs)) pl=xs at bl ba c8|-;obtain⟨aY,h,fg,ct,bH,Q⟩:=il dn pl eP;generalize fR:cs[pl]=fJ at ba aI bB b9 bH Q|-;have du:=lh (td ba);have fx:=lh (kW xs).1;have bO:=lh (λv (hv:v∈xs)=>OW aI hv);have cj:=lh (sN xs);have cy:=lh (J4 xs oM);have em:(aQ xs).length<=1000000:=lk (jF xs) oM;have dh:=lh ba;have aP:=lh bx;have br:=lh cT;have bm:=lh dj;have bJ:=lh ek;have dP:=lh ds;have dN:=lh ea;have db:=lh dS;have aR:=lh bl;have dX:=lh aI;have ew:=lh da;have fp:=lh cR;have ga:=bx.lt;have fQ:=bx.cell 6 _ rfl;clear bx cT dj ek ds dn cU ei ea dS ba aI fR da cR;generalize g8:rows.length=N at *;subst fg;obtain⟨fj,fM⟩:=fJ;simp only at bH Q;go_enter func34,ntmps34;go_wp2_with (go_at_call 66;refine ae ?_);refine uM (c8.o _ (aa.refl _)) ?_;rintro e eG ⟨cW,rfl,dx,fr,aN⟩;have dK:=lh aN;have e4:=lh (dx.sl_blk di (by rw[bl];omega) (lV bl) oM:Sl eG 3 ai.cells (some ⟨cW,0,none⟩) N xs);have b4:=(aN.cell (p:=⟨aY,h+pl*2,none⟩) ct).trans bH;have b3:=(aN.cell (p:=⟨aY,h+pl*2+1,none⟩) ct).trans Q;have f0:=lp ct aN.size
 have bR:=aP.o.keep aN;have fB:=bR.cell 0 _ rfl;have g4:=bR.lt;clear aN fQ bR dx fr c8 bH Q bl;go_wp2_with (go_at_call 71;refine ae ?_);refine uM (b9.o _) ?_;rintro e ff ⟨rfl,cz⟩;have bM:=dK.u cz;have cm:=lh (e4.o.keep cz);clear cz b4 b3 fB f0 e4;generalize ee:dp ⟨fj,fM⟩=aW at b9 dh bO bB dX|-;have eM:=lh ee;clear ee;go_wp2_with (go_at_call 70;refine ae ?_);refine ar ?_;have B:=KP aW (some ⟨cW,0,none⟩) N xs ff cm.o (by rw[aR.o];omega);rw[aR.o]at B;refine B.mono ?_;clear B;rintro e aL ⟨v,rfl,dA,bY⟩;rw[dh.o]at dA|-
 rcases dA with⟨a,_⟩ | ⟨_,bv,bK,df,rfl,dl,ef,cX⟩
 ·exact absurd rfl a
 have aS:=bM.u bY;have dw:=lh (cm.o.keep bY);have c1:=lh dl;have el:=lh (lk bM.o.size ef);have cN:=lh (show ∀bb h,bK=some ⟨bb,h,none⟩->0<(aQ xs).length->w.heap.size<=bb from λbb h e hp=>lk bM.o.size (cX bb h e hp));clear bY dl ef cX b9 cm;obtain⟨i0,dc,cJ,i2,i3⟩:=iN N4;obtain⟨W',dz,en,ck⟩:=oR (P:=prog) (z:=(0:Nat)) qp rfl underlying24 dc cJ i2 N aL.heap.size aL (by rw[i3];omega) oM (lc _);have K:=lh en;have Z:=lh ck;clear en ck i0 dc cJ i2 i3;generalize e3:aL.heap.size=t at dz K;have bq:=lh e3;clear e3;go_wp2;clear dz;go_loopw [47] (λi wr=>∃k:Nat,k<=N/\i=.int .i64 k/\Hid (ah wr t 3 1 dD (.slice (some ⟨t,0,none⟩) N N) ((bF xs).take k++List.replicate (N-k) 0))/\Hid (aa aL wr)) (λi _=>N-(intOf i).toNat)
 case atStart=>exact⟨0,lj _,rfl,K.o,Z.o⟩
 case round =>
  clear K Z;obtain⟨k,ck,rfl,K,Z⟩:=hrel
  by_cases dq:k<N
  ·
   have cC:k<xs.length:=(by rw[aR.o];exact dq);obtain⟨gc,ge,fO,g0,b4,b3,cA⟩:=dL (dw.o.keep Z.o) k cC
   cases fO
   simp only[lS]at b4 b3 cA;have bo:=λW (hW:aa aL W)=>OX xs[k] W (c1.o.keep hW) fx.o;rw[bO.o xs[k] (ll cC)]at bo;have aq:=lh bo;have dm:k<(bF xs).length:=(by rw[bF,ld];exact cC);have cl:=lh (show(bF xs).take (k+1)=(bF xs).take k++[dE (aQ xs) xs[k]] by rw[ly dm];simp[bF]);have bt:((bF xs).take k++List.replicate (N-k) 0).length=N:=sO;have cg:((bF xs).take k++List.replicate (N-k) 0).set k (dE (aQ xs) xs[k])=(bF xs).take (k+1)++List.replicate (N-(k+1)) 0:=by
    rw[Lg _ _ (by rw[lD];omega),lD,Nat.min_eq_left oM,Nat.sub_self,show N-k=(N-(k+1))+1 from oM,List.replicate_succ,List.set_cons_zero,cl.o,lr];rfl
   have bX:=lh cg;have eO:=lh bt;obtain⟨fa,d1,d2,d3⟩:=K.o.cell1 qp bt.symm k oM;generalize ((bF xs).take k++List.replicate (N-k) 0)[k]'(by rw[bt];exact dq)=y at fa;generalize xs[k]=x at b4 b3 cA bo aq cl cg bX;generalize dE (aQ xs) x=f8 at aq cl bX;obtain⟨eD,fh,fA⟩:=x;simp only at b4 b3 cA;have bi:=lh (show aL.heap.size<=t from lV bq.o);clear bo cg bt dm d3;go_wp2_with (go_at_call 72;refine(aq.o _ (Z.o.trans kP)).mono ?_;rintro e R ⟨rfl,dO⟩;obtain⟨p,rfl⟩:=dt _ dO;clear dO);go_roundw
   case rel =>
    refine⟨k+1,oM,by go_num,?_,(Z.o.trans kP).setCell bi.o _⟩;have fw:aa wr ((wr.alloc (.cells #[.int .u8 eD,.int .i64 fh,.string fA] 72)).gro p):=kP;have Q:=(K.o.keep fw).set1 qp eO.o.symm k f8 rfl;rw[bX.o]at Q;exact Q
   case measure=>simp[intOf];omega
  ·have eH:k=N:=oM;subst eH;rw[Nat.sub_self,List.replicate_zero,lT]at K;have bu:(bF xs).length=k:=(by rw[bF,ld];exact aR.o);rw[<-bu,lC,bu]at K;have bC:=lh bu;clear bu;have bA:=lh (aS.v Z);generalize f9:wr=dv at *;clear f9;go_upto_region 11 with fail;have bL:=lh (show ∀W,fS W bv aW bK df (aQ xs)->Rs 73 #[.pointer (some ⟨bv,0,none⟩)] W (.int .i64 (aQ xs).length) from λW hW=>by
    have:=M5 W hW
    rwa [if_neg dX.o]at this)
   have es:=lh (c1.o.keep Z.o);have aM:=lh (br.o.keep bA.o);have aF:=lh (bm.o.keep bA.o);have bw:=aP.o.keep bA.o;have fI:=bw.cell 8 _ rfl;have fz:=bw.cell 9 _ rfl;have z0:=aM.o.cell pl _ (lu eF);have d6:=aF.o.cell pl _ (lu f3);have ev:=bw.lt;have eC:=aM.o.lt;have fL:=aF.o.lt;have fb:=aM.o.soft pl;have fE:=aF.o.soft pl;have cr:=row_ne aM.o aF.o dC;have dg:j≠gi:=λe=>cr e.symm;generalize vi[pl]=fZ at z0;generalize D[pl]=fU at d6;have eN:=lh (show ∀bb h,bK=some ⟨bb,h,none⟩->0<(aQ xs).length->bb∉[gi,j]from λbb h e hp hm=>by have:=cN.o bb h e hp;simp at hm;omega);have f1:=lh (show bv∉[gi,j]from λe=>by have:=el.o;simp at e;omega);have cf:=lh (λW (hT:ag dv W [gi,j])=>es.o.turn1 hT f1.o eN.o);clear bw;go_cut []from 62 to 76 (λwx=>Hid (ag dv wx [gi,j])/\Hid (ak wx gi 24 (vi.set pl (.slice (some ⟨t,0,none⟩) k k)))/\Hid (ak wx j 3 (D.set pl (.int .i64 (aQ xs).length))))
   case first =>
    go_region_with (go_at_call 73;refine(bL.o _ (cf.o _ (by repeat (first|exact ag.refl _ _|apply ag.alloc|apply ag.gro|apply ag.drew|apply ag.drewN|(refine ag.setc ?_ sP _))))).mono ?_;rintro e R ⟨rfl,rfl⟩)
    all_goals
     go_wp2_with fail;go_meet;exact⟨(by repeat (first|exact ag.refl _ _|apply ag.alloc|apply ag.gro|apply ag.drew|apply ag.drewN|(refine ag.setc ?_ sP _))),(aM.o.set pl _).other pl _ dg,(aF.o.other pl _ cr).set pl _⟩
   case rest =>
    rename World=>w5;obtain⟨O,e5,d7⟩:=hcut;have au:=lh ((ag.keep bA.o [gi,j]).trans O.o);have c5:b∉[gi,j]:=λe=>by
     simp only[ln,lL,or_false]at e
     rcases e with e|e
     ·exact row_ne aP.o br.o dC e
     ·exact row_ne aP.o bm.o dC e
    have dY:=lh c5;have fs:=lh bJ.o;have bn:=lh (au.o.row aP.o c5);have b1:=lh (show eB w5 base d S from ah.turn bJ.o au.o λi hi e=>by
     have:=(bJ.o.lt _ e).1;simp at hi;omega)
    have bp:=lh (dP.o.turn au.o λi hi _=>by
     simp only[ln,lL,or_false]at hi
     rcases hi with rfl|rfl
     ·exact ak.noU8 br.o dC
     ·exact ak.noU8 bm.o dC)
    have c9:=lh (cf.o _ O.o);have c2:=lh au.o.size;have cb:=lh (show Sl w5 1 dD (some ⟨t,0,none⟩) k (bF xs) by
     obtain⟨g9,g1,ci,eJ⟩:=K.o.sl (λ_=>rfl) (by have:=bC.o;omega);injection ci with ci _ hc8;subst ci;subst hc8;exact eJ.turn O.o λbb h e hm=>by
      injection e with e;injection e with e1 e2;have:=bq.o;have:=aS.o.size;simp at hm;omega)
    have aq:=lh (OO (some ⟨t,0,none⟩) k (aQ xs).length (bF xs));rw[bC.o]at aq cy;have e6:=lh (show aa a8 w5 from ag.after aI au.o (λi hi=>by simp only[ln,lL,or_false]at hi;rcases hi with a|a<;>omega));have e9:=lh (λW (hW:aa w5 W)=>Cj pl oM W (fK.keep (e6.o.trans hW)));have cc:=nL pl ez;generalize er:ey pl=bj at e9 cc;have eA:=lh er;obtain⟨bG,dI⟩:∃bG,bj.size=bG:=⟨_,rfl⟩;have g3:bG<=3:=dI▸cc;clear er cc;have et:=lh cb.o;have fk:=lh (show ah w5 t 3 1 dD (.slice (some ⟨t,0,none⟩) k k) (bF xs) from ah.turn K.o O.o λi hi e=>by
     simp only[Value.ownBlock,lQ]at e;simp only[ln,lL,or_false]at hi;have:=bq.o;have:=aS.o.size
     rcases hi with a|a<;>omega)
    have ce:=lh (show w.heap.size<=t from by have:=bq.o;have:=aS.o.size;omega);have e0:=lh c9.o;have ch:=lh bL.o;have J:=lh bC.o;have cn:=lh au.o.size;have aH:(aQ xs).length<=1000:=lk (jF xs) (by have:=aR.o;omega);have e7:=lh cj.o;clear fI fz z0 d6 ev eC fL fb fE cr dg O aM aF es c1 br bm bJ dP aS bM dK c5 K Z cf dw;go_wp2_with (first|(go_at_call 68;refine uC (e9.o _ kP) λp=>?_)|(go_at_call 73;refine(bL.o _ (c9.o.keep kP)).mono ?_;rintro e R ⟨rfl,rfl⟩)|(go_at_call 74;refine ae ?_));refine uM (aq.o _ (cb.o.keep kP) cy.o oM cj.o) ?_;rintro e eY ⟨fH,f6,g6,rfl,E,o,dQ,cS⟩;have bS:=lh (show aa w5 eY from aa.trans (aa.gro (aa.refl _) _) cS);have bE:=lh E;have f2:=lh (show w5.heap.size<=fH from lk (by simp[az]) o);have eW:=lh (show ∀bb h,f6=some ⟨bb,h,none⟩->w5.heap.size<=bb from λbb h e=>lk (by simp[az]) (dQ bb h e));have ca:=lh (λW (hW:fS W bv aW bK df (aQ xs))=>bytes_at aW W hW (by rcases bB.o with e|e<;>omega) (by rcases bB.o with e|e<;>omega) em (λx hx=>by have:=du.o x hx;omega));clear cS E o dQ aq cb bL cj cy bO;have ax:(fl (bF xs) (cM (aQ xs).length)).length<=100000000:=by
     have Q:(bF xs).length*cM (aQ xs).length<=1000000*24:=Ln (by have:=bC.o;omega) (mX _ oM);simp only[fl,ay];omega
    have cF:=tZ (aQ xs).length;have cQ:=mX (aQ xs).length oM;have cZ:=lh cF;have de:=lh cQ;generalize cv:iP aW (aQ xs)=ec at ca;have fD:=lh cv;have ej:ec.length<=100000000000:=by
     rw[<-cv];have Q:=wv (aQ xs) 65535 du.o;have g2:(aQ xs).length*(65535+10)<=1000000*(65535+10):=L7 _ em;simp[iP,ay]at Q|-;omega
    have fo:=lh ej;generalize dy:fl (bF xs) (cM (aQ xs).length)=fW at bE ax;have cO:=lh dy;have cG:=lh ax;clear dy cv ax cF cQ ej;generalize d9:cM (aQ xs).length=fY at bE cO cZ de;have eR:=lh d9;clear d9;go_wp2_with (go_at_call 75;refine ae ?_);refine uM (ca.o _ (c9.o.keep bS.o)) ?_;rintro e g5 ⟨fm,rfl,m,c4⟩;obtain⟨eE,fq,rfl,_⟩:=m.sl aO (by have:=fo.o;omega);have T:=bS.u c4;have dV:=lh (m.base_mono (lj _));have dF:=lh (bE.o.keep c4);clear c4 m bS bE ca;go_wp2_with (go_at_call 30;refine ae ?_);refine uM (kL b base S _ eE fq ec _ (bn.o.keep T.o) (b1.o.keep T.o) b8 (lk b5 (lk c2.o T.o.size)) oM (bp.o.keep T.o) dV.o) ?_;rintro e eQ ⟨rfl,gb,eo,dM,d8,bs,eu⟩;have ed:∀g,d.ownBlock=some g->g<w5.heap.size:=λg e=>(b1.o.lt g e).2;have bU:∀i,w5.heap.size<=i->i∉b::d.ownBlock.toList:=λi hi e=>by
     have:=c2.o;rw[ln,Lc]at e
     rcases e with e|e
     ·omega
     ·have:=ed _ e;omega
    have dZ:=lh (dF.o.turn bs (bU _ f2.o) (λbb h e=>bU _ (eW.o bb h e)));have cq:=lh bs;have cV:=lh eo;have dT:=lh dM;have ep:=lh d8;have bN:=lh eu;have eX:=lh (show base<=eQ.heap.size from lk b5 (lk c2.o (lk T.o.size bs.size)));clear eo dM d8 bs eu ed bU dF dV bn b1 bp;go_wp2_with (go_at_call 76;refine ae ?_);refine ar ?_;have eb:=On _ dZ.o cZ.o (by have:=de.o;omega) oM oM (by have:=cG.o;omega);refine eb.mono ?_;clear eb;rintro e g7 ⟨fm,rfl,m,dU⟩;obtain⟨f5,eT,rfl,_⟩:=m.sl aO (by have:=cG.o;simp[jl,ay];omega);have aB:=lh dU;have dH:=lh (m.base_mono (lj _));clear dU m dZ;go_wp2_with (go_at_call 30;refine ae ?_);refine uM (kL b base _ _ f5 eT _ _ (cV.o.keep aB.o) (dT.o.keep aB.o) b8 (lk eX.o aB.o.size) sO (ep.o.keep aB.o) dH.o) ?_;rintro e eL ⟨rfl,bQ,e8,c7,bT,cE,dJ⟩;have co:=fs.o;have dR:ag w5 eL (b::d.ownBlock.toList):=((ag.keep T.o _).trans (cq.o.trans (ag.keep aB.o _))).trans2 cE λi hi=>by
     rw[ln,Lc]at hi
     rcases hi with a|a
     ·exact .inl (by simp[a])
     ·rcases bN.o with e | ⟨g,e,l⟩
      ·rw[e]at a;exact .inl (by simp only[ln,Lc];exact .inr a)
      ·rw[e]at a;injection a with a;subst a;exact .inr (lk T.o.size l)
    have m:∀i,i<base->i≠b->i∉b::d.ownBlock.toList:=λi hi hn e=>by
     rw[ln,Lc]at e
     rcases e with e|e
     ·exact hn e
     ·have:=(co.lt _ e).1;omega
    have f4:gi≠b:=λe=>dY.o (by simp[e]);have eS:j≠b:=λe=>dY.o (by simp[e]);have ax:∀bb,(bb∉[b,gi,j]/\bb<base)->bb∉b::gi::j::d.ownBlock.toList:=λbb a e=>by
     simp only[ln,lL,or_false,Lc,not_or]at e a
     rcases e with e|e|e|e
     ·exact a.1.1 e
     ·exact a.1.2.1 e
     ·exact a.1.2.2 e
     ·have:=(co.lt _ e).1;omega
    have c6:=lh (show bQ.ownBlock=d.ownBlock\/∃g,bQ.ownBlock=some g/\w5.heap.size<=g by
     rcases dJ with e | ⟨g,e,l⟩
     ·rcases bN.o with C | ⟨g,C,l⟩
      ·exact .inl (e.trans C)
      ·exact .inr ⟨g,e.trans C,lk T.o.size l⟩
     ·exact .inr ⟨g,e,lk (lk T.o.size (lk cq.o.size aB.o.size)) l⟩)
    have eq:∀i,d.ownBlock=some i->base<=i/\i<w.heap.size:=λi hi=>co.lt i hi;have aK:∀i,i∈b::d.ownBlock.toList->i<w.heap.size/\a8.heap.size<=i:=λi hi=>by
     rw[ln,Lc]at hi
     rcases hi with hi|hi
     ·subst hi;exact⟨oM,fn.1⟩
     ·have:=eq i hi;omega
    have cB:=lh (λW (hT:ag w5 W (b::d.ownBlock.toList))=>(et.o.turn hT λbb h e hm=>by
     injection e with e;injection e with e1 e2;have:=(aK bb hm).1;have:=ce.o;omega:Sl W 1 dD (some ⟨t,0,none⟩) k (bF xs)))
    have f7:=lh (λW (hT:ag w5 W (b::d.ownBlock.toList))=>(fk.o.turn hT λi hi e=>by
     simp only[Value.ownBlock,lQ]at e;have:=(aK i hi).1;have:=ce.o;omega:ah W t 3 1 dD (.slice (some ⟨t,0,none⟩) k k) (bF xs)))
    have bZ:=lh (λW (hT:ag w5 W (b::d.ownBlock.toList))=>e0.o.turn1 hT (λhm=>by have:=(aK _ hm).1;have:=el.o;omega) (λbb h e hp hm=>by have:=(aK _ hm).1;have:=cN.o bb h e hp;omega));have bd:=lh (λW (hT:ag w5 W (b::d.ownBlock.toList))=>ex.keep (ag.after e6.o hT λi hi=>(aK i hi).2));have bV:=lh (λW (hT:ag w5 W (b::d.ownBlock.toList))=>(show ag w W (b::gi::j::d.ownBlock.toList) from(au.o.mono (λi hi=>.inl (by simp at hi|-;omega))).trans (hT.mono λi hi=>.inl (by rw[ln]at hi;rcases hi with a|a<;>simp[a]))));have fi:=lh (λW (hT:ag w5 W (b::d.ownBlock.toList))=>sQ aj ap Y (pl:Int) W (dN.o.turn (bV.o W hT) (λbb h e=>ax bb (ew.o bb h e))));have eZ:=lh (λW (hT:ag w5 W (b::d.ownBlock.toList))=>sQ a4 aC V (pl:Int) W (db.o.turn (bV.o W hT) (λbb h e=>ax bb (fp.o bb h e))));have eV:=lh (λW (hT:ag w5 W (b::d.ownBlock.toList))=>hT.row e5.o (m gi eK f4));have fd:=lh (λW (hT:ag w5 W (b::d.ownBlock.toList))=>hT.row d7.o (m j fe eS));have d4:=lh dR;generalize bP:(S++[_]++[_]:List bI)=bz at c7 bT;have cw:=lh (show bz.length<=2002 by rw[<-bP];simp;omega);have fu:=lh bP;have aJ:=lh e8;have dd:=lh c7;have dk:=lh bT;clear e8 c7 bT cE dJ dH cV dT ep dR m ax eq aK bP e5 d7 cq bN T aB et e0 dN db
    have fT:(⟨#[46]⟩++bj:ByteArray).size=1+bG:=(by rw[LA,dI];rfl);go_upto_region 16 with fail;have aE:=aJ.o.cell 2 _ rfl;have o:=aJ.o.lt;go_wp2_with (go_at_call 56;refine ae ?_);refine uM (fi.o _ d4.o) ?_;rintro e c3 ⟨rfl,aw⟩;have r:=lh (d4.o.keep_ aw);have q:=lh aw;clear aw aE o;have o:=(aJ.o.keep q.o).lt;generalize af:cD Y (pl:Int)=al;have a9:=lh af;clear af;go_upto_if 105 with fail;go_cut [14,15]from 106 to 118 (λ_ _ wx=>∃ob Sb,Hid (ak wx b 77 (fG (.slice (some ⟨aY,h,none⟩) cs.length n) (.int .i64 s0) (.slice aj Y.length ap) (.slice a4 V.length aC) pv f (.slice X k aA) ob (.slice (some ⟨gi,0,none⟩) vi.length vi.length) (.slice (some ⟨j,0,none⟩) D.length D.length) b2))/\Hid (eB wx base ob Sb)/\Hid (eU wx Sb)/\Hid (Sb.map cI=bz.map cI++(if al then [(rL++(⟨#[46]⟩++bj),((fP (bF xs) (aQ xs).length).flatMap cP))] else []))/\Hid (ag w5 wx (b::d.ownBlock.toList))/\Hid (ob.ownBlock=d.ownBlock\/∃g,ob.ownBlock=some g/\w5.heap.size<=g)/\Hid (Sb.length<=2003))
    case first =>
     cases al with
     | true =>
       go_wp2_with (go_at_call 73;refine ae ?_);refine uM (ch.o _ (bZ.o _ r.o)) ?_;rintro e d0 ⟨rfl,rfl⟩;have B:=NH (some ⟨t,0,none⟩) k (aQ xs).length (bF xs) c3 (cB.o _ r.o) (by rw[J.o];exact bg) aH e7.o (bd.o _ r.o);rw[J.o]at B;have ab:=lh B;clear B;go_wp2_with (go_at_call 77;refine ae ?_);refine uM ab.o ?_;rintro e c0 ⟨dr,rfl,E,M⟩;have a6:=lh (r.o.keep_ M);have av:=bd.o _ a6.o;have U:(bF xs).length<=64:=(by rw[J.o];exact bg);have G:=(NL E (λs hs=>yY (BJ U s hs) dC) (by unfold fP;rw[ld,LB];exact aH) av);have a5:=(yW _ 64 (λs hs=>BJ U s hs) (by unfold fP;rw[ld,LB];exact aH));generalize ao:((fP (bF xs) (aQ xs).length).flatMap cP)=aT at G a5;have aZ:=lh ao;have ac:=lh G;have a2:=q.u M;clear ao G E M av U ab;clear o;have o:=(aJ.o.keep a2.o).lt;go_wp2_with (go_at_call 78;refine ae ?_);refine uM ac.o ?_;rintro e dW ⟨u,rfl,m,L⟩;obtain⟨b0,bh,rfl,_⟩:=m.sl aO oM;have aX:=lh (m.base_mono (lj _));have F:=a2.u L;have H:=lh (a6.o.keep_ L);clear m L ac;go_wp2_with (go_at_call 30;refine ae ?_)
       refine uM (kL b base bz _ b0 bh aT _ (aJ.o.keep F.o) (dd.o.keep F.o) b8 (lk b5 (lk cn.o H.o.size)) (by have:=cw.o;omega) (dk.o.keep F.o) aX.o) ?_;rintro e aU ⟨rfl,I,ad,a3,a1,a0,a7⟩;have aV:=lh ad;have bf:=lh a3;have b6:=lh a1;have bk:=lh (show ag w5 aU (b::d.ownBlock.toList) from H.o.trans2 a0 λi hi=>by
        rw[ln,Lc]at hi
        rcases hi with a|a
        ·exact .inl (by simp[a])
        ·rcases c6.o with e | ⟨g,e,l⟩
         ·rw[e]at a;exact .inl (by simp only[ln,Lc];exact .inr a)
         ·rw[e]at a;injection a with a;subst a;exact .inr l)
       have bc:=lh (show I.ownBlock=d.ownBlock\/∃g,I.ownBlock=some g/\w5.heap.size<=g by
        rcases a7 with e | ⟨g,e,l⟩
        ·rcases c6.o with C | ⟨g,C,l⟩
         ·exact .inl (e.trans C)
         ·exact .inr ⟨g,e.trans C,l⟩
        ·exact .inr ⟨g,e,lk H.o.size l⟩)
       clear ad a3 a1 a0 a7 a5 o;go_wp2_with fail;go_meet;exact⟨I,_,aV.o,bf.o,b6.o,(by show List.map _ _=_;rw[lz,aZ.o];rfl),bk.o,bc.o,(by show List.length _<=_;have:=cw.o;rw[lg];simp;omega)⟩
     | false =>
       go_wp2_with fail;go_meet;exact⟨bQ,bz,aJ.o.keep q.o,dd.o.keep q.o,dk.o.keep q.o,(by show List.map _ _=_;simp),r.o,c6.o,(by show List.length _<=_;have:=cw.o;omega)⟩
    case rest =>
    rename World=>w13;obtain⟨fv,cx,aD,cH,cK,dB,cY,bi,cp⟩:=hcut;clear o r q;rw[<-a9.o]at dB;clear a9;have aE:=aD.o.cell 3 _ rfl;have o:=aD.o.lt;go_wp2_with (go_at_call 56;refine ae ?_);refine uM (eZ.o _ cY.o) ?_;rintro e c3 ⟨rfl,aw⟩;have r:=lh (cY.o.keep_ aw);have q:=lh aw;clear aw aE o;have o:=(aD.o.keep q.o).lt;generalize af:cD V (pl:Int)=al;have a9:=lh af;clear af;go_upto_if 125 with fail;go_cut [16,17]from 126 to 138 (λ_ _ wx=>∃ob Sb,Hid (ak wx b 77 (fG (.slice (some ⟨aY,h,none⟩) cs.length n) (.int .i64 s0) (.slice aj Y.length ap) (.slice a4 V.length aC) pv f (.slice X k aA) ob (.slice (some ⟨gi,0,none⟩) vi.length vi.length) (.slice (some ⟨j,0,none⟩) D.length D.length) b2))/\Hid (eB wx base ob Sb)/\Hid (eU wx Sb)/\Hid (Sb.map cI=cx.map cI++(if al then [(rK++(⟨#[46]⟩++bj),((fy (bF xs) (aQ xs).length).flatMap cP))] else []))/\Hid (ag w5 wx (b::d.ownBlock.toList))/\Hid (ob.ownBlock=d.ownBlock\/∃g,ob.ownBlock=some g/\w5.heap.size<=g)/\Hid (Sb.length<=2004))
    case first =>
     cases al with
     | true =>
       go_wp2_with (go_at_call 73;refine ae ?_);refine uM (ch.o _ (bZ.o _ r.o)) ?_;rintro e d0 ⟨rfl,rfl⟩;have B:=KZ (some ⟨t,0,none⟩) k (aQ xs).length (bF xs) c3 (cB.o _ r.o) (by rw[J.o];exact bg) aH e7.o (bd.o _ r.o);rw[J.o]at B;have ab:=lh B;clear B;go_wp2_with (go_at_call 79;refine ae ?_);refine uM ab.o ?_;rintro e c0 ⟨dr,rfl,E,M⟩;have a6:=lh (r.o.keep_ M);have av:=bd.o _ a6.o;have U:(bF xs).length<=64:=(by rw[J.o];exact bg);have G:=(Jo E (λs hs=>yY (vE U s hs) dC) (by unfold fy;rw[ld,LB];exact aH) av);have a5:=(yW _ 193 (λs hs=>vE U s hs) (by unfold fy;rw[ld,LB];exact aH));generalize ao:((fy (bF xs) (aQ xs).length).flatMap cP)=aT at G a5;have aZ:=lh ao;have ac:=lh G;have a2:=q.u M;clear ao G E M av U ab;clear o;have o:=(aD.o.keep a2.o).lt;go_wp2_with (go_at_call 80;refine ae ?_);refine uM ac.o ?_;rintro e dW ⟨u,rfl,m,L⟩;obtain⟨b0,bh,rfl,_⟩:=m.sl aO oM;have aX:=lh (m.base_mono (lj _));have F:=a2.u L;have H:=lh (a6.o.keep_ L);clear m L ac;go_wp2_with (go_at_call 30;refine ae ?_)
       refine uM (kL b base cx _ b0 bh aT _ (aD.o.keep F.o) (cH.o.keep F.o) b8 (lk b5 (lk cn.o H.o.size)) (by have:=cp.o;omega) (cK.o.keep F.o) aX.o) ?_;rintro e aU ⟨rfl,I,ad,a3,a1,a0,a7⟩;have aV:=lh ad;have bf:=lh a3;have b6:=lh a1;have bk:=lh (show ag w5 aU (b::d.ownBlock.toList) from H.o.trans2 a0 λi hi=>by
        rw[ln,Lc]at hi
        rcases hi with a|a
        ·exact .inl (by simp[a])
        ·rcases bi.o with e | ⟨g,e,l⟩
         ·rw[e]at a;exact .inl (by simp only[ln,Lc];exact .inr a)
         ·rw[e]at a;injection a with a;subst a;exact .inr l)
       have bc:=lh (show I.ownBlock=d.ownBlock\/∃g,I.ownBlock=some g/\w5.heap.size<=g by
        rcases a7 with e | ⟨g,e,l⟩
        ·rcases bi.o with C | ⟨g,C,l⟩
         ·exact .inl (e.trans C)
         ·exact .inr ⟨g,e.trans C,l⟩
        ·exact .inr ⟨g,e,lk H.o.size l⟩)
       clear ad a3 a1 a0 a7 a5 o;go_wp2_with fail;go_meet;exact⟨I,_,aV.o,bf.o,b6.o,(by show List.map _ _=_;rw[lz,aZ.o];rfl),bk.o,bc.o,(by show List.length _<=_;have:=cp.o;rw[lg];simp;omega)⟩
     | false =>
       go_wp2_with fail;go_meet;exact⟨fv,cx,aD.o.keep q.o,cH.o.keep q.o,cK.o.keep q.o,(by show List.map _ _=_;simp),r.o,bi.o,(by show List.length _<=_;have:=cp.o;omega)⟩
    case rest =>
    rename World=>w14;obtain⟨eI,cu,b7,cL,eg,d5,ft,cd,bW⟩:=hcut;clear o r q;rw[<-a9.o]at d5;clear a9;have aE:=b7.o.cell 1 _ rfl;have o:=b7.o.lt;have r:=ft;have q:=lh (aa.refl w14);go_upto_if 145 with fail;generalize af:(s0==(pl:Int))=al;have a9:=lh af;clear af;go_cut [18,19]from 146 to 158 (λ_ _ wx=>∃ob Sb,Hid (ak wx b 77 (fG (.slice (some ⟨aY,h,none⟩) cs.length n) (.int .i64 s0) (.slice aj Y.length ap) (.slice a4 V.length aC) pv f (.slice X k aA) ob (.slice (some ⟨gi,0,none⟩) vi.length vi.length) (.slice (some ⟨j,0,none⟩) D.length D.length) b2))/\Hid (eB wx base ob Sb)/\Hid (eU wx Sb)/\Hid (Sb.map cI=cu.map cI++(if al then [(rJ++(⟨#[46]⟩++bj),(ky (fV (aQ xs).length (bF xs))))] else []))/\Hid (ag w5 wx (b::d.ownBlock.toList))/\Hid (ob.ownBlock=d.ownBlock\/∃g,ob.ownBlock=some g/\w5.heap.size<=g)/\Hid (Sb.length<=2005))
    case first =>
     cases al with
     | true =>
       go_wp2_with (go_at_call 73;refine ae ?_);refine uM (ch.o _ (bZ.o _ r.o)) ?_;rintro e d0 ⟨rfl,rfl⟩;have B:=GW (some ⟨t,0,none⟩) k (aQ xs).length (bF xs) w14 (cB.o _ r.o) (by rw[J.o];omega) oM;rw[J.o]at B;have ab:=lh B;clear B;go_wp2_with (go_at_call 81;refine ae ?_);refine uM ab.o ?_;rintro e c0 ⟨dr,fX,rfl,E,M⟩;have a6:=lh (r.o.keep_ M);have av:=bd.o _ a6.o;have U:(bF xs).length<=64:=(by rw[J.o];exact bg);have G:=(GY c0 E (G1 _ _ (by rw[J.o];omega)));have a5:=(G2 (aQ xs).length (bF xs) (by rw[J.o];omega));generalize ao:(ky (fV (aQ xs).length (bF xs)))=aT at G a5;have aZ:=lh ao;have ac:=lh G;have a2:=q.u M;clear ao G E M av U ab;clear o aE;have o:=(b7.o.keep a2.o).lt;go_wp2_with (go_at_call 82;refine ae ?_);refine uM ac.o ?_;rintro e dW ⟨u,rfl,m,L⟩;obtain⟨b0,bh,rfl,_⟩:=m.sl aO oM;have aX:=lh (m.base_mono (lj _));have F:=a2.u L;have H:=lh (a6.o.keep_ L);clear m L ac;go_wp2_with (go_at_call 30;refine ae ?_);refine uM (kL b base cu _ b0 bh aT _ (b7.o.keep F.o) (cL.o.keep F.o) b8 (lk b5 (lk cn.o H.o.size)) (by have:=bW.o;omega) (eg.o.keep F.o) aX.o) ?_;rintro e aU ⟨rfl,I,ad,a3,a1,a0,a7⟩;have aV:=lh ad;have bf:=lh a3;have b6:=lh a1
       have bk:=lh (show ag w5 aU (b::d.ownBlock.toList) from H.o.trans2 a0 λi hi=>by
        rw[ln,Lc]at hi
        rcases hi with a|a
        ·exact .inl (by simp[a])
        ·rcases cd.o with e | ⟨g,e,l⟩
         ·rw[e]at a;exact .inl (by simp only[ln,Lc];exact .inr a)
         ·rw[e]at a;injection a with a;subst a;exact .inr l)
       have bc:=lh (show I.ownBlock=d.ownBlock\/∃g,I.ownBlock=some g/\w5.heap.size<=g by
        rcases a7 with e | ⟨g,e,l⟩
        ·rcases cd.o with C | ⟨g,C,l⟩
         ·exact .inl (e.trans C)
         ·exact .inr ⟨g,e.trans C,l⟩
        ·exact .inr ⟨g,e,lk H.o.size l⟩)
       clear ad a3 a1 a0 a7 a5 o;go_wp2_with fail;go_meet;exact⟨I,_,aV.o,bf.o,b6.o,(by show List.map _ _=_;rw[lz,aZ.o];rfl),bk.o,bc.o,(by show List.length _<=_;have:=bW.o;rw[lg];simp;omega)⟩
     | false =>
       go_wp2_with fail;go_meet;exact⟨eI,cu,b7.o.keep q.o,cL.o.keep q.o,eg.o.keep q.o,(by show List.map _ _=_;simp),r.o,cd.o,(by show List.length _<=_;have:=bW.o;omega)⟩
    case rest =>
    rename World=>w15;obtain⟨fN,fc,bn,b1,bp,eh,O,gf,gg⟩:=hcut;clear aE o r q;rw[<-a9.o]at eh;clear a9;go_wp2;go_ret;refine⟨rfl,fN,fc,.slice (some ⟨t,0,none⟩) k k,bn.o,eV.o _ O.o,⟨t,k,rfl⟩,(f7.o _ O.o).base_mono ce.o,fd.o _ O.o,b1.o,bp.o,?_,bV.o _ O.o⟩;rw[eh.o,d5.o,dB.o,<-fu.o];simp only[lz,lG,L3,cI,jE,fF];rw[eM.o,fD.o,eR.o,cO.o,eA.o];simp only[lr,mB,mA,List.cons_append,lO]
theorem KW{cs:List aG}{r:List ai}:∀{k:Nat},ir cs r k=false->∀i,i<k->(r.getD i default).k=dp (cs.getD i default):=λ{k} h i hi=>by
 unfold ir at h;have:=List.any_eq_false.1 h i (List.mem_range.2 hi)
 simpa using this
theorem re{cs:List aG}{rows:List (List ai)}(a:da cs rows=0):iT cs/\∀r∈rows,r.length=cs.length/\(∀x∈r,cZ x=false)/\∀i,i<r.length->(r.getD i default).k=dp (cs.getD i default):=by
 unfold da at a
 split at a
 ·cases a
 ·rename_i hm
  split at a
  ·cases a
  ·rename_i hb
   split at a
   ·cases a
   ·split at a
    ·cases a
    ·rename_i ho;refine⟨je.1 (by simpa using hm),λr hr=>?_⟩;have b:eS cs r=false:=by
      cases hq:eS cs r
      ·rfl
      ·exact absurd (List.any_eq_true.2 ⟨r,hr,hq⟩) hb
     have c:j0 cs r=false:=by
      cases hq:j0 cs r
      ·rfl
      ·exact absurd (List.any_eq_true.2 ⟨r,hr,hq⟩) ho
     unfold eS at b;rw[Bool.or_eq_false_iff]at b;refine⟨by simpa using b.1,λx hx=>?_,KW c⟩;have:=List.any_eq_false.1 b.2 x hx
     simpa using this
theorem DO{a:Int}{xs:List ai}(g:a=1\/a=2)(f:∀x∈xs,cZ x=false/\x.k=a):fC a xs=0:=by
 unfold fC;rw[if_neg (by rcases g with e|e<;>(subst e;decide)),if_neg,if_neg]
 ·intro c;obtain⟨x,d,b⟩:=List.any_eq_true.1 c;have:=(f x (((kW xs).2 x).1 d)).2;simp[this]at b
 ·intro c;obtain⟨x,d,b⟩:=List.any_eq_true.1 c;rw[(f x d).1]at b
  cases b
theorem DZ{cs:List aG}{rows:List (List ai)}(c:da cs rows=0){p:Nat}(d:p<cs.length):∀x∈bD rows p,cZ x=false/\x.k=dp cs[p]:=λx hx=>by
 obtain⟨r,j,rfl⟩:=lW.1 hx;obtain⟨l,f,i⟩:=(re c).2 r j;have a:p<r.length:=oM;have b:=i p a;have e:r.getD p ej=r[p]:=by rw[L9,lu a];rfl
 have g:r.getD p default=r[p]:=by rw[L9,lu a];rfl
 have h:cs.getD p default=cs[p]:=by rw[L9,lu d];rfl
 rw[g,h]at b;rw[e];exact⟨f _ (ll a),b⟩
theorem Ce(c:aG):dp c=1\/dp c=2:=by unfold dp;split<;>simp
theorem D1{cs:List aG}{rows:List (List ai)}(a:da cs rows=0){p:Nat}(b:p<cs.length):fC (dp cs[p]) (bD rows p)=0:=DO (Ce _) (DZ a b)
theorem pR(s:Int)(rows:List (List ai))(r:List ai):r∈dj s rows<->r∈rows:=by
 unfold dj
 split
 ·exact rC (Kq s.toNat) rows r
 ·exact Iff.rfl
theorem pS(s:Int)(rows:List (List ai)):(dj s rows).length=rows.length:=by
 unfold dj
 split
 ·exact pQ rows
 ·rfl
theorem PI(a:Int)(rows:List (List ai))(p:Nat)(x:ai):x∈bD (dj a rows) p<->x∈bD rows p:=by
 unfold bD;simp only[lW];constructor
 ·rintro⟨r,b,e⟩;exact⟨r,(pR a rows r).1 b,e⟩
 ·rintro⟨r,b,e⟩;exact⟨r,(pR a rows r).2 b,e⟩
theorem xR{cs:List aG}{rows:List (List ai)}(a:Int)(b:da cs rows=0)(p:Nat)(c:p<cs.length):fC (dp cs[p]) (bD (dj a rows) p)=0:=DO (Ce _) λx hx=>DZ b c x ((PI a rows p x).1 hx)
theorem sV{b:Type}(f:b->List UInt8)(n:Nat):∀(l:List b),(∀x∈l,(f x).length<=n)->(l.flatMap f).length<=l.length*n
 | [],_=>sP
 | a::l,h=>by
   have d:=h a sP;have c:=sV f n l λx hx=>h x (by simp[hx]);rw[lN,lg,lw,lH];omega
theorem uJ{cs:List aG}{c:bw}(b:Fits cs c):(gV cs c).length<=9+67*cs.length+2*c.split.length:=by
 have e:(cs.flatMap gG).length<=cs.length*66:=sV gG 66 cs λx hx=>by
  obtain⟨i,hi,rfl⟩:=lU hx;have:=(b.may.name i hi).hi;have a:cs[i].name.data.size=cs[i].name.size:=rfl;simp[gG];omega
 have a:((List.range cs.length).flatMap (fb c)).length<=cs.length*1:=by
  have:=sV (fb c) 1 (List.range cs.length) λx _=>by simp[fb]
  rwa [LB]at this
 have d:(c.split.flatMap (λx=>le x.toNat 2)).length<=c.split.length*2:=sV _ 2 _ λx _=>by simp[ay]
 unfold gV;simp only[lg,ay,lw,lB];omega
def kC:ByteArray:=⟨#[109,101,116,114,105,99,46]⟩
def fD(cs:List aG)(c:bw)(rows:List (List ai))(j:Nat):List (ByteArray×List UInt8) :=
 if bR cs (j:Int) then jE (dp (cs.getD j default)) j rows.length (bD rows j) (cD c.inv (j:Int)) (cD c.rng (j:Int)) (c.sort==(j:Int)) else [(kC++ey j,fZ (cC (bD rows j)))]
def fa(cs:List aG)(rows:List (List ai))(i:Nat):List (List Int):=((List.range i).filter λj:Nat=>!bR cs (j:Int)).map λj=>cC (bD rows j)
structure gh(W:World)(base b gi gq nc:Nat)(mk:Value->Value->List Value)(cs:List aG)(c:bw)(rows:List (List ai))(S0:List (ByteArray×List UInt8))(i:Nat)(o M:Value)(S:List bI)(MT:List Ir)(vi vq:List Value):Prop where
 row:ak W b 77 (mk o M)
 ri:ak W gi 24 vi
 rq:ak W gq 3 vq
 li:vi.length=nc
 lq:vq.length=nc
 sec:eB W base o S
 so:eU W S
 mt:mS W base M MT
 mr:∀r∈MT,kr W base r
 mx:(MT.map λr=>r.xs)=fa cs rows i
 nb:S.map cI=S0++(List.range i).flatMap (fD cs c rows)
 dims:∀j:Nat,j<i->bR cs (j:Int)=true->∃g cc,vi[j]? =some (.slice (some ⟨g,0,none⟩) rows.length cc)/\ah W base 3 1 dD (.slice (some ⟨g,0,none⟩) rows.length cc) (bF (bD rows j))/\vq[j]? =some (.int .i64 (aQ (bD rows j)).length)
section
variable {W W':World} {base b gi gq nc:Nat} {mk:Value->Value->List Value} {cs:List aG} {c:bw} {rows:List (List ai)} {S0:List (ByteArray×List UInt8)} {i:Nat} {o M:Value} {S:List bI} {MT:List Ir} {vi vq:List Value}
theorem gh.keep(a:gh W base b gi gq nc mk cs c rows S0 i o M S MT vi vq)(d:aa W W'):gh W' base b gi gq nc mk cs c rows S0 i o M S MT vi vq :=
 ⟨a.row.keep d,a.ri.keep d,a.rq.keep d,a.li,a.lq,a.sec.keep d,a.so.keep d,a.mt.keep d,λr hr=>(a.mr r hr).keep d,a.mx,a.nb,λj hj hd=>by
  obtain⟨g,f,k,e,h⟩:=a.dims j hj hd;exact⟨g,f,k,e.keep d,h⟩⟩
theorem zA{a:Type}(f:Nat->List a)(i:Nat):(List.range (i+1)).flatMap f=(List.range i).flatMap f++f i:=by
 rw[List.range_succ,lF];simp
theorem vD(i:Nat)(a:bR cs (i:Int)=true):fa cs rows (i+1)=fa cs rows i:=by
 unfold fa;rw[List.range_succ,List.filter_append];simp[a]
theorem vA(i:Nat)(a:bR cs (i:Int)=false):fa cs rows (i+1)=fa cs rows i++[cC (bD rows i)]:=by
 unfold fa;rw[List.range_succ,List.filter_append];simp[a]
theorem ww{d:Type}(f:Nat->List d)(n:Nat):∀(l:List Nat),(∀x∈l,(f x).length<=n)->(l.flatMap f).length<=l.length*n
 | [],_=>sP
 | a::l,h=>by
   have g:=h a sP;have e:=ww f n l λx hx=>h x (by simp[hx]);rw[lN,lg,lw,lH];omega
theorem D3(j:Nat):(fD cs c rows j).length<=5:=by
 unfold fD
 split
 ·unfold jE;simp only[lg,lw,lB]
  split<;>split<;>split<;>simp
 ·simp
theorem gh.few(a:gh W base b gi gq nc mk cs c rows S0 i o M S MT vi vq):S.length<=S0.length+5*i/\MT.length<=i:=by
 have g:=congrArg List.length a.nb;have e:=ww (fD cs c rows) 5 (List.range i) λx _=>D3 x;rw[ld,lg]at g;rw[LB]at e;have d:=congrArg List.length a.mx;unfold fa at d;rw[ld,ld]at d;have f:=List.length_filter_le (λj:Nat=>!bR cs (j:Int)) (List.range i);rw[LB]at f;omega
theorem gh.number(a:gh W base b gi gq nc mk cs c rows S0 i o M S MT vi vq)(p:bR cs (i:Int)=false){k l:Value}{A:Option Addr}{m:Nat}{h:Ir}(x:ak W' b 77 (mk k l))(B:eB W' base k (S++[⟨kC++ey i,A,m,fZ (cC (bD rows i))⟩]))(z:eU W' (S++[⟨kC++ey i,A,m,fZ (cC (bD rows i))⟩]))
 (C:mS W' base l (MT++[h])) (D:∀r∈MT++[h],kr W' base r) (y:h.xs=cC (bD rows i)) (t:ag W W' (b::(o.ownBlock.toList++M.ownBlock.toList))) :
 gh W' base b gi gq nc mk cs c rows S0 (i+1) k l (S++[⟨kC++ey i,A,m,fZ (cC (bD rows i))⟩]) (MT++[h]) vi vq:=by
 have u:∀q,q∈b::(o.ownBlock.toList++M.ownBlock.toList)->q=b\/o.ownBlock=some q\/M.ownBlock=some q:=λq hq=>by simpa using hq
 have v:∀{g:Nat} {T:TypeId} {vs:List Value},ak W g T vs->T≠77->T≠68->T≠54->ak W' g T vs:=λ{g T vs} hr s d n=>t.row hr λhq=>by
  rcases u g hq with e|e|e
  ·subst e;exact row_ne hr a.row s rfl
  ·exact bu a.sec hr d e
  ·exact bu a.mt hr n e
 refine⟨x,v a.ri dC dC dC,v a.rq dC dC dC,a.li,a.lq,B,z,C,D,?_,?_,λj hj hdj=>?_⟩
 ·rw[lz,a.mx,vA i p,<-y];rfl
 ·rw[lz,a.nb,zA,lr]
  congr 2
  unfold fD;rw[if_neg (by rw[p];decide)];rfl
 ·have E:j≠i:=λe=>by subst e;rw[p]at hdj;cases hdj
  obtain⟨g,w,s,d,n⟩:=a.dims j oM hdj;refine⟨g,w,s,d.turn t λq hq e=>?_,n⟩
  rcases u q hq with f|f|f
  ·subst f;exact bu d a.row dC e
  ·exact cN a.sec d dC q f e
  ·exact cN a.mt d dC q f e
theorem gh.dim(a:gh W base b gi gq nc mk cs c rows S0 i o M S MT vi vq)(w:bR cs (i:Int)=true)(t:i<nc)(N:gi<base)(L:gq<base)(D:base<=W.heap.size){m l:Value}{k:List bI}{g u:Nat}(G:ak W' b 77 (mk m M))(J:ak W' gi 24 (vi.set i l))(y:l=.slice (some ⟨g,0,none⟩) rows.length u)(F:ah W' W.heap.size 3 1 dD l (bF (bD rows i)))
 (A:ak W' gq 3 (vq.set i (.int .i64 (aQ (bD rows i)).length))) (I:eB W' base m k) (H:eU W' k) (C:k.map cI=S.map cI++jE (dp (cs.getD i default)) i rows.length (bD rows i) (cD c.inv (i:Int)) (cD c.rng (i:Int)) (c.sort==(i:Int))) (s:ag W W' (b::gi::gq::o.ownBlock.toList)) :
 gh W' base b gi gq nc mk cs c rows S0 (i+1) m M k MT (vi.set i l) (vq.set i (.int .i64 (aQ (bD rows i)).length)):=by
 have z:∀q,q∈b::gi::gq::o.ownBlock.toList->q=b\/q=gi\/q=gq\/o.ownBlock=some q:=λq hq=>by simpa using hq
 have x:∀{α:Type} {bb kk:Nat} {e:TypeId} {enc:α->List Value} {v:Value} {xs:List α},ah W bb e kk enc v xs->e≠77->e≠24->e≠3->e≠68->ah W' bb e kk enc v xs:=λho p f n h4=>ho.turn s λq hq e=>by
  rcases z q hq with d|d|d|d
  ·subst d;exact bu ho a.row (Ne.symm p) e
  ·subst d;exact bu ho a.ri (Ne.symm f) e
  ·subst d;exact bu ho a.rq (Ne.symm n) e
  ·exact cN a.sec ho (Ne.symm h4) q d e
 refine⟨G,J,A,by rw[Li];exact a.li,by rw[Li];exact a.lq,I,H,x a.mt dC dC dC dC,λr hr=>x (a.mr r hr) dC dC dC dC,?_,?_,λj hj hdj=>?_⟩
 ·rw[a.mx,vD i w]
 ·rw[C,a.nb,zA,lr]
  congr 2
  unfold fD;rw[if_pos w]
 ·rcases L8 j i with h|h
  ·obtain⟨B,E,p,f,n⟩:=a.dims j h hdj;refine⟨B,E,by rw[List.getElem?_set_ne oM];exact p,f.turn s λq hq e=>?_,by rw[List.getElem?_set_ne oM];exact n⟩;have K:=(f.lt q e).1
   rcases z q hq with d|d|d|d
   ·subst d;exact bu f a.row dC e
   ·omega
   ·omega
   ·exact cN a.sec f dC q d e
  ·have h:j=i:=oM;subst h;refine⟨g,u,by rw[List.getElem?_set_self (by rw[a.li];exact t),y],?_,by rw[List.getElem?_set_self (by rw[a.lq];exact t)]⟩;rw[<-y];exact F.base_mono D
end
end Go.Proofs.YtpkocnpamcchcaaGreatDoor
