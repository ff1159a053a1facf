/- Parts. -/
import Derived.Test.YtpkocnpamcchcaaGreatDoorL36
set_option maxRecDepth 100000
set_option maxHeartbeats 40000000
set_option linter.all false
namespace Go.Proofs.YtpkocnpamcchcaaGreatDoor
open Go.RowKit Go.Zone Go.Shelf Tryz Go.Roa Go.Star Go.Sym
theorem rW{a:World}{base k m i n c:Nat}{P:List (Rd×Star.SR)}(u:pA k m a base (.slice (some ⟨i,0,none⟩) n c) (P.map λp=>p.1))(s:pu k m a base P)(F:P.length=n)(E:n<=1000000)(e:Nat)(he:e<n)(d:Nat)(v:d<k)(D:k<=8) :
 ∃b f cK,a.cell? ⟨i,e*5,none⟩=some (.slice (some ⟨b,f,none⟩) k cK)/\b<a.heap.size/\k<=cK/\a.cell? ⟨b,f+d,none⟩=some (.int .i64 (dr (P.map λp=>p.2) e d)):=by
 obtain⟨y,B,x,w⟩:=u.sl (iM k m) (by rw[ld];omega);injection x with e1 h e3;subst e1;subst e3;obtain⟨A,H,t,_,g,_⟩:=rG w e (by rw[ld];omega)
 cases t
 rw[Lj,lS]at g;have j:=s P[e] (ll oM);have G:=j.z.1;obtain⟨b,f,l,o,q,r,C⟩:=jy j.ids sO d (P[e].2.ids.getD d 0) (by rw[List.getElem?_take,if_pos v,L9,lu oM];rfl);rw[l]at g;refine⟨b,f,_,g,o,r,?_⟩;rw[q]
 congr 2
 unfold dr;have h:(P.map λp=>p.2).getD e default=P[e].2:=by rw[L9,lP,lu (show e<P.length from oM)];rfl
 rw[h]
theorem CJ(a x:List Star.SR)(e d:Nat)(c:e<a.length):dr (a++x) e d=dr a e d:=by
 have b:(a++x).getD e default=a.getD e default:=by rw[L9,LI c,<-L9]
 unfold dr;rw[b]
def wZ(leaf k m base f:Nat):Prop:=∀(gt depth lo hi:Nat) (st:Bool) (vr vn:Value) (P:List (Rd×Star.SR)) (N:List (Nc×Star.SN)) (w:World),depth+f=k->dK w gt base k m leaf vr vn P N->lo<=hi->hi<=P.length->base<=w.heap.size ->
 (bC leaf f depth lo hi st (P.map λp=>p.2) N.length).1.length<=1000000->N.length+(bC leaf f depth lo hi st (P.map λp=>p.2) N.length).2.length<=1000000 ->
 Calls prog 53 #[.pointer (some ⟨gt,0,none⟩),.int .i64 depth,.int .i64 lo,.int .i64 hi,.bool st] w λe w'=>e=.returned (.int .i64 (N.length:Int))/\∃vr' vn' P' NX,dK w' gt base k m leaf vr' vn' P' (N++NX)/\(P'.map λp=>p.2)=(bC leaf f depth lo hi st (P.map λp=>p.2) N.length).1/\(NX.map λp=>p.2)=(bC leaf f depth lo hi st (P.map λp=>p.2) N.length).2/\(∀p∈NX,∀b,fH p.1=some b->w.heap.size<=b)/\Gz base gt w w'
theorem C7(leaf k m base f:Nat)(bU:k<=8)(gx:1<=leaf)(fJ:1<=k)(bV:m<=1000)(eU:∀B,f=B+1->wZ leaf k m base B):wZ leaf k m base f:=by
 intro J c lo hi E dH eY P N w T aW fK et cj d7 av;have A:=lh aW;have cE:=lh d7;have ao:=lh av;have ca:=lh eU;obtain⟨f2,fl,ct⟩:=bp aW.nodes;rw[ld]at ct;have gg:N.length<=1000000:=oM;have gp:hi<=1000000:=by
  obtain⟨x,aJ⟩:=iw leaf f c lo hi E (P.map λp=>p.2) N.length;rw[aJ,lg,ld]at d7;omega
 have c5:=aW.row.cell 0 _ rfl;have dL:=aW.row.cell 1 _ rfl;have cA:=aW.row.cell 3 _ rfl;have df:=aW.row.lt;have cO:=lh (show ∀p∈N,∀b,fH p.1=some b->b<w.heap.size from λp o b hb=>((aW.na p o).own.lt b hb).2);rw[ct]at cA;have e7:=lh ct;clear aW d7 av eU ct;generalize aE:N.length=n at *;go_enter func53,ntmps53;go_upto_region 2 with fail;go_wp2_with (at_builtin;refine ae ?_);refine ar ?_;have D:aa w (w.alloc (.cells #[.int .i64 c,.int .i64 lo,.int .i64 hi,.slice none 0 0] 117)):=kP;have Z:Sl (w.alloc (.cells #[.int .i64 c,.int .i64 lo,.int .i64 hi,.slice none 0 0] 117)) 4 Nc.cells (some ⟨w.heap.size,0,none⟩) 1 [(⟨c,lo,hi,none,0,0⟩:Nc)]:=br _ oM oM λj u hu=>(bH w 117 [.int .i64 c,.int .i64 lo,.int .i64 hi,.slice none 0 0]).cell j u hu;generalize w.alloc (.cells #[.int .i64 c,.int .i64 lo,.int .i64 hi,.slice none 0 0] 117)=dJ at D Z|-;have bG:=lh (A.o.keep D);have cP:=lh (show pC dJ base (.slice f2 n fl) (N.map λp=>p.1) from e7.o▸bG.o.nodes);have bi:=lh D;clear c5 dL cA df D;refine aD DD j6 BC rfl (.tmp 30) (.tmp 35) rfl (ys:=[(⟨c,lo,hi,none,0,0⟩:Nc)]) cP.o rfl rfl Z (by rw[ld,aE];simp;omega) (lk cj bi.o.size) ?_;intro gM cz du cm _;obtain⟨c8,cg,eQ⟩:=bp du;rw[lg,ld,aE,lJ]at eQ;subst eQ
 have cq:ak cz J 109 (m8 k leaf dH eY):=(ag.of_grown cm).row bG.o.row λbV=>bu cP.o bG.o.row dC (by simpa using bV);have er:dJ.grownBy cz eY.ownBlock:=e7.o▸cm;obtain⟨ej,ee⟩:=bG.o.app_node du er (x:=⟨c,lo,hi,[]⟩) ⟨rfl,rfl,rfl,ah.nil_ _ _ _ _ _⟩;have aR:=lh ej;have bv:=lh ((Gz.keep bi.o base J).trans ee);have cA:=cq.cell 3 _ rfl;have fX:=cq.soft 3;have df:=cq.lt;have el:=lk (lk cj bi.o.size) cm.size;clear du cm er cq ej ee Z cP bG bi A;go_upto_region 3 with fail;have dz:base<=(cz.setCell ⟨J,3,none⟩ (.slice c8 (n+1) cg)).heap.size:=by simpa using el
 generalize cz.setCell ⟨J,3,none⟩ (.slice c8 (n+1) cg)=eZ at aR bv dz|-;have c5:=aR.o.row.cell 0 _ rfl;have dL:=aR.o.row.cell 1 _ rfl;have fC:=aR.o.row.lt;have ek:=cj;clear cA fX df el cj;obtain⟨c2,eG⟩:∃c2,c2=hi-lo:=⟨_,rfl⟩;have aS:IntKind.i64.wrap ((hi:Int)-(lo:Int))=(c2:Int):=iW oM
 by_cases bm:f=0\/hi-lo<=leaf
 ·have de:=C3 leaf f c lo hi n E (P.map λp=>p.2) bm;have dP:=lh (show ∃cy aL h q,dK eZ J base k m leaf cy aL h (N++q)/\(h.map λp=>p.2)=(bC leaf f c lo hi E (P.map λp=>p.2) n).1/\(q.map λp=>p.2)=(bC leaf f c lo hi E (P.map λp=>p.2) n).2/\(∀p∈q,∀b,fH p.1=some b->w.heap.size<=b)/\Gz base J w eZ from⟨dH,.slice c8 (n+1) cg,P,[(⟨c,lo,hi,none,0,0⟩,⟨c,lo,hi,[]⟩)],aR.o,by rw[de],by rw[de];rfl,(λp o b hb=>by rw[lm]at o;subst o;cases hb),bv.o⟩);clear de cE ao ca aR bv
  by_cases eq:c=k
  ·have db:((c:Int)==(k:Int))=true:=(by simp[eq]);subst eq;clear bm T aS;go_wp2;go_ret;exact⟨rfl,dP.o⟩
  ·have db:((c:Int)==(k:Int))=false:=sO;have dx:c2<=leaf:=by
    rcases bm with C|C
    ·omega
    ·omega
   clear bm T;go_wp2;go_ret;exact⟨rfl,dP.o⟩
 ·obtain⟨B,rfl⟩:∃B,f=B+1:=⟨f-1,oM⟩;have dq:¬ hi-lo<=leaf:=λC=>bm (.inr C);have db:c<k:=oM;have fy:((c:Int)==(k:Int))=false:=sO;have dx:¬ c2<=leaf:=oM;have gl:c<8:=oM;have cc:=lh eG;have cS:=lh dq;have cH:=lh T;obtain⟨R,d9⟩:∃R,R=dh (λa e rs n=>bC leaf B (c+1) a e E rs n) c hi n (hi-lo) lo [] (P.map λp=>p.2) []:=⟨_,rfl⟩;obtain⟨cZ,d0,b3⟩:=R;have cn:=C5 leaf B c lo hi n E (P.map λp=>p.2) dq d9.symm;have bF:=lh (show d0.length<=1000000/\n+1+b3.length<=1000000 from⟨lk cn.1 cE.o,by have:=cn.2;have:=ao.o;omega⟩);have cT:=lh d9;have gq:hi<=(P.map λp=>p.2).length:=by rw[ld];exact et
  clear bm dq T eG cn d9;go_wp2;have gB:n+1<=1000000:=by have:=bF.o.2;omega
  clear aS fy dx c5 dL;have fg:=lh (show ∀(h:List (Rd×Star.SR)) (X:List Star.SN) (q:List (Nc×Star.SN)) {t ab:Nat} {W:List (Int×Nat)},t<hi->(cZ,d0,b3)=dh (λa e rs n=>bC leaf B (c+1) a e E rs n) c hi n ab t W (h.map λp=>p.2) X->h.length<=1000000 from λh X q {t ab W} _ C=>by
   have b0:=o6 (g:=λa e rs n=>bC leaf B (c+1) a e E rs n) (d:=c) (tp:=hi) (n:=n) (λa e rs n=>iw leaf B (c+1) a e E rs n) ab t W (h.map λp=>p.2) X;rw[<-C]at b0;obtain⟨_,⟨f0,aK⟩,_⟩:=b0;have L:=congrArg List.length aK;simp only[lg,ld]at L;have:=bF.o.1;omega)
  go_loopw [12,13,14] (λvk va vi wr=>∃(t i ab:Nat) (W:List (Int×Nat)) (cy aL:Value) (h:List (Rd×Star.SR)) (q:List (Nc×Star.SN)) (X:List Star.SN),va=.int .i64 t/\vi=.int .i64 i/\lo<=t/\t<=i/\i<=hi/\hi-t<=ab/\W.length+lo<=t/\Hid (hi<=h.length)/\Hid (kX wr w.heap.size vk W)/\Hid (dK wr J base k m leaf cy aL h (N++q))/\Hid ((q.map λp=>p.2)=⟨c,lo,hi,[]⟩::X)/\Hid (∀p∈q,∀b,fH p.1=some b->w.heap.size<=b/\vk.ownBlock≠some b) /\
   Hid ((cZ,d0,b3)=dh (λa e rs n=>bC leaf B (c+1) a e E rs n) c hi n ab t W (h.map λp=>p.2) X)/\Hid (Gz base J w wr)/\Hid (base<=wr.heap.size)/\Hid (i<hi->dr (h.map λp=>p.2) i c=dr (h.map λp=>p.2) t c/\eR (h.map λp=>p.2) c (dr (h.map λp=>p.2) t c) hi (hi-t) t=eR (h.map λp=>p.2) c (dr (h.map λp=>p.2) t c) hi (hi-i) i)/\(i=hi->t=hi)) (λ_ _ vi _=>hi-(intOf vi).toNat)
  case atStart =>
   exact⟨lo,lo,hi-lo,[],dH,.slice c8 (n+1) cg,P,[((⟨c,lo,hi,none,0,0⟩:Nc),(⟨c,lo,hi,[]⟩:Star.SN))],[],rfl,rfl,lc _,lc _,fK,lc _,sP,et,ah.nil_ _ _ _ _ _,aR.o,rfl,(λp o b hb=>by rw[lm]at o;subst o;cases hb),cT.o,bv.o,dz,(λ_=>⟨rfl,rfl⟩),λC=>C⟩
  case round =>
   clear aR bv dz fC;obtain⟨t,i,ab,W,cy,aL,h,q,X,rfl,rfl,fr,gh,gj,fs,ft,O,a0,A,aB,aA,aP,a8,a6,e1,ep⟩:=hrel;obtain⟨cC,d4,fR⟩:=bp a0.o;subst fR
   by_cases ew:i<hi
   ·obtain⟨L,M⟩:=e1.o ew;have dp:t<hi:=oM;generalize eu:dr (h.map λp=>p.2) t c=H at L M;have bw:=lh eu;have bh:=lh (M.trans (Dt _ c H hi i ew L));have cD:=lh L;clear eu L M e1 ep;obtain⟨e,eo⟩:∃e,e=i+1:=⟨_,rfl⟩;have gr:(i:Int)+1=(e:Int):=oM;have dc:e<=hi:=oM;have gk:t<e:=oM;have gu:i<e:=oM;rw[<-eo]at bh;clear eo
    by_cases dl:e=hi
    ·have ck:((e:Int)==(hi:Int))=true:=(by simp[dl]);have cJ:=lh (show e=eR (h.map λp=>p.2) c H hi (hi-t) t from(bh.o.trans (wG _ c H hi e (.inl dl))).symm);clear bh cD dl;go_upto_region 10 with fail;go_quiet (fail);have U:aa wr (wr.drewN nq):=aa.drewN (aa.refl _) nq;generalize World.drewN wr nq=bs at U|-
     replace a0:=lh (a0.o.keep U)
     replace A:=lh (A.o.keep U)
     replace a8:=lh (a8.o.trans (Gz.keep U base J))
     replace a6:=lh (lk a6.o U.size)
     clear U;clear ck;obtain⟨au,rfl⟩:∃au,ab=au+1:=⟨ab-1,oM⟩;have dt:q.length=1+X.length:=by
      have:=congrArg List.length aB.o
      simpa[Nat.add_comm]using this
     have aU:(N++q).length=n+1+X.length:=(by rw[lg,aE];omega);have aI:=aP.o;rw[vG au t e (N++q).length W (h.map λp=>p.2) X H dp bw.o.symm cJ.o aU]at aI;have b0:=o6 (g:=λa e rs n=>bC leaf B (c+1) a e E rs n) (d:=c) (tp:=hi) (n:=n) (λa e rs n=>iw leaf B (c+1) a e E rs n) au e (W++[(H,(N++q).length)]) (bC leaf B (c+1) t e E (h.map λp=>p.2) (N++q).length).1 (X++(bC leaf B (c+1) t e E (h.map λp=>p.2) (N++q).length).2);rw[<-aI]at b0;obtain⟨_,⟨f0,aK⟩,⟨dN,bb⟩⟩:=b0;simp only at aK bb;have ay:=congrArg List.length aK;have aF:=congrArg List.length bb;rw[lg]at ay;rw[lg,lg]at aF;have dy:=bF.o;have cK:=lh (show(bC leaf B (c+1) t e E (h.map λp=>p.2) (N++q).length).1.length<=1000000 from oM);have aG:=ca.o B rfl J (c+1) t e E _ aL h (N++q) bs (by have:=cH.o;omega) A.o oM (by have:=O.o;omega) a6.o oM oM;have aM:=lh aG;have cW:=lh aI;have cL:=lh (show hi<=(bC leaf B (c+1) t e E (h.map λp=>p.2) (N++q).length).1.length by
      obtain⟨x,aJ⟩:=iw leaf B (c+1) t e E (h.map λp=>p.2) (N++q).length;rw[aJ,lg,ld];have:=O.o;omega)
     clear aG aI aU dt ay aF aK bb dy aP;go_wp2_with (go_at_call 53;refine ae ?_);refine ar ?_;rw[show((c:Int)+1)=((c+1:Nat):Int) from oM];refine aM.o.mono ?_;rintro d6 ad ⟨rfl,dI,bf,G,Y,aX,aV,aT,av,a7⟩;have aY:=Gz.own a0.o a7 dC dC A.o.row dC;have K:=lh aX;have aq:=lh aV;have bz:=lh aT;have aO:=lh aY;have aN:=lh (a8.o.trans a7);have ce:=lh a7.size;have ax:=lh (show ∀b,(Value.slice cC W.length d4).ownBlock=some b->b<bs.heap.size from λb hb=>(a0.o.lt b hb).2);have ao:=lh av;clear aX aV aT aY a7 av aM A a0;generalize al:(N++q).length=F;have aQ:=lh al;clear al;have b5:(G.map λp=>p.2)=(h.map λp=>p.2)++((G.map λp=>p.2).drop h.length):=by
      obtain⟨x,aJ⟩:=iw leaf B (c+1) t e E (h.map λp=>p.2) (N++q).length;rw[aq.o,aJ,List.drop_append_of_le_length (by rw[ld];exact lc _),List.drop_of_length_le (by rw[ld];exact lc _),lO]
     have dk:h.length<=G.length:=by
      have:=congrArg List.length b5;rw[lg,ld,ld]at this;omega
     have bR:G.length<=1000000:=by
      have:=congrArg List.length aq.o;rw[ld]at this;rw[this];exact cK.o
     have bS:dr (G.map λp=>p.2) t c=H:=by
      rw[b5,CJ _ _ _ _ (by rw[ld];have:=O.o;omega)];exact bw.o
     have ba:(G.map λp=>p.1).length=G.length:=ld _;obtain⟨f5,d5,c0⟩:=bp K.o.recs;rw[ba]at c0;subst c0;obtain⟨bK,rfl,-⟩:=fh K.o.recs (by rw[ba];have:=O.o;omega);obtain⟨fU,fV,fT,cu,cv,cw,bc⟩:=rW K.o.recs K.o.ra rfl bR t (by have:=O.o;omega) c oM bU;rw[bS]at bc;have a3:=K.o.row.cell 2 _ rfl;have bk:=K.o.row.lt;have b4:=(K.o.recs.lt bK rfl).2;obtain⟨dA,ds⟩:∃I,I=G.length:=⟨_,rfl⟩;have fN:t<dA:=(by have:=O.o;omega);rw[<-ds]at a3;clear b5 bS ba dk bR;go_wp2_with (at_builtin;refine ae ?_);refine ar ?_;have Z:Sl (ad.alloc (.cells #[.int .i64 H,.int .i64 F] 119)) 2 kQ (some ⟨ad.heap.size,0,none⟩) 1 [(H,F)]:=br _ oM oM λj u hu=>(bH ad 119 [.int .i64 H,.int .i64 F]).cell j u hu;have D:aa ad (ad.alloc (.cells #[.int .i64 H,.int .i64 F] 119)):=aa.alloc (aa.refl _) _;generalize ad.alloc (.cells #[.int .i64 H,.int .i64 F] 119)=af at Z D|-;have a1:=lh (aO.o.keep D);refine aD qC mH qt rfl (.tmp 101) (.tmp 115) rfl (ys:=[(H,F)]) a1.o rfl rfl Z sO (lk aN.o.size D.size) ?_;intro v4 ai V a2 aH;obtain⟨c7,cf,aw⟩:=bp V;rw[lg,lJ]at aw;subst aw;have bB:=lh V;have S:=lh (show dK ai J base k m leaf _ bf G (N++q++Y) from(K.o.keep D).grown_kd a1.o a2 λp o i hi hv=>by
      have eB:=(a1.o.lt i hv).1
      rcases lx.1 o with o|o
      ·rcases lx.1 o with o|o
       ·have:=cO.o p o i hi;omega
       ·exact(aA.o p o i hi).2 hv
      ·have L:=ao.o p o i hi;have M:=ax.o i hv;omega)
     have b1:=lh (Gz.trans_up (aN.o.trans (Gz.keep D base J)) (ag.of_grown a2) λi hi=>(a1.o.lt i (by simpa using hi)).1);have bt:=lh (show ∀p∈q++Y,∀b,fH p.1=some b->w.heap.size<=b/\(Value.slice c7 (W.length+1) cf).ownBlock≠some b from λp o b hb=>by
      have fL:b<af.heap.size:=(((K.o.keep D).na p (by rcases lx.1 o with o|o<;>simp[o])).own.lt b hb).2
      rcases lx.1 o with o|o
      ·have L:=aA.o p o b hb;refine⟨L.1,λe5=>?_⟩
       rcases aH with T|T
       ·exact L.2 (T▸e5)
       ·rw[T]at e5;simp at e5;omega
      ·have L:=ao.o p o b hb;refine⟨lk a8.o.size L,λe5=>?_⟩
       rcases aH with T|T
       ·have M:=ax.o b (T▸e5);omega
       ·rw[T]at e5;simp at e5;omega)
     have cX:=lh (lk (lk a6.o (lk ce.o D.size)) a2.size);clear V a2 aH Z D a1 aO K ao ax;go_wp2;go_roundw
     case rel =>
      refine⟨e,e,au,W++[(H,F)],.slice (some ⟨bK,0,none⟩) G.length d5,bf,G,q++Y,X++(bC leaf B (c+1) t e E (h.map λp=>p.2) F).2,rfl,by go_num,oM,lc _,dc,oM,sO,?_,bB.o,?_,?_,bt.o,?_,b1.o,cX.o,(λ_=>⟨rfl,rfl⟩),λC=>C⟩
      ·show hi<=G.length;have:=congrArg List.length aq.o;rw[ld]at this;rw[this];exact cL.o
      ·show dK _ _ _ _ _ _ _ _ _ _;have C:=S.o
       rwa [lr]at C
      ·show List.map _ _=_;rw[lz,aB.o,bz.o,aQ.o];rfl
      ·show _=_;have C:=cW.o;rw[aQ.o]at C;have M:=aq.o;rw[aQ.o]at M;rw[M];exact C
     case measure=>simp[intOf];omega
    ·have ck:((e:Int)==(hi:Int))=false:=sO;have b9:(h.map λp=>p.1).length=h.length:=ld _;obtain⟨f4,ch,bZ⟩:=bp A.o.recs;rw[b9]at bZ;subst bZ;obtain⟨bJ,rfl,-⟩:=fh A.o.recs (by rw[b9];have:=O.o;omega);have dv:=fg.o h X q dp aP.o;obtain⟨g9,gI,g6,cu,cv,cw,bc⟩:=rW A.o.recs A.o.ra rfl dv i (by have:=O.o;omega) c oM bU;obtain⟨ga,gJ,g7,eV,eW,eX,cx⟩:=rW A.o.recs A.o.ra rfl dv e (by have:=O.o;omega) c oM bU;rw[cD.o]at bc;have a3:=A.o.row.cell 2 _ rfl;have bk:=A.o.row.lt;have b4:=(A.o.recs.lt bJ rfl).2;obtain⟨I,bX⟩:∃I,I=h.length:=⟨_,rfl⟩;have gm:e<I:=(by have:=O.o;omega);have bT:i<I:=oM;rw[<-bX]at a3;clear b9 dv bX
     by_cases aZ:dr (h.map λp=>p.2) e c=H
     ·rw[aZ]at cx;have cd:=lh aZ;clear aZ;go_upto_region 10 with fail;go_quiet (fail);have U:aa wr (wr.drewN nq):=aa.drewN (aa.refl _) nq;generalize World.drewN wr nq=bs at U|-
      replace a0:=lh (a0.o.keep U)
      replace A:=lh (A.o.keep U)
      replace a8:=lh (a8.o.trans (Gz.keep U base J))
      replace a6:=lh (lk a6.o U.size)
      clear U;clear ck cu cv cw bc eV eW eX cx a3 bk b4;go_wp2;go_roundw
      case rel=>exact⟨t,e,ab,W,_,aL,h,q,X,rfl,by go_num,fr,oM,dc,fs,ft,O.o,a0.o,A.o,aB.o,aA.o,aP.o,a8.o,a6.o,(λ_=>by rw[bw.o];exact⟨cd.o,bh.o⟩),λC=>oM⟩
      case measure=>simp[intOf];omega
     ·have cJ:=lh (show e=eR (h.map λp=>p.2) c H hi (hi-t) t from(bh.o.trans (wG _ c H hi e (.inr aZ))).symm);generalize dr (h.map λp=>p.2) e c=eT at cx aZ;have fw:(eT != H)=true:=(by simpa using aZ);have fx:(eT==H)=false:=(by simpa using aZ);clear bh cD aZ;go_upto_region 10 with fail;go_quiet (fail);have U:aa wr (wr.drewN nq):=aa.drewN (aa.refl _) nq;generalize World.drewN wr nq=bs at U|-
      replace a0:=lh (a0.o.keep U)
      replace A:=lh (A.o.keep U)
      replace a8:=lh (a8.o.trans (Gz.keep U base J))
      replace a6:=lh (lk a6.o U.size)
      clear U;clear ck fw fx cu cv cw bc eV eW eX cx a3 bk b4;obtain⟨au,rfl⟩:∃au,ab=au+1:=⟨ab-1,oM⟩;have dt:q.length=1+X.length:=by
       have:=congrArg List.length aB.o
       simpa[Nat.add_comm]using this
      have aU:(N++q).length=n+1+X.length:=(by rw[lg,aE];omega);have aI:=aP.o;rw[vG au t e (N++q).length W (h.map λp=>p.2) X H dp bw.o.symm cJ.o aU]at aI;have b0:=o6 (g:=λa e rs n=>bC leaf B (c+1) a e E rs n) (d:=c) (tp:=hi) (n:=n) (λa e rs n=>iw leaf B (c+1) a e E rs n) au e (W++[(H,(N++q).length)]) (bC leaf B (c+1) t e E (h.map λp=>p.2) (N++q).length).1 (X++(bC leaf B (c+1) t e E (h.map λp=>p.2) (N++q).length).2);rw[<-aI]at b0;obtain⟨_,⟨f0,aK⟩,⟨dN,bb⟩⟩:=b0;simp only at aK bb;have ay:=congrArg List.length aK;have aF:=congrArg List.length bb;rw[lg]at ay;rw[lg,lg]at aF;have dy:=bF.o;have cK:=lh (show(bC leaf B (c+1) t e E (h.map λp=>p.2) (N++q).length).1.length<=1000000 from oM);have aG:=ca.o B rfl J (c+1) t e E _ aL h (N++q) bs (by have:=cH.o;omega) A.o oM (by have:=O.o;omega) a6.o oM oM;have aM:=lh aG;have cW:=lh aI;have cL:=lh (show hi<=(bC leaf B (c+1) t e E (h.map λp=>p.2) (N++q).length).1.length by
       obtain⟨x,aJ⟩:=iw leaf B (c+1) t e E (h.map λp=>p.2) (N++q).length;rw[aJ,lg,ld];have:=O.o;omega)
      clear aG aI aU dt ay aF aK bb dy aP;go_wp2_with (go_at_call 53;refine ae ?_);refine ar ?_;rw[show((c:Int)+1)=((c+1:Nat):Int) from oM];refine aM.o.mono ?_;rintro d6 ad ⟨rfl,dI,bf,G,Y,aX,aV,aT,av,a7⟩;have aY:=Gz.own a0.o a7 dC dC A.o.row dC;have K:=lh aX;have aq:=lh aV;have bz:=lh aT;have aO:=lh aY;have aN:=lh (a8.o.trans a7);have ce:=lh a7.size;have ax:=lh (show ∀b,(Value.slice cC W.length d4).ownBlock=some b->b<bs.heap.size from λb hb=>(a0.o.lt b hb).2);have ao:=lh av;clear aX aV aT aY a7 av aM A a0;generalize al:(N++q).length=F;have aQ:=lh al;clear al;have b5:(G.map λp=>p.2)=(h.map λp=>p.2)++((G.map λp=>p.2).drop h.length):=by
       obtain⟨x,aJ⟩:=iw leaf B (c+1) t e E (h.map λp=>p.2) (N++q).length;rw[aq.o,aJ,List.drop_append_of_le_length (by rw[ld];exact lc _),List.drop_of_length_le (by rw[ld];exact lc _),lO]
      have dk:h.length<=G.length:=by
       have:=congrArg List.length b5;rw[lg,ld,ld]at this;omega
      have bR:G.length<=1000000:=by
       have:=congrArg List.length aq.o;rw[ld]at this;rw[this];exact cK.o
      have bS:dr (G.map λp=>p.2) t c=H:=by
       rw[b5,CJ _ _ _ _ (by rw[ld];have:=O.o;omega)];exact bw.o
      have ba:(G.map λp=>p.1).length=G.length:=ld _;obtain⟨f5,d5,c0⟩:=bp K.o.recs;rw[ba]at c0;subst c0;obtain⟨bK,rfl,-⟩:=fh K.o.recs (by rw[ba];have:=O.o;omega);obtain⟨fU,fV,fT,cu,cv,cw,bc⟩:=rW K.o.recs K.o.ra rfl bR t (by have:=O.o;omega) c oM bU;rw[bS]at bc;have a3:=K.o.row.cell 2 _ rfl;have bk:=K.o.row.lt;have b4:=(K.o.recs.lt bK rfl).2;obtain⟨dA,ds⟩:∃I,I=G.length:=⟨_,rfl⟩;have fN:t<dA:=(by have:=O.o;omega);rw[<-ds]at a3;clear b5 bS ba dk bR;go_wp2_with (at_builtin;refine ae ?_);refine ar ?_;have Z:Sl (ad.alloc (.cells #[.int .i64 H,.int .i64 F] 119)) 2 kQ (some ⟨ad.heap.size,0,none⟩) 1 [(H,F)]:=br _ oM oM λj u hu=>(bH ad 119 [.int .i64 H,.int .i64 F]).cell j u hu;have D:aa ad (ad.alloc (.cells #[.int .i64 H,.int .i64 F] 119)):=aa.alloc (aa.refl _) _;generalize ad.alloc (.cells #[.int .i64 H,.int .i64 F] 119)=af at Z D|-;have a1:=lh (aO.o.keep D);refine aD qC mH qt rfl (.tmp 101) (.tmp 115) rfl (ys:=[(H,F)]) a1.o rfl rfl Z sO (lk aN.o.size D.size) ?_;intro v4 ai V a2 aH;obtain⟨c7,cf,aw⟩:=bp V;rw[lg,lJ]at aw;subst aw;have bB:=lh V;have S:=lh (show dK ai J base k m leaf _ bf G (N++q++Y) from(K.o.keep D).grown_kd a1.o a2 λp o i hi hv=>by
       have eB:=(a1.o.lt i hv).1
       rcases lx.1 o with o|o
       ·rcases lx.1 o with o|o
        ·have:=cO.o p o i hi;omega
        ·exact(aA.o p o i hi).2 hv
       ·have L:=ao.o p o i hi;have M:=ax.o i hv;omega)
      have b1:=lh (Gz.trans_up (aN.o.trans (Gz.keep D base J)) (ag.of_grown a2) λi hi=>(a1.o.lt i (by simpa using hi)).1);have bt:=lh (show ∀p∈q++Y,∀b,fH p.1=some b->w.heap.size<=b/\(Value.slice c7 (W.length+1) cf).ownBlock≠some b from λp o b hb=>by
       have fL:b<af.heap.size:=(((K.o.keep D).na p (by rcases lx.1 o with o|o<;>simp[o])).own.lt b hb).2
       rcases lx.1 o with o|o
       ·have L:=aA.o p o b hb;refine⟨L.1,λe5=>?_⟩
        rcases aH with T|T
        ·exact L.2 (T▸e5)
        ·rw[T]at e5;simp at e5;omega
       ·have L:=ao.o p o b hb;refine⟨lk a8.o.size L,λe5=>?_⟩
        rcases aH with T|T
        ·have M:=ax.o b (T▸e5);omega
        ·rw[T]at e5;simp at e5;omega)
      have cX:=lh (lk (lk a6.o (lk ce.o D.size)) a2.size);clear V a2 aH Z D a1 aO K ao ax;go_wp2;go_roundw
      case rel =>
       refine⟨e,e,au,W++[(H,F)],.slice (some ⟨bK,0,none⟩) G.length d5,bf,G,q++Y,X++(bC leaf B (c+1) t e E (h.map λp=>p.2) F).2,rfl,by go_num,oM,lc _,dc,oM,sO,?_,bB.o,?_,?_,bt.o,?_,b1.o,cX.o,(λ_=>⟨rfl,rfl⟩),λC=>C⟩
       ·show hi<=G.length;have:=congrArg List.length aq.o;rw[ld]at this;rw[this];exact cL.o
       ·show dK _ _ _ _ _ _ _ _ _ _;have C:=S.o
        rwa [lr]at C
       ·show List.map _ _=_;rw[lz,aB.o,bz.o,aQ.o];rfl
       ·show _=_;have C:=cW.o;rw[aQ.o]at C;have M:=aq.o;rw[aQ.o]at M;rw[M];exact C
      case measure=>simp[intOf];omega
   ·have fu:t=hi:=ep oM;have dm:=aP.o;rw[BU ab t W _ X oM]at dm;simp only[Prod.mk.injEq]at dm;obtain⟨rfl,rfl,rfl⟩:=dm;have gF:q.length=b3.length+1:=by
     have:=congrArg List.length aB.o
     simpa using this
    have dZ:=lh cT.o.symm;clear aP fu cT
    cases E with
    | true =>
      have b4:=QW leaf B c lo hi n (P.map λp=>p.2) cS.o dZ.o;have dR:=lh b4;clear b4;have ac:((N++q).map λp=>p.1).length=(N++q).length:=ld _;obtain⟨f1,fk,bY⟩:=bp A.o.nodes;rw[ac]at bY;subst bY;obtain⟨fp,rfl,-⟩:=fh A.o.nodes (by rw[ac,lg];omega);obtain⟨bd,bW⟩:∃bd,bd=(N++q).length:=⟨_,rfl⟩;have dn:(N++q).length=n+q.length:=(by rw[lg,aE]);obtain⟨t0,c4,t2,_⟩:=fY A.o.nodes j6 ac n (by rw[ac];omega);obtain⟨c6,c1⟩:∃c6:Nc,c6=((N++q).map λp=>p.1)[n]'(by rw[ac];omega):=⟨_,rfl⟩;rw[<-c1]at t0;clear c1;have fW:=t0 3 _ rfl;have fZ:=(c4 3 dC).2;have dM:=A.o.row.cell 3 _ rfl;have fD:=A.o.row.lt;obtain⟨cY,bQ,bP,bL,bO⟩:=A.o.finish rfl aE aB.o a0.o ek (λp o b hb=>(aA.o p o b hb).1);have fM:n<bd:=oM;rw[<-bW]at dM;have cV:=lh bQ;have cR:=lh bP;have cG:=lh bL;have cM:=lh (a8.o.trans bO);clear ac t0 c4 dn bQ bP bL bO bW;go_wp2;go_ret;refine⟨rfl,_,_,h,cY,cV.o,?_,?_,λa b C=>cG.o (a,b) C,cM.o⟩
      ·rw[dR.o]
      ·rw[dR.o];exact cR.o
    | false =>
      have eF:h.length<=1000000:=(by have:=bF.o.1;rwa [ld]at this);have gy:lo<hi:=(by have:=cS.o;omega);have b9:(h.map λp=>p.1).length=h.length:=ld _;obtain⟨f4,ch,bZ⟩:=bp A.o.recs;rw[b9]at bZ;subst bZ;obtain⟨bJ,rfl,-⟩:=fh A.o.recs (by rw[b9];have:=O.o;omega);rename World=>wm;have dU:=lh eF;obtain⟨a5,ci⟩:∃a5,a5=(h.drop lo).take (hi-lo):=⟨_,rfl⟩;have ed:a5.length=hi-lo:=(by rw[ci];simp;have:=O.o;omega);have f8:=lh (show ∀j (C:j<a5.length) (h':lo+j<h.length),a5[j]=h[lo+j]from λj C h'=>by
       subst ci;rw[List.getElem_take,List.getElem_drop])
      have f7:=lh (show(a5.map λp=>p.2)=fo (h.map λp=>p.2) lo hi by rw[ci,List.map_take,List.map_drop];rfl);have dO:=lh ed;clear b9 eF ci ed;obtain⟨I,bX⟩:∃I,I=h.length:=⟨_,rfl⟩;have ap:=lh bX;have gD:hi<=I:=(by have:=O.o;omega);clear bX;go_wp2;go_loopw [16,17] (λvl vi wr=>∃(j:Nat) (dB:Value) (Q:List (Rd×Star.SR)),j<=hi-lo/\vi=.int .i64 (lo+j:Nat)/\dB=vl/\Hid (pA k m wr wm.heap.size dB (Q.map λp=>p.1))/\Hid (pu k m wr base Q)/\Hid ((Q.map λp=>p.2)=bN (((a5.take j).map λp=>p.2).map (dw c)))/\Hid (aa wm wr)) (λ_ vi _=>hi-(intOf vi).toNat)
      case atStart=>exact⟨0,_,[],lj _,sP,rfl,ah.nil_ _ _ _ _ _,(λp o=>by cases o),rfl,kP⟩
      case round =>
       obtain⟨j,dB,Q,bl,rfl,rfl,bA,cc,bD,a9⟩:=hrel
       by_cases ex:j<hi-lo
       ·obtain⟨i,cp⟩:∃i,i=lo+j:=⟨_,rfl⟩;rw[<-cp];have di:j<a5.length:=(by rw[dO.o];exact ex);have bT:i<h.length:=(by have:=O.o;omega);obtain⟨c3,cs⟩:∃c3,c3=h[i]:=⟨_,rfl⟩;have em:a5[j]=c3:=(by rw[f8.o j di oM,cs];congr 1;exact cp.symm);have e6:=lh (show((a5.take (j+1)).map λp=>p.2).map (dw c)=((a5.take j).map λp=>p.2).map (dw c)++[dw c c3.2] by
            rw[ly di,em];simp)
        have cr:=A.o.ra h[i] (ll bT);rw[<-cs]at cr;obtain⟨g1,gb,fO,Z⟩:=(A.o.recs.keep a9.o).sl (iM k m) (by rw[ld];have:=dU.o;omega);injection fO with aS e2 e3;subst aS;subst e3;obtain⟨g8,gH,fq,fv,dD,p1,p2,dE,dF⟩:=rG Z i (by rw[ld];exact bT)
        cases fq
        rw[Lj,<-cs,lS]at dD p1 p2 dE dF;obtain⟨r,y⟩:=c3;simp only at dD p1 p2 dE dF cr e6;have cU:=lh cr;have a3:=(A.o.row.keep a9.o).cell 2 _ rfl;have bk:=(A.o.row.keep a9.o).lt;rw[<-ap.o]at a3;have gv:i<I:=(by rw[ap.o];exact bT);have gs:i<hi:=oM;have fc:=lh cp;have eh:Q.length<=j:=by
            have L:=congrArg List.length bD.o;rw[ld]at L;have M:=ma (((a5.take j).map λp=>p.2).map (dw c));rw[ld,ld,lD]at M;omega
        have dW:=lh eh;have gw:j<=1000000:=oM;clear cp di em cr Z e2 bT cs eh;go_wp2_with (with_reducible refine pe 112 ?_);refine ar ?_;have M:=bH wr 112 [.slice none 0 0,.int .i64 0,.slice none 0 0,.slice none 0 0,.slice none 0 0];obtain⟨aC,dg⟩:∃g,g=wr.heap.size:=⟨_,rfl⟩;rw[<-dg]at M|-;refine wpList_store_row rfl 112 (.tmp 18) (.tmp 133) rfl aC #[.slice r.iA k r.iK,.int .i64 r.n,.slice r.sA m r.sK,.slice r.lA m r.lK,.slice r.gA m r.gK] rfl rfl 112 _ M kR rfl (by simp[Value.oneCell']) ?_;have b6:=setRow_heap _ aC _ #[.slice r.iA k r.iK,.int .i64 r.n,.slice r.sA m r.sK,.slice r.lA m r.lK,.slice r.gA m r.gK] 112 (0,0) M;have dj:=ag.after (aa.alloc (aa.refl wr) _) (m7 (wr.alloc (.cells [.slice none 0 0,.int .i64 0,.slice none 0 0,.slice none 0 0,.slice none 0 0].toArray 112)) aC #[.slice r.iA k r.iK,.int .i64 r.n,.slice r.sA m r.sK,.slice r.lA m r.lK,.slice r.gA m r.gK]) (λj bl=>by simp only[lm]at bl;omega)
        replace b6:ak (World.setRow (wr.alloc (.cells [.slice none 0 0,.int .i64 0,.slice none 0 0,.slice none 0 0,.slice none 0 0].toArray 112)) aC #[.slice r.iA k r.iK,.int .i64 r.n,.slice r.sA m r.sK,.slice r.lA m r.lK,.slice r.gA m r.gK]) aC 112 (r.cells k m):=b6
        generalize fS:World.setRow _ aC _=af at b6 dj;have fb:=lh dg;have c5:=b6.cell 0 _ rfl;have fz:=b6.lt;have cd:=lh b6;have bx:=lh dj;have ev:(y.ids.take k).length=k:=(by have:=cU.o.z.1;simp;omega);have az:=lh ev;clear M fS dg b6 dj ev dD p1 p2 dE dF a3 bk fv;go_wp2_with (at_builtin;refine ae ?_);refine ar ?_;have cI:=lh (uW (enc:=bM) (k:=1) (af.alloc (.cells #[] 3)) af.heap.size 3 af.heap.size (lc _) (heap_alloc_new af _));have D:aa af (af.alloc (.cells #[] 3)):=aa.alloc (aa.refl _) _;obtain⟨-,eK⟩:=jx ((cU.o.ids.keep (a9.v bx)).keep D) (by rw[az.o];omega);refine aD nP ea gC rfl (.tmp 134) (.tmp 136) rfl (ys:=y.ids.take k) cI.o rfl (by rw[az.o];rfl) eK (by rw[az.o];simp;omega) sP ?_;intro v4 ai V a2 _;rw[lO]at V;have ⟨a4,_,_⟩:=cI.o.after (w:=af) a2 D (lc _);obtain⟨g4,bI,aw⟩:=bp V;rw[az.o]at aw;subst aw;obtain⟨gi,rfl,-⟩:=fh V (by rw[az.o];omega);have b7:=cd.o.keep a4;have g0:=b7.cell 0 _ rfl;have fn:=b7.soft 0;have fE:=b7.lt;have eC:gi≠aC:=λe=>bu V b7 dC (by rw[e];rfl);have es:=(V.lt gi rfl).1;have b8:=b7.set 0 (.slice (some ⟨gi,0,none⟩) k bI);have bn:=V.turn (ag.set ai ⟨aC,0,none⟩ (.slice (some ⟨gi,0,none⟩) k bI)) (λj bl=>by
            simp only[lm]at bl;subst bl;exact bu V b7 dC)
        have ey:=(bx.o.trans a4).setCell (a:=⟨aC,0,none⟩) (lV fb.o.symm) (.slice (some ⟨gi,0,none⟩) k bI);have bE:=lh b8;have cb:=lh bn;have cN:=lh ey;have fa:=lh (lk bx.o.size es);have f6:=lh (show base<=af.heap.size from lk a6.o (a9.v bx).size);clear V a2 a4 b7 b8 bn ey D eK cI c5 fz cd bx es;go_upto_region 21 with fail;generalize World.setCell ai _ _=bg at bE cb cN|-;have z0:=bE.o.cell 0 _ rfl;have fF:=bE.o.lt;obtain⟨ec,d1,d2,-⟩:=cb.o.cell1 CL az.o.symm c (by rw[az.o];omega);have eE:=cb.o.set1 CL az.o.symm c (-1) (u:=.int .i64 (-1)) rfl;have eI:=bE.o.other c (.int .i64 (-1)) eC;have ez:=cN.o.setCell (a:=⟨gi,c,none⟩) fa.o (.int .i64 (-1));generalize (y.ids.take k)[c]'(by rw[az.o];omega)=oldv at ec;have b2:=lh eI;have dT:=lh eE;have aj:=lh ez;clear eE eI ez g0 fn fE bE cb cN;go_upto_region 22 with fail;generalize World.setCell bg _ _=bo at b2 dT aj|-;clear z0 fF ec d1 d2 eC;have z0:=b2.o.cell 0 _ rfl;have dN:=b2.o.cell 1 _ rfl;have z2:=b2.o.cell 2 _ rfl;have z3:=b2.o.cell 3 _ rfl;have z4:=b2.o.cell 4 _ rfl;have fG:=b2.o.lt;have eJ:cQ bo base k m { r with iA:=some ⟨gi,0,none⟩,iK:=bI } (dw c y):=by
            have C:=cU.o.keep (a9.v aj);refine⟨?_,C.z.star db,C.n,C.len,C.s,C.l,C.g⟩;show mT _ _ _ ((y.ids.set c (-1)).take k);rw[List.take_set];exact dT.o.base_mono f6.o
        obtain⟨f3,fm,eN⟩:=bp bA.o;rw[ld]at eN;subst eN;obtain⟨g2,gc,fP,eL⟩:=(bA.o.keep aj.o).sl (iM k m) (by rw[ld];have:=dW.o;omega);injection fP with aS e2 e3;subst aS;subst e3;have dV:=lh (zj k m base f3 fm Q { r with iA:=some ⟨gi,0,none⟩,iK:=bI } (dw c y) bo eL (λp o=>(cc.o p o).keep aj.o) eJ fJ bU bV (by have:=dW.o;omega) (lk a6.o (a9.v aj).size));clear eJ eL e2;go_wp2_with (go_at_call 51;refine ae ?_);refine uM dV.o ?_;rintro d6 dJ ⟨gL,eb,rfl,eD,eH,en,eA⟩;have fe:=lh (eD.base_mono (a9.v aj).size);have ff:=lh eH;have f9:=lh (show(eb.map λp=>p.2)=bN (((a5.take (j+1)).map λp=>p.2).map (dw c)) by rw[en,bD.o,e6.o,Aw]);have bi:=lh (a9.o.trans (aj.o.trans eA));clear eD eH en eA dV z0 dN z2 z3 z4 fG bA cc;have gt:(i:Int)+1=((lo+(j+1):Nat):Int):=(by have:=fc.o;omega);have gz:hi-(i+1)<hi-i:=oM;go_wp2;go_roundw
        case rel=>exact⟨j+1,_,eb,oM,sP,rfl,fe.o,ff.o,f9.o,bi.o⟩
        case measure=>simp[intOf];omega
       ·have fI:j=hi-lo:=oM;have eO:a5.take j=a5:=lM (by rw[dO.o];omega);rw[eO,f7.o]at bD;have dY:=lh bD.o;have dx:Q.length<=1000000:=by
            have L:=congrArg List.length bD.o;rw[ld]at L;have M:=ma ((fo (h.map λp=>p.2) lo hi).map (dw c));have gf:=DV (h.map λp=>p.2) lo hi;rw[ld]at M;omega
        rename World=>ai;obtain⟨g5,ge,eS⟩:=bp bA.o;rw[ld]at eS;subst eS;obtain⟨g3,gd,fQ,eM⟩:=bA.o.sl (iM k m) (by rw[ld];omega);injection fQ with aS e2 e3;subst aS;subst e3;have e4:=lh eM;have dX:=lh (show pu k m ai base Q from cc.o);have e9:=lh (lk a6.o a9.o.size);have cn:hi<=lo+j:=oM;clear eO e2 eM fI ex bl;have S:=lh (A.o.keep a9.o);have dS:=lh (a0.o.keep a9.o);have b1:=lh (a8.o.trans (Gz.keep a9.o base J));have a3:=S.o.row.cell 2 _ rfl;have fA:=S.o.row.lt;have dG:=S.o.row.soft 2;rw[<-ap.o]at a3;go_upto_region 24 with fail;go_wp2_with (at_builtin;refine ae ?_);refine ar ?_;have e0:=lh (show pA k m ai base (.slice (some ⟨bJ,0,none⟩) I ch) (h.map λp=>p.1) from ap.o▸S.o.recs);have gE:I<=1000000:=(by rw[ap.o];exact dU.o);refine aD nO (iM k m) (nD k m) rfl (.tmp 155) (.tmp 156) rfl (ys:=Q.map λp=>p.1) e0.o rfl (by rw[ld];rfl) e4.o (by rw[ld,ld,<-ap.o];omega) e9.o ?_;intro v5 bg bn cl _;obtain⟨cB,d3,eP⟩:=bp bn;rw[lg,ld,ld,<-ap.o]at eP;subst eP;have dd:ai.grownBy bg (Value.slice (some ⟨bJ,0,none⟩) h.length ch).ownBlock:=ap.o▸cl
        have b8:ak bg J 109 (m8 k leaf (.slice (some ⟨bJ,0,none⟩) h.length ch) aL):=(ag.of_grown dd).row S.o.row λbV=>bu S.o.recs S.o.row dC (by simpa using bV);obtain⟨ei,d8⟩:=S.o.app_recs bn dd dX.o;have bj:=lh ei;have c9:=lh (b1.o.trans d8);have aj:=lh (Gz.own dS.o d8 dC dC S.o.row dC);have e8:=lh (show base<=(bg.setCell ⟨J,2,none⟩ (.slice cB (I+Q.length) d3)).heap.size by have:=e9.o;have:=cl.size;simp;omega);have fi:=lh (show ai.heap.size<=(bg.setCell ⟨J,2,none⟩ (.slice cB (I+Q.length) d3)).heap.size by have:=cl.size;simp;omega);clear a3 dG fA;have a3:=b8.cell 2 _ rfl;have dG:=b8.soft 2;have fB:=b8.lt;clear bn cl dd b8 ei d8 S e0 dS e4 dX;go_upto_region 25 with fail;generalize bg.setCell ⟨J,2,none⟩ (.slice cB (I+Q.length) d3)=bo at bj c9 aj e8 fi|-;clear a3 dG fB;have a3:=bj.o.row.cell 2 _ rfl;have gn:=bj.o.row.lt;have eg:((h++Q).map λp=>p.2)=(h.map λp=>p.2)++bN ((fo (h.map λp=>p.2) lo hi).map (dw c)):=(by rw[lz,dY.o]);have ef:(N++q).length=n+1+b3.length:=(by rw[lg,aE];omega);obtain⟨F,al⟩:∃F,F=(N++q).length:=⟨_,rfl⟩;have aU:F=n+1+b3.length:=al.trans ef
        have co:=wj leaf B c lo hi n (P.map λp=>p.2) cS.o dZ.o (l:=bN ((fo (h.map λp=>p.2) lo hi).map (dw c))) rfl (b:=I) (e:=I+Q.length) (m:=F) (by rw[ld];exact ap.o) (by rw[<-dY.o,ld,ld,ap.o]) aU;rw[<-eg]at co;have ay:=cE.o;have aF:=ao.o;rw[co]at ay aF;simp only[lw,lg]at ay aF;have aG:=ca.o B rfl J (c+1) I (I+Q.length) true _ aL (h++Q) (N++q) bo (by have:=cH.o;omega) bj.o oM (by rw[lg,ap.o];exact lc _) e8.o (by rw[<-al];exact ay) (by rw[<-al];omega);rw[<-al]at aG;have aM:=lh aG;have aQ:=lh al;have dQ:=lh co;clear aG co eg aU ay aF ef al;go_wp2_with (go_at_call 53;refine ae ?_);refine ar ?_;rw[show((c:Int)+1)=((c+1:Nat):Int) from oM,show((I:Int)+(Q.length:Int))=((I+Q.length:Nat):Int) from oM];refine aM.o.mono ?_;rintro d6 bq ⟨rfl,dI,bf,G,Y,aX,aV,aT,av,a7⟩;have aY:=Gz.own aj.o a7 dC dC bj.o.row dC;have K:=lh aX;have aq:=lh aV;have bz:=lh aT;have aO:=lh aY;have aN:=lh (c9.o.trans a7);have ce:=lh a7.size;have ax:=lh (show ∀b,(Value.slice cC cZ.length d4).ownBlock=some b->b<bo.heap.size from λb hb=>(aj.o.lt b hb).2);have cF:=lh av;have fj:=lh (show w.heap.size<=bo.heap.size from c9.o.size);clear aX aV aT aY a7 av aM bj aj c9
        go_wp2_with (at_builtin;refine ae ?_);refine ar ?_;have Z:Sl (bq.alloc (.cells #[.int .i64 (-1),.int .i64 F] 119)) 2 kQ (some ⟨bq.heap.size,0,none⟩) 1 [((-1:Int),F)]:=br _ oM oM λj u hu=>(bH bq 119 [.int .i64 (-1),.int .i64 F]).cell j u hu;have D:aa bq (bq.alloc (.cells #[.int .i64 (-1),.int .i64 F] 119)):=aa.alloc (aa.refl _) _;generalize bq.alloc (.cells #[.int .i64 (-1),.int .i64 F] 119)=af at Z D|-;have a1:=lh (aO.o.keep D);refine aD qC mH qt rfl (.tmp 170) (.tmp 173) rfl (ys:=[((-1:Int),F)]) a1.o rfl rfl Z sO (lk aN.o.size D.size) ?_;intro v4 ai V a2 aH;obtain⟨c7,cf,aw⟩:=bp V;rw[lg,lJ]at aw;subst aw;have da:dK ai J base k m leaf dI bf G (N++q++Y):=(K.o.keep D).grown_kd a1.o a2 λp o i hi hv=>by
            have eB:=(a1.o.lt i hv).1
            rcases lx.1 o with o|o
            ·rcases lx.1 o with o|o
             ·have:=cO.o p o i hi;omega
             ·exact(aA.o p o i hi).2 hv
            ·have L:=cF.o p o i hi;have M:=ax.o i hv;omega
        rw[lr]at da;have bB:=lh V;have S:=lh da;have b1:=lh (Gz.trans_up (aN.o.trans (Gz.keep D base J)) (ag.of_grown a2) λi hi=>(a1.o.lt i (by simpa using hi)).1);have bt:=lh (show ∀p∈q++Y,∀b,fH p.1=some b->w.heap.size<=b/\True from λp o b hb=>by
            rcases lx.1 o with o|o
            ·exact⟨(aA.o p o b hb).1,trivial⟩
            ·exact⟨lk fj.o (cF.o p o b hb),trivial⟩)
        have fd:=lh (show((q++Y).map λp=>p.2)=⟨c,lo,hi,[]⟩::(b3++(bC leaf B (c+1) I (I+Q.length) true ((h++Q).map λp=>p.2) F).2) by rw[lz,aB.o,bz.o];rfl);have gG:0<(q++Y).length:=(by rw[lg];omega);clear V a2 aH Z D a1 aO K cF ax da A a0 aB aA;have ac:((N++(q++Y)).map λp=>p.1).length=(N++(q++Y)).length:=ld _;obtain⟨f1,fk,bY⟩:=bp S.o.nodes;rw[ac]at bY;subst bY;obtain⟨fp,rfl,-⟩:=fh S.o.nodes (by rw[ac,lg];omega);obtain⟨bd,bW⟩:∃bd,bd=(N++(q++Y)).length:=⟨_,rfl⟩;have dn:(N++(q++Y)).length=n+(q++Y).length:=(by rw[lg,aE]);obtain⟨t0,c4,t2,_⟩:=fY S.o.nodes j6 ac n (by rw[ac];omega);obtain⟨c6,c1⟩:∃c6:Nc,c6=((N++(q++Y)).map λp=>p.1)[n]'(by rw[ac];omega):=⟨_,rfl⟩;rw[<-c1]at t0;clear c1;have fW:=t0 3 _ rfl;have fZ:=(c4 3 dC).2;have dM:=S.o.row.cell 3 _ rfl;have fD:=S.o.row.lt;obtain⟨cY,bQ,bP,bL,bO⟩:=S.o.finish rfl aE fd.o bB.o ek (λp o b hb=>(bt.o p o b hb).1);have fM:n<bd:=oM;rw[<-bW]at dM;have cV:=lh bQ;have cR:=lh bP;have cG:=lh bL;have cM:=lh (b1.o.trans bO);clear ac t0 c4 dn bQ bP bL bO bW;go_wp2;go_ret;refine⟨rfl,_,_,G,cY,cV.o,?_,?_,λa b C=>cG.o (a,b) C,cM.o⟩
        ·rw[dQ.o];exact aq.o
        ·rw[dQ.o];exact cR.o
theorem C9(leaf k m base:Nat)(b:k<=8)(c:1<=leaf)(a:1<=k)(d:m<=1000):∀f,wZ leaf k m base f
 | 0=>C7 leaf k m base 0 b c a d λf' h=>oM
 | f+1=>C7 leaf k m base (f+1) b c a d λf' h=>by
   have e:f=f':=oM;subst e;exact C9 leaf k m base b c a d f
def tN(k m base:Nat)(l:List Star.SR):dQ:=λu W=>∃Q:List (Rd×Star.SR),pA k m W base u (Q.map λp=>p.1)/\pu k m W base Q/\(Q.map λp=>p.2)=l
theorem tN.mono{k m base:Nat}{l:List Star.SR}:ku (tN k m base l):=λ_ _ _ hk ⟨Q,h1,h2,h3⟩=>⟨Q,ah.keep h1 hk,λp hp=>(h2 p hp).keep hk,h3⟩
theorem KV(A B:Option Addr)(a b leaf R:Nat)(sp mt:List Ir)(w:World)(J:Sl w 1 Ir.cells A a sp)(ax:ge w sp)(al:Sl w 1 Ir.cells B b mt)(ao:ge w mt)(M:1<=sp.length)(C:sp.length<=8)(aE:mt.length<=256)(s:∀r∈sp,r.xs.length=R)(aG:∀r∈mt,r.xs.length=R)(aD:1<=leaf)(bc:leaf<=1000000)(b0:R<=1000) :
 Calls prog 23 #[.slice A sp.length a,.slice B mt.length b,.int .i64 leaf] w λe w'=>∃(f:Nat) (S b6:Value) (P:List (Rd×Star.SR)) (N:List (Nc×Star.SN)),e=.returned (.pointer (some ⟨f,0,none⟩))/\dK w' f w.heap.size sp.length mt.length leaf S b6 P N /\
  (P.map λp=>p.2)=(bC leaf sp.length 0 0 (bN (bV sp mt R)).length false (bN (bV sp mt R)) 0).1/\(N.map λp=>p.2)=(bC leaf sp.length 0 0 (bN (bV sp mt R)).length false (bN (bV sp mt R)) 0).2/\aa w w':=by
 have H:=lh (λi (hi:i<R) W (hW:aa w W)=>IS A B a b i R sp mt W (J.keep hW) (ax.keep hW) (al.keep hW) (ao.keep hW) M C aE s aG hi b0);obtain⟨aX,b5,aZ,ay⟩:=J.at_ 0 oM;have s0:=ay 0 _ rfl;have t:=World.block_lt_of_cell? w _ s0;simp only at t;have b1:=J.cap;obtain⟨a7,a4⟩:∃a7,a7=sp[0]'oM:=⟨_,rfl⟩;rw[<-a4,s a7 (a4▸ll _)]at s0;have aV:=lh (λW (hW:aa w W)=>And.intro (lp t hW.size) ((hW.cell (p:=⟨aX,b5,none⟩) t).trans s0));have aO:=lh (show ∀i,bN ((List.range (i+1)).map (eH sp mt))=eu (eH sp mt i) (bN ((List.range i).map (eH sp mt))) from λi=>by
  rw[List.range_succ,lz,List.map_singleton,Aw])
 have aS:=lh (show ∀i,(bN ((List.range i).map (eH sp mt))).length<=i from λi=>by
  have:=ma ((List.range i).map (eH sp mt))
  simpa using this)
 have ad:=lh (show bV sp mt R=(List.range R).map (eH sp mt) from rfl);clear J ax al ao s aG ay s0 t a4;obtain⟨k,l⟩:∃k,k=sp.length:=⟨_,rfl⟩;obtain⟨m,aF⟩:∃m,m=mt.length:=⟨_,rfl⟩;rw[<-l]at M C b1 H|-;rw[<-aF]at aE H|-;clear l aF;subst aZ;go_enter func23,ntmps23;go_upto_region 2 with fail;obtain⟨f,aA⟩:∃g,g=w.heap.size:=⟨_,rfl⟩;have D:=bH w 109 (m8 k leaf (.slice none 0 0) (.slice none 0 0));rw[<-aA]at D|-;generalize a6:World.alloc w _=a8
 replace D:ak a8 f 109 (m8 k leaf (.slice none 0 0) (.slice none 0 0)):=by rw[<-a6];exact D
 have aC:aa w a8:=by rw[<-a6];exact aa.alloc (aa.refl _) _
 have c:=lh (show dK a8 f w.heap.size k m leaf (.slice none 0 0) (.slice none 0 0) [] []from⟨D,oM,ah.nil_ _ _ _ _ _,(λp hp=>by cases hp),ah.nil_ _ _ _ _ _,λp hp=>by cases hp⟩);have h:=lh aC;clear a6 D aC aA;go_wp2;go_loopw [8] (λvi wr=>∃(i:Nat) (S:Value) (P:List (Rd×Star.SR)),i<=R/\vi=.int .i64 i/\Hid (dK wr f w.heap.size k m leaf S (.slice none 0 0) P [])/\Hid ((P.map λp=>p.2)=bN ((List.range i).map (eH sp mt)))/\Hid (aa w wr)) (λvi _=>R-(intOf vi).toNat)
 case atStart=>exact⟨0,_,[],lj _,rfl,c.o,rfl,h.o⟩
 case round =>
  clear c h;obtain⟨i,S,P,hi,rfl,c,G,h⟩:=hrel;obtain⟨t,s0⟩:=aV.o _ h.o;have a3:P.length<=i:=by
   have Z:=congrArg List.length G.o;rw[ld]at Z;have:=aS.o i;omega
  obtain⟨aM,aY,aI⟩:=bp c.o.recs;rw[ld]at aI;subst aI;have t2:=c.o.row.cell 2 _ rfl;have aB:=c.o.row.lt
  by_cases b3:i<R
  ·obtain⟨E,x⟩:∃E,E=P.length:=⟨_,rfl⟩;obtain⟨b9,ba,b4,aH⟩:=c.o.recs.sl (iM k m) (by rw[ld];omega);injection b4 with Y e2 e3;subst Y;subst e3;have ac:=lh aH;have U:=lh x;have aT:=lh a3;have ab:=lh (H.o i b3);rw[<-x]at t2;clear aH e2 x a3;rename World=>wm;go_upto_region 5 with fail;refine zN 12 kR ?_;simp only[lX,lR,lZ,L4]
   repeat
    refine aR (λK hK=>?_);go_simp
    first
    | (refine hK _ _ ?_;clear hK K)
    | (apply Exists.intro
       refine⟨λp=>?_,hK _ _ ?_⟩
       (fail)
       clear hK K)
   refine bW 30 (λu W=>∃r:Rd,u=.agg #[.slice r.iA k r.iK,.int .i64 r.n,.slice r.sA m r.sK,.slice r.lA m r.lK,.slice r.gA m r.gK]/\cQ W w.heap.size k m r (eH sp mt i)) rfl (λ_ _ _ l ⟨r,Z,h2⟩=>⟨r,Z,h2.keep l⟩) ?_ ?_
   ·intro p;rw[bZ (by rfl)];simp only[aj];go_simp;go_at_call 52;refine(ab.o _ (h.o.trans kP)).mono ?_;rintro e b8 ⟨r,rfl,s,l⟩;exact⟨_,rfl,⟨r,rfl,s.low (h.o.trans (ce wm p)).size⟩,l⟩
   refine bW 31 (tN k m w.heap.size (eu (eH sp mt i) (P.map λp=>p.2))) rfl tN.mono ?_ ?_
   ·refine rp (d:=30) (by rfl) (λp v hv=>?_);obtain⟨r,rfl,s⟩:=hv;have aU:=lh s;clear s;rw[if_pos (by rfl)];unfold av;go_simp;have af:=zj k m w.heap.size aM aY P r (eH sp mt i) (wm.gro p) (ac.o.keep (ce _ _)) (λq y=>(c.o.ra q y).keep (ce _ _)) aU.o M C oM (by have:=aT.o;omega) (h.o.trans (ce wm p)).size;rw[<-U.o]at af;refine af.mono ?_;rintro e b8 ⟨v,Q,rfl,o,y,he,l⟩;exact⟨_,rfl,⟨Q,o.base_mono (h.o.trans (ce wm p)).size,y,he⟩,l⟩
   refine aR (λK hK=>?_);unfold aw au;rw[bZ (by rfl)];go_simp
   (refine hK _ _ ?_;clear hK K)
   refine aR (λK hK=>?_);unfold aw au;rw[bZ (by rfl)];go_simp
   (refine hK _ _ ?_;clear hK K)
   refine bG ?_;intro p;simp only[aj];rintro bf ⟨Q,o,y,he⟩ bd -;have O:aa wm (wm.gro p):=ce _ _;generalize wm.gro p=aL at o y O|-;obtain⟨F,I,rfl⟩:=bp o;rw[ld]at o|-;have z:=c.o.row.keep O;have bg:=z.cell 2 _ rfl;have bb:=z.soft 2;have a2:=z.lt;have a5:=ag.set aL ⟨f,2,none⟩ (.slice F Q.length I);have aW:=lh (show dK (aL.setCell ⟨f,2,none⟩ (.slice F Q.length I)) f w.heap.size k m leaf (.slice F Q.length I) (.slice none 0 0) Q []from⟨z.set 2 _,c.o.gtb,o.turn a5 (λj hj=>by
    simp only[lm]at hj;subst hj;exact bu o z dC),(λq hq'=>(y q hq').turn a5 λj hj=>by
    simp only[lm]at hj;subst hj;exact uQ z dC dC),ah.nil_ _ _ _ _ _,λp hp=>by cases hp⟩)
   have aP:=lh ((h.o.trans O).setCell (a:=⟨f,2,none⟩) c.o.gtb (.slice F Q.length I));have aN:=lh (show(Q.map λp=>p.2)=bN ((List.range (i+1)).map (eH sp mt)) by rw[he,G.o,aO.o i]);clear z o y he O a5 ab ac c h t2 aB s0 t;go_simp;go_wp2;go_roundw
   case rel=>exact⟨i+1,_,Q,oM,by go_num,aW.o,aN.o,aP.o⟩
   case measure=>simp[intOf];omega
  ·have b2:R=i:=oM;subst b2;have az:=C9 leaf k m w.heap.size C aD M oM k f 0 0 P.length false _ _ P [] wr oM c.o (lj _) (lc _) h.o.size;have L:=sR leaf k aD C (P.map λp=>p.2) (by rw[ld];omega);rw[ld]at L;have a2:=az L.1 (by simpa using L.2);have a9:=lh a2;obtain⟨E,x⟩:∃E,E=P.length:=⟨_,rfl⟩;have U:=lh x;rw[<-x]at t2;clear az L a2 x a3 H;go_wp2_with (go_at_call 53;refine ae ?_);refine ar ?_;rw[U.o];refine a9.o.mono ?_;rintro e b7 ⟨rfl,aK,aJ,X,V,aq,a1,a0,-,ai⟩;have ap:P.length=(bN (bV sp mt R)).length:=by
    have:=congrArg List.length G.o;rw[ld]at this;rw[this,ad.o]
   have T:=lh (show dK b7 f w.heap.size k m leaf aK aJ X V/\(X.map λp=>p.2)=(bC leaf k 0 0 (bN (bV sp mt R)).length false (bN (bV sp mt R)) 0).1/\(V.map λp=>p.2)=(bC leaf k 0 0 (bN (bV sp mt R)).length false (bN (bV sp mt R)) 0).2 from by
    have Y:(P.map λp=>p.2)=bN (bV sp mt R):=(by rw[G.o,ad.o]);rw[Y,ap]at a1 a0;exact⟨aq,a1,a0⟩)
   have aQ:=lh (Gz.after h.o ai (lc _));clear aq a1 a0 ai ap a9 t2 aB s0 t;go_wp2;go_ret;exact⟨f,aK,aJ,X,V,rfl,T.o.1,T.o.2.1,T.o.2.2,aQ.o⟩
end Go.Proofs.YtpkocnpamcchcaaGreatDoor
