/- Parts. -/
import Derived.Test.YtpkocnpamcchcaaGreatDoorL41
set_option maxRecDepth 100000
set_option maxHeartbeats 40000000
set_option linter.all false
namespace Go.Proofs.YtpkocnpamcchcaaGreatDoor
open Go.RowKit Go.Zone Go.Shelf Tryz Go.Roa Go.Star Go.Sym
theorem ze{P:Program}{t e:TypeId}{i:TypeInfo}{z:Value}(j:P.underlying t=some (.slice e))(hi:P.info? e=some i)(c:i.zero=some z)(d:i.size=1)(h:z.cells=#[z])(n:Nat)(a:World)(g:i.bytes*n<=140737488355328)(k:n<=1000000000) :
 (Instr.makeSlice t (.int .i64 (n:Int)) (.int .i64 (n:Int))).run P a=.ok (.slice (some ⟨a.heap.size,0,none⟩) n n) (a.alloc (.cells (List.replicate n z).toArray e)):=by
 have b:=run_make (P:=P) a t e i _ j hi c .i64 .i64 (n:Int) (n:Int) oM oM (by have f:=Int.ofNat_le.2 (lk g (by decide:140737488355328<=281474976710656));simpa using f) oM;rw[Lz,d]at b;have e:madeCells z.cells (n*1)=(List.replicate n z).toArray:=by
  apply Array.ext
  ·simp[madeCells]
  ·intro i c d;simp[madeCells,h,Nat.mod_one]
 rw[e]at b;exact b
theorem MQ(n:Nat)(e:n<=1000)(a:World):(Instr.makeSlice 24 (.int .i64 (n:Int)) (.int .i64 (n:Int))).run prog a=.ok (.slice (some ⟨a.heap.size,0,none⟩) n n) (a.alloc (.cells (List.replicate n (.int .i64 0)).toArray 3)):=by
 obtain⟨i,hi,b,c,d⟩:=info_parts (show(prog.info? 3).map (λi=>(i.zero,i.size,i.bytes))=some (some (.int .i64 0),1,8) from kR);exact ze underlying24 hi b c rfl n a (by rw[d];omega) oM
theorem BO(n:Nat)(e:n<=1000)(a:World):(Instr.makeSlice 49 (.int .i64 (n:Int)) (.int .i64 (n:Int))).run prog a=.ok (.slice (some ⟨a.heap.size,0,none⟩) n n) (a.alloc (.cells (List.replicate n (.slice none 0 0)).toArray 24)):=by
 obtain⟨i,hi,b,c,d⟩:=info_parts (show(prog.info? 24).map (λi=>(i.zero,i.size,i.bytes))=some (some (.slice none 0 0),1,24) from kR);exact ze underlying49 hi b c rfl n a (by rw[d];omega) oM
theorem Ed(cs:List aG)(c:bw)(A B:Option Addr)(n m:Nat)(rows:List Rw)(w:World)(a:Sl w 2 aG.cells A n cs)(a9:Fits cs c)
 (bX:ff w c) (eh:∀bb off,c.iA=some ⟨bb,off,none⟩->bb<w.heap.size) (eu:∀bb off,c.rA=some ⟨bb,off,none⟩->bb<w.heap.size)
 (bk:Sl w 1 Rw.cells B m rows) (ev:dG w rows) (ew:rows.length<=64) (cT:∀r∈rows,r.vs.length<=1000000) (he:da cs (rows.map (·.vs))=0) (fL:jo w) (fM:Tab w)
 (e3:∀S:List bI,S.map cI=dq cs c (dj c.sort (rows.map (·.vs)))->jr S) :
 Calls prog 9 #[.slice A cs.length n,c.v,.slice B rows.length m] w λe w'=>∃v S,e=.returned (.tuple #[v,.int .i64 0])/\S.map cI=dq cs c (dj c.sort (rows.map (·.vs)))/\jr S/\aE w' w.heap.size v (fK S)/\aa w w':=by
 have d1:∀x∈cs,x.name.size<=140737488355328:=λx hx=>by
  obtain⟨i,hi,rfl⟩:=lU hx;have:=(a9.may.name i hi).hi;omega
 have bD:=lh (λW (hW:aa w W)=>Ge A B n m cs c rows W (a.keep hW) d1 (bX.keep hW) a9 (bk.keep hW) (ev.keep hW) oM (λr hx=>by have:=cT r hx;omega) he);have b6:=lh (λW (hW:aa w W)=>Iq A n cs c W (a.keep hW) d1 (bX.keep hW) a9);have dL:=lh (show(gV cs c).length<=20000 by have:=uJ a9;have:=a9.may.hi;have:=a9.few;omega);generalize ez:gV cs c=aS at b6 dL;have dJ:=lh ez;clear ez;have ds:=lh a;have au:=lh a9;have cc:=lh bX;have f3:=lh cT;have a7:=lh ew;have dm:=lh eh;have dD:=lh eu;have f7:=lh he;have ck:=lh e3;have fu:=a9.may.hi;obtain⟨k,cL⟩:∃k,k=cs.length:=⟨_,rfl⟩;rw[<-cL]at fu bD b6|-;have a6:=lh cL;have fE:=MQ k oM;have fF:=BO k oM;clear a a9 d1 bX bk ev ew cT he eh eu cL e3;obtain⟨s0,q,y,z,D,E,F,G,H,sp,M⟩:=c;simp only at dm dD;go_enter func9,ntmps9;simp only[bw.v]at bD b6|-;go_wp2;go_step3;have a8:cV w (w.alloc (.cells #[.int .i64 s0,.slice q z.length y,.slice D F.length E,.slice G sp.length H,.int .i64 M] 26)) [.int .i64 s0,.slice q z.length y,.slice D F.length E,.slice G sp.length H,.int .i64 M]:=cV.start (t:=26) (aa.refl _);generalize fQ:World.alloc w _=gC at a8|-;have X:=a8.lt;have ad:=a8.at_ 0 _ rfl;have aI:=a8.at_ 1 _ rfl;have aJ:=a8.at_ 2 _ rfl;have aK:=a8.at_ 3 _ rfl;have aL:=a8.at_ 4 _ rfl;have a2:=lh a8.keep;have co:=lh ad;have cp:=lh aI;have cq:=lh aJ;have bH:=lh aK;have b9:=lh aL;clear fQ a8
 generalize fx:w.heap.size=bg at X ad aI aJ aK aL co cp cq bH b9|-;clear fx;go_wp2_with (go_at_call 28;refine ae ?_);refine uM (bD.o _ a2.o) ?_;rintro e h ⟨ax,rfl,bJ,ec,eb,eg,aB⟩;have dk:=lh ec;have di:=lh eb;have aZ:=lh eg;have U:=lh aB;clear ad aI aJ aK aL ec eb eg;have ad:=bE aB X co.o;have aI:=bE aB X cp.o;have aJ:=bE aB X cq.o;have aK:=bE aB X bH.o;have aL:=bE aB X b9.o;have gl:bg<h.heap.size:=block_lt_of_cell ad;clear aB bD;go_upto_region 4 with fail;go_cut [10]from 32 to 42 (λs10 wx=>∃I b gi Q,s10=.pointer (some ⟨I,0,none⟩)/\wx.cell? ⟨I,0,none⟩=some (.pointer (some ⟨b,0,none⟩))/\b≠I /\
  Hid (ak wx b 77 (fG (.slice A k n) (.int .i64 s0) (.slice q z.length y) (.slice D F.length E) (.slice G sp.length H) (.int .i64 M) (.slice (some ⟨ax,0,none⟩) rows.length rows.length) (.slice none 0 0) (.slice (some ⟨gi,0,none⟩) k k) (.slice (some ⟨Q,0,none⟩) k k) (.slice none 0 0))) /\
  Hid (ak wx gi 24 (List.replicate k (.slice none 0 0)))/\Hid (ak wx Q 3 (List.replicate k (.int .i64 0)))/\Hid (aa h wx)/\h.heap.size<=b/\h.heap.size<=I/\h.heap.size<=gi/\h.heap.size<=Q)
 case first =>
  go_region
  all_goals
   go_wp2_with fail;go_meet
   first
   | exact⟨_,h.heap.size+2,h.heap.size+0,h.heap.size+1,rfl,sG,oM,ef [_,_,_,_] h 2 _ rfl,ef [_,_,_,_] h 0 _ rfl,ef [_,_,_,_] h 1 _ rfl,kP,oM,oM,oM,oM⟩
   | exact⟨_,h.heap.size+2,h.heap.size+1,h.heap.size+0,rfl,sG,oM,ef [_,_,_,_] h 2 _ rfl,ef [_,_,_,_] h 1 _ rfl,ef [_,_,_,_] h 0 _ rfl,kP,oM,oM,oM,oM⟩
   | exact⟨_,h.heap.size+3,h.heap.size+0,h.heap.size+1,rfl,sG,oM,ef [_,_,_,_] h 3 _ rfl,ef [_,_,_,_] h 0 _ rfl,ef [_,_,_,_] h 1 _ rfl,kP,oM,oM,oM,oM⟩
   | exact⟨_,h.heap.size+3,h.heap.size+1,h.heap.size+0,rfl,sG,oM,ef [_,_,_,_] h 3 _ rfl,ef [_,_,_,_] h 1 _ rfl,ef [_,_,_,_] h 0 _ rfl,kP,oM,oM,oM,oM⟩
   | exact⟨_,h.heap.size+3,h.heap.size+0,h.heap.size+2,rfl,sG,oM,ef [_,_,_,_] h 3 _ rfl,ef [_,_,_,_] h 0 _ rfl,ef [_,_,_,_] h 2 _ rfl,kP,oM,oM,oM,oM⟩
   | exact⟨_,h.heap.size+3,h.heap.size+2,h.heap.size+0,rfl,sG,oM,ef [_,_,_,_] h 3 _ rfl,ef [_,_,_,_] h 2 _ rfl,ef [_,_,_,_] h 0 _ rfl,kP,oM,oM,oM,oM⟩
   | exact⟨_,h.heap.size+3,h.heap.size+1,h.heap.size+2,rfl,sG,oM,ef [_,_,_,_] h 3 _ rfl,ef [_,_,_,_] h 1 _ rfl,ef [_,_,_,_] h 2 _ rfl,kP,oM,oM,oM,oM⟩
   | exact⟨_,h.heap.size+3,h.heap.size+2,h.heap.size+1,rfl,sG,oM,ef [_,_,_,_] h 3 _ rfl,ef [_,_,_,_] h 2 _ rfl,ef [_,_,_,_] h 1 _ rfl,kP,oM,oM,oM,oM⟩
 case rest =>
  rename World=>w2;obtain⟨I,b,gi,Q,rfl,cE,cM,b5,aX,aY,b0,e6,gg,fy,fz⟩:=hcut;have aW:=lh cE;have fb:=lh (a2.o.trans (U.v b0));have b4:=lh (U.v b0);have bh:=b5.o.lt;have e7:=block_lt_of_cell cE;simp only at e7;have e9:=aX.o.lt;have ed:=aY.o.lt;have fY:=b0.o.size;clear ad aI aJ aK aL;have ad:=bE b4.o X co.o;have aI:=bE b4.o X cp.o;have aJ:=bE b4.o X cq.o;have aK:=bE b4.o X bH.o;have aL:=bE b4.o X b9.o;have gj:bg<w2.heap.size:=block_lt_of_cell ad;have gk:bg≠b:=oM;clear cE;go_wp2_with (go_at_call 29;refine ae ?_);refine uM (b6.o _ fb.o) ?_;rintro e gz ⟨v3,rfl,cO,eo⟩;obtain⟨d9,dU,rfl,_⟩:=cO.sl aO (by have:=dL.o;omega);have b1:=lh eo;have dc:=lh (cO.base_mono (lj _));clear eo cO ad aI aJ aK aL b6 fE fF;have a1:=(b1.o.cell (p:=⟨I,0,none⟩) e7).trans aW.o;have a0:=block_lt_of_cell a1;simp only at a0;go_wp2_with (go_at_call 30;refine ae ?_);refine uM (kL b w2.heap.size [] _ d9 dU (aS) _ (b5.o.keep b1.o) (ah.nil_ _ _ _ _ _) bh b1.o.size sP (λ_ a=>by cases a) dc.o) ?_;rintro e eI ⟨rfl,gq,e2,e0,e4,e5,fv⟩;have bF:=lh (show ag w2 eI [b]from(ag.keep b1.o [b]).trans2 e5 λi hi=>.inl (by simpa[Value.ownBlock]using hi));have dz:=lh e2;have bx:=lh e0;have cj:=lh e4;clear e2 e0 e4 e5 fv a1 a0 dc;have a1:=bF.o.cell aW.o (show I∉[b] by simp;exact λe=>cM e.symm)
  have a0:=block_lt_of_cell a1;simp only at a0;go_upto_region 7 with fail;generalize aH:([]++[⟨_,d9,dU,aS⟩]:List bI)=ct at bx cj;have du:=lh (show ct.map cI=[(⟨#[115,99,104,101,109,97]⟩,aS)]from aH▸rfl);have gm:ct.length=1:=aH▸rfl;have fO:IntKind.u32.wrap (rows.length:Int)=(rows.length:Int):=by have:=a7.o;simp[IntKind.wrap,IntKind.signed,IntKind.bits];omega
  clear aH;go_cut []from 52 to 57 (λwx=>∃aV bf,Hid (ak wx b 77 (fG (.slice A k n) (.int .i64 s0) (.slice q z.length y) (.slice D F.length E) (.slice G sp.length H) (.int .i64 M) (.slice (some ⟨ax,0,none⟩) rows.length rows.length) aV (.slice (some ⟨gi,0,none⟩) k k) (.slice (some ⟨Q,0,none⟩) k k) (.slice none 0 0)))/\Hid (eB wx w2.heap.size aV bf)/\Hid (eU wx bf) /\
   Hid (bf.map cI=[(⟨#[115,99,104,101,109,97]⟩,aS),(⟨#[114,111,119,115]⟩,le rows.length 4)])/\Hid (ag w2 wx [b]))
  case first =>
   have fd:=lh bF.o.size;go_region_with (first
    | (go_at_call 31
       refine(iQ none 0 [] rows.length (by have:=a7.o;omega) _ (Sl.nil_ _ dC) sP).mono ?_;rintro e gA ⟨v5,rfl,cP,bZ⟩;obtain⟨eK,fh,rfl,_⟩:=cP.sl aO (by simp[ay]);have eM:=lh (cP.base_mono (lj _));have aM:=lh (aa.trans (show aa eI _ from kP) bZ);have g4:=(aM.o.cell (p:=⟨I,0,none⟩) a0).trans a1;have cY:=block_lt_of_cell g4;simp only at cY;clear cP bZ)
    | (go_at_call 30
       refine(kL b w2.heap.size ct _ eK fh (le rows.length 4) _ (dz.o.keep (aM.o.trans kP)) (bx.o.keep (aM.o.trans kP)) bh (lk fd.o (aM.o.trans kP).size) oM (cj.o.keep (aM.o.trans kP)) (eM.o.keep kP)).mono ?_;rintro e gB ⟨rfl,aV,cz,cx,cB,cC,fw⟩))
   all_goals
    go_wp2_with fail;go_meet;exact⟨aV,_,cz.keep kP,cx.keep kP,cB.keep kP,(by show List.map _ _=_;rw[lz,du.o];rfl),((bF.o.keep_ (aM.o.trans kP)).trans2 cC λi hi=>by
     rw[ln,Lc]at hi
     rcases hi with a|a
     ·exact .inl (by simp[a])
     ·exact .inr (bx.o.lt _ a).1).keep_ kP⟩
  case rest =>
   rename World=>w7;obtain⟨aV,bf,dA,dy,dI,dv,aQ⟩:=hcut;have gn:1<=k:=(by rw[a6.o];exact au.o.may.lo);have ge:I≠gi:=λe=>by
    subst e;have:=aX.o.cell 0 _ (by rw[List.getElem?_replicate,if_pos oM]);rw[aW.o]at this
    cases this
   have gf:I≠Q:=λe=>by
    subst e;have:=aY.o.cell 0 _ (by rw[List.getElem?_replicate,if_pos oM]);rw[aW.o]at this
    cases this
   have ea:gi∉[b]:=λe=>row_ne aX.o b5.o dC (by simpa using e);have ee:Q∉[b]:=λe=>row_ne aY.o b5.o dC (by simpa using e);have cv:bJ.length=rows.length:=by
    have:=congrArg List.length aZ.o
    rwa [pS,ld,ld]at this
   obtain⟨_,_,fk,eA⟩:=dk.o.sl (λr=>rfl) (by rw[cv];have:=a7.o;omega);injection fk with eg1 eg2 eg3;subst eg1;subst eg3;have dK:=lh (λW (hW:aa h W)=>eA.keep hW);have dE:=lh (λW (hW:aa h W)=>(show dG W bJ from λr bk=>((di.o r bk).keep hW).sl (by
    have:r.vs∈dj s0 (rows.map (·.vs)):=aZ.o▸Le bk;rw[pR]at this;obtain⟨g1,fH,e⟩:=lW.1 this;have:=f3.o g1 fH;rw[<-e];omega)))
   have dM:=lh (show gh w7 w2.heap.size b gi Q k (λa5 av=>fG (.slice A k n) (.int .i64 s0) (.slice q z.length y) (.slice D F.length E) (.slice G sp.length H) (.int .i64 M) (.slice (some ⟨ax,0,none⟩) rows.length rows.length) a5 (.slice (some ⟨gi,0,none⟩) k k) (.slice (some ⟨Q,0,none⟩) k k) av) cs ⟨s0,q,y,z,D,E,F,G,H,sp,M⟩ (dj s0 (rows.map (·.vs))) [(⟨#[115,99,104,101,109,97]⟩,aS),(⟨#[114,111,119,115]⟩,le rows.length 4)] 0 aV (.slice none 0 0) bf [] (List.replicate k (.slice none 0 0)) (List.replicate k (.int .i64 0)) from
    ⟨dA.o,aQ.o.row aX.o ea,aQ.o.row aY.o ee,sP,sP,dy.o,dI.o,ah.nil_ _ _ _ _ _,(λ_ a=>(by cases a)),rfl,by rw[dv.o];rfl,λj ek=>absurd ek (lI _)⟩)
   have dn:=lh (ag.after b0.o aQ.o (λi hi=>by simp at hi;omega));have dd:=lh (aQ.o.cell aW.o (show I∉[b] by simp;exact λe=>cM e.symm));have cb:=lh fY;have eP:=lh aQ.o.size;have aP:=lh cv;clear ea ee cv eA eg2 dA dy dI dv aQ dz bx cj bF du fO a1 a0 dk di aX aY b5 b1 b0;have dO:=lh (fL.keep (a2.v U));have fa:=lh (fM.keep (a2.v U));generalize gd:w2.heap.size=base at *;go_wp2;go_step3;go_wp2;go_loopw [60] (λva wr=>∃(i:Nat) (a5 av:Value) (S:List bI) (L:List Ir) (vi c6:List Value),va=.int .i64 i/\i<=k/\Hid (gh wr base b gi Q k (λa5 av=>fG (.slice A k n) (.int .i64 s0) (.slice q z.length y) (.slice D F.length E) (.slice G sp.length H) (.int .i64 M) (.slice (some ⟨ax,0,none⟩) rows.length rows.length) a5 (.slice (some ⟨gi,0,none⟩) k k) (.slice (some ⟨Q,0,none⟩) k k) av) cs ⟨s0,q,y,z,D,E,F,G,H,sp,M⟩ (dj s0 (rows.map (·.vs))) [(⟨#[115,99,104,101,109,97]⟩,aS),(⟨#[114,111,119,115]⟩,le rows.length 4)] i a5 av S L vi c6)/\Hid (aa h wr)/\Hid (wr.cell? ⟨I,0,none⟩=some (.pointer (some ⟨b,0,none⟩)))/\Hid (base<=wr.heap.size)) (λva _=>k-(intOf va).toNat)
   case atStart=>exact⟨0,_,_,_,_,_,_,rfl,lj _,dM.o,dn.o,dd.o,eP.o⟩
   case round =>
    clear dM dn dd;obtain⟨i,a5,av,S,L,vi,c6,rfl,hi,o,a4,af,de⟩:=hrel
    by_cases c2:i<k
    ·
     have bQ:=(a2.v U).trans a4.o;have eS:=lh (ds.o.keep bQ);have a1:=af.o;have a0:=block_lt_of_cell a1;simp only at a0;have cF:=wI A n cs (i:Int) wr eS.o;rw[<-a6.o]at cF;have df:=lh cF;clear cF bQ;go_wp2_with (go_at_call 32;refine ae ?_);refine uM df.o ?_;rintro e a3 ⟨rfl,aD⟩;have l:=lh (o.o.keep aD);have O:=a4.u aD;have bm:=lk de.o aD.size;have c7:=(aD.cell (p:=⟨I,0,none⟩) a0).trans a1;have cX:=block_lt_of_cell c7;simp only at cX;have dP:=lh c7;have bY:=l.o.few;simp only[lw,lB]at bY;clear aD a1 a0 o a4 af df
     cases hd:bR cs (i:Int) with
     | false =>
       have cN:=KX b base S L (some ⟨ax,0,none⟩) rows.length i bJ a3 (by rw[aP.o];exact l.o.row) (by have:=dK.o a3 O.o;exact this) (dE.o a3 O.o) (by rw[aP.o];have:=a7.o;omega) l.o.sec l.o.so l.o.mt l.o.mr bh bm oM oM h O.o e6 dO.o oM;rw[aP.o,aZ.o]at cN;have dx:=lh cN;have cd:=lh hd;clear cN hd;go_wp2_with (go_at_call 33;refine ae ?_);refine uM dx.o ?_;rintro e d5 ⟨rfl,g0,g7,d8,dT,gs,ao,ap,aq,ar,ab,bq,ac⟩;have cn:=lh ac;have cm:=lh (l.o.number cd.o ao ap aq ar ab bq ac);have aA:∀x∈b::(a5.ownBlock.toList++av.ownBlock.toList),x=b\/base<=x:=λx hx=>by
            simp only[ln,lx,Lc]at hx
            rcases hx with a|a|a
            ·exact .inl a
            ·exact .inr (l.o.sec.lt x a).1
            ·exact .inr (l.o.mt.lt x a).1
       have b2:=lh (ag.after O.o ac λx hx=>by rcases aA x hx with a|a<;>omega);have cr:=lh (ac.cell dP.o (λhx=>by rcases aA I hx with a|a<;>omega));have ba:=lh (lk bm ac.size);clear ao ap aq ar ab bq ac aA c7 cX dx l O;go_wp2;go_roundw
       case rel=>exact⟨i+1,_,_,_,_,_,_,by go_num,oM,cm.o,b2.o,cr.o,ba.o⟩
       case measure=>simp[intOf];omega
     | true =>
       have cJ:i<cs.length:=(by rw[<-a6.o];exact c2);have bS:=(a2.v U).trans O.o;have fS:w.heap.size<=h.heap.size:=(a2.v U).size;have cG:=MH b base gi Q S cs A (some ⟨ax,0,none⟩) n rows.length i bJ s0 q D y E z F vi c6 a3 (ds.o.keep bS) (dK.o a3 O.o) (dE.o a3 O.o) (by rw[aP.o];exact a7.o) (cc.o.i.keep bS) (cc.o.r.keep bS) cJ oM (by rw[<-a6.o,l.o.li,l.o.lq,aP.o];exact l.o.row) l.o.ri l.o.rq (by rw[l.o.li];exact c2) (by rw[l.o.lq];exact c2) l.o.sec l.o.so bh e9 ed bm oM h O.o ⟨e6,fy,fz⟩ dO.o fa.o (by rw[aZ.o];exact xR s0 f7.o i cJ)
            (λbb off e=>by have bP:=dm.o bb off e;have az:=cb.o;exact⟨sO,oM⟩) (λbb off e=>by have bP:=dD.o bb off e;have az:=cb.o;exact⟨sO,oM⟩)
       rw[aP.o,aZ.o,l.o.li,l.o.lq,<-a6.o]at cG;have dg:=lh cG;have cd:=lh hd;have eQ:=lh (show cs.getD i default=cs[i] by rw[L9,lu cJ];rfl);clear cG hd bS fS;go_wp2_with (go_at_call 34;refine ae ?_);refine uM dg.o ?_;rintro e d5 ⟨rfl,g0,g8,g9,ao,ap,⟨gc,gb,aq⟩,ar,ab,bq,ac,eH,br⟩;have Z:(dj s0 (rows.map (·.vs))).length=rows.length:=(by rw[pS,ld]);have cm:=lh (l.o.dim cd.o c2 e9 ed bm ao ap (by rw[Z];exact aq) ar ab bq ac (by rw[eH,eQ.o,Z]) br);have aA:∀x∈b::gi::Q::a5.ownBlock.toList,x=b\/x=gi\/x=Q\/base<=x:=λx hx=>by
            simp only[ln,Lc]at hx
            rcases hx with a|a|a|a
            ·exact .inl a
            ·exact .inr (.inl a)
            ·exact .inr (.inr (.inl a))
            ·exact .inr (.inr (.inr (l.o.sec.lt x a).1))
       have b2:=lh (ag.after O.o br λx hx=>by rcases aA x hx with a|a|a|a<;>omega);have cr:=lh (br.cell dP.o (λhx=>by rcases aA I hx with a|a|a|a<;>omega));have ba:=lh (lk bm br.size);clear ao ap aq ar ab bq ac eH br aA c7 cX dg l O Z;go_wp2;go_roundw
       case rel=>exact⟨i+1,_,_,_,_,_,_,by go_num,oM,cm.o,b2.o,cr.o,ba.o⟩
       case measure=>simp[intOf];omega
    ·have ei:i=k:=oM;have bY:=o.o.few;simp only[lw,lB]at bY;have d6:=bE (U.v a4) X bH.o;have cH:=block_lt_of_cell d6;simp only at cH;have a1:=af.o;have a0:=block_lt_of_cell a1;simp only at a0;have Z:(dj s0 (rows.map (·.vs))).length=rows.length:=by rw[pS,ld]
     by_cases c5:sp=[]
     ·subst c5;have aH:S.map cI=dq cs ⟨s0,q,y,z,D,E,F,G,H,[],M⟩ (dj s0 (rows.map (·.vs))):=by
            rw[o.o.nb,ei,a6.o];simp only[dq,if_true,lT];rw[dJ.o,Z]
      have eT:=lh aH;obtain⟨ca,al,rfl,bl⟩:=o.o.sec.sl nB oM;have cl:=lh bl;have ai:=lh (ck.o S aH);have bB:=lh (o.o.so.at_ λs hs=>by
            obtain⟨d2,cS,rfl⟩:=lU hs;have:=ai.o.small d2 cS;omega)
      have g3:=o.o.row.cell 7 _ rfl;have fs:=o.o.row.lt;have b3:=lh ((a2.v U).trans a4.o);clear bl aH Z;go_wp2_with (go_at_call 38;refine ae ?_);refine uM (write_any ca al S _ cl.o bB.o ai.o) ?_;rintro e g2 ⟨v,rfl,bj,bi⟩;have cf:=b3.u bi;have cg:=lh (bj.base_mono (base':=w.heap.size) b3.o.size);clear bj bi;go_wp2;rw[Exit.noGoto_ret];exact bodyPost_ret (v:=.tuple #[v,.int .i64 0]) (by simp[results,results9,go_sem]) rfl ⟨v,S,rfl,eT.o,ai.o,cg.o,cf.o⟩
     ·have fI:1<=sp.length:=LJ.2 c5;have cU:sp.length<=8:=au.o.few;rw[ei]at o;obtain⟨J,cu,eC,ej,eF,cQ⟩:=o.o.split a6.o au.o (by rw[Z];exact a7.o) c5;rw[Z]at cQ;have f6:=lh eC;have eR:=lh ej;have fc:=lh eF;have eX:=lh cQ;clear eC ej eF cQ;go_upto_region 18 with fail;obtain⟨T,fR⟩:∃T,T=wr:=⟨_,rfl⟩;subst fR;have c8:=bE (U.v a4) X b9.o;go_upto_region 21 with fail;obtain⟨bO,aU⟩:∃g,g=T.heap.size:=⟨_,rfl⟩;obtain⟨bL,aT⟩:∃g,g=T.heap.size+1:=⟨_,rfl⟩;have cA:ak ((T.alloc (.cells #[.slice none 0 0] 49)).alloc (.cells #[.slice none 0 0] 24)) bO 49 [.slice none 0 0]:=(by rw[aU];exact ef [_,_] T 0 _ rfl);have cw:ak ((T.alloc (.cells #[.slice none 0 0] 49)).alloc (.cells #[.slice none 0 0] 24)) bL 24 [.slice none 0 0]:=(by rw[aT];exact ef [_,_] T 1 _ rfl);have c0:aa T ((T.alloc (.cells #[.slice none 0 0] 49)).alloc (.cells #[.slice none 0 0] 24)):=kP;have bn:((T.alloc (.cells #[.slice none 0 0] 49)).alloc (.cells #[.slice none 0 0] 24)).heap.size=T.heap.size+2:=sG;have dV:T.heap.size=bO:=aU.symm;have dW:T.heap.size+1=bL:=aT.symm;have dl:=lh aU;have dh:=lh aT;generalize fP:World.alloc (World.alloc T _) _=bs at cA cw c0 bn|-;rw[dW,dV]at|-;have dF:=lh cA;have dt:=lh cw;have dr:=lh c0;have dR:=lh bn;have z3:=(c0.cell (p:=⟨bg,3,none⟩) cH).trans d6;have fA:bg<bs.heap.size:=block_lt_of_cell z3
      clear fP cA cw c0 bn dV dW aU aT c8 d6 cH a1 a0;go_wp2;go_loopw [85] (λva wr=>∃(j:Nat) (bu bt:Option Addr) (bK al:Nat),va=.int .i64 j/\j<=sp.length/\Hid (ak wr bO 49 [.slice bu j bK])/\Hid (ak wr bL 24 [.slice bt j al])/\Hid (pz wr bs.heap.size (.slice bu j bK) (J.take j))/\Hid (qM wr bs.heap.size (.slice bt j al) ((f5 ⟨s0,q,y,z,D,E,F,G,H,sp,M⟩ (dj s0 (rows.map (·.vs)))).take j))/\Hid (aa T wr)/\Hid (bs.heap.size<=wr.heap.size)) (λva _=>sp.length-(intOf va).toNat)
      case atStart=>exact⟨0,none,none,0,0,rfl,lj _,dF.o,dt.o,ah.nil_ _ _ _ _ _,ah.nil_ _ _ _ _ _,dr.o,lc _⟩
      case round =>
            clear dF dt dr z3 fA;obtain⟨j,bu,bt,bK,al,rfl,ek,ci,ch,bA,bz,V,dQ⟩:=hrel
            by_cases em:j<sp.length
            ·have bT:J.length=sp.length:=cu;have el:j<J.length:=oM;obtain⟨p,c4,et,eD,eE,er⟩:=f6.o j em el;have bQ:aa w wr:=((a2.v U).trans a4.o).trans V.o;have fJ:Sl wr 1 bM G H sp:=cc.o.s.keep bQ;obtain⟨ga,gr,ex,ft,e8⟩:=eZ fJ j em;have es:sp[j]=(p:Int):=c4;rw[es]at e8;obtain⟨en,eq⟩:=Lw.1 er;have c1:(J.take j).length=j:=(by rw[lD];omega);have c3:((f5 ⟨s0,q,y,z,D,E,F,G,H,sp,M⟩ (dj s0 (rows.map (·.vs)))).take j).length=j:=(by rw[lD];omega);have bn:=dR.o;have aU:=dl.o;have aT:=dh.o;have cD:=add_any b I bO bL gi Q bs.heap.size p k k (J.take j) ((f5 ⟨s0,q,y,z,D,E,F,G,H,sp,M⟩ (dj s0 (rows.map (·.vs)))).take j) bu bt bK al J[j] _ vi c6 wr (o.o.row.keep V.o) ((V.o.cell (p:=⟨I,0,none⟩) (block_lt_of_cell af.o)).trans af.o)
              (by rw[c1];exact ci.o) (by rw[c3];exact ch.o) (o.o.ri.keep V.o) (o.o.rq.keep V.o) et et eD eE (by rw[c1];exact bA.o) (by rw[c3];exact bz.o)
              (by
                have bP:=o.o.row.lt;have az:=o.o.ri.lt;have dX:=o.o.rq.lt;have fl:=block_lt_of_cell af.o;simp only at fl;omega) dQ.o oM oM oM (by have az:=o.o.ri.lt;omega)
             rw[c1,c3]at cD;have db:=lh cD;have f8:=lh (show J.take (j+1)=J.take j++[J[j]]from ly el);have cW:=ly en;rw[eq]at cW;have f9:=lh cW;have bB:=lh ex;clear cD c1 c3 cW eq en c4 es eD eE er bn aU aT bT;subst ex;go_wp2_with (go_at_call 35;refine ae ?_);refine uM db.o ?_;rintro e d5 ⟨rfl,d8,dT,eJ,fg,ao,ap,aq,ar,ab⟩;have eY:=lh ao;have f0:=lh ap;have f1:=lh aq;have f2:=lh ar;have b2:=lh (ag.after V.o ab λx hx=>by
              have bP:=dR.o;have az:=dl.o;have dX:=dh.o;simp only[ln,lx,Lc]at hx
              rcases hx with a|a|a|a
              ·omega
              ·omega
              ·have:=(bA.o.lt x a).1;omega
              ·have:=(bz.o.lt x a).1;omega)
             have ba:=lh (lk dQ.o ab.size);clear ao ap aq ar ab db e8 ft;go_wp2;go_roundw
             case rel=>exact⟨j+1,d8,eJ,dT,fg,by go_num,oM,eY.o,f0.o,(by show pz _ _ _ _;rw[f8.o];exact f1.o),(by show qM _ _ _ _;rw[f9.o];exact f2.o),b2.o,ba.o⟩
             case measure=>simp[intOf];omega
            ·have fC:j=sp.length:=oM;subst fC;have bT:J.length=sp.length:=cu;have dY:(f5 ⟨s0,q,y,z,D,E,F,G,H,sp,M⟩ (dj s0 (rows.map (·.vs)))).length=sp.length:=(by simp[f5]);have fT:=ci.o.cell 0 _ rfl;have fU:=ch.o.cell 0 _ rfl;have cY:=ci.o.lt;have fV:=ch.o.lt;rw[show J.take sp.length=J by rw[<-bT];exact lC]at bA;rw[show(f5 ⟨s0,q,y,z,D,E,F,G,H,sp,M⟩ (dj s0 (rows.map (·.vs)))).take sp.length=f5 ⟨s0,q,y,z,D,E,F,G,H,sp,M⟩ (dj s0 (rows.map (·.vs))) by rw[<-dY];exact lC]at bz;obtain⟨C,fi,fn⟩:=bp o.o.mt;subst fn;obtain⟨leaf,fD⟩:∃leaf:Nat,M=(leaf:Int):=⟨M.toNat,by have:=au.o.lo;simp only at this;omega⟩;have cK:1<=leaf:=(by have:=au.o.lo;simp only at this;omega);have fB:leaf<=1000000:=(by have:=au.o.hi;simp only at this;omega);subst fD;have b7:=lh (λW (hW:aa wr W)=>o.o.sof cu eR.o (by rw[Z];exact eX.o) oM (by rw[Z];exact a7.o) rfl (V.o.trans hW) (bA.o.keep hW) (bz.o.keep hW) au.o.few cK fB rfl);rw[Z]at b7;dsimp only at b7;have d7:=(V.o.cell (p:=⟨I,0,none⟩) (block_lt_of_cell af.o)).trans af.o;have cZ:=block_lt_of_cell d7;simp only at cZ;have g5:=(o.o.row.keep V.o).cell 10 _ rfl;have fW:=(o.o.row.keep V.o).lt;have c8:=bE ((U.v a4).trans V.o) X b9.o;have eG:=block_lt_of_cell c8;simp only at eG;clear dY bT;go_upto_region 26 with fail
             have b8:=lh (yo (leaf:=leaf) fc.o (by rw[<-a6.o];exact o.o.mx) rfl Z rfl);have bv:=lh (sR leaf sp.length cK cU (bN (bV J L rows.length)) (lk (qX a7.o) dC));have dp:=lh (C4 leaf sp.length cK cU (bN (bV J L rows.length)) (qX a7.o));have ce:=lh (show S.map cI++[(⟨#[115,116,97,114]⟩,iJ cs ⟨s0,q,y,z,D,E,F,G,H,sp,leaf⟩ (dj s0 (rows.map (·.vs))))]=dq cs ⟨s0,q,y,z,D,E,F,G,H,sp,leaf⟩ (dj s0 (rows.map (·.vs))) by
              rw[o.o.nb,a6.o];simp only[dq];rw[if_neg c5,dJ.o,Z])
             have dN:=lh (show(iJ cs ⟨s0,q,y,z,D,E,F,G,H,sp,leaf⟩ (dj s0 (rows.map (·.vs)))).length<=1073741824 by
              have a:=ck.o (S++[⟨⟨#[115,116,97,114]⟩,none,0,iJ cs ⟨s0,q,y,z,D,E,F,G,H,sp,leaf⟩ (dj s0 (rows.map (·.vs)))⟩]) (by rw[lz];exact ce.o);have az:=a.small S.length sP
              simpa using az)
             dsimp only at b8;generalize iJ cs ⟨s0,q,y,z,D,E,F,G,H,sp,leaf⟩ (dj s0 (rows.map (·.vs)))=dS at b8 ce dN;generalize fr:(bC leaf sp.length 0 0 (bN (bV J L rows.length)).length false (bN (bV J L rows.length)) 0).1=bd at b7 b8 bv;generalize fp:(bC leaf sp.length 0 0 (bN (bV J L rows.length)).length false (bN (bV J L rows.length)) 0).2=bc at b7 b8 bv dp;clear fr fp;go_cut [20,21]from 93 to 105 (λs20 s21 wx=>Hid (nV sp.length L.length leaf bd bc s20 wx)/\s21=.int .i64 0/\Hid (aa wr wx))
             case first =>
              refine zN 14 kR ?_;simp only[lX,lR,lZ,L4]
              repeat
               refine aR (λK hK=>?_);go_simp
               first
               | (refine hK _ _ ?_;clear hK K)
               | (apply Exists.intro
                  refine⟨λp=>?_,hK _ _ ?_⟩
                  (fail)
                  clear hK K)
              refine bW 102 (QV sp.length L.length leaf bd bc) rfl QV.mono ?_ ?_
              ·intro p;simp only[aj,aC,Lr];go_simp;go_at_call 36;have bZ:aa wr (wr.gro p):=aa.gro (aa.refl _) _;refine(b7.o _ bZ).mono ?_;rintro e a3 ⟨R,d4,d3,P,N,rfl,Y,fq,fo,aD⟩;exact⟨_,rfl,⟨R,rfl,_,d4,d3,P,N,Y,fq,fo⟩,aD⟩
              simp only[aF,Lr];refine bW 93 (QV sp.length L.length leaf bd bc) rfl QV.mono ?_ ?_
              ·refine pY (d:=102) (by rfl) (λp v hv=>?_);obtain⟨R,rfl,Y⟩:=hv;rw[if_pos (by rfl)];go_simp
               (first|exact⟨⟨R,rfl,Y⟩,aa.refl _⟩|exact⟨R,⟨rfl,Y⟩,aa.refl _⟩|exact⟨R,rfl,Y⟩|exact 0)
              refine bW 103 (nV sp.length L.length leaf bd bc) rfl nV.mono ?_ ?_
              ·refine pY (d:=93) (by rfl) (λp v hv=>?_);obtain⟨R,rfl,Y⟩:=hv;rw[if_pos (by rfl)];go_simp
               (first|exact⟨⟨R,rfl,Y⟩,aa.refl _⟩|exact⟨R,⟨rfl,Y⟩,aa.refl _⟩|exact⟨R,rfl,Y⟩|exact 0)
              refine bW 104 (λu _=>u=.int .i64 0) rfl (λ_ _ _ _ a=>a) ?_ ?_
              ·refine pY (d:=93) (by rfl) (λp v hv=>?_);obtain⟨R,rfl,Y⟩:=hv;rw[if_pos (by rfl)];go_simp
              refine bW 20 (nV sp.length L.length leaf bd bc) rfl nV.mono ?_ ?_
              ·refine pY (d:=103) (by rfl) (λp v hv=>?_);obtain⟨R,rfl,Y⟩:=hv;rw[if_pos (by rfl)];go_simp
               (first|exact⟨⟨R,rfl,Y⟩,aa.refl _⟩|exact⟨R,⟨rfl,Y⟩,aa.refl _⟩|exact⟨R,rfl,Y⟩|exact 0)
              refine bW 21 (λu _=>u=.int .i64 0) rfl (λ_ _ _ _ a=>a) ?_ ?_
              ·refine pY (d:=104) (by rfl) (λp v hv=>?_);subst hv;rw[if_pos (by rfl)];go_simp
              refine bG ?_;intro p;simp only[aj];rintro gw rfl v20 fN gv _ gu _ gx _ gt _;go_simp;go_wp2_with fail;go_meet;exact⟨fN,rfl,aa.gro (aa.refl _) _⟩
             case rest =>
              rename World=>a3;obtain⟨dH,rfl,O⟩:=hcut;obtain⟨R,rfl,lo,d4,d3,P,N,ey,cy,bU⟩:=dH.o;have e1:P.length<=1000000:=(by rw[<-ld (f:=λp:Rc×Star.SR=>p.2),cy];exact bv.o.1);have dZ:N.length<=1000000:=(by rw[<-ld (f:=λp:Nc×Star.SN=>p.2),bU];exact bv.o.2);have fm:L.length<=256:=(by have:=bY.2;omega);have eN:=lh (λW (hW:aa a3 W)=>by
               have a:=GQ R lo sp.length L.length leaf d4 d3 P N W (ey.keep hW) fI cU fm e1 dZ (λp c4=>dp.o p.2 (by rw[<-bU];exact Le c4));rw[cy,bU,b8.o]at a;exact a)
              have l:=lh (o.o.keep (V.v O));clear dH ey cy bU e1 dZ c8 eG g5 fW fT fU cY fV;have c9:=(O.o.cell (p:=⟨I,0,none⟩) cZ).trans d7;have d0:=block_lt_of_cell c9;simp only at d0;clear d7 cZ;go_upto_region 29 with fail;go_cut []from 108 to 112 (λwx=>∃bo aw,Hid (ak wx b 77 (fG (.slice A k n) (.int .i64 s0) (.slice q z.length y) (.slice D F.length E) (.slice G sp.length H) (.int .i64 leaf) (.slice (some ⟨ax,0,none⟩) rows.length rows.length) bo (.slice (some ⟨gi,0,none⟩) k k) (.slice (some ⟨Q,0,none⟩) k k) (.slice C L.length fi)))/\Hid (eB wx base bo aw)/\Hid (eU wx aw)/\Hid (aw.map cI=S.map cI++[(⟨#[115,116,97,114]⟩,dS)])/\Hid (ag a3 wx (b::a5.ownBlock.toList)))
              case first =>
               have fe:=lh (lk de.o (V.v O).size);go_region_with (first
                | (go_at_call 37
                   refine(eN.o _ kP).mono ?_;rintro e gD ⟨gy,rfl,cR,ep⟩;obtain⟨eL,fj,rfl,_⟩:=cR.sl aO (by have:=dN.o;omega);have eO:=lh (cR.base_mono (lj _));have aN:=lh (aa.trans (show aa a3 _ from kP) ep);have g6:=(aN.o.cell (p:=⟨I,0,none⟩) d0).trans c9;have fX:=block_lt_of_cell g6;simp only at fX;clear cR ep)
                | (go_at_call 30
                   refine(kL b base S _ eL fj dS _ (l.o.row.keep (aN.o.trans kP)) (l.o.sec.keep (aN.o.trans kP)) bh (lk fe.o (aN.o.trans kP).size) oM (l.o.so.keep (aN.o.trans kP)) (eO.o.keep kP)).mono ?_;rintro e gE ⟨rfl,bo,cz,cx,cB,cC,fw⟩))
               all_goals
                go_wp2_with fail;go_meet;exact⟨bo,_,cz.keep kP,cx.keep kP,cB.keep kP,(by show List.map _ _=_;rw[lz];rfl),((ag.keep (aN.o.trans kP) (b::a5.ownBlock.toList)).trans cC).keep_ kP⟩
              case rest =>
               rename World=>d5;obtain⟨bo,aw,dB,eW,f4,eV,cn⟩:=hcut;have dw:=lh (eV.o.trans ce.o);have ai:=lh (ck.o aw dw.o);have gp:=ai.o.few;obtain⟨ca,al,rfl,bl⟩:=eW.o.sl nB oM;have cl:=lh bl;have bB:=lh (f4.o.at_ λs hs=>by
                obtain⟨d2,cS,rfl⟩:=lU hs;have:=ai.o.small d2 cS;omega)
               have g3:=dB.o.cell 7 _ rfl;have fs:=dB.o.lt;have z9:=cn.o.cell c9 (λhx=>by
                simp only[ln,Lc]at hx
                rcases hx with a|a
                ·exact cM a.symm
                ·have:=(l.o.sec.lt I a).1;omega)
               have fZ:=block_lt_of_cell z9;simp only at fZ;have b3:=lh (ag.after ((((a2.v U).trans a4.o).trans V.o).trans O.o) cn.o (λx hx=>by
                have bP:=(a2.v U).size;have az:=a4.o.size;have dX:=cb.o;simp only[ln,Lc]at hx
                rcases hx with a|a
                ·omega
                ·have:=(l.o.sec.lt x a).1;omega))
               clear bl c9 d0;go_wp2_with (go_at_call 38;refine ae ?_);refine uM (write_any ca al aw _ cl.o bB.o ai.o) ?_;rintro e g2 ⟨v,rfl,bj,bi⟩;have cf:=b3.u bi;have cg:=lh (bj.base_mono (base':=w.heap.size) b3.o.size);clear bj bi;go_wp2;rw[Exit.noGoto_ret];exact bodyPost_ret (v:=.tuple #[v,.int .i64 0]) (by simp[results,results9,go_sem]) rfl ⟨v,aw,rfl,dw.o,ai.o,cg.o,cf.o⟩
noncomputable def fq(cs:List aG)(c:bw)(rows:List (List ai)):Int:=if pB (Fits cs c)=true then da cs rows else 2
theorem rh(cs:List aG)(rows:List (List ai)):da cs rows=0\/da cs rows=2\/da cs rows=3\/da cs rows=9:=by
 unfold da
 split<;>(try split)<;>(try split)<;>(try split)<;>simp
theorem F8(A B:Option Addr)(n m:Nat)(cs:List aG)(c:bw)(rows:List Rw)(w:World)(d:Sl w 2 aG.cells A n cs)(y:∀x∈cs,x.name.size<=140737488355328)(G:ff w c)
 (o:Sl w 1 Rw.cells B m rows) (p:dG w rows) (he:fq cs c (rows.map (·.vs))≠0) :
 Rt 28 #[.slice A cs.length n,c.v,.slice B rows.length m] w (.tuple #[.slice none 0 0,.int .i64 (fq cs c (rows.map (·.vs)))]):=by
 have f:=lh (λW (hW:aa w W)=>fits_any A n cs c W (d.keep hW) y (G.keep hW));have g:=lh (λW (hW:aa w W)=>uh A B n m cs rows W (d.keep hW) y (o.keep hW) (p.keep hW));have q:=rh cs (rows.map (·.vs));unfold fq at he|-;generalize da cs (rows.map (·.vs))=t at q he g|-;generalize Q:pB (Fits cs c)=P at he f|-;clear Q;obtain⟨s0,s,H,l,r,C,K,D,J,sp,L⟩:=c;simp only[bw.v];clear d G o p;go_enter func28,ntmps28;go_upto_region 1 with fail;have a:cV w (w.alloc (.cells #[.int .i64 s0,.slice s l.length H,.slice r K.length C,.slice D sp.length J,.int .i64 L] 26)) [.int .i64 s0,.slice s l.length H,.slice r K.length C,.slice D sp.length J,.int .i64 L]:=cV.start (t:=26) (aa.refl _);generalize M:World.alloc w _=T at a|-;have N:=a.lt;have E:=a.at_ 0 _ rfl;have i:=a.at_ 1 _ rfl;have F:=a.at_ 2 _ rfl;have z:=a.at_ 3 _ rfl;have k:=a.at_ 4 _ rfl;have h:=lh a.keep;clear M a;generalize w.heap.size=R at N E i F z k|-;go_wp2_with (go_at_call 55;refine ae ?_);refine uM (f.o _ h.o) ?_;rintro e S ⟨rfl,j⟩;have b:=h.u j;clear E i F z k f j
 cases P
 ·go_wp2;exact bodyPost_ret (v:=.tuple #[.slice none 0 0,.int .i64 2]) (by simp[results,results28,go_sem]) rfl ⟨rfl,b.o⟩
 ·rw[if_pos rfl]at he;go_wp2_with (go_at_call 59;refine ae ?_);refine uM (g.o _ b.o) ?_;rintro e U ⟨rfl,I⟩;have O:=b.u I;clear I g
  rcases q with rfl|rfl|rfl|rfl
  ·exact absurd rfl he
  all_goals
   go_wp2;exact bodyPost_ret (v:=.tuple #[.slice none 0 0,.int .i64 _]) (by simp[results,results28,go_sem]) rfl ⟨rfl,O.o⟩
theorem Qe(cs:List aG)(c:bw)(A B:Option Addr)(n m:Nat)(rows:List Rw)(w:World)(b:Sl w 2 aG.cells A n cs)(q:∀x∈cs,x.name.size<=140737488355328)
 (y:ff w c) (j:Sl w 1 Rw.cells B m rows) (k:dG w rows) (he:fq cs c (rows.map (·.vs))≠0) :
 Rt 9 #[.slice A cs.length n,c.v,.slice B rows.length m] w (.tuple #[.slice none 0 0,.int .i64 (fq cs c (rows.map (·.vs)))]):=by
 have d:=lh (λW (hW:aa w W)=>F8 A B n m cs c rows W (b.keep hW) q (y.keep hW) (j.keep hW) (k.keep hW) he);have l:fq cs c (rows.map (·.vs))=2\/fq cs c (rows.map (·.vs))=3\/fq cs c (rows.map (·.vs))=9:=by
  have:=rh cs (rows.map (·.vs));unfold fq at he|-
  split at he
  ·rename_i hq;rw[if_pos hq]
   rcases this with b|b|b|b
   ·exact absurd b he
   all_goals simp[b]
  ·rename_i hq;rw[if_neg hq];exact .inl rfl
 generalize fq cs c (rows.map (·.vs))=t at l he d|-;clear b q y j k;obtain⟨s0,p,E,i,o,s,H,z,G,sp,I⟩:=c;simp only[bw.v]at d|-;go_enter func9,ntmps9;go_wp2;go_step3;have a:cV w (w.alloc (.cells #[.int .i64 s0,.slice p i.length E,.slice o H.length s,.slice z sp.length G,.int .i64 I] 26)) [.int .i64 s0,.slice p i.length E,.slice o H.length s,.slice z sp.length G,.int .i64 I]:=cV.start (t:=26) (aa.refl _);generalize J:World.alloc w _=N at a|-;have K:=a.lt;have C:=a.at_ 0 _ rfl;have g:=a.at_ 1 _ rfl;have D:=a.at_ 2 _ rfl;have r:=a.at_ 3 _ rfl;have h:=a.at_ 4 _ rfl;have f:=lh a.keep;clear J a;generalize w.heap.size=M at K C g D r h|-;go_wp2_with (go_at_call 28;refine ae ?_);refine uM (d.o _ f.o) ?_;rintro e O ⟨rfl,F⟩;have L:=f.u F;clear F C g D r h d
 rcases l with rfl|rfl|rfl
 all_goals
  go_wp2;rw[Exit.noGoto_ret];exact bodyPost_ret (v:=.tuple #[.slice none 0 0,.int .i64 _]) (by simp[results,results9,go_sem]) rfl ⟨rfl,L.o⟩
end Go.Proofs.YtpkocnpamcchcaaGreatDoor
