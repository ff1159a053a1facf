/- Parts. -/
import Derived.Test.YtpkocnpamcchcaaGreatDoorL44
set_option maxRecDepth 100000
set_option maxHeartbeats 40000000
set_option linter.all false
namespace Go.Proofs.YtpkocnpamcchcaaGreatDoor
open Go.RowKit Go.Zone Go.Shelf Tryz Go.Roa Go.Star Go.Sym
theorem mN:dX prog 27 56 1 24:=by
 obtain⟨i,hi,c,a,b⟩:=info_parts (show(prog.info? 56).map (λi=>(i.zero,i.size,i.bytes))=some (some (.slice none 0 0),1,24) from kR);exact⟨i,_,underlying27,hi,c,a,b,rfl,dC,dC⟩
theorem i8(x:Rw):x.cells.length=1:=rfl
theorem mC(x:Rw):∀u∈x.cells,u.oneCell'=true:=by simp[Rw.cells,Value.oneCell']
theorem Hy{w:World}{c:Nat}{A:Option Addr}{xs:List Rw}(d:Sl w 1 Rw.cells A c xs)(a:Nat):Sl w 1 Rw.cells A c (xs.take a):=by
 have k:=List.length_take_le a xs;have e:(xs.take a).length<=xs.length:=by rw[lD];omega
 refine⟨lk e d.cap,d.big,lk e d.len,λi hi=>?_⟩;obtain⟨b,f,g,h⟩:=d.at_ i oM;refine⟨b,f,g,λj u hu=>h j u ?_⟩;rw[List.getElem_take]at hu;exact hu
theorem H4{w:World}{c g:Nat}{xs:List Rw}(d:Sl w 1 Rw.cells (some ⟨g,0,none⟩) c xs)(a:Nat):Sl w 1 Rw.cells (some ⟨g,a,none⟩) (c-a) (xs.drop a):=by
 have m:=d.cap;have h:=d.big;have k:=d.len;refine⟨by rw[LF];omega,oM,by rw[LF];omega,λi hi=>⟨g,a,rfl,λj u hu=>?_⟩⟩;rw[LF]at hi;obtain⟨b,l,e,f⟩:=d.at_ (a+i) oM;injection e with e;injection e with e1 e2;subst e1;subst e2;rw[List.getElem_drop]at hu;have:=f j u hu;rw[show 0+(a+i)*1+j=a+i*1+j from oM]at this;exact this
def ek(s:Int)(rows:List Rw):List Rw:=if 0<=s then dO (bJ (fe s.toNat)) rows else rows
theorem rD(s:Int)(rows:List Rw):(ek s rows).length=rows.length:=by
 unfold ek
 split
 ·exact pQ rows
 ·rfl
theorem Hl(s:Int):ek s []=[]:=List.length_eq_zero_iff.1 (rD s [])
theorem yE(s:Int)(rows:List Rw)(r:Rw):r∈ek s rows<->r∈rows:=by
 unfold ek
 split
 ·exact rC (qi s.toNat) rows r
 ·rfl
theorem Hk(s:Int)(rows:List Rw):(ek s rows).map (·.vs)=dj s (rows.map (·.vs)):=by
 unfold ek dj
 split
 ·exact pP (lt:=bJ (fe s.toNat)) (lt':=oZ s.toNat) (λr:Rw=>r.vs) (λa b=>rfl) rows
 ·rfl
theorem Hm(a:Int)(rows:List Rw)(x:Rw)(k:Nat)(m:k<=rows.length)(l:¬ 0<=a->k=rows.length)(h:0<=a->∀j (g:j<(ek a rows).length),k<=j->bJ (fe a.toNat) x (ek a rows)[j]=true)(i:0<=a->∀(g:k-1<(ek a rows).length),0<k->bJ (fe a.toNat) x (ek a rows)[k-1]=false) :
 (ek a rows).take k++[x]++(ek a rows).drop k=ek a (rows++[x]):=by
 by_cases b:0<=a
 ·have f:=rD a rows;have d:=h b;have c:=i b;unfold ek at d c f|-;simp only[if_pos b]at d c f|-;exact I5 (qi a.toNat) (mq (qi a.toNat) rows) oM d c
 ·have e:=l b;unfold ek;rw[if_neg b,if_neg b,e,lC,List.drop_length,lT]
theorem MU(s:Nat)(x y:Rw):bJ (fe s) x y=gB (x.vs.getD s ej) (y.vs.getD s ej):=by
 rw[Bool.eq_iff_iff,vM,<-jG];unfold bJ fe;rw[decide_eq_true_iff]
theorem IJ(A B:Option Addr)(n m:Nat)(cs:List aG)(c:bw)(rows:List Rw)(w:World)(d:Sl w 2 aG.cells A n cs)(bg:∀x∈cs,x.name.size<=140737488355328)(c0:ff w c)(bh:Fits cs c)
 (E:Sl w 1 Rw.cells B m rows) (bd:dG w rows) (co:rows.length<=1000) (he:da cs (rows.map (·.vs))=0) :
 Calls prog 10 #[.slice A cs.length n,c.v,.slice B rows.length m] w λe w'=>∃v,e=.returned (.tuple #[v,.int .i64 0])/\cw w' w.heap.size v (ek c.sort rows)/\aa w w':=by
 have aK:=lh (λW (hW:aa w W)=>zF A n cs c W (d.keep hW) bg (c0.keep hW));have ay:=lh (λW (hW:aa w W)=>zC A B n m cs rows W (d.keep hW) bg (E.keep hW) (bd.keep hW) oM);rw[he]at ay;have a8:=ew bh;have ca:=lh E;have bU:=lh bd;have b4:=lh (show 0<=c.sort->∀r∈rows,c.sort.toNat<r.vs.length from λh0 r E=>by
  have l:=((re he).2 r.vs (Le E)).1
  rcases bh.sort with P|P
  ·omega
  ·have:=(nR P).2;omega)
 have bI:=lh (show ∀r∈rows,∀x∈r.vs,x.s.size<=maxLen from λr E x hx=>by
  have l:=((re he).2 r.vs (Le E)).2.1 x hx;unfold cZ jB at l;simp only[Bool.not_eq_false']at l
  split at l
  ·have P:x.s.toList=[]:=List.isEmpty_iff.1 l;have aC:x.s.size=0:=(by rw[<-kz,P];rfl);rw[aC];exact lj _
  ·split at l
   ·simp at l;unfold maxLen;omega
   ·cases l)
 rw[a8]at aK;generalize bv:rows.length=N at co ay|-;have c5:=lh bv;obtain⟨s0,bX,bL,bt,c7,c8,bA,bZ,bM,sp,c9⟩:=c;simp only at b4;simp only[bw.v]at aK|-;clear d bg c0 E bd he bv a8 bh;go_enter func10,ntmps10;go_upto_region 1 with fail;have G:cV w (w.alloc (.cells #[.int .i64 s0,.slice bX bt.length bL,.slice c7 bA.length c8,.slice bZ sp.length bM,.int .i64 c9] 26)) [.int .i64 s0,.slice bX bt.length bL,.slice c7 bA.length c8,.slice bZ sp.length bM,.int .i64 c9]:=cV.start (t:=26) (aa.refl _);generalize cb:World.alloc w _=cM at G|-;have b7:=G.lt;have b8:=G.at_ 0 _ rfl;have bF:=G.at_ 1 _ rfl;have c1:=G.at_ 2 _ rfl;have bY:=G.at_ 3 _ rfl;have bS:=G.at_ 4 _ rfl;have bO:=lh G.keep;have b6:=lh b8;clear cb G;generalize w.heap.size=aW at b7 b8 bF c1 bY bS b6|-;go_wp2_with (go_at_call 39;refine ae ?_);refine uM (aK.o _ bO.o) ?_;rintro e d7 ⟨rfl,aT⟩;have aP:=bO.u aT;have bB:=lh aT;clear b8 bF c1 bY bS aK aT;go_wp2_with (go_at_call 40;refine ae ?_);refine uM (ay.o _ aP.o) ?_;rintro e S ⟨rfl,bo⟩;have a7:=aP.u bo;have bD:=lh (bE (bB.o.trans bo) b7 b6.o);have cd:aW<S.heap.size:=block_lt_of_cell bD.o;clear bo ay b7 b6 aP bB;go_wp2;go_loopw [10,9] (λvi vo wr=>∃(k:Nat) (ad:Value),vi=.int .i64 k/\k<=N/\ad=vo/\Hid (cw wr S.heap.size ad (ek s0 (rows.take k)))/\Hid (aa S wr)) (λvi _ _=>N-(intOf vi).toNat)
 case atStart=>exact⟨0,_,rfl,lj _,rfl,(by show cw _ _ _ _;rw[lR,Hl];exact ah.nil_ _ _ _ _ _),aa.refl _⟩
 case round =>
  obtain⟨k,ad,rfl,cW,rfl,L,R⟩:=hrel
  by_cases cq:k<N
  ·have bk:k<rows.length:=(by rw[c5.o];exact cq);obtain⟨aM,cA⟩:∃aM,aM=wr:=⟨_,rfl⟩;subst cA;have aF:(ek s0 (rows.take k)).length=k:=(by rw[rD,lD];omega);have az:=lh (ll bk);have c2:=lh (ly bk);have bQ:=lh (show ∀r∈ek s0 (rows.take k),r∈rows from λr E=>Lx ((yE s0 (rows.take k) r).1 E));have aA:=lh (Hm s0 (rows.take k) rows[k]);have aw:=lh (λW (hW:aa S W)=>jv (ca.o.keep (a7.o.trans hW)) k bk);generalize rows[k]=x at az c2 aA aw;generalize ek s0 (rows.take k)=f at L aF bQ aA;obtain⟨bm,J,rfl⟩:=bp L.o;rw[aF]at L|-;have M:=lh aF;clear aF;go_upto_block 2 with fail;go_cut [11]from 31 to 59 (λs11 wx=>∃a:Nat,s11=.int .i64 a/\a<=k/\Hid (¬ 0<=s0->a=k)/\Hid (0<=s0->∀j (d:j<f.length),a<=j->bJ (fe s0.toNat) x f[j]=true)/\Hid (0<=s0->∀(d:a-1<f.length),0<a->bJ (fe s0.toNat) x f[a-1]=false)/\Hid (aa aM wx))
   case first =>
    go_wp2;go_loopw [11] (λva wr=>∃a:Nat,va=.int .i64 a/\a<=k/\Hid (¬ 0<=s0->a=k)/\Hid (0<=s0->∀j (d:j<f.length),a<=j->bJ (fe s0.toNat) x f[j]=true)/\Hid (aa aM wr)) (λva _=>(intOf va).toNat)
    case atStart=>exact⟨k,rfl,lc _,(λ_=>rfl),(λ_ j d hj=>absurd d (by have:=M.o;omega)),aa.refl _⟩
    case round =>
     obtain⟨a,rfl,b5,aJ,Y,H⟩:=hrel;have cc:=(R.v H).cell (p:=⟨aW,0,none⟩) cd |>.trans bD.o
     have a0:aW<wr.heap.size:=block_lt_of_cell cc
     by_cases D:0<=s0
     ·by_cases aU:a=0
      ·subst aU;go_upto_region 11 with fail;go_quiet (fail);go_wp2_with fail;go_meet;exact⟨0,by go_num,lj _,(λd=>absurd D oM),Y.o,(λ_ _ d=>absurd d oM),H.o.trans kP⟩
      ·obtain⟨o,rfl⟩:∃o:Nat,s0=(o:Int):=⟨s0.toNat,oM⟩;obtain⟨h,a8⟩:∃h,a=h+1:=⟨a-1,oM⟩;have bs:h<f.length:=(by have:=M.o;omega);have cE:(0:Int)<(a:Int):=oM;have cx:0<a:=oM;have d0:IntKind.i64.wrap (h:Int)=(h:Int):=(by rw[IntKind.wrap_i64];omega);have cP:decide (0<a)=true:=decide_eq_true cx;have cG:(a:Int)-1=(h:Int):=oM;obtain⟨aX,aY,aQ,U,X⟩:=aw.o wr (R.v H);have bx:=lh ((bU.o x az.o).keep (a7.o.trans (R.v H)));have aH:o<x.vs.length:=(by have:=b4.o D x az.o;simpa using this);have bc:=lh (bQ.o _ (ll bs));have cg:=lh (L.o.keep H.o);obtain⟨cH,cJ,cj,ck⟩:=cg.o.sl i8 (by have:=M.o;omega);injection cj with e1 e2 e3;subst e1;subst e3;clear e2;obtain⟨d5,cR,cB,d4,bH⟩:=jv ck h bs;have aZ:=lh ((bU.o f[h] bc.o).keep (a7.o.trans (R.v H)));have ab:o<f[h].vs.length:=(by have:=b4.o D f[h] bc.o;simpa using this);have Z:=lh (bI.o x az.o);have aV:=lh (bI.o f[h] bc.o);have bb:=lh (MU o x f[h]);have bi:=lh (show bJ (fe o) x f[h]=true->0<=(o:Int)->∀j (d:j<f.length),h<=j->bJ (fe o) x f[j]=true from λl P j hj hq2=>by
            rcases L8 j a with aC|aC
            ·have:j=h:=oM;subst this;exact l
            ·exact Y.o P j hj aC)
       have ba:=lh (show bJ (fe o) x f[h]=false->∀(d:a-1<f.length),bJ (fe o) x f[a-1]=false from λl P=>by
            have e:a-1=h:=oM;simp only[e];exact l)
       generalize f[h]=y at bH aZ ab aV bb bi ba;have al:=Z.o _ (ll aH);have ac:=aV.o _ (ll ab);have b9:=bb.o;rw[getD_lt _ _ _ aH,getD_lt _ _ _ ab]at b9;have ao:=lh b9;clear b9 bb Z aV;obtain⟨C,z,s⟩:=x;obtain⟨d2,cY,cz⟩:=y;simp only at X bH aH ab bx aZ ao bi ba al ac;obtain⟨V,cK,cu,cN,bR,bW,bP⟩:=dL bx.o o aH;obtain⟨cI,cQ,cm,cD,d3,bu,bV⟩:=dL aZ.o o ab;generalize s[o]=u at bR bW bP al ao;generalize cz[o]=v at d3 bu bV ac ao;obtain⟨av,aB,us⟩:=u;obtain⟨ax,aI,aL⟩:=v;simp only at bR bW bP d3 bu bV al ac;subst cu;subst cm;subst aQ;subst cB;have bq:((h:Int))<(k:Int):=oM;have cl:=lh a8;clear a8;have bf:=λW=>vL ⟨av,aB,us⟩ ⟨ax,aI,aL⟩ W al ac;have cC:∀b,gB ⟨av,aB,us⟩ ⟨ax,aI,aL⟩=b->Hid (gB ⟨av,aB,us⟩ ⟨ax,aI,aL⟩=b):=λb d=>d;generalize c4:gB ⟨av,aB,us⟩ ⟨ax,aI,aL⟩=cy at bf;have c6:=lh c4;have bN:=lh bf;clear c4 bf cC al ac
       cases cy
       ·go_upto_region 11 with fail;refine zR kR ?_
        repeat
             refine aR (λK hK=>?_);go_simp
             first
             | (refine hK _ _ ?_;clear hK K)
             | (apply Exists.intro
                refine⟨λp=>?_,hK _ _ ?_⟩
                ((go_at_call 41;exact Zone.zc (bN.o _)))
                clear hK K)
        refine bG ?_;intro p;simp only[aj];go_wp2_with fail;go_meet;exact⟨a,rfl,b5,(λd=>absurd D oM),Y.o,(λ_ l _=>ba.o (by rw[ao.o];exact c6.o) l),H.o.trans kP⟩
       ·go_upto_region 11 with fail;refine zR kR ?_
        repeat
             refine aR (λK hK=>?_);go_simp
             first
             | (refine hK _ _ ?_;clear hK K)
             | (apply Exists.intro
                refine⟨λp=>?_,hK _ _ ?_⟩
                ((go_at_call 41;exact Zone.zc (bN.o _)))
                clear hK K)
        refine bG ?_;intro p;simp only[aj];go_wp2;go_roundw
        case rel=>exact⟨h,by go_num,by have:=cl.o;omega,(λd=>absurd D oM),bi.o (by rw[ao.o];exact c6.o),H.o.trans kP⟩
        case measure=>simp[intOf];omega
     ·have cU:¬(0<=s0):=D;have cT:decide (0<=s0)=false:=decide_eq_false D;go_upto_region 11 with fail;go_quiet (fail);go_wp2_with fail;go_meet;exact⟨a,rfl,b5,(λ_=>aJ.o oM),(λd=>absurd d oM),(λd=>absurd d oM),H.o.trans kP⟩
   case rest =>
    rename World=>wx;obtain⟨a,rfl,b5,aJ,Y,bT,aO⟩:=hcut;have bl:=aA.o a (by rw[lD];omega) (λd=>by rw[lD,aJ.o d];omega) Y.o bT.o;rw[<-c2.o]at bl;have c3:(f.take a).length=a:=(by rw[lD];have:=M.o;omega);have bC:(f.drop a).length=k-a:=(by rw[LF,M.o]);have ce:(bm=none/\k=0/\J=0)\/∃g,bm=some ⟨g,0,none⟩:=by
     rcases L.o.2 with⟨l,_⟩ | ⟨g,cX,cS,l,_⟩
     ·injection l with e1 e2 e3;exact .inl ⟨e1,e2,e3⟩
     ·injection l with e1 e2 e3;exact .inr ⟨g,e1⟩
    have cf:=lh (L.o.keep aO.o);have bj:Sl wx 1 Rw.cells bm J f:=by
     obtain⟨d9,cF,e,D⟩:=cf.o.sl i8 (by have:=M.o;omega);injection e with e1 e2 e3;rw[e1,e3];exact D
    have d8:k<=J:=(by have:=bj.cap;have:=M.o;omega);have cO:a<=J:=oM;obtain⟨aX,aY,aQ,U,X⟩:=aw.o wx (R.v aO);have b3:=lh bl;have bK:=lh bj;have aq:=lh c3;have bn:=lh bC;have aN:=lh (R.v aO);have Z:=lh aN.o.size;clear bl bj c3 bC aA aJ Y bT aw;subst aQ
    rcases ce with⟨rfl,rfl,rfl⟩ | ⟨g,rfl⟩
    ·have aU:a=0:=oM;subst aU;have cr:=lh (Ly M.o);go_wp2_with (at_builtin;refine ae ?_);refine ar ?_;refine aD mN i8 mC rfl (.tmp 60) (.tmp 63) rfl (ys:=([]:List Rw)) (ah.nil_ wx wx.heap.size _ _ _) rfl rfl (Sl.nil_ _ dC) sP (lc _) ?_;intro v2 q a9 a0 _;have F:aa wx q:=aa.grown (aa.refl wx) a0 (λ_ d=>by cases d);have ak:=lh F;have aS:=lh a9;have a5:=(F.cell (p:=⟨aX,aY+0,none⟩) U).trans X;have b0:=lp U F.size;obtain⟨C,z,s⟩:=x;simp only[lE]at a5;clear F a9 a0 X U;go_wp2_with (at_builtin;refine ae ?_);refine ar ?_;have Q:cw (q.alloc (.cells #[.slice C s.length z] 56)) wx.heap.size v2 ([]++[]):=aS.o.keep kP;have ag:(q.alloc (.cells #[.slice C s.length z] 56)).cell? ⟨q.heap.size,0,none⟩=some (.slice C s.length z):=(by generalize q=W0;simp[go_sem]);have cn:=ak.o.size;refine aD mN i8 mC rfl (.tmp 65) (.tmp 70) rfl (ys:=[⟨C,z,s⟩]) Q rfl rfl (br _ oM oM (λj u hu=>by
      match j,hu with
      | 0,hu=>cases hu;exact ag)) sP (by simp only[World.size_alloc];omega) ?_
     intro v3 ci ap a4 _;have ⟨a1,a2,a3⟩:=Q.after a4 (ak.o.trans kP) (lc _);have au:=lh a1;have T:=lh ap;have aE:=a1.size;clear ap a4 Q ag a1 a2 a3 a5 b0;go_wp2_with (at_builtin;refine ae ?_);refine ar ?_;refine aD mN i8 mC rfl (.tmp 72) (.tmp 75) rfl (ys:=([]:List Rw)) T.o rfl rfl (Sl.nil_ _ dC) sP aE ?_;intro v4 ai O I _;have ⟨b1,b2,V⟩:=T.o.after I au.o (lc _);have a6:=aN.u b1;have af:=lh (show cw ai S.heap.size v4 (ek s0 (rows.take (0+1))) by
      rw[<-b3.o,cr.o];exact O.base_mono Z.o)
     clear O I b1 b2 V;go_wp2;go_roundw
     case rel=>exact⟨0+1,_,by go_num,oM,rfl,af.o,a6.o⟩
     case measure=>simp[intOf];omega
    ·go_wp2_with (at_builtin;refine ae ?_);refine ar ?_;refine aD mN i8 mC rfl (.tmp 60) (.tmp 63) rfl (ys:=f.take a) (ah.nil_ wx wx.heap.size _ _ _) rfl (by rw[aq.o];rfl) (Hy bK.o a) (by rw[aq.o,lB];omega) (lc _) ?_;intro v2 q a9 a0 _;have F:aa wx q:=aa.grown (aa.refl wx) a0 (λ_ d=>by cases d);have ak:=lh F;have aS:=lh a9;have a5:=(F.cell (p:=⟨aX,aY+k,none⟩) U).trans X;have b0:=lp U F.size;obtain⟨C,z,s⟩:=x;simp only at a5;clear F a9 a0 X U;go_wp2_with (at_builtin;refine ae ?_);refine ar ?_;have Q:cw (q.alloc (.cells #[.slice C s.length z] 56)) wx.heap.size v2 ([]++f.take a):=aS.o.keep kP;have ag:(q.alloc (.cells #[.slice C s.length z] 56)).cell? ⟨q.heap.size,0,none⟩=some (.slice C s.length z):=(by generalize q=W0;simp[go_sem]);have cn:=ak.o.size;refine aD mN i8 mC rfl (.tmp 65) (.tmp 70) rfl (ys:=[⟨C,z,s⟩]) Q rfl rfl (br _ oM oM (λj u hu=>by
      match j,hu with
      | 0,hu=>cases hu;exact ag)) (by rw[lO,aq.o,lJ];omega) (by simp only[World.size_alloc];omega) ?_
     intro v3 ci ap a4 _;have ⟨a1,a2,a3⟩:=Q.after a4 (ak.o.trans kP) (lc _);have au:=lh a1;have T:=lh ap;have aE:=a1.size;have cv:=lh (bK.o.keep a1);clear ap a4 Q ag a1 a2 a3 a5 b0
     by_cases ct:a=J
     ·subst ct;have bq:k=a:=oM;subst bq;go_wp2_with (at_builtin;refine ae ?_);refine ar ?_;have bz:f.drop k=[]:=(by apply Ly;rw[bn.o];omega);have ch:=lh bz;clear bz;refine aD mN i8 mC rfl (.tmp 72) (.tmp 75) rfl (ys:=[]) T.o rfl rfl ⟨lc _,oM,sP,λi hi=>absurd hi (lI _)⟩ (by rw[lg,lO,aq.o,lJ,lB];omega) aE ?_;intro v4 ai O I _;have ⟨b1,b2,V⟩:=T.o.after I au.o (lc _);have a6:=aN.u b1;have af:=lh (show cw ai S.heap.size v4 (ek s0 (rows.take (k+1))) by
       rw[<-b3.o];have:=O.base_mono Z.o;rw[ch.o];exact this)
      clear O I b1 b2 V;go_wp2;go_roundw
      case rel=>exact⟨k+1,_,by go_num,oM,rfl,af.o,a6.o⟩
      case measure=>simp[intOf];omega
     ·have d6:a<J:=oM;have d1:¬ J-a=0:=oM;have cL:¬ J=a:=oM;go_wp2_with (at_builtin;refine ae ?_);refine ar ?_;refine aD mN i8 mC rfl (.tmp 72) (.tmp 75) rfl (ys:=f.drop a) T.o rfl (by rw[bn.o];rfl) (H4 cv.o a) (by rw[lg,lO,aq.o,lJ,bn.o];omega) aE ?_;intro v4 ai O I _;have ⟨b1,b2,V⟩:=T.o.after I au.o (lc _);have a6:=aN.u b1;have af:=lh (show cw ai S.heap.size v4 (ek s0 (rows.take (k+1))) by
       rw[<-b3.o];have:=O.base_mono Z.o;exact this)
      clear O I b1 b2 V;go_wp2;go_roundw
      case rel=>exact⟨k+1,_,by go_num,oM,rfl,af.o,a6.o⟩
      case measure=>simp[intOf];omega
  ·have cp:k=N:=oM;subst cp;rw[<-c5.o,lC]at L;go_wp2;exact bodyPost_ret (v:=.tuple #[ad,.int .i64 0]) (by simp[results,results10,go_sem]) rfl ⟨ad,rfl,L.o.base_mono a7.o.size,a7.o.trans R.o⟩
theorem II(A B:Option Addr)(n m:Nat)(cs:List aG)(c:bw)(rows:List Rw)(w:World)(d:Sl w 2 aG.cells A n cs)(y:∀x∈cs,x.name.size<=140737488355328)(G:ff w c)
 (o:Sl w 1 Rw.cells B m rows) (p:dG w rows) (R:rows.length<=1000) (he:fq cs c (rows.map (·.vs))≠0) :
 Rt 10 #[.slice A cs.length n,c.v,.slice B rows.length m] w (.tuple #[.slice none 0 0,.int .i64 (fq cs c (rows.map (·.vs)))]):=by
 have f:=lh (λW (hW:aa w W)=>zF A n cs c W (d.keep hW) y (G.keep hW));have g:=lh (λW (hW:aa w W)=>zC A B n m cs rows W (d.keep hW) y (o.keep hW) (p.keep hW) oM);have q:=rh cs (rows.map (·.vs));unfold fq at he|-;generalize da cs (rows.map (·.vs))=t at q he g|-;generalize Q:pB (Fits cs c)=P at he f|-;clear Q;obtain⟨s0,s,H,l,r,C,K,D,J,sp,L⟩:=c;simp only[bw.v];clear d G o p;go_enter func10,ntmps10;go_upto_region 1 with fail;have a:cV w (w.alloc (.cells #[.int .i64 s0,.slice s l.length H,.slice r K.length C,.slice D sp.length J,.int .i64 L] 26)) [.int .i64 s0,.slice s l.length H,.slice r K.length C,.slice D sp.length J,.int .i64 L]:=cV.start (t:=26) (aa.refl _);generalize M:World.alloc w _=U at a|-;have N:=a.lt;have E:=a.at_ 0 _ rfl;have i:=a.at_ 1 _ rfl;have F:=a.at_ 2 _ rfl;have z:=a.at_ 3 _ rfl;have k:=a.at_ 4 _ rfl;have h:=lh a.keep;clear M a;generalize w.heap.size=S at N E i F z k|-;go_wp2_with (go_at_call 39;refine ae ?_);refine uM (f.o _ h.o) ?_;rintro e T ⟨rfl,j⟩;have b:=h.u j;clear E i F z k f j
 cases P
 ·go_wp2;exact bodyPost_ret (v:=.tuple #[.slice none 0 0,.int .i64 2]) (by simp[results,results10,go_sem]) rfl ⟨rfl,b.o⟩
 ·rw[if_pos rfl]at he;go_wp2_with (go_at_call 40;refine ae ?_);refine uM (g.o _ b.o) ?_;rintro e V ⟨rfl,I⟩;have O:=b.u I;clear I g
  rcases q with rfl|rfl|rfl|rfl
  ·exact absurd rfl he
  all_goals
   go_wp2;exact bodyPost_ret (v:=.tuple #[.slice none 0 0,.int .i64 _]) (by simp[results,results10,go_sem]) rfl ⟨rfl,O.o⟩
theorem Qs{cs:List aG}{c:bw}{rows:List (List ai)}(a:fq cs c rows=0):Fits cs c/\da cs rows=0:=by
 unfold fq at a
 split at a
 ·rename_i hq;refine⟨?_,a⟩
  by_cases b:Fits cs c
  ·exact b
  ·rw[dd b]at hq;cases hq
 ·cases a
theorem Es(b:Int)(rows:List (List ai))(p:List ai->Bool):(dj b rows).any p=rows.any p:=by
 rw[Bool.eq_iff_iff,List.any_eq_true,List.any_eq_true];constructor
 ·rintro⟨x,c,a⟩;exact⟨x,(pR b rows x).1 c,a⟩
 ·rintro⟨x,c,a⟩;exact⟨x,(pR b rows x).2 c,a⟩
theorem Gx(s:Int)(cs:List aG)(rows:List (List ai)):da cs (dj s rows)=da cs rows:=by
 unfold da;rw[Es,Es,pS]
theorem zf(A B:Option Addr)(c d:Nat)(xs ys:List Rw)(w:World)(g:Sl w 1 Rw.cells A c xs)(i:dG w xs)(k:Sl w 1 Rw.cells B d ys)(j:dG w ys) :
 Rt 11 #[.slice A xs.length c,.slice B ys.length d] w (.bool (pB (xs.map (·.vs)=ys.map (·.vs)))):=by
 refine(IM A B c d xs ys w g i k j).mono ?_;rintro e l ⟨⟨b,rfl,f⟩,h⟩;refine⟨?_,h⟩
 by_cases a:xs.map (·.vs)=ys.map (·.vs)
 ·rw[ew a,f.2 a]
 ·rw[dd a]
  cases b
  ·rfl
  ·exact absurd (f.1 rfl) a
def pt(w:World)(base:Nat)(r:Rw):Prop:=ah w base 72 3 ai.cells (.slice r.A r.vs.length r.c) r.vs
theorem Ji(A:Option Addr)(c:Nat)(rows:List Rw)(w:World)(d:Sl w 1 Rw.cells A c rows)(H:dG w rows)(U:rows.length<=1000000)(g:∀r∈rows,r.vs.length<=1000000) :
 Calls prog 8 #[.slice A rows.length c] w λe w'=>∃v a,e=.returned v/\cw w' w.heap.size v a/\(∀r∈a,pt w' w.heap.size r)/\a.map (·.vs)=rows.map (·.vs)/\aa w w':=by
 have ad:=lh d;have a8:=lh H;have T:=lh g;generalize P:rows.length=n at U;have M:=lh P;clear d H g P;go_enter func8,ntmps8;go_wp2;go_loopw [3,4] (λvb vi wr=>∃(k:Nat) (B:Value) (a:List Rw),k<=n/\vi=.int .i64 k/\B=vb/\Hid (a.map (·.vs)=(rows.take k).map (·.vs))/\Hid (cw wr w.heap.size B a)/\Hid (∀r∈a,pt wr w.heap.size r)/\Hid (aa w wr)) (λ_ vi _=>n-(intOf vi).toNat)
 case atStart=>exact⟨0,_,[],lj _,rfl,rfl,rfl,ah.nil_ _ _ _ _ _,(λ_ d=>by cases d),kP⟩
 case round =>
  obtain⟨k,B,a,ak,rfl,rfl,y,O,Q,i⟩:=hrel
  by_cases a4:k<n
  ·have o:k<rows.length:=(by rw[M.o];exact a4);obtain⟨b,a6,a0,R,s⟩:=jv ad.o k o;have D:=(i.o.cell (p:=⟨b,a6+k,none⟩) R).trans s;have C:=lh ((a8.o rows[k] (ll o)).keep i.o);have F:=T.o rows[k] (ll o);have E:=lh (show(rows.take (k+1)).map (·.vs)=(rows.take k).map (·.vs)++[rows[k].vs] by rw[ly o,lz];rfl);have ab:=lp R i.o.size;subst a0;generalize rows[k]=r at D s C F E;obtain⟨aj,al,h⟩:=r;simp only at D s C F E;have V:=lh (show a.length=k by have:=congrArg List.length y.o;simpa[Nat.min_eq_left (Nat.le_of_lt o)]using this);have ac:=lh F;clear s;go_wp2_with (at_builtin;refine ae ?_);refine ar ?_;have J:=lh (uW (enc:=ai.cells) (k:=3) (wr.alloc (.cells #[] 72)) wr.heap.size 72 wr.heap.size (lc _) (heap_alloc_new wr _));have K:=lh (show aa wr (wr.alloc (.cells #[] 72)) from kP);refine aD mO di jO rfl (.tmp 12) (.tmp 16) rfl (ys:=h) J.o rfl rfl (C.o.keep K.o) (by have:=ac.o;simp;omega) sP ?_;intro ag l t S _;have ⟨a1,a2,a3⟩:=J.o.after S K.o (lc _);rw[lO]at t;obtain⟨q,m,rfl,a7⟩:=t.sl di oM;have z:=lh (O.o.keep a1);have X:=lh (show ∀r∈a,pt l w.heap.size r from λr g=>(Q.o r g).keep a1);have G:=i.u a1
   have Z:=lh (show pt l w.heap.size ⟨q,m,h⟩from ah.base_mono t i.o.size);clear t S a1 a2 a3 a7 D ab;go_wp2_with (at_builtin;refine ae ?_);refine ar ?_;have f:=lh (show aa l (l.alloc (.cells #[.slice q h.length m] 56)) from kP);refine aD mN i8 mC rfl (.tmp 11) (.tmp 18) rfl (ys:=[⟨q,m,h⟩]) (z.o.keep f.o) rfl rfl (br _ oM oM (λj u hu=>by
    match j,hu with
    | 0,hu =>
      cases hu
      simp[go_sem])) (by have:=V.o;simp;omega) (by have:=G.o.size;simp;omega) ?_
   intro v3 a5 L x _;have ⟨a1,a2,a3⟩:=(z.o.keep f.o).after x (G.v f) (lc _);have af:=lh L;have W:=lh a1;have a9:=lh (show ∀r∈a++[⟨q,m,h⟩],pt a5 w.heap.size r from λr g=>by
    have N:pt l w.heap.size r:=by
     rcases lx.1 g with d|d
     ·exact X.o r d
     ·rw[lm.1 d];exact Z.o
    exact ah.grown (ah.keep N f.o) x (cN (z.o.keep f.o) (ah.keep N f.o) dC))
   clear L x a1 a2 a3;go_wp2;go_roundw
   case rel=>exact⟨k+1,_,a++[(⟨q,m,h⟩:Rw)],oM,by go_num,rfl,(by show _=_;rw[E.o,lz,y.o];rfl),af.o,a9.o,W.o⟩
   case measure=>simp[intOf];omega
  ·have I:k=n:=oM;have Y:=lh (show a.map (·.vs)=rows.map (·.vs) by rw[y.o,I,<-M.o,lC]);subst I;go_wp2;go_ret;exact⟨_,rfl,a,O.o,Q.o,Y.o,i.o⟩
end Go.Proofs.YtpkocnpamcchcaaGreatDoor
