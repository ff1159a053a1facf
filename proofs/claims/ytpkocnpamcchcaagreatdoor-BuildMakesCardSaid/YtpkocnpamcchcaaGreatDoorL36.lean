/- Parts. -/
import Derived.Test.YtpkocnpamcchcaaGreatDoorL29
import Derived.Test.YtpkocnpamcchcaaGreatDoorL34
set_option maxRecDepth 100000
set_option maxHeartbeats 40000000
set_option linter.all false
namespace Go.Proofs.YtpkocnpamcchcaaGreatDoor
open Go.RowKit Go.Zone Go.Shelf Tryz Go.Roa Go.Star Go.Sym
theorem CB{a:World}{B:Option Addr}{b R i d:Nat}{mt:List Ir}(p:Sl a 1 Ir.cells B b mt)(n:ge a mt)(k:d<mt.length)(hi:i<R)(t:∀r∈mt,r.xs.length=R) :
 ∃g j f h cj,B=some ⟨g,j,none⟩/\g<a.heap.size/\a.cell? ⟨g,j+d,none⟩=some (.slice (some ⟨f,h,none⟩) R cj)/\f<a.heap.size/\a.cell? ⟨f,h+i,none⟩=some (.int .i64 (mt[d].xs.getD i 0))/\R<=cj:=by
 obtain⟨g,j,e,s⟩:=p.at_ d k;have s0:=s 0 _ rfl;have u:=t _ (ll k);have l:i<mt[d].xs.length:=oM;have m:=n _ (ll k);obtain⟨f,h,o,q,v⟩:=eZ m i l;have w:=m.cap;rw[u,o,Lb,lE]at s0;exact⟨g,j,f,h,mt[d].c,e,World.block_lt_of_cell? a _ s0,s0,q,by rw[v,L9,lu l];rfl,oM⟩
theorem IS(A B:Option Addr)(a b i R:Nat)(sp mt:List Ir)(w:World)(ao:Sl w 1 Ir.cells A a sp)(bo:ge w sp)(aU:Sl w 1 Ir.cells B b mt)(bn:ge w mt)(bY:1<=sp.length)(bw:sp.length<=8)(c0:mt.length<=256)(bA:∀r∈sp,r.xs.length=R)(bB:∀r∈mt,r.xs.length=R)(hi:i<R)(c9:R<=1000) :
 Calls prog 52 #[.slice A sp.length a,.slice B mt.length b,.int .i64 i] w λe w'=>∃r:Rd,e=.returned (r.v sp.length mt.length)/\cQ w' w.heap.size sp.length mt.length r (eH sp mt i)/\aa w w':=by
 have ba:=lh (λc (au:c<sp.length)=>CB ao bo au hi bA);have b9:=lh (λc (au:c<mt.length)=>CB aU bn au hi bB);have bV:=ao.cap;have bX:=aU.cap;obtain⟨k,H⟩:∃k,k=sp.length:=⟨_,rfl⟩;obtain⟨m,aC⟩:∃m,m=mt.length:=⟨_,rfl⟩;obtain⟨G,aI⟩:∃G,G=sp.map (λr=>r.xs.getD i 0):=⟨_,rfl⟩;obtain⟨l,ap⟩:∃l,l=eC mt i:=⟨_,rfl⟩;have aN:=lh (show G.length=k by rw[aI,H];simp);have bi:=lh (show l.length=m by rw[ap,aC];simp[eC]);have bb:=lh (λr:Rd=>λw' (h1:mT w' w.heap.size (.slice r.iA k r.iK) G) (q:r.n=1) (h3:ie w' w.heap.size (.slice r.sA m r.sK) (l.map (·.1))) (h4:ie w' w.heap.size (.slice r.lA m r.lK) (l.map (·.2.1))) (h5:ie w' w.heap.size (.slice r.gA m r.gK) (l.map (·.2.2)))=>show cQ w' w.heap.size k m r (eH sp mt i) from by
  have c2:(fk sp i sp.length).take k=G:=by
   unfold fk;rw[LG sO,lM sO,lC,aI]
  refine⟨?_,⟨?_,?_⟩,q,?_,?_,?_,?_⟩
  ·show mT _ _ _ ((fk sp i sp.length).take k);rw[c2];exact h1
  ·exact qd sp i sp.length (lc _) bw
  ·show(fk sp i sp.length).drop k=_;unfold fk;rw[List.drop_append_of_le_length sO,List.drop_of_length_le sO,H];rfl
  ·show(eC mt i).length=m;rw[aC];simp[eC]
  ·show ie _ _ _ ((eC mt i).map _);rw[<-ap];exact h3
  ·show ie _ _ _ ((eC mt i).map _);rw[<-ap];exact h4
  ·show ie _ _ _ ((eC mt i).map _);rw[<-ap];exact h5)
 have bc:=lh (show ∀c (h:c<sp.length),G.take (c+1)=G.take c++[sp[c].xs.getD i 0]from λc h=>by
  rw[aI,ly (by simpa using h)];simp)
 have bj:=lh (show ∀c (h:c<mt.length),l[c]? =some (mt[c].xs.getD i 0,mt[c].xs.getD i 0,mt[c].xs.getD i 0) from λc h=>by
  rw[ap,lu (by simpa[eC]using h)];simp[eC])
 have bK:=lh H;have bL:=lh aC;rw[<-H]at bY bw bV|-;rw[<-aC]at c0 bX|-;clear ao bo aU bn bA bB aI ap H aC;unfold Rd.v;go_enter func52,ntmps52;go_wp2_with (with_reducible refine pe 112 ?_);refine ar ?_;generalize aK:World.alloc w _=C;have bD:ak C w.heap.size 112 [.slice none 0 0,.int .i64 0,.slice none 0 0,.slice none 0 0,.slice none 0 0]:=by rw[<-aK];exact bH w 112 [.slice none 0 0,.int .i64 0,.slice none 0 0,.slice none 0 0,.slice none 0 0]
 have bx:aa w C:=by rw[<-aK];exact aa.alloc (aa.refl _) _
 have bE:C.heap.size=w.heap.size+1:=by rw[<-aK,World.size_alloc]
 clear aK;have q:=bH C 112 [.slice none 0 0,.int .i64 0,.slice none 0 0,.slice none 0 0,.slice none 0 0];have bt:aa C (C.alloc (.cells [.slice none 0 0,.int .i64 0,.slice none 0 0,.slice none 0 0,.slice none 0 0].toArray 112)):=aa.alloc (aa.refl _) _;rw[bE]at q;obtain⟨o,J⟩:∃o,o=w.heap.size+1:=⟨_,rfl⟩;rw[<-J]at q|-;have ay:=lh (show C.heap.size<=o from oM);have bN:=lh bD;have af:=lh bx;refine wpList_store_row rfl 112 (.tmp 7) (.tmp 10) rfl o #[.slice none 0 0,.int .i64 1,.slice none 0 0,.slice none 0 0,.slice none 0 0] rfl rfl 112 _ q kR rfl (by simp[Value.oneCell']) ?_;have bC:=setRow_heap _ o _ #[.slice none 0 0,.int .i64 1,.slice none 0 0,.slice none 0 0,.slice none 0 0] 112 (0,0) q;have bv:=ag.after bt (m7 _ o #[.slice none 0 0,.int .i64 1,.slice none 0 0,.slice none 0 0,.slice none 0 0]) (λj hj=>by simp only[lm]at hj;subst hj;exact ay.o);generalize aY:World.setRow _ o _=bI;have b7:=lh (show Bx bI C.heap.size o (.slice none 0 0) (G.take 0) 1 [.slice none 0 0,.slice none 0 0,.slice none 0 0] [(l.take 0).map (·.1),(l.take 0).map (·.2.1),(l.take 0).map (·.2.2)]from⟨by rw[<-aY];exact bC,ah.nil_ _ _ _ _ _,λj u xs h1 q=>by
  match j,h1,q with
  | 0,h1,q=>cases h1;cases q;exact ah.nil_ _ _ _ _ _
  | 1,h1,q=>cases h1;cases q;exact ah.nil_ _ _ _ _ _
  | 2,h1,q=>cases h1;cases q;exact ah.nil_ _ _ _ _ _,rfl,λi j u u' _ h1 _ b hb=>by
  match i,h1 with
  | 0,h1=>cases h1;cases hb
  | 1,h1=>cases h1;cases hb
  | 2,h1=>cases h1;cases hb⟩)
 have bd:=lh (show aa C bI by rw[<-aY];exact bv);clear bC bv aY q bt bD bx bE J;go_wp2;go_loopw [8] (λv8 wr=>∃(c:Nat) (vi:Value),c<=k/\v8=.int .i64 c/\Hid (Bx wr C.heap.size o vi (G.take c) 1 [.slice none 0 0,.slice none 0 0,.slice none 0 0] [(l.take 0).map (·.1),(l.take 0).map (·.2.1),(l.take 0).map (·.2.2)])/\Hid (aa C wr)) (λv8 _=>k-(intOf v8).toNat)
 case atStart=>exact⟨0,_,lj _,rfl,b7.o,bd.o⟩
 case round =>
  clear b7 bd;obtain⟨c,vi,au,rfl,g,M⟩:=hrel;obtain⟨X,a4,V⟩:=bp g.o.ids;have aJ:(G.take c).length=c:=by rw[lD,aN.o];omega
  rw[aJ]at V;subst V
  by_cases bz:c<k
  ·have a9:c<sp.length:=(by rw[<-bK.o];exact bz);obtain⟨aQ,b0,aP,aZ,bT,aT,a1,az,a2,aA,bS⟩:=ba.o c a9;have bg:=lh (bc.o c a9);have a0:=lh (λW (hW:aa w W)=>And.intro (lp a1 hW.size) (And.intro ((hW.cell (p:=⟨aQ,b0+c,none⟩) a1).trans az) (And.intro (lp a2 hW.size) ((hW.cell (p:=⟨aP,aZ+i,none⟩) a2).trans aA))));have P:=lh aJ;subst aT;generalize sp[c].xs.getD i 0=z at bg a0;clear a1 az a2 aA aJ a9;obtain⟨a5,a6,a7,a8⟩:=a0.o _ (af.v M);have ac:=g.o.row.cell 0 _ rfl;have J:=g.o.row.lt;go_upto_region 5 with fail
   first|refine Zone.wp_region_m_gro 1 10 kR kR ?_|refine jK 1 10 kR kR ?_
   simp only[lX,lR,lZ,L4]
   repeat (refine jL _ (by rfl) (λ_=>by rfl) ?_)
   refine jM ?_
   repeat
    refine aR (λK hK=>?_);go_simp
    first
    | (refine hK _ _ ?_;clear hK K)
    | (apply Exists.intro
       refine⟨λp=>?_,hK _ _ ?_⟩
       (fail)
       clear hK K)
   refine bW 26 (λu W=>∃s:Nat,u=.slice (some ⟨s,0,none⟩) 1 1/\Sl W 1 bM (some ⟨s,0,none⟩) 1 [z]) rfl (λ_ W W' H ⟨s,h1,q⟩=>⟨s,h1,q.keep H⟩) ?_ ?_
   ·intro p;rw[bZ (by rfl)];simp only[aj];unfold av;go_simp;exact⟨br _ dC dC (λjj u hu=>by
     match jj,hu with
     | 0,hu=>cases hu;simp[go_sem]),aa.alloc (aa.refl _) _⟩
   refine bG ?_;intro p;simp only[aj];rintro b2 ⟨s,rfl,F⟩;have x:aa wr (wr.gro p):=ce _ _;generalize wr.gro p=aE at x F|-;have d:=lh (g.o.keep x);have D:=M.u x;clear x ac J a5 a6 a7 a8;go_simp;refine aD nP ea gC rfl (.tmp 18) (.tmp 26) rfl (ys:=[z]) d.o.ids rfl rfl F (by rw[P.o];simp;omega) D.o.size ?_;intro b1 I E t _;obtain⟨bJ,bU,O⟩:=bp E;rw[lg,P.o,lJ]at O;subst O;have y:ak I o 112 _:=de d.o.row t (bu d.o.ids d.o.row dC);have al:=y.cell 0 _ rfl;have fn:=y.soft 0;have aq:=y.lt;have L:=Bx.stepI d.o E t;rw[<-bg.o]at L;have N:=(D.o.grown t (λb e=>(d.o.ids.lt b e).1)).setCell (a:=⟨o,0,none⟩) ay.o (.slice bJ (c+1) bU);have Z:=lh L;have ae:=lh N;clear y L N E t F g M d D;go_simp;go_wp2;rw[fQ];go_wp2;go_roundw
   case rel=>exact⟨c+1,_,oM,by go_num,Z.o,ae.o⟩
   case measure=>simp[intOf];omega
  ·have aW:k=c:=oM;have bs:G.take c=G:=lM (by rw[aN.o];omega);rw[bs]at g;obtain⟨is,bq⟩:∃is,is=G:=⟨_,rfl⟩;rw[<-bq]at g bb;subst aW;clear bs aJ ba bc aN bq;obtain⟨vi,V⟩:∃vi,vi=Value.slice X k a4:=⟨_,rfl⟩;rw[<-V]at g;have bO:=lh V;clear V;go_wp2;go_loopw [9] (λv9 wr=>∃(c:Nat) (S bk b6:Value),c<=m/\v9=.int .i64 c/\Hid (Bx wr C.heap.size o vi is 1 [S,bk,b6] [(l.take c).map (·.1),(l.take c).map (·.2.1),(l.take c).map (·.2.2)])/\Hid (aa C wr)) (λv9 _=>m-(intOf v9).toNat)
   case atStart=>exact⟨0,_,_,_,lj _,rfl,g.o,M.o⟩
   case round =>
    clear g M bz au;obtain⟨c,S,bk,b6,au,rfl,g,M⟩:=hrel;have aV:∀f:(Int×Int×Int)->Int,((l.take c).map f).length=c:=λf=>(by rw[ld,lD,bi.o];omega);have P:=lh aV;obtain⟨ad,ai,ao⟩:=bp (g.o.own 0 _ _ rfl rfl);obtain⟨Y,a3,bm⟩:=bp (g.o.own 1 _ _ rfl rfl);obtain⟨Q,T,bl⟩:=bp (g.o.own 2 _ _ rfl rfl);rw[aV]at ao bm bl;subst ao;subst bm;subst bl;clear aV
    by_cases c1:c<m
    ·have a9:c<mt.length:=(by rw[<-bL.o];exact c1);obtain⟨aQ,b0,aP,aZ,bT,aT,a1,az,a2,aA,bS⟩:=b9.o c a9;obtain⟨b5,z2,z3⟩:=EC (bj.o c a9);have a0:=lh (λW (hW:aa w W)=>And.intro (lp a1 hW.size) (And.intro ((hW.cell (p:=⟨aQ,b0+c,none⟩) a1).trans az) (And.intro (lp a2 hW.size) ((hW.cell (p:=⟨aP,aZ+i,none⟩) a2).trans aA))));subst aT;generalize mt[c].xs.getD i 0=z at b5 z2 z3 a0;have bP:=lh b5;have bQ:=lh z2;have bR:=lh z3;clear a1 az a2 aA a9 b5 z2 z3;obtain⟨a5,a6,a7,a8⟩:=a0.o _ (af.v M);have ac:=g.o.row.cell 2 _ rfl;have J:=g.o.row.lt;go_upto_region 9 with fail
     first|refine Zone.wp_region_m_gro 1 10 kR kR ?_|refine jK 1 10 kR kR ?_
     simp only[lX,lR,lZ,L4]
     repeat (refine jL _ (by rfl) (λ_=>by rfl) ?_)
     refine jM ?_
     repeat
      refine aR (λK hK=>?_);go_simp
      first
      | (refine hK _ _ ?_;clear hK K)
      | (apply Exists.intro
         refine⟨λp=>?_,hK _ _ ?_⟩
         (fail)
         clear hK K)
     refine bW 44 (λu W=>∃s:Nat,u=.slice (some ⟨s,0,none⟩) 1 1/\Sl W 1 bM (some ⟨s,0,none⟩) 1 [z]) rfl (λ_ W W' H ⟨s,h1,q⟩=>⟨s,h1,q.keep H⟩) ?_ ?_
     ·intro p;rw[bZ (by rfl)];simp only[aj];unfold av;go_simp;exact⟨br _ dC dC (λjj u hu=>by
       match jj,hu with
       | 0,hu=>cases hu;simp[go_sem]),aa.alloc (aa.refl _) _⟩
     refine bG ?_;intro p;simp only[aj];rintro b2 ⟨s,rfl,F⟩;have x:aa wr (wr.gro p):=ce _ _;generalize wr.gro p=aE at x F|-;have d:=lh (g.o.keep x);have D:=M.u x;clear x ac J a5 a6 a7 a8;go_simp;refine aD iO ea gC rfl (.tmp 36) (.tmp 44) rfl (ys:=[z]) (d.o.own 0 _ _ rfl rfl) rfl rfl F (by rw[P.o];simp;omega) D.o.size ?_;intro b1 I E t U;obtain⟨aw,aB,O⟩:=bp E;rw[lg,P.o,lJ]at O;subst O;have y:ak I o 112 _:=de d.o.row t (bu (d.o.own 0 _ _ rfl rfl) d.o.row dC);have al:=y.cell 2 _ rfl;have fn:=y.soft 2;have aq:=y.lt;have L:=Bx.step d.o 0 rfl rfl E t U;have N:=(D.o.grown t (λb e=>((d.o.own 0 _ _ rfl rfl).lt b e).1)).setCell (a:=⟨o,2,none⟩) ay.o (.slice aw (c+1) aB);have Z:=lh (show Bx (I.setCell ⟨o,2,none⟩ (.slice aw (c+1) aB)) C.heap.size o vi is 1 [.slice aw (c+1) aB,.slice Y c a3,.slice Q c T] [(l.take (c+1)).map (·.1),(l.take c).map (·.2.1),(l.take c).map (·.2.2)]from by rw[bP.o];exact L);have ae:=lh N;clear y L N E t U F g M d D;go_simp;go_wp2;rw[fQ];generalize World.setCell I _ _=b3 at Z ae|-;clear al fn aq;obtain⟨a5,a6,a7,a8⟩:=a0.o _ (af.v ae);have ac:=Z.o.row.cell 3 _ rfl;have J:=Z.o.row.lt;go_upto_region 10 with fail
     first|refine Zone.wp_region_m_gro 1 10 kR kR ?_|refine jK 1 10 kR kR ?_
     simp only[lX,lR,lZ,L4]
     repeat (refine jL _ (by rfl) (λ_=>by rfl) ?_)
     refine jM ?_
     repeat
      refine aR (λK hK=>?_);go_simp
      first
      | (refine hK _ _ ?_;clear hK K)
      | (apply Exists.intro
         refine⟨λp=>?_,hK _ _ ?_⟩
         (fail)
         clear hK K)
     refine bW 56 (λu W=>∃s:Nat,u=.slice (some ⟨s,0,none⟩) 1 1/\Sl W 1 bM (some ⟨s,0,none⟩) 1 [z]) rfl (λ_ W W' H ⟨s,h1,q⟩=>⟨s,h1,q.keep H⟩) ?_ ?_
     ·intro p;rw[bZ (by rfl)];simp only[aj];unfold av;go_simp;exact⟨br _ dC dC (λjj u hu=>by
       match jj,hu with
       | 0,hu=>cases hu;simp[go_sem]),aa.alloc (aa.refl _) _⟩
     refine bG ?_;intro p;simp only[aj];rintro b2 ⟨s,rfl,F⟩;have x:aa b3 (b3.gro p):=ce _ _;generalize b3.gro p=aE at x F|-;have d:=lh (Z.o.keep x);have D:=ae.u x;clear x ac J a5 a6 a7 a8;go_simp;refine aD iO ea gC rfl (.tmp 48) (.tmp 56) rfl (ys:=[z]) (d.o.own 1 _ _ rfl rfl) rfl rfl F (by rw[P.o];simp;omega) D.o.size ?_;intro b1 I E t U;obtain⟨aF,aH,O⟩:=bp E;rw[lg,P.o,lJ]at O;subst O;have y:ak I o 112 _:=de d.o.row t (bu (d.o.own 1 _ _ rfl rfl) d.o.row dC);have al:=y.cell 3 _ rfl;have fn:=y.soft 3;have aq:=y.lt;have L:=Bx.step d.o 1 rfl rfl E t U;have N:=(D.o.grown t (λb e=>((d.o.own 1 _ _ rfl rfl).lt b e).1)).setCell (a:=⟨o,3,none⟩) ay.o (.slice aF (c+1) aH);have ax:=lh (show Bx (I.setCell ⟨o,3,none⟩ (.slice aF (c+1) aH)) C.heap.size o vi is 1 [.slice aw (c+1) aB,.slice aF (c+1) aH,.slice Q c T] [(l.take (c+1)).map (·.1),(l.take (c+1)).map (·.2.1),(l.take c).map (·.2.2)]from by rw[bQ.o];exact L);have aG:=lh N;clear y L N E t U F Z ae d D;go_simp;go_wp2;rw[fQ];generalize World.setCell I _ _=b4 at ax aG|-;clear al fn aq;obtain⟨a5,a6,a7,a8⟩:=a0.o _ (af.v aG);have ac:=ax.o.row.cell 4 _ rfl;have J:=ax.o.row.lt;go_upto_region 11 with fail
     first|refine Zone.wp_region_m_gro 1 10 kR kR ?_|refine jK 1 10 kR kR ?_
     simp only[lX,lR,lZ,L4]
     repeat (refine jL _ (by rfl) (λ_=>by rfl) ?_)
     refine jM ?_
     repeat
      refine aR (λK hK=>?_);go_simp
      first
      | (refine hK _ _ ?_;clear hK K)
      | (apply Exists.intro
         refine⟨λp=>?_,hK _ _ ?_⟩
         (fail)
         clear hK K)
     refine bW 68 (λu W=>∃s:Nat,u=.slice (some ⟨s,0,none⟩) 1 1/\Sl W 1 bM (some ⟨s,0,none⟩) 1 [z]) rfl (λ_ W W' H ⟨s,h1,q⟩=>⟨s,h1,q.keep H⟩) ?_ ?_
     ·intro p;rw[bZ (by rfl)];simp only[aj];unfold av;go_simp;exact⟨br _ dC dC (λjj u hu=>by
       match jj,hu with
       | 0,hu=>cases hu;simp[go_sem]),aa.alloc (aa.refl _) _⟩
     refine bG ?_;intro p;simp only[aj];rintro b2 ⟨s,rfl,F⟩;have x:aa b4 (b4.gro p):=ce _ _;generalize b4.gro p=aE at x F|-;have d:=lh (ax.o.keep x);have D:=aG.u x;clear x ac J a5 a6 a7 a8;go_simp;refine aD iO ea gC rfl (.tmp 60) (.tmp 68) rfl (ys:=[z]) (d.o.own 2 _ _ rfl rfl) rfl rfl F (by rw[P.o];simp;omega) D.o.size ?_;intro b1 I E t U;obtain⟨aM,aS,O⟩:=bp E;rw[lg,P.o,lJ]at O;subst O;have y:ak I o 112 _:=de d.o.row t (bu (d.o.own 2 _ _ rfl rfl) d.o.row dC);have al:=y.cell 4 _ rfl;have fn:=y.soft 4;have aq:=y.lt;have L:=Bx.step d.o 2 rfl rfl E t U;have N:=(D.o.grown t (λb e=>((d.o.own 2 _ _ rfl rfl).lt b e).1)).setCell (a:=⟨o,4,none⟩) ay.o (.slice aM (c+1) aS);have b8:=lh (show Bx (I.setCell ⟨o,4,none⟩ (.slice aM (c+1) aS)) C.heap.size o vi is 1 [.slice aw (c+1) aB,.slice aF (c+1) aH,.slice aM (c+1) aS] [(l.take (c+1)).map (·.1),(l.take (c+1)).map (·.2.1),(l.take (c+1)).map (·.2.2)]from by rw[bR.o];exact L);have bf:=lh N;clear y L N E t U F ax aG d D;go_simp;go_wp2;rw[fQ];generalize World.setCell I _ _=ca at b8 bf|-;clear al fn aq;go_wp2;go_roundw
     case rel=>exact⟨c+1,_,_,_,oM,by go_num,b8.o,bf.o⟩
     case measure=>simp[intOf];omega
    ·have aW:m=c:=oM;have bF:l.take c=l:=lM (by rw[bi.o];omega);subst aW;rw[bF]at g;have V:=bO.o;subst V;clear bF b9 bj;have c4:=g.o.row.cell 0 _ rfl;have c5:=g.o.row.cell 1 _ rfl;have c6:=g.o.row.cell 2 _ rfl;have c7:=g.o.row.cell 3 _ rfl;have c8:=g.o.row.cell 4 _ rfl;have J:=g.o.row.lt;have aO:=lh (bN.o.keep M.o);go_wp2_with (with_reducible refine pe 112 ?_);refine ar ?_;refine wpList_store_row rfl 112 (.tmp 6) (.tmp 71) rfl w.heap.size #[.slice X k a4,.int .i64 1,.slice ad m ai,.slice Y m a3,.slice Q m T] rfl rfl 112 _ aO.o kR rfl (by simp[Value.oneCell']) ?_;have ab:ak (wr.setRow w.heap.size #[.slice X k a4,.int .i64 1,.slice ad m ai,.slice Y m a3,.slice Q m T]) w.heap.size 112 [.slice X k a4,.int .i64 1,.slice ad m ai,.slice Y m a3,.slice Q m T]:=setRow_heap wr w.heap.size _ _ 112 (0,0) aO.o;have aX:=m7 wr w.heap.size #[.slice X k a4,.int .i64 1,.slice ad m ai,.slice Y m a3,.slice Q m T];generalize World.setRow wr _ _=aE at ab aX|-;have bh:=lh aX;have t0:=ab.cell 0 _ rfl;have c3:=ab.cell 1 _ rfl;have t2:=ab.cell 2 _ rfl;have t3:=ab.cell 3 _ rfl;have t4:=ab.cell 4 _ rfl;clear c4 c5 c6 c7 c8 ab aX J;go_wp2;refine bodyPost_ret (v:=.agg #[.slice X k a4,.int .i64 1,.slice ad m ai,.slice Y m a3,.slice Q m T]) (by simp[results,results52,go_sem,t0,c3,t2,t3,t4]) rfl ?_
     have aL:∀{e:TypeId} {v:Value} {xs:List Int},ah wr C.heap.size e 1 bM v xs->112≠e->ah aE w.heap.size e 1 bM v xs:=λh he=>(h.turn bh.o λj hj=>by
      simp only[lm]at hj;subst hj;exact bu h aO.o he).base_mono af.o.size
     refine⟨⟨X,a4,1,ad,ai,Y,a3,Q,T⟩,rfl,bb.o _ _ (aL g.o.ids dC) rfl (aL (g.o.own 0 _ _ rfl rfl) dC) (aL (g.o.own 1 _ _ rfl rfl) dC) (aL (g.o.own 2 _ _ rfl rfl) dC),ag.after (af.v M) bh.o λj hj=>by simp only[lm]at hj;omega⟩
theorem si{c:Type}{w:World}{b k i:Nat}{e:TypeId}{enc:c->List Value}{v:Value}{xs:List c}(d:ah w b e k enc v xs)(a:v.ownBlock=some i)(l:e≠3)(h:e≠2):NI w i:=λcs T f hc=>by
 rcases d.2 with⟨rfl,_⟩ | ⟨g,o,n,rfl,_,j,_⟩
 ·cases a
 ·simp only[Value.ownBlock,lQ]at a;subst a;rw[j]at hc;simp only[lQ,Obj.cells.injEq]at hc;exact hc.2.1 ▸ ⟨l,h⟩
theorem uQ{w:World}{g:Nat}{a:TypeId}{e:List Value}(b:ak w g a e)(d:a≠3)(c:a≠2):NI w g:=λcs T' f hc=>by
 unfold ak at b;rw[b]at hc;simp only[lQ,Obj.cells.injEq]at hc;exact hc.2.1 ▸ ⟨d,c⟩
abbrev pA(k m:Nat)(w:World)(base:Nat)(v:Value)(xs:List Rd):Prop:=ah w base 112 5 (Rd.cells k m) v xs
def pu(k m:Nat)(W:World)(base:Nat)(P:List (Rd×Star.SR)):Prop:=∀p∈P,cQ W base k m p.1 p.2
def wV(W:World)(i:Nat):Prop:=∃cs f,W.heap[i]? =some (.cells cs 112 f)\/W.heap[i]? =some (.cells cs 117 f)
structure Gz(base gt:Nat)(W W':World):Prop where
 os:W'.os=W.os
 tape:W'.tape=W.tape
 output:W'.output=W.output
 size:W.heap.size<=W'.heap.size
 block:∀i,i<W.heap.size->(i<base\/(i≠gt/\¬ wV W i))->W'.heap[i]? =W.heap[i]?
section
variable {base gt:Nat} {w W W' W2:World}
theorem Gz.refl(base gt:Nat)(W:World):Gz base gt W W:=⟨rfl,rfl,rfl,lc _,λ_ _ _=>rfl⟩
theorem Gz.keep(h:aa W W')(base gt:Nat):Gz base gt W W':=⟨h.os,h.tape,h.output,h.size,λi hi _=>h.block i hi⟩
theorem Gz.trans(a:Gz base gt W W')(k:Gz base gt W' W2):Gz base gt W W2 :=
 ⟨k.os.trans a.os,k.tape.trans a.tape,k.output.trans a.output,lk a.size k.size,λi hi b=>by
  have e:=a.block i hi b;refine(k.block i (lp hi a.size) ?_).trans e
  rcases b with b | ⟨d,c⟩
  ·exact .inl b
  ·refine .inr ⟨d,λ⟨cs,f,hq⟩=>c ⟨cs,f,?_⟩⟩;rw[e]at hq;exact hq⟩
theorem Gz.of_turn{S:List Nat}(b:ag W W' S)(e:∀i∈S,base<=i/\(i=gt\/wV W i\/W.heap.size<=i)):Gz base gt W W' :=
 ⟨b.os,b.tape,b.output,b.size,λi hi c=>b.block i hi λhm=>by
  obtain⟨g,a⟩:=e i hm
  rcases c with c | ⟨f,d⟩
  ·omega
  ·rcases a with a|a|a
   ·exact f a
   ·exact d a
   ·omega⟩
theorem Gz.own{i:Type}{b k:Nat}{e h:TypeId}{enc:i->List Value}{v:Value}{xs:List i}{n:List Value}(c:ah W b e k enc v xs)(u:Gz base gt W W')(x:e≠112)(p:e≠117)(j:ak W gt h n)(s:h≠e):ah W' b e k enc v xs:=by
 have l:=bu c j s;refine⟨c.1,?_⟩
 rcases c.2 with o | ⟨g,t,q,rfl,r,d,rest⟩
 ·exact .inl o
 ·refine .inr ⟨g,t,q,rfl,r,(u.block g (La.1 d).1 (.inr ⟨λe=>l (by rw[e];rfl),λ⟨cs,f,a⟩=>?_⟩)).trans d,rest⟩;rw[d]at a;simp only[lQ,Obj.cells.injEq]at a
  rcases a with a|a
  ·exact x a.2.1
  ·exact p a.2.1
theorem Gz.after(a:aa w W)(k:Gz base gt W W')(b:w.heap.size<=base):aa w W' :=
 ⟨k.os.trans a.os,k.tape.trans a.tape,k.output.trans a.output,lk a.size k.size,λi hi=>(k.block i (lp hi a.size) (.inl oM)).trans (a.block i hi)⟩
end
theorem AX{c:Type}{w:World}{b k i:Nat}{e:TypeId}{enc:c->List Value}{v:Value}{xs:List c}(f:ah w b e k enc v xs)(he:e=112\/e=117)(a:v.ownBlock=some i):b<=i/\wV w i:=by
 rcases f.2 with⟨rfl,_⟩ | ⟨g,l,h,rfl,j,d,_⟩
 ·cases a
 ·simp only[Value.ownBlock,lQ]at a;subst a;refine⟨j,h,(0,0),?_⟩
  rcases he with rfl|rfl
  ·exact .inl d
  ·exact .inr d
def m8(k leaf:Nat)(vr vn:Value):List Value:=[.int .i64 (k:Int),.int .i64 (leaf:Int),vr,vn]
structure dK(W:World)(gt base k m leaf:Nat)(vr vn:Value)(P:List (Rd×Star.SR))(N:List (Nc×Star.SN)):Prop where
 row:ak W gt 109 (m8 k leaf vr vn)
 gtb:base<=gt
 recs:pA k m W base vr (P.map λp=>p.1)
 ra:pu k m W base P
 nodes:pC W base vn (N.map λp=>p.1)
 na:EH W base N
section
variable {W W':World} {gt base k m leaf:Nat} {vr vn:Value} {P Q:List (Rd×Star.SR)} {N:List (Nc×Star.SN)}
theorem dK.keep(a:dK W gt base k m leaf vr vn P N)(b:aa W W'):dK W' gt base k m leaf vr vn P N :=
 ⟨a.row.keep b,a.gtb,a.recs.keep b,(λp hp=>(a.ra p hp).keep b),a.nodes.keep b,λp hp=>⟨(a.na p hp).d,(a.na p hp).lo,(a.na p hp).hi,(a.na p hp).own.keep b⟩⟩
theorem CU{a:Type}{d:Nat}{e:TypeId}{enc:a->List Value}{v:Value}{xs:List a}(b:ah W base e d enc v xs)(he:e=112\/e=117)(c:W.grownBy W' v.ownBlock):Gz base gt W W' :=
 Gz.of_turn (ag.of_grown c) λi hi=>by
  have:=AX b he (by simpa using hi);exact⟨this.1,.inr (.inl this.2)⟩
theorem CS(b:base<=gt)(a:Nat)(v:Value):Gz base gt W (W.setCell ⟨gt,a,none⟩ v) :=
 Gz.of_turn (ag.set W ⟨gt,a,none⟩ v) λi hi=>by
  simp only[lm]at hi;exact⟨oM,.inl hi⟩
theorem dK.app_node(a:dK W gt base k m leaf vr vn P N){c:Value}{n:Nc}{x:Star.SN}(h:pC W' base c ((N.map λp=>p.1)++[n]))(t:W.grownBy W' vn.ownBlock)(z:nX W base n x) :
 dK (W'.setCell ⟨gt,3,none⟩ c) gt base k m leaf vr c P (N++[(n,x)])/\Gz base gt W (W'.setCell ⟨gt,3,none⟩ c):=by
 have u:=bu a.nodes a.row dC;have j:=ag.of_grown t;have g:∀i,i∈vn.ownBlock.toList->vn.ownBlock=some i:=λi hi=>by simpa using hi
 have l:ak W' gt 109 (m8 k leaf vr vn):=j.row a.row λhm=>u (g _ hm);have q:ag W' (W'.setCell ⟨gt,3,none⟩ c) [gt]:=ag.set W' ⟨gt,3,none⟩ c;have o:∀{α:Type} {e:TypeId} {kk b:Nat} {enc:α->List Value} {v:Value} {xs:List α},ah W' b e kk enc v xs->109≠e->ah (W'.setCell ⟨gt,3,none⟩ c) b e kk enc v xs:=λh he=>h.turn q λi hi=>by
  simp only[lm]at hi;subst hi;exact bu h l he
 have s:∀{r:Nc} {y:Star.SN},nX W base r y->nX (W'.setCell ⟨gt,3,none⟩ c) base r y:=λhy=>⟨hy.d,hy.lo,hy.hi,o (hy.own.turn j λi hi=>cN a.nodes hy.own dC i (g i hi)) dC⟩;refine⟨⟨l.set 3 c,a.gtb,o (a.recs.turn j λi hi=>cN a.nodes a.recs dC i (g i hi)) dC,λp f=>?_,?_,λp f=>?_⟩,(CU a.nodes (.inr rfl) t).trans (CS a.gtb 3 c)⟩
 ·exact((a.ra p f).turn j λi hi=>si a.nodes (g i hi) dC dC).turn q λi hi=>by
   simp only[lm]at hi;subst hi;exact uQ l dC dC
 ·rw[lz];exact o h dC
 ·rcases lx.1 f with f|f
  ·exact s (a.na p f)
  ·rw[lm]at f;subst f;exact s z
theorem dK.app_recs(a:dK W gt base k m leaf vr vn P N){c:Value}(j:pA k m W' base c ((P.map λp=>p.1)++(Q.map λp=>p.1)))(t:W.grownBy W' vr.ownBlock)(u:pu k m W base Q) :
 dK (W'.setCell ⟨gt,2,none⟩ c) gt base k m leaf c vn (P++Q) N/\Gz base gt W (W'.setCell ⟨gt,2,none⟩ c):=by
 have x:=bu a.recs a.row dC;have l:=ag.of_grown t;have h:∀i,i∈vr.ownBlock.toList->vr.ownBlock=some i:=λi hi=>by simpa using hi
 have n:ak W' gt 109 (m8 k leaf vr vn):=l.row a.row λhm=>x (h _ hm);have q:ag W' (W'.setCell ⟨gt,2,none⟩ c) [gt]:=ag.set W' ⟨gt,2,none⟩ c;have o:∀{α:Type} {e:TypeId} {kk b:Nat} {enc:α->List Value} {v:Value} {xs:List α},ah W' b e kk enc v xs->109≠e->ah (W'.setCell ⟨gt,2,none⟩ c) b e kk enc v xs:=λj he=>j.turn q λi hi=>by
  simp only[lm]at hi;subst hi;exact bu j n he
 have s:∀{r:Rd} {y:Star.SR},cQ W base k m r y->cQ (W'.setCell ⟨gt,2,none⟩ c) base k m r y:=λg=>(g.turn l λi hi=>si a.recs (h i hi) dC dC).turn q λi hi=>by
  simp only[lm]at hi;subst hi;exact uQ n dC dC
 refine⟨⟨n.set 2 c,a.gtb,?_,λp f=>?_,o (a.nodes.turn l λi hi=>cN a.recs a.nodes dC i (h i hi)) dC,λp f=>?_⟩,(CU a.recs (.inl rfl) t).trans (CS a.gtb 2 c)⟩
 ·rw[lz];exact o j dC
 ·rcases lx.1 f with f|f
  ·exact s (a.ra p f)
  ·exact s (u p f)
 ·have g:=a.na p f;exact⟨g.d,g.lo,g.hi,o (g.own.turn l λi hi=>cN a.recs g.own dC i (h i hi)) dC⟩
theorem dK.set_kids{f c q:Nat}(a:dK W gt base k m leaf vr (.slice (some ⟨f,0,none⟩) q c) P N)(x:N.length=q)(i:Nat)(hi:i<N.length){A:Option Addr}{l h:Nat}{t:List (Int×Nat)}(z:kX W base (.slice A l h) t) :
 dK (W.setCell ⟨f,i*4+3,none⟩ (.slice A l h)) gt base k m leaf vr (.slice (some ⟨f,0,none⟩) q c) P (N.set i ({ N[i].1 with A:=A,l:=l,c:=h },{ N[i].2 with kids:=t }))/\Gz base gt W (W.setCell ⟨f,i*4+3,none⟩ (.slice A l h)):=by
 have o:ag W (W.setCell ⟨f,i*4+3,none⟩ (.slice A l h)) [f]:=ag.set W ⟨f,i*4+3,none⟩ (.slice A l h);have y:base<=f:=(a.nodes.lt f rfl).1;have r:∀{α:Type} {e:TypeId} {kk b:Nat} {enc:α->List Value} {v:Value} {xs:List α},ah W b e kk enc v xs->117≠e->ah (W.setCell ⟨f,i*4+3,none⟩ (.slice A l h)) b e kk enc v xs:=λho he=>ho.turn o λj hj=>by
  simp only[lm]at hj;subst hj;exact cN a.nodes ho he j rfl
 have u:gt∉[f]:=λhm=>by
  simp only[lm]at hm;subst hm;exact bu a.nodes a.row dC rfl
 have s:(N.map λp=>p.1).length=q:=by rw[ld];exact x
 refine⟨⟨o.row a.row u,a.gtb,r a.recs dC,λp n=>?_,?_,λp n=>?_⟩,Gz.of_turn o λj hj=>?_⟩
 ·exact(a.ra p n).turn o λj hj=>by
   simp only[lm]at hj;subst hj;exact si a.nodes rfl dC dC
 ·rw[List.map_set];exact sf a.nodes j6 s i 3 (by rw[s];omega) dC _ _ (by rw[Lj];rfl)
 ·rcases List.mem_or_eq_of_mem_set n with n|rfl
  ·have g:=a.na p n;exact⟨g.d,g.lo,g.hi,r g.own dC⟩
  ·have g:=a.na N[i] (ll hi);exact⟨g.d,g.lo,g.hi,r z dC⟩
 ·simp only[lm]at hj;subst hj;exact⟨y,.inr (.inl (AX a.nodes (.inr rfl) rfl).2)⟩
end
section
variable {W W' w:World} {gt base k m leaf:Nat} {vr vn:Value} {P:List (Rd×Star.SR)} {N:List (Nc×Star.SN)}
theorem dK.grown_kd(a:dK W gt base k m leaf vr vn P N){b:Nat}{v:Value}{j:List (Int×Nat)}(g:kX W b v j)(n:W.grownBy W' v.ownBlock)(l:∀p∈N,∀i,fH p.1=some i->v.ownBlock≠some i):dK W' gt base k m leaf vr vn P N:=by
 have f:=ag.of_grown n;have c:∀i,i∈v.ownBlock.toList->v.ownBlock=some i:=λi hi=>by simpa using hi
 refine⟨f.row a.row λhm=>bu g a.row dC (c _ hm),a.gtb,a.recs.turn f λi hi=>cN g a.recs dC i (c i hi),λp hp=>(a.ra p hp).turn f λi hi=>si g (c i hi) dC dC,a.nodes.turn f λi hi=>cN g a.nodes dC i (c i hi),λp hp=>?_⟩;have h:=a.na p hp;exact⟨h.d,h.lo,h.hi,h.own.turn f λi hi e=>l p hp i e (c i hi)⟩
theorem Gz.trans_up{S:List Nat}(a:Gz base gt w W)(k:ag W W' S)(b:∀i∈S,w.heap.size<=i):Gz base gt w W' :=
 ⟨k.os.trans a.os,k.tape.trans a.tape,k.output.trans a.output,lk a.size k.size,λi hi hc=>(k.block i (lp hi a.size) λhm=>by have:=b i hm;omega).trans (a.block i hi hc)⟩
end
theorem dK.finish{W:World}{gt base k m leaf f c o n g:Nat}{vr:Value}{P:List (Rd×Star.SR)}{N a:List (Nc×Star.SN)}(y:dK W gt base k m leaf vr (.slice (some ⟨f,0,none⟩) o c) P (N++a))(B:(N++a).length=o)(r:N.length=n){x:Star.SN}{s:List Star.SN}(j:(a.map λp=>p.2)=x::s){A:Option Addr}{l d:Nat}{h:List (Int×Nat)}(t:kX W g (.slice A l d) h)(z:base<=g)(D:∀p∈a,∀b,fH p.1=some b->g<=b) :
 ∃NXf,dK (W.setCell ⟨f,n*4+3,none⟩ (.slice A l d)) gt base k m leaf vr (.slice (some ⟨f,0,none⟩) o c) P (N++NXf)/\(NXf.map λp=>p.2)={ x with kids:=h }::s/\(∀p∈NXf,∀b,fH p.1=some b->g<=b)/\Gz base gt W (W.setCell ⟨f,n*4+3,none⟩ (.slice A l d)):=by
 cases a with
 | nil=>cases j
 | cons p0 a =>
   simp only[lG,Lu]at j;obtain⟨E,C⟩:=j;have hi:n<(N++p0::a).length:=sO;obtain⟨q,v⟩:=y.set_kids B n hi (t.base_mono z);have e:(N++p0::a)[n]=p0:=by
    rw[List.getElem_append_right oM];simp[r]
   refine⟨({ p0.1 with A:=A,l:=l,c:=d },{ p0.2 with kids:=h })::a,?_,?_,?_,v⟩
   ·rw[e]at q;rw[Lg _ _ oM,r,Nat.sub_self]at q;exact q
   ·simp only[lG];rw[E,C]
   ·intro p i b u
    rcases ln.1 i with rfl|i
    ·exact(t.lt b u).1
    ·exact D p (Lm _ i) b u
end Go.Proofs.YtpkocnpamcchcaaGreatDoor
