/- Parts. -/
import Derived.Lib.LaidTab
import Derived.Test.YtpkocnpamcchcaaGreatDoorL27
import Derived.Test.YtpkocnpamcchcaaGreatDoorL34
set_option maxRecDepth 100000
set_option maxHeartbeats 40000000
set_option linter.all false
namespace Go.Proofs.YtpkocnpamcchcaaGreatDoor
open Go.RowKit Go.Zone Go.Shelf Tryz Go.Roa Go.Star Go.Sym
attribute [local go_sem ↓] kx mc
attribute [local go_sem] kU mL kJ kH kG mh QU mg mf kA xQ
def gY(k:Nat)(x:Star.SR):List UInt8:=(x.ids.take k).flatMap (λid=>aP (wrap64 (id+1)) 4)++aP x.n 8++x.sums.flatMap λs=>aP s.1 8++aP s.2.1 8++aP s.2.2 8
def g6(x:Star.SN):List UInt8:=aP x.depth 1++aP x.lo 4++aP x.hi 4++aP x.kids.length 4++x.kids.flatMap λq=>aP (wrap64 (q.1+1)) 4++aP q.2 4
def ju(k m:Nat)(P:List Star.SR)(N:List Star.SN):List UInt8:=aP k 1++aP m 2++aP P.length 4++P.flatMap (gY k)++aP N.length 4++N.flatMap g6
theorem dm(x:Int)(s:Nat):(aP x s).length=s:=ay _ _
theorem Ht(b k:Nat)(d:k<=8)(a:World):(Instr.sliceAt 155 (.pointer (some ⟨b,0,none⟩)) none (some (.int .i64 (k:Int))) none).run prog a=.ok (.slice (some ⟨b,0,none⟩) k 8) a:=by
 have e:¬((k:Int)<0):=oM;have c:¬((8:Int)<(k:Int)):=oM;unfold Instr.sliceAt;simp only[Sem.run_bind,run_underlying ub,Result.andThen_ok];go_simp
theorem Gn(b k:Nat)(c:List Value)(g:1<=k)(w:World)(a:ak w b 153 (.int .i64 (k:Int)::c)):Rs 86 #[.pointer (some ⟨b,0,none⟩)] w (.bool false):=by
 have d:=a.cell 0 _ rfl;have f:=a.lt;have e:((k:Int)==0)=false:=sO;clear a;go_enter func86,ntmps86;go_wp2;go_ret;exact⟨rfl,rfl⟩
theorem GQ(aZ base k m leaf:Nat)(bP c0:Value)(P:List (Rc×Star.SR))(N:List (Nc×Star.SN))(w:World)(H:dN w aZ base k m leaf bP c0 P N)(c9:1<=k)(bZ:k<=8)(cw:m<=256)(bJ:P.length<=1000000)(c3:N.length<=1000000)(bu:∀p∈N,p.2.kids.length<=100000) :
 Rb 37 #[.pointer (some ⟨aZ,0,none⟩)] w (ju k m (P.map λp=>p.2) (N.map λp=>p.2)):=by
 obtain⟨cc,cl,bn⟩:=bp H.recs;obtain⟨cp,co,bk⟩:=bp H.nodes;rw[ld]at bn bk;subst bn;subst bk;obtain⟨J,aA⟩:∃J,J=P.length:=⟨_,rfl⟩;obtain⟨K,ay⟩:∃K,K=N.length:=⟨_,rfl⟩;rw[<-aA,<-ay]at H;rw[<-aA]at bJ;rw[<-ay]at c3;have aQ:=lh aA;have aN:=lh ay;have au:=lh H;have bK:=lh bu;have T:=lh (λW (hW:aa w W)=>(H.row.keep hW));have Y:=lh (λW (hW:aa w W)=>lp H.row.lt hW.size);have ac:=H.row.cell 0 _ rfl;have ch:=H.row.lt;have bt:=lh (Gn aZ k _ c9 w H.row);clear H bu aA ay;go_enter func37,ntmps37;go_wp2_with (go_at_call 86;refine ae ?_);refine uM bt.o ?_;rintro e cs ⟨rfl,rfl⟩;clear bt;go_upto_region 5 with fail;have aF:iH (w.alloc (.cells #[.slice none 0 0] 31)) w w.heap.size []:=⟨⟨.slice none 0 0,bH w 31 [.slice none 0 0],ah.nil_ _ _ _ _ _⟩,lc _,aa.alloc (aa.refl _) _⟩;generalize w.alloc (.cells #[.slice none 0 0] 31)=ck at aF|-;generalize bl:w.heap.size=o at aF|-;have aD:=lh aF;clear aF ac;have ac:=(T.o _ aD.o.keep).cell 0 _ rfl;have ca:=Y.o _ aD.o.keep;go_wp2_with (go_at_fn 87;refine ae ?_);refine uM (gQ (k:Int) 1 o dC _ w _ aD.o sP) ?_;rintro e ci ⟨rfl,a,f⟩;have aK:=lh a;clear a f aD;clear ac ca;have bL:=(T.o _ aK.o.keep).cell 1 _ rfl;have bG:=Y.o _ aK.o.keep;go_wp2_with (go_at_fn 87;refine ae ?_);refine uM (gQ (m:Int) 2 o dC _ w _ aK.o (by simp[dm])) ?_
 rintro e cq ⟨rfl,a,f⟩;have aB:=lh a;clear a f aK;clear bL bG;have bc:=(T.o _ aB.o.keep).cell 3 _ rfl;have aT:=Y.o _ aB.o.keep;go_wp2_with (go_at_fn 87;refine ae ?_);refine uM (gQ (J:Int) 4 o dC _ w _ aB.o (by simp[dm])) ?_;rintro e cu ⟨rfl,a,f⟩;have aj:=lh a;clear a f aB;clear bc aT;rw[lO]at aj;have bc:=(T.o _ aj.o.keep).cell 3 _ rfl;have bI:=Y.o _ aj.o.keep;go_wp2;clear bc bI;go_loopw [42] (λvi wr=>∃(i:Nat) (bs:List UInt8),i<=J/\vi=.int .i64 i/\Hid (bs=aP k 1++aP m 2++aP J 4++((P.map λp=>p.2).take i).flatMap (gY k))/\bs.length<=7+7000*i/\Hid (iH wr w o bs)) (λvi _=>J-(intOf vi).toNat)
 case atStart=>exact⟨0,aP k 1++aP m 2++aP J 4,lj _,rfl,(by show _=_;simp),by simp[dm],aj.o⟩
 case round =>
  clear aj;obtain⟨i,bs,hi,rfl,bd,ct,h⟩:=hrel
  by_cases bY:i<J
  ·have aq:i<P.length:=(by rw[<-aQ.o];exact bY);have a2:=au.o.keep h.o.keep;obtain⟨cm,rfl,-⟩:=fh a2.recs (by rw[ld];omega);obtain⟨av,_,c8,_⟩:=fY a2.recs fx (by rw[ld];exact aQ.o.symm) i (by rw[ld];exact aq);have aL:=au.o.ra P[i] (ll aq);have aM:=au.o.ml P[i] (ll aq);have a5:=lh (show((P.map λp=>p.2).take (i+1)).flatMap (gY k)=((P.map λp=>p.2).take i).flatMap (gY k)++gY k P[i].2 by
    rw[ly (by rw[ld];exact aq),lF];simp)
   rw[Lj]at av;generalize P[i]=b3 at av aL aM a5;obtain⟨x,X⟩:=b3;simp only at av aL aM a5;have a0:=nE av;have ap:=lh aL;have aW:=lh aM;clear av aL aM a2 aq;go_upto_region 11 with fail;have aE:=Ee wr x;have aU:=Ef wr x;generalize World.setCells (World.alloc wr _) _ _ _=bV at aE aU|-;generalize wr.heap.size=ax at aE|-;have E:=lh aE;have L:=lh (h.o.keep' aU);clear aE aU a0 h c8;have ac:=(T.o _ L.o.keep).cell 0 _ rfl;have b1:=Y.o _ L.o.keep;have a8:=E.o.lt;have bN:=Ht ax k bZ;go_wp2;clear bN ac b1 a8;go_loopw [53] (λvj wq=>∃(j:Nat) (r:List UInt8),j<=k/\vj=.int .i64 j/\Hid (r=bs++(X.ids.take j).flatMap λid=>aP (wrap64 (id+1)) 4)/\r.length<=7+7000*i+4*j/\Hid (iH wq w o r)/\Hid (ak wq ax 158 x.cells)) (λvj _=>k-(intOf vj).toNat)
   case atStart=>exact⟨0,bs,lj _,rfl,(by show _=_;simp),oM,L.o,E.o⟩
   case round =>
    clear L E;obtain⟨j,r,bD,rfl,ab,c1,h,E⟩:=hrel
    by_cases cn:j<k
    ·have b6:j<X.ids.length:=(by rw[ap.o.len8];omega);have a9:=E.o.cell j _ (vX x j oM);have bw:=lh (show(X.ids.take (j+1)).flatMap (λid=>aP (wrap64 (id+1)) 4)=(X.ids.take j).flatMap (λid=>aP (wrap64 (id+1)) 4)++aP (wrap64 (x.ids.getD j 0+1)) 4 by
      rw[ly b6,lF,ap.o.ids,L9,lu b6];simp)
     generalize x.ids.getD j 0=z at a9 bw;have a8:=E.o.lt;clear b6;go_wp2_with (go_at_fn 87;refine ae ?_);refine uM (gQ (wrap64 (z+1)) 4 o dC _ w _ h.o oM) ?_;rintro e bU ⟨rfl,a,f⟩;have aR:=lh a;have az:=lh f;clear a f h;have aJ:=lh (az.o ax _ _ dC dC E.o);clear a9 a8;go_wp2;go_roundw
     case rel=>exact⟨j+1,r++aP (wrap64 (z+1)) 4,oM,by go_num,(by show _=_;rw[bw.o,ab.o,lr]),by rw[lg,dm];omega,aR.o,aJ.o⟩
     case measure=>simp[intOf];omega
    ·have ba:j=k:=oM;subst ba;have bT:=E.o.cell 8 _ rfl;have a8:=E.o.lt;go_wp2_with (go_at_fn 87;refine ae ?_);refine uM (gQ x.n 8 o dC _ w _ h.o oM) ?_;rintro e bU ⟨rfl,a,f⟩;have aR:=lh a;have az:=lh f;clear a f h;have aJ:=lh (az.o ax _ _ dC dC E.o);clear bT a8 E az;have bo:=aJ.o.cell 9 _ rfl;have a8:=aJ.o.lt;rw[ap.o.len.trans aW.o]at bo;go_wp2;clear bo a8;go_loopw [69] (λvq wq=>∃(b:Nat) (D:List UInt8),b<=m/\vq=.int .i64 b/\Hid (D=r++aP x.n 8++(X.sums.take b).flatMap λs=>aP s.1 8++aP s.2.1 8++aP s.2.2 8)/\D.length<=7+7000*i+4*j+8+24*b/\Hid (iH wq w o D)) (λvq _=>m-(intOf vq).toNat)
     case atStart=>exact⟨0,r++aP x.n 8,lj _,rfl,(by show _=_;simp),by rw[lg,dm];omega,aR.o⟩
     case round =>
      clear aR;obtain⟨b,D,bR,rfl,V,bO,h⟩:=hrel
      by_cases aV:b<m
      ·have I:=ap.o.own.keep h.o.keep;unfold Rc.sv at I;have U:b<X.sums.length:=(by rw[aW.o];exact aV);obtain⟨bX,ao,al⟩:=fh I oM;rw[ao]at I;obtain⟨G,_,b8,_⟩:=fY I nt al.symm b U;have ag:=lh (show(X.sums.take (b+1)).flatMap (λs=>aP s.1 8++aP s.2.1 8++aP s.2.2 8)=(X.sums.take b).flatMap (λs=>aP s.1 8++aP s.2.1 8++aP s.2.2 8)++(aP X.sums[b].1 8++aP X.sums[b].2.1 8++aP X.sums[b].2.2 8) by
        rw[ly U,lF];simp)
       generalize X.sums[b]=s at G ag;obtain⟨t,a6,a1⟩:=s;have af:=G 0 _ rfl;have bf:=G 1 _ rfl;have cb:=G 2 _ rfl;simp only[lE]at af;clear G I U al;go_upto_region 20 with fail;have q:=bH wr 160 [.int .i64 t,.int .i64 a6,.int .i64 a1];have q:ak (wr.alloc (.cells #[.int .i64 t,.int .i64 a6,.int .i64 a1] 160)) wr.heap.size 160 [.int .i64 t,.int .i64 a6,.int .i64 a1]:=q;have F:=lh (h.o.keep' (aa.alloc (aa.refl wr) (.cells #[.int .i64 t,.int .i64 a6,.int .i64 a1] 160)));generalize wr.alloc (.cells #[.int .i64 t,.int .i64 a6,.int .i64 a1] 160)=bj at q F|-;generalize wr.heap.size=Z at q|-;have B:=lh q;clear af bf cb b8 h q ao;have z0:=B.o.cell 0 _ rfl;have ad:=B.o.lt;go_wp2_with (go_at_fn 87;refine ae ?_);refine uM (gQ t 8 o dC _ w _ F.o oM) ?_;rintro e bB ⟨rfl,a,f⟩;have O:=lh a;have R:=lh f;clear a f F;have C:=lh (R.o Z _ _ dC dC B.o);clear z0 ad B R;have aw:=C.o.cell 1 _ rfl;have ai:=C.o.lt;go_wp2_with (go_at_fn 87;refine ae ?_);refine uM (gQ a6 8 o dC _ w _ O.o (by(rw[lg,dm];omega))) ?_;rintro e bx ⟨rfl,a,f⟩;have a3:=lh a;have a4:=lh f;clear a f O;have M:=lh (a4.o Z _ _ dC dC C.o);clear aw ai C a4;have z2:=M.o.cell 2 _ rfl;have aY:=M.o.lt;go_wp2_with (go_at_fn 87;refine ae ?_)
       refine uM (gQ a1 8 o dC _ w _ a3.o (by(rw[lg,lg,dm,dm];omega))) ?_;rintro e c5 ⟨rfl,a,f⟩;have aC:=lh a;have aI:=lh f;clear a f a3;clear z2 aY M aI;go_wp2;go_roundw
       case rel=>exact⟨b+1,D++aP t 8++aP a6 8++aP a1 8,oM,by go_num,(by show _=_;rw[ag.o,V.o];simp only[lr]),by simp only[lg,dm];omega,aC.o⟩
       case measure=>simp[intOf];omega
      ·have aG:b=m:=oM;subst aG;have aO:X.sums.take b=X.sums:=lM (by rw[aW.o];exact lc _);rw[aO]at V;go_wp2;go_roundw
       case rel =>
        refine⟨i+1,D,oM,by go_num,?_,oM,h.o⟩;show _=_;rw[a5.o,V.o,ab.o,bd.o,ap.o.n];simp only[gY,lr]
       case measure=>simp[intOf];omega
  ·have c6:i=J:=oM;subst c6;have bQ:(P.map λp=>p.2).take i=P.map λp=>p.2:=lM (by rw[ld,<-aQ.o];exact lc _);rw[bQ]at bd;have b5:=(T.o _ h.o.keep).cell 4 _ rfl;have aT:=Y.o _ h.o.keep;go_wp2_with (go_at_fn 87;refine ae ?_);refine uM (gQ (K:Int) 4 o dC _ w _ h.o oM) ?_;rintro e bV ⟨rfl,a,f⟩;have L:=lh a;clear a f h;clear b5 aT;have b5:=(T.o _ L.o.keep).cell 4 _ rfl;have b1:=Y.o _ L.o.keep;go_wp2;clear b5 b1;go_loopw [99] (λvj wq=>∃(j:Nat) (r:List UInt8),j<=K/\vj=.int .i64 j/\Hid (r=bs++aP K 4++((N.map λp=>p.2).take j).flatMap g6)/\r.length<=11+7000*i+900000*j/\Hid (iH wq w o r)) (λvj _=>K-(intOf vj).toNat)
   case atStart=>exact⟨0,bs++aP K 4,lj _,rfl,(by show _=_;simp),by rw[lg,dm];omega,L.o⟩
   case round =>
    clear L;obtain⟨j,r,bD,rfl,ab,c1,h⟩:=hrel
    by_cases bF:j<K
    ·have ar:j<N.length:=(by rw[<-aN.o];exact bF);have a2:=au.o.keep h.o.keep;obtain⟨cg,rfl,-⟩:=fh a2.nodes (by rw[ld];omega);obtain⟨Q,_,c4,_⟩:=fY a2.nodes j6 (by rw[ld];exact aN.o.symm) j (by rw[ld];exact ar);have S:=au.o.na N[j] (ll ar);have b2:=bK.o N[j] (ll ar);have a5:=lh (show((N.map λp=>p.2).take (j+1)).flatMap g6=((N.map λp=>p.2).take j).flatMap g6++g6 N[j].2 by
      rw[ly (by rw[ld];exact ar),lF];simp)
     rw[Lj]at Q;generalize N[j]=b3 at Q S b2 a5;obtain⟨y,g⟩:=b3;simp only at Q S b2 a5;have a9:=Q 0 _ rfl;have bA:=Q 1 _ rfl;have br:=Q 2 _ rfl;have bb:=Q 3 _ rfl;have bg:y.l=g.kids.length:=by
      obtain⟨ce,cr,c2,_⟩:=S.own.sl mH oM;injection c2
     rw[bg]at bb;rw[S.d]at a9;rw[S.lo]at bA;rw[S.hi]at br;simp only[lE]at a9;have aX:=S.own;rw[bg]at aX;have bz:=lh aX;obtain⟨u,aS⟩:∃u,u=g.kids.length:=⟨_,rfl⟩;rw[<-aS]at bb b2 bz;have bi:=lh aS;clear Q S a2 ar bg aX aS;go_upto_region 29 with fail;have q:=bH wr 117 [.int .i64 g.depth,.int .i64 g.lo,.int .i64 g.hi,.slice y.A u y.c];have q:ak (wr.alloc (.cells #[.int .i64 g.depth,.int .i64 g.lo,.int .i64 g.hi,.slice y.A u y.c] 117)) wr.heap.size 117 [.int .i64 g.depth,.int .i64 g.lo,.int .i64 g.hi,.slice y.A u y.c]:=q;have F:=lh (h.o.keep' (aa.alloc (aa.refl wr) (.cells #[.int .i64 g.depth,.int .i64 g.lo,.int .i64 g.hi,.slice y.A u y.c] 117)));generalize wr.alloc (.cells #[.int .i64 g.depth,.int .i64 g.lo,.int .i64 g.hi,.slice y.A u y.c] 117)=bj at q F|-;generalize wr.heap.size=Z at q|-;have B:=lh q;clear a9 bA br bb c4 h q;have z0:=B.o.cell 0 _ rfl;have ad:=B.o.lt;go_wp2_with (go_at_fn 87;refine ae ?_);refine uM (gQ (g.depth:Int) 1 o dC _ w _ F.o oM) ?_;rintro e bB ⟨rfl,a,f⟩;have O:=lh a;have R:=lh f;clear a f F;have C:=lh (R.o Z _ _ dC dC B.o);clear z0 ad B R;have aw:=C.o.cell 1 _ rfl;have ai:=C.o.lt;go_wp2_with (go_at_fn 87;refine ae ?_);refine uM (gQ (g.lo:Int) 4 o dC _ w _ O.o (by(rw[lg,dm];omega))) ?_;rintro e bx ⟨rfl,a,f⟩;have a3:=lh a;have a4:=lh f
     clear a f O;have M:=lh (a4.o Z _ _ dC dC C.o);clear aw ai C a4;have z2:=M.o.cell 2 _ rfl;have aY:=M.o.lt;go_wp2_with (go_at_fn 87;refine ae ?_);refine uM (gQ (g.hi:Int) 4 o dC _ w _ a3.o (by(rw[lg,lg,dm,dm];omega))) ?_;rintro e c5 ⟨rfl,a,f⟩;have aC:=lh a;have aI:=lh f;clear a f a3;have aH:=lh (aI.o Z _ _ dC dC M.o);clear z2 aY M aI;have z3:=aH.o.cell 3 _ rfl;have b9:=aH.o.lt;go_wp2_with (go_at_fn 87;refine ae ?_);refine uM (gQ (u:Int) 4 o dC _ w _ aC.o (by(rw[lg,lg,lg,dm,dm,dm];omega))) ?_;rintro e cd ⟨rfl,a,f⟩;have bq:=lh a;have bv:=lh f;clear a f aC;have b4:=lh (bv.o Z _ _ dC dC aH.o);clear z3 b9 aH bv;have z3:=b4.o.cell 3 _ rfl;have b9:=b4.o.lt;go_wp2;clear z3 b9 b4;go_loopw [123] (λvq wq=>∃(b:Nat) (D:List UInt8),b<=u/\vq=.int .i64 b/\Hid (D=r++(aP g.depth 1++aP g.lo 4++aP g.hi 4++aP u 4)++(g.kids.take b).flatMap λb=>aP (wrap64 (b.1+1)) 4++aP b.2 4)/\D.length<=11+7000*i+900000*j+13+8*b/\Hid (iH wq w o D)) (λvq _=>u-(intOf vq).toNat)
     case atStart=>exact⟨0,r++aP g.depth 1++aP g.lo 4++aP g.hi 4++aP u 4,lj _,rfl,(by show _=_;simp),by simp only[lg,dm];omega,bq.o⟩
     case round =>
      clear bq;obtain⟨b,D,bR,rfl,V,bO,h⟩:=hrel
      by_cases aV:b<u
      ·have I:=bz.o.keep h.o.keep;have U:b<g.kids.length:=(by rw[<-bi.o];exact aV);obtain⟨bX,ao,al⟩:=fh I oM;rw[ao]at I;obtain⟨G,_,b8,_⟩:=fY I mH al.symm b U;have ag:=lh (show(g.kids.take (b+1)).flatMap (λb=>aP (wrap64 (b.1+1)) 4++aP b.2 4)=(g.kids.take b).flatMap (λb=>aP (wrap64 (b.1+1)) 4++aP b.2 4)++(aP (wrap64 (g.kids[b].1+1)) 4++aP g.kids[b].2 4) by
        rw[ly U,lF];simp)
       generalize g.kids[b]=s at G ag;obtain⟨t,a7⟩:=s;have af:=G 0 _ rfl;have bf:=G 1 _ rfl;simp only[lE]at af;clear G I U al;go_upto_region 36 with fail;have q:=bH wr 119 [.int .i64 t,.int .i64 a7];have q:ak (wr.alloc (.cells #[.int .i64 t,.int .i64 a7] 119)) wr.heap.size 119 [.int .i64 t,.int .i64 a7]:=q;have F:=lh (h.o.keep' (aa.alloc (aa.refl wr) (.cells #[.int .i64 t,.int .i64 a7] 119)));generalize wr.alloc (.cells #[.int .i64 t,.int .i64 a7] 119)=bj at q F|-;generalize wr.heap.size=bE at q|-;have B:=lh q;clear af bf b8 h q ao;have z0:=B.o.cell 0 _ rfl;have ad:=B.o.lt;go_wp2_with (go_at_fn 87;refine ae ?_);refine uM (gQ (wrap64 (t+1)) 4 o dC _ w _ F.o oM) ?_;rintro e bB ⟨rfl,a,f⟩;have O:=lh a;have R:=lh f;clear a f F;have C:=lh (R.o bE _ _ dC dC B.o);clear z0 ad B R;have aw:=C.o.cell 1 _ rfl;have ai:=C.o.lt;go_wp2_with (go_at_fn 87;refine ae ?_);refine uM (gQ (a7:Int) 4 o dC _ w _ O.o (by(rw[lg,dm];omega))) ?_;rintro e bx ⟨rfl,a,f⟩;have a3:=lh a;have a4:=lh f;clear a f O;clear aw ai C a4;go_wp2;go_roundw
       case rel=>exact⟨b+1,D++aP (wrap64 (t+1)) 4++aP a7 4,oM,by go_num,(by show _=_;rw[ag.o,V.o];simp only[lr]),by simp only[lg,dm];omega,a3.o⟩
       case measure=>simp[intOf];omega
      ·have aG:b=u:=oM;have aO:g.kids.take b=g.kids:=lM (by rw[aG,bi.o];exact lc _);rw[aO]at V;clear aO aG;go_wp2;go_roundw
       case rel =>
        refine⟨j+1,D,oM,by go_num,?_,oM,h.o⟩;show _=_;rw[a5.o,V.o,ab.o];simp only[g6,lr,bi.o]
       case measure=>simp[intOf];omega
    ·have ba:j=K:=oM;have bC:(N.map λp=>p.2).take j=N.map λp=>p.2:=lM (by rw[ld,<-aN.o,ba];exact lc _);rw[bC]at ab;obtain⟨⟨v,bh,b0⟩,bW,bm⟩:=h.o;obtain⟨cf,cv,bS⟩:=bp b0;subst bS;have ac:=bh.cell 0 _ rfl;have cj:=bh.lt;have c7:=lh b0;have bM:=lh bm;clear bh b0 bW bm bC;go_wp2;go_ret;refine⟨_,rfl,?_,bM.o⟩;have b7:=c7.o;have e:r=ju k m (P.map λp=>p.2) (N.map λp=>p.2):=by
      rw[ab.o,bd.o];simp only[ju,ld,<-aQ.o,<-aN.o]
     rw[<-e]
     first|exact b7|(rw[bl];exact b7)|(rw[<-bl];exact b7)
def ey(p:Nat):ByteArray:=⟨(Lib.itoa (p:Int)).toArray⟩
def jo(w:World):Prop:=Lib.TabIs prog w "internal/strconv.uint64pow10" .u64 Lib.pow10Tab
theorem jo.keep{w c:World}(a:jo w)(e:aa w c):jo c:=by
 unfold jo Lib.TabIs World.var? at *
 cases hg:prog.globalNamed "internal/strconv.uint64pow10" with
 | none=>simp[hg]at a
 | some g =>
   simp only[hg,Option.bind_some]at a|-;have d:g<w.heap.size:=by
    rcases L8 g w.heap.size with b|b
    ·exact b
    ·rw[Array.getElem?_eq_none b]at a
     cases a
   rw[e.block g d];exact a
theorem Nv(w:World)(k:Nat)(os:Array Obj):aa w (Go.Sort.grow (w.drewN k) os):=by
 have h:=aa.drewN (aa.refl w) k;refine⟨h.os,h.tape,h.output,by simp[Go.Sort.grow],λi hi=>?_⟩;simp only[Go.Sort.grow];rw[Array.getElem?_append_left (by simpa using hi)];exact h.block i hi
theorem Cj(p:Nat)(b:p<=1000)(w:World)(a:jo w):Rt 68 #[.int .i64 p] w (.string (ey p)):=by
 refine Calls.mono (Any.strconv_Itoa Tryz.itoaL (p:Int) oM oM w a) ?_;rintro e c ⟨rfl,k,os,rfl⟩;exact⟨rfl,Nv w k os⟩
theorem nL(p:Nat)(b:p<1000):(ey p).size<=3:=by
 have a:Lib.itoa (p:Int)=Lib.decDigits p:=by
  unfold Lib.itoa;rw[if_neg oM,Lz]
 show(Lib.itoa (p:Int)).toArray.size<=3;rw[a,List.size_toArray,Lib.decDigits_length,Lib.nDigits]
 split
 ·omega
 ·rw[Lib.nDigits]
  split
  ·omega
  ·rw[Lib.nDigits,dif_pos oM];omega
theorem O5:dX prog 54 2 1 8:=by
 obtain⟨i,hi,c,a,b⟩:=info_parts (show(prog.info? 2).map (λi=>(i.zero,i.size,i.bytes))=some (some (.int .i64 0),1,8) from kR);exact⟨i,_,underlying54,hi,c,a,b,rfl,dC,dC⟩
theorem DF:dX prog 50 54 1 24:=by
 obtain⟨i,hi,c,a,b⟩:=info_parts (show(prog.info? 54).map (λi=>(i.zero,i.size,i.bytes))=some (some (.slice none 0 0),1,24) from kR);exact⟨i,_,underlying50,hi,c,a,b,rfl,dC,dC⟩
theorem mI(x:Ir):x.cells.length=1:=rfl
theorem sH(x:Ir):∀u∈x.cells,u.oneCell'=true:=by simp[Ir.cells,Value.oneCell']
abbrev mS(w:World)(base:Nat)(v:Value)(L:List Ir):Prop:=ah w base 54 1 Ir.cells v L
abbrev kr(w:World)(base:Nat)(r:Ir):Prop:=ah w base 2 1 bM r.v r.xs
theorem J3{a:Type}{w:World}{base k:Nat}{e:TypeId}{enc:a->List Value}{v:Value}{xs:List a}(b:ah w base e k enc v xs)(he:e≠5):∀i,v.ownBlock=some i->tR w i:=λi hi cs r hq=>by
 rcases b.2 with⟨rfl,_⟩ | ⟨g,d,f,rfl,_,c,_⟩
 ·cases hi
 ·simp only[Value.ownBlock,lQ]at hi;subst hi;rw[c]at hq;simp only[lQ,Obj.cells.injEq]at hq;exact he hq.2.1
def cC(xs:List ai):List Int:=xs.map λx=>x.n
theorem KX{aL s0 v r p f H aS Q aJ:Value}(b base:Nat)(S:List bI)(B:List Ir)(X:Option Addr)(V pl:Nat)(rows:List Rw)(w:World)(ad:ak w b 77 (fG aL s0 v r p f (.slice X rows.length V) H aS Q aJ))(bB:Sl w 1 Rw.cells X V rows)(bj:dG w rows)(cq:rows.length<=1000000)
 (bn:eB w base H S) (bA:eU w S) (au:mS w base aJ B) (bq:∀r∈B,kr w base r) (c3:b<base) (ao:base<=w.heap.size) (cx:S.length<=10000) (cf:B.length<=10000) (ab:World) (bT:aa ab w) (cr:ab.heap.size<=b) (bt:jo ab) (cj:pl<1000) :
 Calls prog 33 #[.pointer (some ⟨b,0,none⟩),.int .i64 pl] w λe w'=>e=.returned (.tuple #[])/\∃a6 M' A c rr,ak w' b 77 (fG aL s0 v r p f (.slice X rows.length V) a6 aS Q M')/\eB w' base a6 (S++[⟨⟨#[109,101,116,114,105,99,46]⟩++ey pl,A,c,fZ (cC (bD (rows.map (·.vs)) pl))⟩])/\eU w' (S++[⟨⟨#[109,101,116,114,105,99,46]⟩++ey pl,A,c,fZ (cC (bD (rows.map (·.vs)) pl))⟩]) /\
  mS w' base M' (B++[rr])/\(∀r∈B++[rr],kr w' base r)/\rr.xs=cC (bD (rows.map (·.vs)) pl)/\ag w w' (b::(H.ownBlock.toList++aJ.ownBlock.toList)):=by
 have aR:=lh (xU X V pl rows w bB bj oM);have aT:(bD (rows.map (·.vs)) pl).length=rows.length:=by simp[bD]
 generalize bD (rows.map (·.vs)) pl=xs at aT aR|-;have J:=lh ad;have ax:=lh bn;have cb:=lh bA;obtain⟨Z,a2,c8⟩:=bp au;subst c8;have R:=lh au;have bi:=lh bq;have P:=lh aT;have cn:=bt;generalize cF:rows.length=n at *;have ck:=ad.cell 6 _ rfl;have cz:=ad.lt;clear ad bB bj bn bA au bq bt aT;go_enter func33,ntmps33;go_wp2_with (go_at_call 66;refine ae ?_);refine uM aR.o ?_;rintro e U ⟨ce,rfl,bE,bV,bP⟩;have bY:=lh (bE.sl_blk di (by rw[P.o];omega) (lV P.o) oM:Sl U 3 ai.cells (some ⟨ce,0,none⟩) n xs);have b9:=lh bP;clear bP bE bV aR ck;go_wp2;go_loopw [4,16] (λvl vi wr=>∃k:Nat,k<=n/\vi=.int .i64 k/\Hid (ah wr U.heap.size 2 1 bM vl ((cC xs).take k))/\Hid (aa U wr)) (λ_ vi _=>n-(intOf vi).toNat)
 case atStart=>exact⟨0,lj _,rfl,ah.nil_ _ _ _ _ _,aa.refl _⟩
 case round =>
  obtain⟨k,cB,rfl,a4,aC⟩:=hrel;obtain⟨h,m,b0⟩:=bp a4.o;have N:((cC xs).take k).length=k:=by rw[lD];simp[cC,P.o];omega
  rw[N]at b0;subst b0
  by_cases bZ:k<n
  ·have aj:k<xs.length:=(by rw[P.o];exact bZ);obtain⟨cv,cA,ci,cD,a0,a8,Y⟩:=dL (bY.o.keep aC.o) k aj
   cases ci
   simp only[lS]at a0 a8 Y;have aK:=lh (show(cC xs).take (k+1)=(cC xs).take k++[xs[k].n] by
    rw[ly (by simp[cC];exact aj)];simp[cC])
   generalize xs[k]=x at a0 a8 Y aK;obtain⟨az,D,aE⟩:=x;simp only at a0 a8 Y aK;have c7:=lh N;clear aj N;go_wp2_with (at_builtin;refine ae ?_);refine ar ?_;have s:aa wr ((wr.alloc (.cells #[.int .u8 az,.int .i64 D,.string aE] 72)).alloc (.cells #[.int .i64 D] 2)):=aa.alloc (aa.alloc (aa.refl _) _) _;have I:Sl ((wr.alloc (.cells #[.int .u8 az,.int .i64 D,.string aE] 72)).alloc (.cells #[.int .i64 D] 2)) 1 bM (some ⟨wr.heap.size+1,0,none⟩) 1 [D]:=br _ oM oM λj u hu=>by
    match j,hu with
    | 0,hu=>cases hu;simp[go_sem]
   generalize (wr.alloc (.cells #[.int .u8 az,.int .i64 D,.string aE] 72)).alloc (.cells #[.int .i64 D] 2)=cl at s I|-;have L:=lh (a4.o.keep s);have C:=aC.u s;refine aD O5 ea vY rfl (.tmp 20) (.tmp 23) rfl (ys:=[D]) L.o rfl rfl I (by rw[c7.o];simp;omega) C.o.size ?_;intro v9 t F E _;have cg:=lh F;have cc:=lh (L.o.kept E C.o (lc _));clear F E I s a0 a8 Y;go_wp2;go_roundw
   case rel=>exact⟨k+1,oM,by go_num,(by show ah _ _ _ _ _ _ _;rw[aK.o];exact cg.o),cc.o⟩
   case measure=>simp[intOf];omega
  ·have s:k=n:=oM;subst s;have bc:(cC xs).take k=cC xs:=lM (by simp[cC,P.o]);rw[bc]at a4 N;have ac:=b9.o.trans aC.o;have a5:=(J.o.keep ac).cell 10 _ rfl;have aH:=(J.o.keep ac).lt;have aQ:=lh ac;have G:=lh N;have cy:B.length<=10000:=cf;generalize bb:B.length=g at a5 R J;have a3:=lh bb;clear bc ac N bb;go_upto_region 6 with fail;go_wp2_with (at_builtin;refine ae ?_);refine ar ?_;have s:aa wr (wr.alloc (.cells #[.slice h k m] 54)):=aa.alloc (aa.refl _) _;have I:Sl (wr.alloc (.cells #[.slice h k m] 54)) 1 Ir.cells (some ⟨wr.heap.size,0,none⟩) 1 [(⟨h,m,cC xs⟩:Ir)]:=br _ oM oM λj u hu=>by
    match j,hu with
    | 0,hu =>
      cases hu
      have d:=(bH wr 54 [.slice h k m]).cell 0 _ rfl;show World.cell? _ _=some (.slice h (cC xs).length m);rw[G.o];exact d
   generalize wr.alloc (.cells #[.slice h k m] 54)=cl at s I|-;have T:=lh (R.o.keep (aQ.o.trans s));have aq:=lh (J.o.keep (aQ.o.trans s));have C:=aQ.u s;have L:=lh (a4.o.keep s);refine aD DF mI sH rfl (.tmp 30) (.tmp 32) rfl (ys:=[(⟨h,m,cC xs⟩:Ir)]) T.o rfl rfl I (by rw[a3.o];simp;have:=a3.o;omega) (lk ao C.o.size) ?_;intro v9 t F E c2;obtain⟨o,q,b2⟩:=bp F;rw[lg,a3.o,lJ]at b2;subst b2;have K:=de aq.o E (bu T.o aq.o dC);have a9:=lh K;have aV:=lh (bu F K dC);have bm:=lh F;have bf:=lh (show ag w t (b::(Value.slice Z g a2).ownBlock.toList) from(ag.keep C.o _).trans ((ag.of_grown E).mono λi hi=>.inl (Lm _ hi)));have al:=lh (show ah t U.heap.size 2 1 bM (.slice h k m) (cC xs) from L.o.turn (ag.of_grown E) λi hi=>cN T.o L.o dC i (by simpa using hi));have bQ:=lh (show ∀r∈B,kr t base r from λr z=>((bi.o r z).keep C.o).turn (ag.of_grown E) λi hi=>cN T.o ((bi.o r z).keep C.o) dC i (by simpa using hi));clear a5 aH;have a5:=K.cell 10 _ rfl;have bU:=K.soft 10;have aH:=K.lt;clear F E c2 K I s T aq C L;go_upto_region 7 with fail;have O:=ag.set t ⟨b,10,none⟩ (.slice o (g+1) q);have ba:=a9.o.set 10 (.slice o (g+1) q)
   have bz:mS (t.setCell ⟨b,10,none⟩ (.slice o (g+1) q)) base (.slice o (g+1) q) (B++[(⟨h,m,cC xs⟩:Ir)]):=bm.o.turn O λi hi=>(by simp only[lm]at hi;subst hi;exact aV.o);have b5:∀{r:Ir} {bs:Nat},ah t bs 2 1 bM r.v r.xs->ah (t.setCell ⟨b,10,none⟩ (.slice o (g+1) q)) bs 2 1 bM r.v r.xs:=λd=>d.turn O λi hi=>(by simp only[lm]at hi;subst hi;exact bu d a9.o dC);have a7:=lh bz;have bo:=lh (show ∀r∈B,kr (t.setCell ⟨b,10,none⟩ (.slice o (g+1) q)) base r from λr z=>b5 (bQ.o r z));have aB:=lh (show ah (t.setCell ⟨b,10,none⟩ (.slice o (g+1) q)) U.heap.size 2 1 bM (.slice h k m) (cC xs) from al.o.turn O λi hi=>by simp only[lm]at hi;subst hi;exact bu al.o a9.o dC);have M:=lh (show ag w (t.setCell ⟨b,10,none⟩ (.slice o (g+1) q)) (b::(Value.slice Z g a2).ownBlock.toList) from bf.o.trans (O.mono λi hi=>.inl (by simp only[lm]at hi;simp[hi])));have a1:=lh (show ak (t.setCell ⟨b,10,none⟩ (.slice o (g+1) q)) b 77 (fG aL s0 v r p f (.slice X k V) H aS Q (.slice o (g+1) q)) from ba);clear O ba bz b5 a5 bU aH bm bQ al bf aV a9;generalize t.setCell ⟨b,10,none⟩ (.slice o (g+1) q)=aM at a7 bo aB M a1|-;obtain⟨cw,Y,bR,b8⟩:=aB.o.sl ea (by rw[G.o];omega);injection bR with e1 e2 e3;subst e1;subst e3
   have aF:=LV h m (cC xs) aM b8 (by rw[G.o];omega);rw[G.o]at aF;have bF:=lh aF;clear aF b8 e2;go_wp2_with (go_at_call 67;refine ae ?_);refine uM bF.o ?_;rintro e bC ⟨ch,cu,cE,rfl,bd,aU⟩;have c1:=lh bd;have aA:=lh aU;clear bd aU bF;have bS:=lh (show aa ab bC from(ag.after bT M.o (λi hi=>by
    simp only[ln,Lc]at hi
    rcases hi with hi|hi
    ·omega
    ·have:=(R.o.lt i hi).1;omega)).trans aA.o)
   have aI:∀i∈b::(Value.slice Z g a2).ownBlock.toList,i=b\/(Value.slice Z g a2).ownBlock=some i:=λi hi=>(by simpa using hi);have b1:=lh (show eB aM base H S from ah.turn ax.o M.o λi hi e=>by
    rcases aI i hi with d|d
    ·subst d;exact bu ax.o J.o dC e
    ·exact cN R.o ax.o dC i d e)
   have c4:=lh (cb.o.turn M.o λi hi _=>by
    rcases aI i hi with d|d
    ·subst d;exact ak.noU8 J.o dC
    ·exact J3 R.o dC i d)
   have cd:=lh (show base<=aM.heap.size from lk ao M.o.size);have aw:=lh (λW (hW:aa bC W)=>Cj pl oM W (cn.keep (bS.o.trans hW)));clear aI;have cp:=(a1.o.keep aA.o).lt;have aN:=nL pl cj;generalize bK:ey pl=c6 at aw aN;have b4:=lh bK;clear bK;obtain⟨af,bX⟩:∃af,c6.size=af:=⟨_,rfl⟩;have cs:af<=3:=bX▸aN;clear aN;go_wp2_with (go_at_call 68;refine ae ?_);refine uM (aw.o _ (aa.refl _)) ?_;rintro e aW ⟨rfl,bh⟩;have aY:=lh bh;clear bh aw;have av:Rb 69 #[.pointer (some ⟨ch,0,none⟩)] aW (fZ (cC xs)):=MI aW (c1.o.keep aY.o) (by rw[G.o];omega);have ap:(fZ (cC xs)).length<=140737488355328:=by
    have c9:∀l:List Int,(l.flatMap dJ).length=8*l.length:=λl=>by
     induction l with
     | nil=>rfl
     | cons a l ih=>rw[lN,lg,ih,lw];simp[dJ,ay];omega
    unfold fZ;simp only[lg,ay,c9,G.o];simp[dJ,ay];omega
   generalize b3:fZ (cC xs)=bs at av ap;have bx:=lh b3;have bv:=lh av;clear av b3;go_wp2_with (go_at_call 69;refine ae ?_);refine uM bv.o ?_;rintro e bG ⟨ct,rfl,aP,bO⟩;obtain⟨bw,bN,rfl,_⟩:=aP.sl aO ap;have bW:=lh (aP.base_mono (lj _));have y:=lh (aA.o.trans (aY.o.trans bO));clear aP bO bv ap;go_wp2_with (go_at_call 30;refine ae ?_);refine uM (kL b base S _ bw bN bs _ (a1.o.keep y.o) (b1.o.keep y.o) c3 (lk cd.o y.o.size) oM (c4.o.keep y.o) bW.o) ?_;rintro e bk ⟨rfl,a6,b6,b7,bl,bJ,_⟩;have co:=lh b6;have cm:=lh b7;have ca:=lh bl;have aG:=lh bJ;clear b6 b7 bl bJ;go_wp2;have bL:∀i∈b::H.ownBlock.toList,i=b\/H.ownBlock=some i:=λi hi=>(by simpa using hi);have bg:=a1.o.keep y.o;have aZ:=b1.o.keep y.o;have c5:mS bk base (.slice o (g+1) q) (B++[(⟨h,m,cC xs⟩:Ir)]):=(a7.o.keep y.o).turn aG.o λi hi=>by
    rcases bL i hi with d|d
    ·subst d;exact bu (a7.o.keep y.o) bg dC
    ·exact cN aZ (a7.o.keep y.o) dC i d
   have aX:∀{rr:Ir} {bs:Nat},ah bG bs 2 1 bM rr.v rr.xs->ah bk bs 2 1 bM rr.v rr.xs:=λho=>ho.turn aG.o λi hi=>by
    rcases bL i hi with d|d
    ·subst d;exact bu ho bg dC
    ·exact cN aZ ho dC i d
   have c0:kr bG base ⟨h,m,cC xs⟩:=by
    have d:=(aB.o.keep y.o).base_mono (lk ao b9.o.size);unfold kr Ir.v;rw[G.o];exact d
   refine bodyPost_end (v:=.tuple #[]) (by simp[results,results33,go_sem]) rfl ⟨rfl,a6,.slice o (g+1) q,bw,bN,⟨h,m,cC xs⟩,co.o,?_,?_,c5,?_,rfl,?_⟩
   ·rw[bx.o,b4.o];exact cm.o
   ·rw[bx.o,b4.o];exact ca.o
   ·intro r z
    rcases lx.1 z with z|z
    ·exact aX ((bo.o r z).keep y.o)
    ·rw[lm]at z;subst z;exact aX c0
   ·refine((M.o.mono λi hi=>.inl ?_).trans (ag.keep y.o _)).trans (aG.o.mono λi hi=>.inl ?_)
    ·rw[ln]at hi|-
     rcases hi with hi|hi
     ·exact .inl hi
     ·exact .inr (List.mem_append_right _ (by rw[a3.o];exact hi))
    ·rw[ln]at hi|-
     rcases hi with hi|hi
     ·exact .inl hi
     ·exact .inr (List.mem_append_left _ hi)
theorem qA{b:Type}(f:b->List UInt8)(n:Nat):∀(l:List b),(∀x∈l,(f x).length=n)->(l.flatMap f).length=l.length*n
 | [],_=>sP
 | a::l,h=>by
   rw[lN,lg,h a sP,qA f n l λx hx=>h x (by simp[hx]),lw,lH];omega
theorem Jd(k m:Nat)(x:Star.SR)(hi:k<=x.ids.length)(a:x.sums.length=m):(gY k x).length=4*k+8+24*m:=by
 unfold gY;rw[lg,lg,qA (λid=>aP (wrap64 (id+1)) 4) 4 _ (λ_ _=>dm _ _),dm,qA (λs:SM=>aP s.1 8++aP s.2.1 8++aP s.2.2 8) 24 _ (λs _=>by simp[dm]),a,lD];omega
theorem K0(x:Star.SN):(g6 x).length=13+8*x.kids.length:=by
 unfold g6;rw[lg,qA (λq:Int×Nat=>aP (wrap64 (q.1+1)) 4++aP q.2 4) 8 _ (λs _=>by simp[dm])];simp only[lg,dm];omega
theorem Bz:∀(l:List Star.SN),(l.flatMap g6).length=Star.wN l
 | []=>by simp[Star.wN]
 | a::l=>by rw[lN,lg,K0,Bz l,pG]
theorem Gg(k m:Nat)(P:List Star.SR)(N:List Star.SN)(a:f8 8 m P)(b:k<=8):(ju k m P N).length=11+P.length*(4*k+8+24*m)+Star.wN N:=by
 unfold ju;simp only[lg,dm,Bz];rw[qA (gY k) (4*k+8+24*m) P λx hx=>Jd k m x (by rw[(a x hx).1];exact b) (a x hx).2];omega
theorem G5(sp mt:List Ir)(R:Nat)(a:sp.length<=8):f8 8 mt.length (bV sp mt R):=λx hx=>by
 obtain⟨y,_,rfl⟩:=lW.1 hx;exact⟨by simp only[eH];exact qd sp y sp.length (lc _) a,by simp[eH,eC]⟩
theorem Gf(leaf R:Nat)(sp mt:List Ir)(g:1<=leaf)(f:sp.length<=8) :
 (ju sp.length mt.length (bC leaf sp.length 0 0 (bN (bV sp mt R)).length false (bN (bV sp mt R)) 0).1 (bC leaf sp.length 0 0 (bN (bV sp mt R)).length false (bN (bV sp mt R)) 0).2).length<=24+(sp.length+1)*R*(4*sp.length+8+24*mt.length+21*(sp.length+1)):=by
 have e:=qY (G5 sp mt R f);have b:=ma (bV sp mt R);have j:(bV sp mt R).length=R:=by simp[bV]
 rw[j]at b;generalize bN (bV sp mt R)=a at e b|-;have c:=sS leaf 8 mt.length g sp.length 0 0 a.length a 0 (lj _) (lc _);obtain⟨x,h,l⟩:=c.pre;rw[Gg _ _ _ _ (c.wide e) f,h,lg];have d:=c.wt;have n:=rm sp.length;generalize sp.length=k at *;generalize mt.length=m at *;generalize Star.wN _=p at d|-;rw[Nat.sub_zero]at l d;have s:a.length*k<=R*k:=L7 _ b;have q:a.length*iZ k<=R*((k+1)*(k+1)):=Ln b oM;have i:a.length+x.length<=(k+1)*R:=by rw[lH,Nat.mul_comm k R];omega
 have o:(a.length+x.length)*(4*k+8+24*m)<=(k+1)*R*(4*k+8+24*m):=L7 _ i;have r:(k+1)*R*(4*k+8+24*m+21*(k+1))=(k+1)*R*(4*k+8+24*m)+21*(R*((k+1)*(k+1))):=by
  rw[Nat.mul_add]
  congr 1
  rw[Nat.mul_comm (k+1) R,Nat.mul_assoc R,<-Nat.mul_assoc (k+1) 21,Nat.mul_comm (k+1) 21,Nat.mul_assoc 21,<-Nat.mul_assoc R 21,Nat.mul_comm R 21,Nat.mul_assoc]
 omega
theorem Pe(a:World)(d:Nat)(b:d<10):(convert 31 9 (.slice (some ⟨a.heap.size,0,none⟩) 1 1)).run prog (a.alloc (.cells #[.int .u8 (48+(d:Int))] 5))=.ok (.string ⟨#[UInt8.ofNat (48+d)]⟩) (a.alloc (.cells #[.int .u8 (48+(d:Int))] 5)) :=
 ii (l:=[UInt8.ofNat (48+d)]) (br _ oM oM (ed _ (by rw[dH,show(((48+d:Nat):Int)%256)=48+(d:Int) from oM];simp[go_sem])))
theorem DN(p:Nat)(n:p<=1000)(w:World):Rt 16 #[.int .i64 p] w (.string (ey p)):=by
 have h:=lh Pe;have j:=lh (show(ey p).data.toList=Lib.decDigits p from by
  unfold ey Lib.itoa;rw[if_neg oM,Lz])
 go_enter func16,ntmps16;go_upto_region 1 with fail;go_wp2;go_loopw [0,3] (λvn vs wr=>∃(m:Nat) (c:ByteArray),c.size+m<=1000/\vn=.int .i64 m/\vs=.string c/\Hid (Lib.decDigits m++c.data.toList=Lib.decDigits p)/\Hid (aa w wr)) (λvn _ _=>(intOf vn).toNat)
 case atStart=>exact⟨p,⟨#[]⟩,(by show 0+p<=1000;omega),rfl,rfl,(by show _=_;simp),kP⟩
 case round =>
  obtain⟨m,c,r,rfl,rfl,i,g⟩:=hrel
  by_cases q:9<(m:Int)
  ·have d:=h.o wr (m%10) (Nat.mod_lt _ dC);have k:IntKind.u8.wrap (48+(m:Int)%10)=48+(m:Int)%10:=(by simp[IntKind.wrap,IntKind.signed,IntKind.bits];omega);have o:(m:Int).tmod 10=(m:Int)%10:=Int.tmod_eq_emod_of_nonneg oM;have s:(m:Int).tdiv 10=(m:Int)/10:=Int.tdiv_eq_ediv_of_nonneg oM
   push_cast at d
   obtain⟨a,b⟩:∃a:ByteArray,a=⟨#[UInt8.ofNat (48+m%10)]⟩:=⟨_,rfl⟩;rw[<-b]at d;have l:a.size=1:=(by rw[b];rfl);have f:=lh b;clear b;have e:=lh (show Lib.decDigits (m/10)++(a++c).data.toList=Lib.decDigits p by
    rw[<-i.o,Lib.decDigits.eq_def m,dif_neg oM,ByteArray.data_append,Array.toList_append,f.o,lr])
   go_wp2;go_roundw
   case rel=>exact⟨m/10,a++c,(by rw[LA];omega),(by go_num),rfl,e.o,g.o.trans kP⟩
   case measure=>simp[intOf];omega
  ·have d:=h.o wr m oM;have k:IntKind.u8.wrap (48+(m:Int))=48+(m:Int):=(by simp[IntKind.wrap,IntKind.signed,IntKind.bits];omega);obtain⟨a,b⟩:∃a:ByteArray,a=⟨#[UInt8.ofNat (48+m)]⟩:=⟨_,rfl⟩;rw[<-b]at d;have l:a.size=1:=(by rw[b];rfl);have f:=lh b;clear b;have e:=lh (show a++c=ey p by
    apply ByteArray.ext;apply Array.toList_inj.1;rw[j.o,<-i.o,Lib.decDigits_one oM,ByteArray.data_append,Array.toList_append,f.o])
   go_wp2;go_ret;exact⟨by rw[e.o];rfl,g.o.trans kP⟩
theorem BX(A:Option Addr)(c:Nat)(xs:List ai)(w:World)(r:Sl w 3 ai.cells A c xs)(D:xs.length<=1000) :
 Calls prog 17 #[.slice A xs.length c] w λe w'=>∃v,e=.returned v/\ie w' w.heap.size v (cC xs)/\aa w w':=by
 have K:=lh r;have G:=lh (show ∀k (l:k<xs.length),cC (xs.take (k+1))=cC (xs.take k)++[xs[k].n]from λk l=>by
  unfold cC;rw[ly l,lz];rfl)
 generalize y:xs.length=n at D;have t:=lh y;clear r y;go_enter func17,ntmps17;go_wp2;go_loopw [3,7] (λvb vi wr=>∃(k:Nat) (h:Value),k<=n/\vi=.int .i64 k/\h=vb/\Hid (ie wr w.heap.size h (cC (xs.take k)))/\Hid (aa w wr)) (λ_ vi _=>n-(intOf vi).toNat)
 case atStart=>exact⟨0,_,lj _,rfl,rfl,ah.nil_ _ _ _ _ _,kP⟩
 case round =>
  obtain⟨k,h,l,rfl,rfl,g,i⟩:=hrel
  by_cases I:k<n
  ·have f:k<xs.length:=(by rw[t.o];exact I);obtain⟨b,O,F,J,q,s,o⟩:=dL (K.o.keep i.o) k f;have p:=lh (G.o k f);have H:=lh (show(cC (xs.take k)).length=k by unfold cC;simp;omega);subst F;generalize xs[k]=x at q s o p;clear f q o;go_wp2_with (at_builtin;refine ae ?_);refine ar ?_;have d:=g.o.keep (aa.alloc (aa.refl _) (.cells #[.int .i64 x.n] 2));have a:=i.o.trans (aa.alloc (aa.refl _) (.cells #[.int .i64 x.n] 2));refine aD iO ea gC rfl (.tmp 10) (.tmp 16) rfl (ys:=[x.n]) d rfl rfl (br (c:=1) _ dC dC (λj u hu=>by
    match j,hu with
    | 0,hu=>cases hu;simp[go_sem])) (by have:=H.o;simp;omega) a.size ?_
   intro M N B z _;have ⟨a1,_,_⟩:=d.after z a (lc _);have E:=lh B;have C:=lh a1;clear B z a1 d a s J;go_wp2;go_roundw
   case rel=>exact⟨k+1,_,oM,by go_num,rfl,(by have:=E.o;rw[<-p.o]at this;exact this),C.o⟩
   case measure=>simp[intOf];omega
  ·have L:k=n:=oM;have m:xs.take k=xs:=lM (by rw[t.o];omega);rw[m]at g;clear m;go_wp2;go_ret;exact⟨_,rfl,g.o,i.o⟩
end Go.Proofs.YtpkocnpamcchcaaGreatDoor
