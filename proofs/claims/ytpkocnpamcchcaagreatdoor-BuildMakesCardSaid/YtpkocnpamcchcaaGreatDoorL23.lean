/- Parts. -/
import Derived.Test.YtpkocnpamcchcaaGreatDoorL22
set_option maxRecDepth 100000
set_option maxHeartbeats 40000000
set_option linter.all false
namespace Go.Proofs.YtpkocnpamcchcaaGreatDoor
open Go.RowKit Go.Zone Go.Shelf Tryz Go.Roa Go.Sym
theorem Qh{w:World}{r:List Pr}{v:Value}(b:bP w (.run r) v)(z:Fit (.run r))(ao:Tab w):Rb 175 #[v] w (fp (.run r)):=by
 have q:=lh (λW (hW:aa w W)=>mG (b.keep hW));have J:=lh (λW (hW:aa w W)=>DW (b.keep hW) z (ao.keep hW));have aI:=lh (show ∀p∈r,p.1+p.2+1<=64 from z.1);have aV:r.length<=1000:=by have:=z.2;simp only[ap.W]at this;omega
 have aW:=lh (show r.length<=1000000 from oM);simp only[ap.kind,ap.runs,fp]at q J|-;rw[show((3:Nat):Int)=3 from rfl]at q;obtain⟨k,V,T,aD,a8,aG,aA,a6,ai,ac,rfl⟩:=tw b;generalize X:r.length=n at aV|-;have D:=lh X;have bd:IntKind.u16.wrap (n:Int)=(n:Int):=by simp[IntKind.wrap,IntKind.signed,IntKind.bits];omega
 clear b z ao X;go_enter func175,ntmps175;go_wp2_with (go_at_call 170;refine ae ?_);refine ar ?_;have a5:ak (w.alloc (.cells #[.int .u8 k,.slice V T aD,.slice a8 aG aA,.slice a6 ai ac] 237)) w.heap.size 237 [.int .u8 k,.slice V T aD,.slice a8 aG aA,.slice a6 ai ac]:=bH _ _ _;refine(q.o _ kP).mono ?_;rintro e bc ⟨rfl,Q⟩;have m:=lh (a5.keep Q);have G:=lh (aa.trans (show aa w _ from kP) Q);clear a5 Q;have aJ:=m.o.cell 0 _ rfl;have b1:=m.o.cell 1 _ rfl;have aT:=m.o.cell 2 _ rfl;have aX:=m.o.cell 3 _ rfl;have M:=m.o.lt;go_wp2_with (go_at_call 209;refine ae ?_);refine uM (J.o _ G.o) ?_;rintro e aP ⟨u,rfl,h,ax⟩;obtain⟨B,d,rfl,av⟩:=cU h gv aW.o;have Y:=lh av;have P:=G.u ax;rw[D.o];clear h av ax aJ b1 aT aX M m G J q;go_wp2_with (go_at_call 64;refine ae ?_);refine uM (iG none 0 [] n oM aP (Sl.nil_ _ dC) sP) ?_;rintro e aN ⟨v3,rfl,a7,E⟩;have aQ:=lh (a7.base_mono P.o.size);have S:=P.u E;have aZ:=lh (Y.o.keep E);clear a7 E P Y;go_wp2;go_loopw [2,34] (λvb vi wr=>∃(k:Nat) (v:Value),k<=n/\vi=.int .i64 k/\v=vb/\Hid (aE wr w.heap.size v (le n 2++(r.take k).flatMap (λp=>le p.1 2++le p.2 2)))/\Hid (aa aN wr)) (λ_ vi _=>n-(intOf vi).toNat)
 case atStart=>exact⟨0,v3,lj _,rfl,rfl,(by show aE _ _ _ _;simpa using aQ.o),aa.refl _⟩
 case round =>
  obtain⟨j,v,b5,rfl,rfl,t,H⟩:=hrel
  by_cases aY:j<n
  ·have o:j<r.length:=(by rw[D.o];exact aY);obtain⟨ba,bb,aS,aM,F,O⟩:=pV (aZ.o.keep H.o) j o;subst aS;have aB:=aI.o r[j] (ll o);have C:=lh (show le n 2++(r.take (j+1)).flatMap (λp=>le p.1 2++le p.2 2)=le n 2++(r.take j).flatMap (λp=>le p.1 2++le p.2 2)++le r[j].1 2++le r[j].2 2 by rw[ly o,lF];simp);have I:(le n 2++(r.take j).flatMap (λp=>le p.1 2++le p.2 2)).length<=2+j*4:=(by rw[lg,qz,ay,lD];omega);generalize r[j]=p at F O aB C;obtain⟨x,y⟩:=p;simp only at F O aB C;generalize le n 2++(r.take j).flatMap (λp=>le p.1 2++le p.2 2)=a at t C I;obtain⟨aH,b0,af,a4⟩:=t.o.sl aO oM;have aF:=lh a4;have Z:=lh I;generalize a1:a.length=bg at af;have aK:=lh a1;clear a1;subst af;clear a4 I;go_upto_region 13 with fail;have l:ak (wr.alloc (.cells #[.int .u16 (x:Int),.int .u16 (y:Int)] 277)) wr.heap.size 277 [.int .u16 (x:Int),.int .u16 (y:Int)]:=bH _ _ _;have s:aa wr (wr.alloc (.cells #[.int .u16 (x:Int),.int .u16 (y:Int)] 277)):=kP;generalize wr.alloc (.cells #[.int .u16 (x:Int),.int .u16 (y:Int)] 277)=i at l s|-;generalize wr.heap.size=g at l|-;have a3:=H.u s;have b2:=lh (lk S.o.size a3.o.size);have aU:=lh (aF.o.keep s);have z0:=l.cell 0 _ rfl;have b4:=l.cell 1 _ rfl;have M:=l.lt;clear l s F O aM aF
   have a0:=lh (λW (hW:aa i W)=>iG aH b0 a x oM W (aU.o.keep hW) (by have:=Z.o;omega));rw[aK.o]at a0;have al:=lh (show(a++le x 2).length<=5000 by have:=Z.o;simp only[lg,ay];omega);have aL:=lh (λW A c (hW:cH W A c (a++le x 2))=>iG A c (a++le x 2) y oM W hW (by have:=al.o;omega));obtain⟨lo,ag⟩:∃lo,i.heap.size=lo:=⟨_,rfl⟩;have N:=lh ag;clear ag;refine zR kR ?_
   iterate 3
    refine aR (λK hK=>?_);go_simp
    (refine hK _ _ ?_;clear hK K)
   refine bW 41 (λu W=>aE W lo u (a++le x 2)) rfl (λ_ W W' f b=>ah.keep b f) ?_ ?_
   ·intro p;rw[bZ (by rfl)];simp only[aj];go_simp;go_at_call 64;refine(a0.o _ kP).mono ?_;rintro e b3 ⟨u,rfl,h,f⟩;exact⟨u,rfl,h.base_mono (base':=lo) (by rw[<-N.o];simp[az]),f⟩
   iterate 2
    refine aR (λK hK=>?_);unfold aw au;rw[bZ (by rfl)];go_simp
    (refine hK _ _ ?_;clear hK K)
   refine bW 44 (λu W=>aE W lo u (a++(le x 2++le y 2))) rfl (λ_ W W' f b=>ah.keep b f) ?_ ?_
   ·intro p;rw[show aC _ _ _=[(41,λu W=>aE W lo u (a++le x 2))]from rfl];rintro v5 a2;obtain⟨b7,b9,rfl,ab⟩:=cU a2 aO (by have:=al.o;omega);have a9:=lh (aL.o _ _ _ ab);generalize (a++le x 2).length=b6 at a9;clear a2 ab;go_simp;go_at_call 64;refine a9.o.mono ?_;rintro e b3 ⟨u,rfl,h,f⟩;rw[lr]at h;exact⟨u,rfl,h.base_mono (base':=lo) (by rw[<-N.o];simp[az]),f⟩
   refine bW 2 (λu W=>aE W lo u (a++(le x 2++le y 2))) rfl (λ_ W W' f b=>ah.keep b f) ?_ ?_
   ·intro p;rw[show aC _ _ _=[(44,λu W=>aE W lo u (a++(le x 2++le y 2)))]from rfl];rintro v ad;go_simp
    all_goals first|exact⟨ad,aa.refl _⟩|exact ad
   refine bG ?_;intro L;simp only[aj];rintro v2 R bh _ b8 _;have aq:=lh (show aE (i.gro L) w.heap.size v2 (a++(le x 2++le y 2)) from R.base_mono (by rw[<-N.o];exact b2.o));have U:=lh (a3.o.trans (show aa i (i.gro L) from ce _ _));generalize i.gro L=bf at aq U|-;clear R z0 b4 M;go_simp;go_wp2;go_roundw
   case rel=>exact⟨j+1,v2,oM,by go_num,rfl,(by show aE _ _ _ _;rw[C.o,lr];exact aq.o),U.o⟩
   case measure=>simp[intOf];omega
  ·have o:j=n:=oM;subst o;rw[<-D.o,lC,D.o]at t;go_wp2;exact bodyPost_ret (v:=v) (by simp[results,results175,go_sem]) rfl ⟨_,rfl,t.o,S.o.trans H.o⟩
theorem Eg{w:World}{c:ap}{v:Value}(b:bP w c v)(e:Fit c)(f:c.NotW)(d:Tab w):Rb 175 #[v] w (fp c):=by
 cases c with
 | arr a=>exact Qi b e d
 | wrd x=>exact f.elim
 | run r=>exact Qh b e d
theorem QC{w:World}{p:Value}(a:dF w none p):Rt 169 #[p] w (.tuple #[.slice none 0 0,.int .i64 0]):=by
 have d:=lh (nK a);simp only[dM,lB]at d
 cases a with
 | nil_ b a =>
   clear a;go_enter func169,ntmps169;go_wp2_with (go_at_call 171;refine ae ?_);refine uM d.o ?_;rintro e h ⟨A,c,rfl,_,f⟩;have g:=lh f;clear f;go_wp2;refine wp_loop_rounds 1 ?_;rw[rounds_succ];go_wp2;exact bodyPost_ret (v:=.tuple #[.slice none 0 0,.int .i64 0]) (by simp[results,results169,go_sem]) rfl ⟨rfl,g.o⟩
def qc(c:ap):Nat:=if c.kind=3 then 1 else 0
theorem Ew{w:World}{b:Nat}{H K:Value}{m:Cm}{c:ap}(L:ak w b 242 [H,K])(X:cJ w 0 H [0])(I:iR w 0 K [m])(E:bP w c m.v) :
 Calls prog 169 #[.pointer (some ⟨b,0,none⟩)] w λe w'=>∃u,e=.returned (.tuple #[u,.int .i64 (qc c:Nat)])/\iR w' w.heap.size u [m]/\aa w w':=by
 have S:=lh (nK (.one b H K c m L X I E));have V:=lh (λW (hW:aa w W)=>Is (L.keep hW) (ah.keep I hW) (E.keep hW));have R:=lh (λW (hW:aa w W)=>mG (E.keep hW));simp only[dM,lw,lB,lS]at S;clear L X I E;obtain⟨k,j,h,i,p,q,d,o,l,f⟩:=m;simp only[Cm.v]at V R;go_enter func169,ntmps169;go_wp2_with (go_at_call 171;refine ae ?_);refine uM S.o ?_;rintro e a7 ⟨A,a5,rfl,_,Z⟩;have U:=lh Z;clear Z;go_wp2;refine wp_loop_rounds 2 ?_;rw[rounds_succ];go_wp2_with (go_at_call 204;refine ae ?_);refine uM (V.o _ U.o) ?_;rintro e s ⟨rfl,Y⟩;have a2:=U.u Y;clear Y;go_upto_region 5 with fail;have a:ak (s.alloc (.cells #[.int .u8 (k:Int),.slice j h i,.slice p q d,.slice o l f] 237)) s.heap.size 237 [.int .u8 (k:Int),.slice j h i,.slice p q d,.slice o l f]:=bH _ _ _;have G:aa s (s.alloc (.cells #[.int .u8 (k:Int),.slice j h i,.slice p q d,.slice o l f] 237)):=kP;generalize s.alloc (.cells #[.int .u8 (k:Int),.slice j h i,.slice p q d,.slice o l f] 237)=a6 at a G|-;generalize s.heap.size=g at a|-;have T:=a2.u G;have a0:=lh a;have z0:=a.cell 0 _ rfl;have F:=a.cell 1 _ rfl;have z2:=a.cell 2 _ rfl;have z3:=a.cell 3 _ rfl;have B:=a.lt;clear a G;obtain⟨n,J⟩:∃n,n=c.kind:=⟨_,rfl⟩;have z:=lh (show qc c=if n=3 then 1 else 0 by unfold qc;rw[J]);rw[<-J]at R
 clear J;go_wp2_with (go_at_call 170;refine ae ?_);refine uM (R.o _ T.o) ?_;rintro e a1 ⟨rfl,M⟩;have C:=T.u M;have t:=lh (a0.o.keep M);clear M z0 F z2 z3 B a0;have z0:=t.o.cell 0 _ rfl;have F:=t.o.cell 1 _ rfl;have z2:=t.o.cell 2 _ rfl;have z3:=t.o.cell 3 _ rfl;have B:=t.o.lt
 by_cases D:n=3
 ·rw[if_pos D]at z;have a3:((n:Int)==3)=true:=sO;have a4:(n:Int)=3:=oM;clear D;go_wp2_with (at_builtin;refine ae ?_);refine ar ?_;have r:iR (a1.alloc (.cells #[.int .u8 (k:Int),.slice j h i,.slice p q d,.slice o l f] 237)) w.heap.size (.slice none 0 0) ([]:List Cm):=ah.nil_ _ _ _ _ _;refine aD tm kj tB rfl (.tmp 24) (.tmp 26) rfl (ys:=[(⟨k,j,h,i,p,q,d,o,l,f⟩:Cm)]) r rfl rfl (br _ oM oM (tC sG sG sG sG)) sP (by have:=C.o.size;simp;omega) ?_;intro N P x y _;have O:=lh (show aa w P from ah.kept r y (C.o.alloc _) (lc _));have Q:=lh x;clear x y r z0 F z2 z3 B;go_wp2;rw[rounds_succ];go_wp2;exact bodyPost_ret (v:=.tuple #[N,.int .i64 1]) (by simp[results,results169,go_sem]) rfl ⟨_,by rw[z.o];rfl,Q.o,O.o⟩
 ·rw[if_neg D]at z;have a3:((n:Int)==3)=false:=sO;have a4:¬(n:Int)=3:=oM;clear D;go_wp2_with (at_builtin;refine ae ?_);refine ar ?_;have r:iR (a1.alloc (.cells #[.int .u8 (k:Int),.slice j h i,.slice p q d,.slice o l f] 237)) w.heap.size (.slice none 0 0) ([]:List Cm):=ah.nil_ _ _ _ _ _;refine aD tm kj tB rfl (.tmp 24) (.tmp 26) rfl (ys:=[(⟨k,j,h,i,p,q,d,o,l,f⟩:Cm)]) r rfl rfl (br _ oM oM (tC sG sG sG sG)) sP (by have:=C.o.size;simp;omega) ?_;intro N P x y _;have O:=lh (show aa w P from ah.kept r y (C.o.alloc _) (lc _));have Q:=lh x;clear x y r z0 F z2 z3 B;go_wp2;rw[rounds_succ];go_wp2;exact bodyPost_ret (v:=.tuple #[N,.int .i64 0]) (by simp[results,results169,go_sem]) rfl ⟨_,by rw[z.o];rfl,Q.o,O.o⟩
theorem Ot(w:World):Rt 173 #[.int .i64 0,.int .i64 0] w (.int .i64 8):=by
 go_enter func173,ntmps173;go_wp2;go_ret;exact⟨rfl,aa.refl _⟩
theorem Ou(w:World):Rt 173 #[.int .i64 1,.int .i64 0] w (.int .i64 16):=by
 go_enter func173,ntmps173;go_wp2;go_ret;exact⟨rfl,aa.refl _⟩
open Go.Star
def cP:Option ap->List UInt8
 | none=>le 12346 4++le 0 4
 | some c=>if c.kind=3 then le 12347 2++le 0 2++[1]++le 0 2++le ((c.len TB+65535)%65536) 2++fp c else le 12346 4++le 1 4++le 0 2++le ((c.len TB+65535)%65536) 2++le 16 4++fp c
theorem EO{w:World}{p:Value}(a:dF w none p):Rb 129 #[p] w (cP none):=by
 have r:=lh (QC a);have i:=lh (λW (hW:aa w W)=>nK (a.keep hW));have s:=lh Ot;simp only[dM,lB]at i;simp only[cP];clear a;go_enter func129,ntmps129;go_wp2_with (go_at_call 169;refine ae ?_);refine uM r.o ?_;rintro e E ⟨rfl,j⟩;have t:=lh j;clear j;go_wp2_with (go_at_call 31;refine ae ?_);refine uM (iQ none 0 [] 12346 oM E (Sl.nil_ _ dC) sP) ?_;rintro e F ⟨v2,rfl,m,k⟩;obtain⟨q,D,rfl,o⟩:=cU m aO (by simp[ay]);have g:=t.u k;have f:=lh (iQ q D _ 0 oM F o (by simp[ay]));clear m k o;go_wp2_with (go_at_call 31;refine ae ?_);refine uM f.o ?_;rintro e G ⟨v3,rfl,n,l⟩;have z:=lh (n.base_mono g.o.size);have h:=g.u l;clear n l f;go_wp2_with (go_at_call 171;refine ae ?_);refine uM (i.o _ h.o) ?_;rintro e H ⟨A,c,rfl,_,b⟩;have x:=h.u b;have B:=lh (z.o.keep b);clear b;go_wp2;refine wp_loop_rounds 1 ?_;rw[rounds_succ];go_wp2_with (go_at_call 173;refine ae ?_);refine uM (s.o _) ?_;rintro e I ⟨rfl,d⟩;have y:=x.u d;have C:=lh (B.o.keep d);clear d;go_wp2;refine wp_loop_rounds 1 ?_;rw[rounds_succ];go_wp2;refine wp_loop_rounds 1 ?_;rw[rounds_succ];go_wp2;exact bodyPost_ret (v:=v3) (by simp[results,results129,go_sem]) rfl ⟨_,rfl,by simpa using C.o,y.o⟩
theorem EP{w:World}{b:Nat}{ax aA:Value}{m:Cm}{c:ap}(j:ak w b 242 [ax,aA])(g:cJ w 0 ax [0])(al:iR w 0 aA [m])(s:bP w c m.v)(y:Fit c)(ao:c.NotW)(af:c.kind≠3)(bt:Tab w) :
 Rb 129 #[.pointer (some ⟨b,0,none⟩)] w (cP (some c)):=by
 have J:=lh (Ew j g al s);have aQ:=lh (λW (hW:aa w W)=>nK ((dF.one b ax aA c m j g al s).keep hW));have a5:=lh (λW (hW:aa w W)=>tG (s.keep hW) y);have ad:=lh (λW (hW:aa w W)=>Po (s.keep hW) y);have a2:=lh (λW (hW:aa w W)=>Eg (s.keep hW) y ao (bt.keep hW));have M:=lh (show cP (some c)=le 12346 4++le 1 4++le 0 2++le ((c.len TB+65535)%65536) 2++le 16 4++fp c from if_neg af);have bl:qc c=0:=if_neg af;rw[bl]at J;have c0:=(vO y).1;have a3:=lh (show(fp c).length<=5000 by
  obtain⟨ct,bv⟩:=y
  cases c with
  | arr a=>simp only[ap.W]at bv;simp only[fp,qB];omega
  | wrd x=>exact ao.elim
  | run r=>simp only[ap.W]at bv;simp only[fp,lg,qz,ay];omega)
 obtain⟨k,G,Y,N,H,Z,O,I,a0,P⟩:=m;simp only[dM,lw,lB,lS,Cm.v]at aQ J a5 ad a2;rw[show((0:Nat):Int)=0 from rfl]at J;rw[M.o];clear j g al s y ao af bt bl M;generalize c.len TB=n at a5 c0|-;generalize fp c=bA at a2 a3|-;generalize pX c=cx at ad;obtain⟨t,bs⟩:∃t,t=(n+65535)%65536:=⟨_,rfl⟩;have cu:t<65536:=oM;have cq:IntKind.u16.wrap ((n:Int)-1)=(t:Int):=by simp[IntKind.wrap,IntKind.signed,IntKind.bits];omega
 have cr:IntKind.i64.wrap ((n:Int)-1)=(n:Int)-1:=by rw[IntWalk.i64_in _ ⟨oM,oM⟩]
 rw[<-bs];clear bs;go_enter func129,ntmps129;go_wp2_with (go_at_call 169;refine ae ?_);refine uM J.o ?_;rintro e c5 ⟨cy,rfl,bj,bb⟩;obtain⟨cf,cp,rfl,aq⟩:=cU bj kj sP;simp only[lw,lB,lS]at aq|-;have aS:=lh aq;have bC:=lh bb;clear bb bj aq;go_wp2_with (go_at_call 31;refine ae ?_);refine uM (iQ none 0 [] 12346 oM c5 (Sl.nil_ _ dC) sP) ?_;rintro e c8 ⟨v2,rfl,bf,ag⟩;obtain⟨bx,bR,rfl,bn⟩:=cU bf aO (by simp[ay]);have aK:=bC.u ag;have aU:=lh (aS.o.keep ag);have aF:=lh (iQ bx bR _ 1 oM c8 bn (by simp[ay]));clear bf ag bn;go_wp2_with (go_at_call 31;refine ae ?_);refine uM aF.o ?_;rintro e cD ⟨v3,rfl,bg,ai⟩;have b2:=lh (bg.base_mono aK.o.size);have aL:=aK.u ai;have aV:=lh (aU.o.keep ai);clear bg ai aF aS aU;go_wp2_with (go_at_call 171;refine ae ?_);refine uM (aQ.o _ aL.o) ?_;rintro e l ⟨cc,cn,rfl,bi,T⟩;obtain⟨cd,co,c1,bq⟩:=cU bi dB dC;injection c1 with e1 e2 e3;subst e1;subst e3;clear e2;have a8:=aL.u T;have ac:=lh (b2.o.keep T);have aW:=lh (aV.o.keep T);have bN:=lh bq;clear T bi b2 aV bq;simp only[lO]at ac;obtain⟨f,C⟩:∃f,f=le 12346 4++le 1 4:=⟨_,rfl⟩;rw[<-C]at ac;have bF:=lh C;obtain⟨bz,bS,rfl,br⟩:=cU ac.o aO (by rw[C];simp[ay]);have a6:=lh (show f.length<=100 by rw[C];simp[ay]);obtain⟨cj,cv,bU,bX,bw⟩:=gU bN.o 0 dC
 obtain⟨ck,cw,bV,E⟩:=aW.o.at_ 0 sP;subst bU;subst bV;have z0:=E 0 _ rfl;have i:=E 1 _ rfl;have z2:=E 2 _ rfl;have z3:=E 3 _ rfl;simp only[Lf,lE]at z0 i z2 z3;rw[lE]at bw;have D:=block_lt_of_cell z0;have M:=lh br;generalize b9:f.length=cg;have bK:=lh b9;clear C b9 E br;go_wp2;refine wp_loop_rounds 2 ?_;rw[rounds_succ];go_upto_region 18 with fail;have aC:=lh (λW (hW:aa l W)=>iG bz bS f 0 oM W (M.o.keep hW) (by have:=a6.o;omega));rw[bK.o,show((0:Nat):Int)=0 from rfl]at aC;have aH:=lh (show(f++le 0 2).length<=5000 by have:=a6.o;simp only[lg,ay];omega);have bB:=lh (λW A c (hW:cH W A c (f++le 0 2))=>iG A c (f++le 0 2) t oM W hW (by have:=aH.o;omega));obtain⟨lo,bc⟩:∃lo,(l).heap.size=lo:=⟨_,rfl⟩;have ab:=lh bc;clear bc;refine zR kR ?_
 iterate 2
  refine aR (λK hK=>?_);go_simp
  (refine hK _ _ ?_;clear hK K)
 refine bW 75 (λu W=>aE W lo u (f++le 0 2)) rfl (λ_ W W' g j=>ah.keep j g) ?_ ?_
 ·intro p;rw[bZ (by rfl)];simp only[aj];go_simp;go_at_call 64;refine(aC.o _ kP).mono ?_;rintro e c9 ⟨u,rfl,X,g⟩;exact⟨u,rfl,X.base_mono (base':=lo) (by rw[<-ab.o];simp[az]),g⟩
 iterate 4
  refine aR (λK hK=>?_);unfold aw au;rw[bZ (by rfl)];go_simp
  (refine hK _ _ ?_;clear hK K)
 refine aR (λK hK=>?_);unfold aw au;rw[bZ (by rfl)];go_simp;apply Exists.intro;refine⟨λp=>?_,hK _ _ ?_⟩
 (go_at_call 172;exact Zone.zc (a5.o _ ((a8.o).trans kP)))
 clear hK K
 iterate 2
  refine aR (λK hK=>?_);unfold aw au;rw[bZ (by rfl)];go_simp
  (refine hK _ _ ?_;clear hK K)
 refine bW 83 (λu W=>aE W lo u (f++(le 0 2++le t 2))) rfl (λ_ W W' g j=>ah.keep j g) ?_ ?_
 ·refine ij (d:=75) (by rfl) (λp v5 hv5=>?_);rw[if_pos (by rfl)];obtain⟨cb,cm,rfl,bp⟩:=cU hv5 aO (by have:=aH.o;omega);have aG:=lh (bB.o _ _ _ bp);generalize (f++le 0 2).length=ch at aG;clear hv5 bp;unfold av;go_simp;go_at_call 64;refine aG.o.mono ?_;rintro e c9 ⟨u,rfl,X,g⟩;rw[lr]at X;exact⟨u,rfl,X.base_mono (base':=lo) (by rw[<-ab.o];simp[az]),g⟩
 refine bW 6 (λu W=>aE W lo u (f++(le 0 2++le t 2))) rfl (λ_ W W' g j=>ah.keep j g) ?_ ?_
 ·refine ij (d:=83) (by rfl) (λp v hv=>?_);rw[if_pos (by rfl)];unfold av;go_simp
  all_goals first|exact⟨hv,aa.refl _⟩|exact hv
 refine bG ?_;intro a1;simp only[aj];rintro c4 bu cB _ cA _;have L:=lh (show aE ((l).gro a1) w.heap.size c4 (f++(le 0 2++le t 2)) from bu.base_mono (by rw[<-ab.o];exact(a8.o).size));have aM:=lh ((a8.o).trans (show aa (l) ((l).gro a1) from ce _ _));have aZ:=lh (show aa (l) ((l).gro a1) from ce _ _);generalize (l).gro a1=cE at L aM aZ|-;clear bu;go_simp;clear bw bX z0 i z2 z3 D;obtain⟨L2,Q⟩:∃L2,L2=f++(le 0 2++le t 2):=⟨_,rfl⟩;rw[<-Q]at L;have bI:=lh (show L2=le 12346 4++le 1 4++le 0 2++le t 2 by rw[Q,bF.o];simp);have a7:=lh (show L2.length<=5000 by have:=a6.o;rw[Q];simp only[lg,ay];omega);obtain⟨aB,b8,rfl,bo⟩:=cU L.o aO (by have:=a7.o;omega);have b5:=lh bo;have a4:=lh (λW (hW:cH W aB b8 L2)=>iQ aB b8 L2 16 oM W hW (by have:=a7.o;omega));generalize L2.length=ci at a4|-;clear bo Q;go_wp2;rw[rounds_succ];go_wp2_with (go_at_call 173;refine ae ?_);refine uM (Ou _) ?_;rintro e z ⟨rfl,U⟩;have bE:=aM.u U;have b6:=lh (b5.o.keep U);have bJ:=lh (aZ.o.trans U);clear U b5 L;have a9:=lh (aW.o.keep bJ.o);obtain⟨bO,c2,o,h⟩:=a9.o.at_ 0 sP;injection o with o;injection o with e1 e2;subst e1;subst e2;have z0:=h 0 _ rfl;have i:=h 1 _ rfl;have z2:=h 2 _ rfl;have z3:=h 3 _ rfl;simp only[Lf,lE]at z0 i z2 z3;have D:=block_lt_of_cell z0;clear h
 go_wp2;refine wp_loop_rounds 2 ?_;rw[rounds_succ];go_upto_region 25 with fail;have R:ak (z.alloc (.cells #[.int .u8 (k:Int),.slice G Y N,.slice H Z O,.slice I a0 P] 237)) z.heap.size 237 [.int .u8 (k:Int),.slice G Y N,.slice H Z O,.slice I a0 P]:=bH _ _ _;have B:aa z (z.alloc (.cells #[.int .u8 (k:Int),.slice G Y N,.slice H Z O,.slice I a0 P] 237)):=kP;generalize z.alloc (.cells #[.int .u8 (k:Int),.slice G Y N,.slice H Z O,.slice I a0 P] 237)=cF at R B|-;generalize z.heap.size=cs at R|-;have b4:=lh R;have aN:=bE.u B;have b7:=lh (b6.o.keep B);have aX:=lh (a9.o.keep B);clear R B z0 i z2 z3 D b6 a9;go_wp2_with (go_at_call 31;refine ae ?_);refine uM (a4.o _ b7.o) ?_;rintro e cG ⟨v9,rfl,bh,V⟩;have aP:=aN.u V;have b3:=lh (bh.base_mono aN.o.size);have q:=lh (b4.o.keep V);have aY:=lh (aX.o.keep V);clear bh V b4 aX a4 b7;have z0:=q.o.cell 0 _ rfl;have i:=q.o.cell 1 _ rfl;have z2:=q.o.cell 2 _ rfl;have z3:=q.o.cell 3 _ rfl;have bY:=q.o.lt;go_wp2_with (go_at_call 174;refine ae ?_);refine uM (ad.o _ aP.o) ?_;rintro e c6 ⟨rfl,S⟩;have aI:=aP.u S;have b0:=lh (b3.o.keep S);have aT:=lh (aY.o.keep S);clear S z0 i z2 z3 bY b3 aY q;obtain⟨bO,c2,o,h⟩:=aT.o.at_ 0 sP;injection o with o;injection o with e1 e2;subst e1;subst e2;have z0:=h 0 _ rfl;have i:=h 1 _ rfl
 have z2:=h 2 _ rfl;have z3:=h 3 _ rfl;simp only[Lf,lE]at z0 i z2 z3;have D:=block_lt_of_cell z0;clear h;go_wp2;rw[rounds_succ];go_wp2;refine wp_loop_rounds 2 ?_;rw[rounds_succ];go_wp2_with (go_at_call 175;refine ae ?_);refine uM (a2.o _ (aI.o.trans kP)) ?_;rintro e cC ⟨cz,rfl,bd,F⟩;have F:=aa.trans (show aa c6 _ from kP) F;obtain⟨ca,cl,rfl,bm⟩:=cU bd aO (by have:=a3.o;omega);have aJ:=aI.u F;have b1:=lh (b0.o.keep F);have bM:=lh bm;clear bd F bm z0 i z2 z3 D b0 aT;go_wp2_with (at_builtin;refine ae ?_);refine ar ?_;refine aD bQ aO bT rfl (.tmp 115) (.tmp 117) rfl (ys:=bA) b1.o rfl rfl bM.o (by have:=a7.o;have:=a3.o;simp[ay];omega) aJ.o.size ?_;intro c3 c7 bk ba _;have bD:=lh (show aa w c7 from ah.kept b1.o ba aJ.o (lc _));have bL:=lh bk;clear bk ba;go_wp2;rw[rounds_succ];go_wp2;exact bodyPost_ret (v:=c3) (by simp[results,results129,go_sem]) rfl ⟨_,rfl,by rw[<-bI.o];exact bL.o,bD.o⟩
theorem cN{d b:Type}{w:World}{h n o m:Nat}{e f:TypeId}{j:d->List Value}{p:b->List Value}{c v2:Value}{xs:List d}{ys:List b}(l:ah w h e o j c xs)(k:ah w n f m p v2 ys)(he:e≠f)(i:Nat)(hi:c.ownBlock=some i):v2.ownBlock≠some i:=λhj=>by
 rcases l.2 with⟨rfl,_⟩ | ⟨g,t,s,rfl,_,q,_⟩
 ·cases hi
 ·rcases k.2 with⟨rfl,_⟩ | ⟨r,u,v,rfl,_,a,_⟩
  ·cases hj
  ·simp only[Value.ownBlock,lQ]at hi hj;subst hi;subst hj;rw[q]at a;simp at a;exact he a.2
theorem EN{w:World}{b:Nat}{al ab:Value}{m:Cm}{c:ap}(l:ak w b 242 [al,ab])(h:cJ w 0 al [0])(aB:iR w 0 ab [m])(E:bP w c m.v)(U:Fit c)(J:c.NotW)(a6:c.kind=3)(bO:Tab w) :
 Rb 129 #[.pointer (some ⟨b,0,none⟩)] w (cP (some c)):=by
 have a7:=lh (Ew l h aB E);have bB:=lh (λW (hW:aa w W)=>nK ((dF.one b al ab c m l h aB E).keep hW));have aJ:=lh (λW (hW:aa w W)=>tG (E.keep hW) U);have af:=lh (λW (hW:aa w W)=>mG (E.keep hW));rw[a6,show((3:Nat):Int)=3 from rfl]at af;have aG:=lh (λW (hW:aa w W)=>Eg (E.keep hW) U J (bO.keep hW));have a0:=lh (show cP (some c)=le 12347 2++le 0 2++[1]++le 0 2++le ((c.len TB+65535)%65536) 2++fp c from if_pos a6);have c4:qc c=1:=if_pos a6;rw[c4]at a7;have cB:=(vO U).1;have a9:=lh (show(fp c).length<=5000 by
  obtain⟨dl,bf⟩:=U
  cases c with
  | arr a=>simp only[ap.W]at bf;simp only[fp,qB];omega
  | wrd x=>exact J.elim
  | run r=>simp only[ap.W]at bf;simp only[fp,lg,qz,ay];omega)
 obtain⟨k,aV,aP,c7,bs,ch,c5,bn,bL,bE⟩:=m;simp only[dM,lw,lB,lS,Cm.v]at bB a7 aJ af aG;rw[show((1:Nat):Int)=1 from rfl]at a7;rw[a0.o];clear l h aB E U J a6 bO c4 a0;generalize c.len TB=n at aJ cB|-;generalize fp c=cp at aG a9|-;obtain⟨t,Z⟩:∃t,t=(n+65535)%65536:=⟨_,rfl⟩;have dt:t<65536:=oM;have de:IntKind.u16.wrap ((n:Int)-1)=(t:Int):=by simp[IntKind.wrap,IntKind.signed,IntKind.bits];omega
 have dr:IntKind.i64.wrap ((n:Int)-1)=(n:Int)-1:=by rw[IntWalk.i64_in _ ⟨oM,oM⟩]
 rw[<-Z];clear Z;go_enter func129,ntmps129;go_wp2_with (go_at_call 169;refine ae ?_);refine uM a7.o ?_;rintro e bw ⟨d3,rfl,aq,cg⟩;obtain⟨aZ,aL,rfl,aK⟩:=cU aq kj sP;simp only[lw,lB,lS]at aK|-;have bu:=lh aK;have bC:=lh (show iR bw w.heap.size (.slice aZ 1 aL) [(⟨k,aV,aP,c7,bs,ch,c5,bn,bL,bE⟩:Cm)]from aq);have cz:=lh cg;clear cg aq aK;go_wp2_with (go_at_call 64;refine ae ?_);refine uM (iG none 0 [] 12347 oM bw (Sl.nil_ _ dC) sP) ?_;rintro e cv ⟨v2,rfl,bX,a4⟩;obtain⟨cu,cK,rfl,bU⟩:=cU bX aO (by simp[ay]);have c3:=cz.u a4;have aY:=lh (bu.o.keep a4);have bc:=lh (bC.o.keep a4);have ci:=lh (iG cu cK _ 0 oM cv bU (by simp[ay]));clear bX a4 bU;go_wp2_with (go_at_call 64;refine ae ?_);refine uM ci.o ?_;rintro e s ⟨v3,rfl,bp,X⟩;have L:=lh (bp.base_mono c3.o.size);have D:=c3.u X;have O:=lh (aY.o.keep X);have aQ:=lh (bc.o.keep X);clear bp X ci bu aY bC bc;obtain⟨i0,b7,bo,i2,i3⟩:=info_parts pd;obtain⟨W',c8,cf,T⟩:=oR (P:=prog) (z:=(0:UInt8)) (enc:=b8) (f:=λx=>.int .u8 (x.toNat:Int)) (λ_=>rfl) rfl underlying31 b7 bo i2 1 w.heap.size s (by rw[i3];omega) oM D.o.size;have bR:(Instr.makeSlice 31 (.int .i64 1) (.int .i64 1)).run prog s=.ok (.slice (some ⟨s.heap.size,0,none⟩) 1 1) W':=c8
 have bx:=lh (show aE W' w.heap.size (.slice (some ⟨s.heap.size,0,none⟩) 1 1) [0]from cf);have cZ:=lh (L.o.keep T);have bq:=lh (O.o.keep T);have cY:=lh (aQ.o.keep T);have bg:=lh (show(Value.slice aZ 1 aL).ownBlock≠some s.heap.size from λe=>by have:=(aQ.o.lt _ e).2;omega);have cb:=D.u T;have bA:=lh D.o.size;obtain⟨bJ,cn,o,bk⟩:=O.o.at_ 0 sP;have bF:bJ<s.heap.size:=block_lt_of_cell (bk 0 _ rfl);have bV:=lh (show v3.ownBlock≠some s.heap.size from λe=>by have:=(L.o.lt _ e).2;omega);clear c8 cf T i0 b7 bo i2 i3 bk;generalize s.heap.size=F at bx bR bA bF bV bg;have cF:=lh bF;subst o;obtain⟨ca,bN,o,j⟩:=bq.o.at_ 0 sP;injection o with o;injection o with e1 e2;subst e1;subst e2;have z0:=j 0 _ rfl;have B:=j 1 _ rfl;have z2:=j 2 _ rfl;have z3:=j 3 _ rfl;simp only[Lf,lE]at z0 B z2 z3;have M:=block_lt_of_cell z0;clear j;go_wp2;clear bR;refine wp_loop_rounds 2 ?_;rw[rounds_succ];go_wp2_with (go_at_call 170;refine ae ?_);refine uM (af.o _ (cb.o.trans kP)) ?_;rintro e Y ⟨rfl,q⟩;have q:=aa.trans (show aa W' _ from kP) q;have cm:=cb.u q;have c6:=lh (cZ.o.keep q);have ac:=lh (bx.o.keep q);have cc:=lh (bq.o.keep q);have bK:=lh (cY.o.keep q);clear q z0 B z2 z3 M;obtain⟨bv,ct,cL,cl⟩:=ac.o.cell1 (f:=λx:UInt8=>.int .u8 (x.toNat:Int)) (λ_=>rfl) rfl 0 dC
 have br:=ac.o.set1 (f:=λx:UInt8=>.int .u8 (x.toNat:Int)) (λ_=>rfl) rfl 0 1 rfl;have aC:=lh (show aE (Y.setCell ⟨F,0,none⟩ (.int .u8 1)) w.heap.size (.slice (some ⟨F,0,none⟩) 1 1) [1]from br);have Q:=lh (ag.set Y ⟨F,0,none⟩ (.int .u8 1));have ax:=lh (cm.o.setCell (a:=⟨F,0,none⟩) bA.o (.int .u8 1));have cO:Y.cell? ⟨F,0,none⟩=some (.int .u8 0):=bv;have d1:bits .or .u8 0 1=1:=by decide +kernel
 clear br bv cl;go_wp2;go_region;generalize Y.setCell ⟨F,0,none⟩ (.int .u8 1)=G at aC Q ax|-;have bY:=lh (ah.turn c6.o Q.o λi hi=>by simp only[lm]at hi;rw[hi];exact bV.o);have aS:=lh (cc.o.turn Q.o λbb off e=>by injection e with e;injection e with e1 e2;have:=cF.o;simp;omega);have bl:=lh (ah.turn bK.o Q.o λi hi=>by simp only[lm]at hi;rw[hi];exact bg.o);clear cO ct cL d1 Q c6 cc ac bK;go_wp2;rw[rounds_succ];have aH:=lh (aC.o.keep (aa.drew (aa.refl G)));have I:=lh (bY.o.keep (aa.drew (aa.refl G)));have aX:=lh (aS.o.keep (aa.drew (aa.refl G)));have a8:=lh (bl.o.keep (aa.drew (aa.refl G)));have a3:=lh (ax.o.trans (aa.drew (aa.refl G)));clear aC bY aS ax bl;generalize G.drew=cw at aH I aX a3 a8|-;obtain⟨dh,d7,cW,c1⟩:=cU aH.o aO dC;injection cW with e1 e2 e3;subst e1;subst e3;clear e2;go_wp2_with (at_builtin;refine ae ?_);refine ar ?_;refine aD bQ aO bT rfl (.tmp 62) (.tmp 63) rfl (ys:=[1]) I.o rfl rfl c1 (by simp[ay]) a3.o.size ?_;intro di aI bS C cj;have bh:=lh (show aa w aI from ah.kept I.o C a3.o (lc _));have aT:iR aI w.heap.size (.slice (some ⟨bJ,cn,none⟩) 1 aL) [(⟨k,aV,aP,c7,bs,ch,c5,bn,bL,bE⟩:Cm)]:=by
  have Z:ag cw aI v3.ownBlock.toList:=⟨C.os,C.tape,C.output,C.size,λi hi J=>C.block i hi (λe=>J (by simp[e]))⟩;exact ah.turn a8.o Z λi hi=>cN I.o a8.o dC i (by rw[Lc]at hi;exact hi)
 obtain⟨dc,db,ck,cd⟩:=cU aT kj sP;injection ck with e1 e2 e3;subst e1;subst e3;clear e2 aT;have aW:=lh cd;have b2:=lh bS;clear bS C cj c1 cd I aX aH a8 a3;have D:=bh;have L:=b2;have O:=aW;clear bh b2 aW;go_wp2_with (go_at_call 171;refine ae ?_);refine uM (bB.o _ D.o) ?_;rintro e y ⟨dm,dg,rfl,b4,a2⟩;obtain⟨dn,d6,cE,aN⟩:=cU b4 dB dC;injection cE with e1 e2 e3;subst e1;subst e3;clear e2;have ao:=D.u a2;have aA:=lh (L.o.keep a2);have b0:=lh (O.o.keep a2);have cC:=lh aN;clear a2 b4 L O aN;simp only[lO]at aA;obtain⟨g,N⟩:∃g,g=le 12347 2++le 0 2++[1]:=⟨_,rfl⟩;rw[<-N]at aA;have cx:=lh N;obtain⟨cV,cX,rfl,c9⟩:=cU aA.o aO (by rw[N];simp[ay]);have ad:=lh (show g.length<=100 by rw[N];simp[ay]);obtain⟨dk,dd,cS,cI,b1⟩:=gU cC.o 0 dC;obtain⟨ca,bN,o,j⟩:=b0.o.at_ 0 sP;subst cS;injection o with o;injection o with e1 e2;subst e1;subst e2;have z0:=j 0 _ rfl;have B:=j 1 _ rfl;have z2:=j 2 _ rfl;have z3:=j 3 _ rfl;simp only[Lf,lE]at z0 B z2 z3;rw[lE]at b1;have M:=block_lt_of_cell z0;have a0:=lh c9;generalize b6:g.length=dj;have cq:=lh b6;clear N b6 j c9;go_wp2;refine wp_loop_rounds 2 ?_;rw[rounds_succ];go_upto_region 18 with fail;have b3:=lh (λW (hW:aa y W)=>iG cV cX g 0 oM W (a0.o.keep hW) (by have:=ad.o;omega))
 rw[cq.o,show((0:Nat):Int)=0 from rfl]at b3;have bM:=lh (show(g++le 0 2).length<=5000 by have:=ad.o;simp only[lg,ay];omega);have cs:=lh (λW A c (hW:cH W A c (g++le 0 2))=>iG A c (g++le 0 2) t oM W hW (by have:=bM.o;omega));obtain⟨lo,bI⟩:∃lo,(y).heap.size=lo:=⟨_,rfl⟩;have aF:=lh bI;clear bI;refine zR kR ?_
 iterate 2
  refine aR (λK hK=>?_);go_simp
  (refine hK _ _ ?_;clear hK K)
 refine bW 75 (λu W=>aE W lo u (g++le 0 2)) rfl (λ_ W W' h l=>ah.keep l h) ?_ ?_
 ·intro p;rw[bZ (by rfl)];simp only[aj];go_simp;go_at_call 64;refine(b3.o _ kP).mono ?_;rintro e d0 ⟨u,rfl,a5,h⟩;exact⟨u,rfl,a5.base_mono (base':=lo) (by rw[<-aF.o];simp[az]),h⟩
 iterate 4
  refine aR (λK hK=>?_);unfold aw au;rw[bZ (by rfl)];go_simp
  (refine hK _ _ ?_;clear hK K)
 refine aR (λK hK=>?_);unfold aw au;rw[bZ (by rfl)];go_simp;apply Exists.intro;refine⟨λp=>?_,hK _ _ ?_⟩
 (go_at_call 172;exact Zone.zc (aJ.o _ ((ao.o).trans kP)))
 clear hK K
 iterate 2
  refine aR (λK hK=>?_);unfold aw au;rw[bZ (by rfl)];go_simp
  (refine hK _ _ ?_;clear hK K)
 refine bW 83 (λu W=>aE W lo u (g++(le 0 2++le t 2))) rfl (λ_ W W' h l=>ah.keep l h) ?_ ?_
 ·refine ij (d:=75) (by rfl) (λp v5 hv5=>?_);rw[if_pos (by rfl)];obtain⟨d4,da,rfl,bz⟩:=cU hv5 aO (by have:=bM.o;omega);have bt:=lh (cs.o _ _ _ bz);generalize (g++le 0 2).length=d2 at bt;clear hv5 bz;unfold av;go_simp;go_at_call 64;refine bt.o.mono ?_;rintro e d0 ⟨u,rfl,a5,h⟩;rw[lr]at a5;exact⟨u,rfl,a5.base_mono (base':=lo) (by rw[<-aF.o];simp[az]),h⟩
 refine bW 6 (λu W=>aE W lo u (g++(le 0 2++le t 2))) rfl (λ_ W W' h l=>ah.keep l h) ?_ ?_
 ·refine ij (d:=83) (by rfl) (λp v hv=>?_);rw[if_pos (by rfl)];unfold av;go_simp
  all_goals first|exact⟨hv,aa.refl _⟩|exact hv
 refine bG ?_;intro a1;simp only[aj];rintro cQ c0 dp _ du _;have S:=lh (show aE ((y).gro a1) w.heap.size cQ (g++(le 0 2++le t 2)) from c0.base_mono (by rw[<-aF.o];exact(ao.o).size));have aU:=lh ((ao.o).trans (show aa (y) ((y).gro a1) from ce _ _));have ba:=lh (show aa (y) ((y).gro a1) from ce _ _);generalize (y).gro a1=cG at S aU ba|-;clear c0;go_simp;clear b1 cI z0 B z2 z3 M;obtain⟨L2,V⟩:∃L2,L2=g++(le 0 2++le t 2):=⟨_,rfl⟩;rw[<-V]at S;have cM:=lh (show L2=le 12347 2++le 0 2++[1]++le 0 2++le t 2 by rw[V,cx.o];simp);have bd:=lh (show L2.length<=5000 by have:=ad.o;rw[V];simp only[lg,ay];omega);obtain⟨d9,dv,rfl,cD⟩:=cU S.o aO (by have:=bd.o;omega);have b5:=lh (b0.o.keep ba.o);generalize L2.length=ds at S|-;clear cD V;obtain⟨ca,bN,ai,R⟩:=b5.o.at_ 0 sP;injection ai with ai;injection ai with e1 e2;subst e1;subst e2;have z0:=R 0 _ rfl;have B:=R 1 _ rfl;have z2:=R 2 _ rfl;have z3:=R 3 _ rfl;simp only[Lf,lE]at z0 B z2 z3;have M:=block_lt_of_cell z0;clear R;have bH:=aU;have b9:=S;have cA:=b5;go_wp2;rw[rounds_succ];go_wp2;refine wp_loop_rounds 2 ?_;rw[rounds_succ];go_wp2_with (go_at_call 175;refine ae ?_);refine uM (aG.o _ (bH.o.trans kP)) ?_;rintro e dq ⟨d5,rfl,aM,H⟩;have H:=aa.trans (show aa cG _ from kP) H
 obtain⟨df,d8,rfl,bm⟩:=cU aM aO (by have:=a9.o;omega);have bi:=bH.u H;have bD:=lh (b9.o.keep H);have cR:=lh bm;clear aM H bm z0 B z2 z3 M b9 cA;go_wp2_with (at_builtin;refine ae ?_);refine ar ?_;refine aD bQ aO bT rfl (.tmp 115) (.tmp 117) rfl (ys:=cp) bD.o rfl rfl cR.o (by have:=bd.o;have:=a9.o;simp[ay];omega) bi.o.size ?_;intro cy co c2 bj _;have cr:=lh (show aa w co from ah.kept bD.o bj bi.o (lc _));have cT:=lh c2;clear c2 bj;go_wp2;rw[rounds_succ];go_wp2;exact bodyPost_ret (v:=cy) (by simp[results,results129,go_sem]) rfl ⟨_,rfl,by rw[<-cM.o];exact cT.o,cr.o⟩
def qL(s:Option ap):Prop:=∀c,s=some c->Fit c/\c.NotW
theorem qL.of{b:Option ap}{B:Nat}(a:eh b B)(d:B<=2000):qL b:=λc e=>⟨⟨a.good c e,lk (a.w c e) d⟩,a.notW c e⟩
theorem yV{w:World}{d:Option ap}{p:Value}(a:dF w d p)(i:qL d)(e:Tab w):Rb 129 #[p] w (cP d):=by
 cases a with
 | nil_ b a=>exact EO (.nil_ b a)
 | one b kv lv c m a hk hl hc =>
   obtain⟨h,f⟩:=i c rfl
   by_cases g:c.kind=3
   ·exact EN a hk hl hc h f g e
   ·exact EP a hk hl hc h f g e
theorem ny{b:Option ap}{B:Nat}(d:eh b B):(cP b).length<=16+2*B:=by
 cases b with
 | none=>simp only[cP,lg,ay];omega
 | some c =>
   have f:=d.w c rfl;have g:=d.notW c rfl
   cases c with
   | wrd x=>exact g.elim
   | arr a =>
     simp only[ap.W]at f;have e:cP (some (.arr a))=le 12346 4++le 1 4++le 0 2++le (((ap.arr a).len TB+65535)%65536) 2++le 16 4++fp (.arr a):=rfl;rw[e];simp only[lg,ay,fp,qB];omega
   | run r =>
     simp only[ap.W]at f;have e:cP (some (.run r))=le 12347 2++le 0 2++[1]++le 0 2++le (((ap.run r).len TB+65535)%65536) 2++fp (.run r):=rfl;rw[e];simp only[lg,ay,fp,qz,lw,lB];omega
def cB(a:List Nat)(k i:Nat):List Nat:=(List.range k).filter λr=>decide (a.getD r 0=i)
theorem uP{a:List Nat}{k i:Nat}:∀x∈cB a k i,x<k:=λ_ hx=>List.mem_range.1 (List.mem_filter.1 hx).1
theorem rO(a:List Nat)(k i:Nat):cB a (k+1) i=if a.getD k 0=i then cB a k i++[k] else cB a k i:=by
 unfold cB;rw[List.range_succ,List.filter_append]
 by_cases b:a.getD k 0=i
 ·rw[if_pos b];simp only[List.filter_cons,Lr];rw[if_pos (by simpa using b)]
 ·rw[if_neg b];simp only[List.filter_cons,Lr];rw[if_neg (by simpa using b),lT]
theorem zk(a:List Nat)(k i:Nat):nY (cB a k i):=by
 have:(cB a k i).Pairwise (· < ·):=List.Pairwise.filter _ List.pairwise_lt_range;intro j b;exact List.pairwise_iff_getElem.1 this j (j+1) oM b oM
theorem oI(a:List Nat)(k i:Nat):(cB a k i).length<=k:=by
 have:=List.length_filter_le (λr=>decide (a.getD r 0=i)) (List.range k)
 simpa[cB]using this
theorem rN(b:List Nat)(m:Nat):∀k,((List.range m).map λi=>(cB b k i).length).sum<=k
 | 0=>by
   have:∀l:List Nat,(l.map λi=>(cB b 0 i).length).sum=0:=by
    intro l
    induction l with
    | nil=>rfl
    | cons a l d=>simp only[lG,List.sum_cons,d];rfl
   rw[this];exact lc _
 | k+1=>by
   have d:=rN b m k;have h:∀l:List Nat,l.Nodup->(l.map λi=>(cB b (k+1) i).length).sum<=(l.map λi=>(cB b k i).length).sum+1/\(b.getD k 0∉l->(l.map λi=>(cB b (k+1) i).length).sum=(l.map λi=>(cB b k i).length).sum):=by
    intro l
    induction l with
    | nil=>intro _;exact⟨lj _,λ_=>rfl⟩
    | cons a l d =>
      intro f;rw[List.nodup_cons]at f;obtain⟨n,g⟩:=d f.2;simp only[lG,List.sum_cons]
      by_cases c:b.getD k 0=a
      ·have j:=g (by rw[c];exact f.1);rw[rO,if_pos c];refine⟨by simp only[lg,lw,lB];omega,λhm=>absurd (by rw[c];exact Lt ..) hm⟩
      ·rw[rO,if_neg c];exact⟨oM,λhm=>by rw[g (λe=>hm (Lm _ e))]⟩
   have:=(h (List.range m) List.nodup_range).1;omega
theorem zm{P:Program}{t e:TypeId}{i:TypeInfo}{z:Value}(h:P.underlying t=some (.slice e))(hi:P.info? e=some i)(c:i.zero=some z)(b:i.size=1)(g:z.cells=#[z])(n:Nat)(a:World)(j:i.bytes*n<=140737488355328)(k:n<=1000000000) :
 ∃W',(Instr.makeSlice t (.int .i64 (n:Int)) (.int .i64 (n:Int))).run P a=.ok (.slice (some ⟨a.heap.size,0,none⟩) n n) W'/\ak W' a.heap.size e (List.replicate n z)/\aa a W':=by
 have d:=run_make (P:=P) a t e i _ h hi c .i64 .i64 (n:Int) (n:Int) oM oM (by have f:=Int.ofNat_le.2 (lk j (by decide:140737488355328<=281474976710656));simpa using f) oM;rw[Lz,b]at d;refine⟨_,d,?_,aa.alloc (aa.refl _) _⟩;have e:madeCells z.cells (n*1)=(List.replicate n z).toArray:=by
  apply Array.ext
  ·simp[madeCells]
  ·intro i c b;simp[madeCells,g,Nat.mod_one]
 rw[e];exact bH _ _ _
theorem ag.of_grown{w b:World}{c:Option Nat}(a:w.grownBy b c):ag w b c.toList :=
 ⟨a.os,a.tape,a.output,a.size,λi hi hn=>a.block i hi λe=>hn (by rw[<-e];simp)⟩
structure iI(w:World)(lo g:Nat)(f:Nat->List Nat)(vs:List Value):Prop where
 row:ak w g 193 vs
 own:∀i u,vs[i]? =some u->mQ w lo u (f i)
 apart:∀(i j:Nat) (u v:Value) (b:Nat),i≠j->vs[i]? =some u->vs[j]? =some v->u.ownBlock=some b->v.ownBlock≠some b
theorem iI.keep{w b:World}{lo g:Nat}{f:Nat->List Nat}{d:List Value}(a:iI w lo g f d)(c:aa w b):iI b lo g f d :=
 ⟨a.row.keep c,λi u hu=>(a.own i u hu).keep c,a.apart⟩
theorem iI.congr{w:World}{lo g:Nat}{f b:Nat->List Nat}{c:List Value}(a:iI w lo g f c)(he:∀i,f i=b i):iI w lo g b c :=
 ⟨a.row,λi u hu=>by rw[<-he];exact a.own i u hu,a.apart⟩
theorem Eo{w:World}{g n lo:Nat}(h:ak w g 193 (List.replicate n (.slice none 0 0))):iI w lo g (λ_=>[]) (List.replicate n (.slice none 0 0)) :=
 ⟨h,λi u hu=>by
  have:=List.mem_of_getElem? hu;rw[List.mem_replicate]at this;rw[this.2];exact ah.nil_ _ _ _ _ _,λi j u v b _ hu _ hb=>by
  have:=List.mem_of_getElem? hu;rw[List.mem_replicate]at this;rw[this.2]at hb
  cases hb⟩
theorem iI.app{w h:World}{lo g a x:Nat}{f:Nat->List Nat}{l:List Value}{u c:Value}(d:iI w lo g f l)(n:l[a]? =some u)(B:mQ h lo c (f a++[x]))(v:w.grownBy h u.ownBlock)(k:c.ownBlock=u.ownBlock\/c.ownBlock=some w.heap.size) :
 iI (h.setCell ⟨g,a,none⟩ c) lo g (λi=>if i=a then f a++[x] else f i) (l.set a c)/\ak h g 193 l:=by
 have A:a<l.length:=(Lw.1 n).1;have q:ak h g 193 l:=de d.row v (bu (d.own a u n) d.row dC);have C:ag h (h.setCell ⟨g,a,none⟩ c) [g]:=ag.set h ⟨g,a,none⟩ c;have s:∀{y:Value} {xs:List Nat},mQ h lo y xs->mQ (h.setCell ⟨g,a,none⟩ c) lo y xs:=λho=>(off_row q dC).own ho C;have p:∀(i:Nat) (y:Value),i≠a->(l.set a c)[i]? =some y->l[i]? =some y:=λi y hi hy=>by
  rwa [List.getElem?_set_ne (λe=>hi e.symm)]at hy
 have r:∀y,(l.set a c)[a]? =some y->y=c:=λy hy=>by
  rw[List.getElem?_set_self A]at hy;exact(ls hy).symm
 refine⟨⟨q.set a c,λi y hy=>?_,λi j y z b hij hy hz hyb hzb=>?_⟩,q⟩
 ·by_cases hi:i=a
  ·subst hi;rw[r y hy,if_pos rfl];exact s B
  ·rw[if_neg hi];have m:=p i y hi hy;exact s ((d.own i y m).grown v λj o hyj=>d.apart a i u y j (λe=>hi e.symm) n m o hyj)
 ·by_cases hi:i=a
  ·subst hi;have t:=p j z (λe=>hij e.symm) hz;rw[r y hy]at hyb
   rcases k with k|k
   ·exact d.apart i j u z b hij n t (k.symm.trans hyb) hzb
   ·have:=((d.own j z t).lt b hzb).2;rw[k]at hyb;simp only[lQ]at hyb;omega
  ·have m:=p i y hi hy
   by_cases o:j=a
   ·subst o;rw[r z hz]at hzb
    rcases k with k|k
    ·exact d.apart i j y u b hij m n hyb (k.symm.trans hzb)
    ·have:=((d.own i y m).lt b hyb).2;rw[k]at hzb;simp only[lQ]at hzb;omega
   ·exact d.apart i j y z b hij m (p j z o hz) hyb hzb
theorem Dz:dX prog 194 197 1 8:=by
 obtain⟨i,hi,c,a,b⟩:=iN (show(prog.info? 197).map (λi=>(i.zero,i.size,i.bytes))=some (some (.pointer none),1,8) from kR);exact⟨i,_,underlying194,hi,c,a,b,rfl,dC,dC⟩
def oP(b:Nat):List Value:=[.pointer (some ⟨b,0,none⟩)]
theorem sd(x:Nat):(oP x).length=1:=rfl
theorem AD(x:Nat):∀u∈oP x,u.oneCell'=true:=λu hu=>by simp[oP]at hu;subst hu;rfl
abbrev wX(w:World)(base:Nat)(v:Value)(ps:List Nat):Prop:=ah w base 197 1 oP v ps
def jq(w:World)(S:List (Option ap))(ps:List Nat):Prop:=ps.length=S.length/\∀(i:Nat) (s:Option ap) (a:Nat),S[i]? =some s->ps[i]? =some a->dF w s (.pointer (some ⟨a,0,none⟩))
theorem jq.keep{w c:World}{S:List (Option ap)}{ps:List Nat}(b:jq w S ps)(d:aa w c):jq c S ps:=⟨b.1,λi s a hs ha=>(b.2 i s a hs ha).keep d⟩
theorem jq.off{w c:World}{S:List (Option ap)}{ps:List Nat}{B:List Nat}(b:jq w S ps)(d:tP w B)(e:ag w c B):jq c S ps:=⟨b.1,λi s a hs ha=>(b.2 i s a hs ha).off d e⟩
theorem jq.snoc{w:World}{S:List (Option ap)}{ps:List Nat}{d:Option ap}{a:Nat}(c:jq w S ps)(e:dF w d (.pointer (some ⟨a,0,none⟩))):jq w (S++[d]) (ps++[a]) :=
 ⟨by simp[c.1],λi t b ht hb=>by
  by_cases hi:i<S.length
  ·rw[LI hi]at ht;rw[LI (by rw[c.1];exact hi)]at hb;exact c.2 i t b ht hb
  ·rw[LE oM]at ht;rw[LE (by rw[c.1];omega),c.1]at hb;obtain⟨f,_⟩:=Lw.1 ht;have g:i-S.length=0:=(by simpa using f);rw[g]at ht hb
   cases ht;cases hb
   exact e⟩
inductive nW (w:World) (T:TypeId) (S:List (Option ap)):Value->Prop
 | mk (b:Nat) (v:Value) (ps:List Nat) (h:ak w b T [v]) (ho:wX w 0 v ps) (hs:jq w S ps):nW w T S (.pointer (some ⟨b,0,none⟩))
theorem nW.keep{w e:World}{d:TypeId}{S:List (Option ap)}{p:Value}(a:nW w d S p)(c:aa w e):nW e d S p:=by
 cases a with
 | mk b v ps a ho hs=>exact .mk b v ps (a.keep c) (ho.keep c) (hs.keep c)
theorem kB{w:World}{s:Option ap}{p:Value}(h:dF w s p):∃a,p=.pointer (some ⟨a,0,none⟩):=by
 cases h with
 | nil_ b h=>exact⟨b,rfl⟩
 | one b kv lv c m h hk hl hc=>exact⟨b,rfl⟩
end Go.Proofs.YtpkocnpamcchcaaGreatDoor
