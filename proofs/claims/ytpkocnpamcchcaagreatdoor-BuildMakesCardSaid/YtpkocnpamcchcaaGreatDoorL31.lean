/- Parts. -/
import Derived.Test.YtpkocnpamcchcaaGreatDoorL28
set_option maxRecDepth 100000
set_option maxHeartbeats 40000000
set_option linter.all false
namespace Go.Proofs.YtpkocnpamcchcaaGreatDoor
open Go.RowKit Go.Zone Go.Shelf Tryz Go.Roa
theorem OI{w:World}{p:Value}(f:dF w none p):Calls prog 215 #[p,.int .u16 0] w λe w'=>∃u,e=.returned u/\bP w' (.arr []) u/\aa w w':=by
 have j:=lh (λW (hW:aa w W)=>Np (f.keep hW));obtain⟨a,rfl⟩:=kB f;clear f;go_enter func215,ntmps215;go_wp2_with (go_at_call 256;refine ae ?_);refine ar ?_;have l:ak (w.alloc (.cells #[.int .u8 0,.slice none 0 0,.slice none 0 0,.slice none 0 0] 237)) w.heap.size 237 [.int .u8 0,.slice none 0 0,.slice none 0 0,.slice none 0 0]:=bH _ _ _;refine(j.o _ kP).mono ?_;rintro e m ⟨rfl,h⟩;have b:=lh (l.keep h);have r:=lh (aa.trans (show aa w _ from kP) h);clear l h j;generalize n:w.heap.size=g at b|-;have t:=lh n;clear n;have s:=lh (show bP m (.arr []) (.agg #[.int .u8 0,.slice none 0 0,.slice none 0 0,.slice none 0 0]) from .arr [] 0 none 0 (.inl rfl) (ah.nil_ _ _ _ _ _));obtain⟨c,q⟩:∃c,c=m:=⟨_,rfl⟩;subst q;have d:=lh (lV t.o);have z0:=b.o.cell 0 _ rfl;have C:=b.o.cell 1 _ rfl;have z2:=b.o.cell 2 _ rfl;have z3:=b.o.cell 3 _ rfl;have D:=b.o.soft 0;have x:=b.o.soft 1;have B:=b.o.soft 2;have y:=b.o.soft 3;have z:=b.o.lt;have k:=lh ((((b.o.set 0 (.int .u8 0)).set 1 (.slice none 0 0)).set 2 (.slice none 0 0)).set 3 (.slice none 0 0));have i:=lh ((((r.o.setCell (a:=⟨g,0,none⟩) d.o (.int .u8 0)).setCell (a:=⟨g,1,none⟩) d.o (.slice none 0 0)).setCell (a:=⟨g,2,none⟩) d.o (.slice none 0 0)).setCell (a:=⟨g,3,none⟩) d.o (.slice none 0 0))
 have o:=lh ((((ag.set c ⟨g,0,none⟩ (.int .u8 0)).trans (ag.set _ ⟨g,1,none⟩ (.slice none 0 0))).trans (ag.set _ ⟨g,2,none⟩ (.slice none 0 0))).trans (ag.set _ ⟨g,3,none⟩ (.slice none 0 0)));go_wp2;generalize (((c.setCell ⟨g,0,none⟩ (.int .u8 0)).setCell ⟨g,1,none⟩ (.slice none 0 0)).setCell ⟨g,2,none⟩ (.slice none 0 0)).setCell ⟨g,3,none⟩ (.slice none 0 0)=A at k i o|-;exact bodyPost_ret (v:=.agg #[(.int .u8 0),(.slice none 0 0),(.slice none 0 0),(.slice none 0 0)]) (results_cell_row rfl _ _ g 237 #[(.int .u8 0),(.slice none 0 0),(.slice none 0 0),(.slice none 0 0)] (0,0) _ rfl k.o underlying237 rfl iz) rfl ⟨_,rfl,s.o.turn1 b.o o.o,i.o⟩
theorem OH{w:World}{p:Value}{c:ap}(t:dF w (some c) p):Calls prog 215 #[p,.int .u16 0] w λe w'=>∃u,e=.returned u/\bP w' c u/\aa w w':=by
 have G:=lh (λW (hW:aa w W)=>Nn (t.keep hW))
 cases t with
 | one b kv lv c m t hk hl hc =>
 obtain⟨A,d,rfl,K⟩:=cU hl kj sP;have I:=lh K;have C:=lh t;obtain⟨k,n,j,l,r,s,h,q,o,i⟩:=m;simp only[Cm.v]at hc;simp only[lw,lB,lS]at C|-;have M:=lh hc;clear t hk hl hc K;go_enter func215,ntmps215;go_wp2_with (go_at_call 256;refine ae ?_);refine ar ?_;have J:ak (w.alloc (.cells #[.int .u8 0,.slice none 0 0,.slice none 0 0,.slice none 0 0] 237)) w.heap.size 237 [.int .u8 0,.slice none 0 0,.slice none 0 0,.slice none 0 0]:=bH _ _ _;refine(G.o _ kP).mono ?_;rintro e S ⟨rfl,D⟩;have f:=lh (J.keep D);have z:=lh (aa.trans (show aa w _ from kP) D);clear J D G;generalize L:w.heap.size=g at f|-;have B:=lh (lV L);clear L;have F:=lh (C.o.keep z.o);have s1:=F.o.cell 1 _ rfl;have Z:=F.o.lt;obtain⟨Y,a1,P,x⟩:=(I.o.keep z.o).at_ 0 sP;subst P;have t0:=x 0 _ rfl;have R:=x 1 _ rfl;have t2:=x 2 _ rfl;have t3:=x 3 _ rfl;simp only[Lf,lE]at t0 R t2 t3;have X:=block_lt_of_cell t0;have Q:=lh (M.o.keep z.o);clear x I M C;obtain⟨y,O⟩:∃y,y=S:=⟨_,rfl⟩;subst O;have z0:=f.o.cell 0 _ rfl;have a3:=f.o.cell 1 _ rfl;have z2:=f.o.cell 2 _ rfl;have z3:=f.o.cell 3 _ rfl;have a4:=f.o.soft 0;have T:=f.o.soft 1;have a2:=f.o.soft 2;have U:=f.o.soft 3;have V:=f.o.lt
 have H:=lh ((((f.o.set 0 (.int .u8 (k:Int))).set 1 (.slice n j l)).set 2 (.slice r s h)).set 3 (.slice q o i));have E:=lh ((((z.o.setCell (a:=⟨g,0,none⟩) B.o (.int .u8 (k:Int))).setCell (a:=⟨g,1,none⟩) B.o (.slice n j l)).setCell (a:=⟨g,2,none⟩) B.o (.slice r s h)).setCell (a:=⟨g,3,none⟩) B.o (.slice q o i));have N:=lh ((((ag.set y ⟨g,0,none⟩ (.int .u8 (k:Int))).trans (ag.set _ ⟨g,1,none⟩ (.slice n j l))).trans (ag.set _ ⟨g,2,none⟩ (.slice r s h))).trans (ag.set _ ⟨g,3,none⟩ (.slice q o i)));go_wp2;generalize (((y.setCell ⟨g,0,none⟩ (.int .u8 (k:Int))).setCell ⟨g,1,none⟩ (.slice n j l)).setCell ⟨g,2,none⟩ (.slice r s h)).setCell ⟨g,3,none⟩ (.slice q o i)=a0 at H E N|-;exact bodyPost_ret (v:=.agg #[(.int .u8 (k:Int)),(.slice n j l),(.slice r s h),(.slice q o i)]) (results_cell_row rfl _ _ g 237 #[(.int .u8 (k:Int)),(.slice n j l),(.slice r s h),(.slice q o i)] (0,0) _ rfl H.o underlying237 rfl iz) rfl ⟨_,rfl,Q.o.turn1 f.o N.o,E.o⟩
theorem get_any{w:World}{s:Option ap}{p:Value}(h:dF w s p):Calls prog 215 #[p,.int .u16 0] w λe w'=>∃u,e=.returned u/\bP w' (fc s) u/\aa w w':=by
 cases s with
 | none=>exact OI h
 | some c=>exact OH h
open Go.Star Go.Sym
attribute [local go_sem] fQ
def o7(s o:Option ap):List Nat:=if s=none/\o=none then [] else [0]
theorem PG{w:World}{lo:Nat}{A:Option Addr}{c:Nat}(b a:Option ap)(h:cJ w lo (.slice A (dM b++dM a).length c) (dM b++dM a)) :
 Calls prog 214 #[.slice A (dM b++dM a).length c] w λe d=>∃A' f,e=.returned (.slice A' (o7 b a).length f)/\Sl d 1 cT A' f (o7 b a)/\∃S,ag w d S/\∀i∈S,lo<=i/\(Value.slice A (dM b++dM a).length c).ownBlock=some i:=by
 have m:∀l:List Nat,l.length<2->cJ w lo (.slice A l.length c) l->Calls prog 214 #[.slice A l.length c] w λe d=>∃A' f,e=.returned (.slice A' l.length f)/\Sl d 1 cT A' f l/\∃S,ag w d S/\∀i∈S,lo<=i/\(Value.slice A l.length c).ownBlock=some i:=λl hl ho=>by
  have j:=fO (base:=lo) ho dB oM;refine(PE A l.length c w hl).mono ?_;rintro e d ⟨rfl,n⟩;exact⟨A,c,rfl,j.keep n,[],ag.keep n [],λi hi=>by cases hi⟩
 cases b with
 | none =>
   cases a with
   | none=>exact m [] dC h
   | some y=>exact m [0] dC h
 | some x =>
   cases a with
   | none=>exact m [0] dC h
   | some y =>
     have k:cJ w lo (.slice A 2 c) [0,0]:=h;obtain⟨g,f,o⟩:=qf k sP;injection o with hA _ _;subst hA;have q:=k.lt g rfl;refine(PD k).mono ?_;rintro e d ⟨rfl,j,p⟩;exact⟨_,c,rfl,j,[g],p,λi hi=>by simp only[lm]at hi;rw[hi];exact⟨q.1,rfl⟩⟩
theorem FQ(a b:Option ap):Up (dM a++dM b):=by
 have:∀x∈dM a++dM b,x=0:=by
  intro x c
  cases a<;>cases b<;>simp[dM]at c<;>exact c
 intro i j d e;rw[this _ (ll _),this _ (ll _)];exact lc _
theorem keys_le(s:Option ap):(dM s).length<=1:=by cases s<;>simp[dM]
theorem O6{w:World}{a f:Option ap}{p af:Value}{X b9:Nat}(k:dF w a p)(h:dF w f af)(bv:eh a X)(bL:eh f b9)(cd:X+b9<=1800)(bE:Tab w) :
 Calls prog 176 #[p,af,.func (.func 177) #[] #[]] w λe w'=>∃u,e=.returned u/\dF w' (jz TB a f) u/\aa w w':=by
 have az:=lh (λW (hW:aa w W)=>nK (k.keep hW));have aY:=lh (λW (hW:aa w W)=>nK (h.keep hW));have b0:=lh (λW (hW:aa w W)=>get_any (k.keep hW));have aq:=lh (λW (hW:aa w W)=>get_any (h.keep hW));obtain⟨t,H,bq⟩:=bv.con;obtain⟨x,a0,bg⟩:=bL.con;have a3:=lh (λW bb bS (hx:bP W (fc a) bb) (hy:bP W (fc f) bS) (hW:aa w W)=>Pq hx hy ⟨t,oM⟩ ⟨x,oM⟩ H a0 oM (bE.keep hW));have av:=AZ TB _ _ t x H a0 oM;have a6:=lh (show Fit ((fc a).or TB (fc f)) from⟨av.1,by have:=av.2.2;omega⟩);have F:=lh (λW lo A c (hW:cJ W lo (.slice A (dM a++dM f).length c) (dM a++dM f))=>PG a f hW);have a7:=lh (FQ a f);have aX:=lh (show jz TB a f=if a=none/\f=none then none else if 0<((fc a).or TB (fc f)).len TB then some ((fc a).or TB (fc f)) else none from rfl);obtain⟨pa,rfl⟩:=kB k;obtain⟨cG,rfl⟩:=kB h;have aJ:=keys_le a;have ab:=keys_le f;clear k h bv bL cd bE t H bq x a0 bg av;generalize c8:dM a=a2 at az F a7 aJ;generalize ck:dM f=a5 at aY F a7 ab;have aF:=lh aJ;have aL:=lh ab;clear c8 ck aJ ab;go_enter func176,ntmps176;go_wp2_with (go_at_call 130;refine ae ?_);refine uM (uS _) ?_;rintro e bq ⟨b,rfl,bD,bU,Z⟩;have c0:=lh bD;have c2:=lh bU;have bi:=lh Z;clear bD bU Z;go_wp2_with (go_at_call 171;refine ae ?_);refine uM (az.o _ bi.o) ?_
 rintro e bg ⟨bm,bR,rfl,bI,aS⟩;have b2:=lh bI;have bQ:=bi.u aS;have bj:=lh (c0.o.keep aS);clear bI aS c0 az;go_wp2_with (go_at_call 171;refine ae ?_);refine uM (aY.o _ bQ.o) ?_;rintro e ax ⟨bk,bw,rfl,bl,n⟩;have bJ:=lh (fO (b2.o.keep n |>.base_mono (lj _)) dB (by have:=aF.o;omega));have bn:=lh (fO (bl.base_mono (lj _)) dB (by have:=aL.o;omega));have b3:=bQ.u n;have bM:=lh (bj.o.keep n);clear bl n bj aY b2;have a4:=lh (λW g (hg:ak W g 230 [.slice bm a2.length bR,.slice bk a5.length bw]) (hW:aa ax W)=>Pz hg (bJ.o.keep hW) (bn.o.keep hW) (by have:=aF.o;omega) (by have:=aL.o;omega));generalize cn:a2.length=H at a4|-;generalize c1:a5.length=a0 at a4|-;clear cn c1;go_wp2_with (go_at_call 212;refine ae ?_);refine uM (a4.o _ _ (bH ax 230 [.slice bm H bR,.slice bk a0 bw]) kP) ?_;rintro e bO ⟨v4,rfl,aU,bz⟩;obtain⟨b8,bC,rfl⟩:=bp aU;have D:=lh (aU.base_mono (base':=w.heap.size) (by have:=b3.o.size;simp;omega));have aI:aa ax bO:=aa.trans kP bz;have ca:=b3.u aI;have bd:=lh (bM.o.keep aI);clear aU bz aI bM a4 bJ bn;have b1:=lh (show(a2++a5).length<=1000000 by have:=aF.o;have:=aL.o;rw[lg];omega);generalize a2++a5=K at D F a7 b1
 have al:=lh (λW (hW:aa bO W)=>G9 b8 bC K W a7.o ((fO (D.o.base_mono (lj _)) dB b1.o).keep hW) (by have:=b1.o;omega));generalize c9:K.length=cD at al F D;clear c9;go_wp2_with (go_at_call 213;refine ae ?_);refine uM (al.o _ (aa.refl _)) ?_;rintro e cp ⟨rfl,N⟩;have bo:=lh (F.o cp w.heap.size b8 bC (D.o.keep N));have bF:=lh (D.o.keep N);have c3:=ca.u N;have aE:=lh (bd.o.keep N);clear N bd al D;go_wp2_with (go_at_call 214;refine ae ?_);refine uM bo.o ?_;rintro e cz ⟨ct,cE,rfl,bt,cw,aD,aZ⟩;have b6:=lh bt;have aA:=lh (ag.after c3.o aD (λi hi=>(aZ i hi).1));have ai:=lh (aD.row aE.o (λhm=>bu bF.o aE.o dC (aZ b hm).2));clear bt aD aZ aE bo F bF
 by_cases C:a=none/\f=none
 ·have b4:(o7 a f).length=0:=by unfold o7;rw[if_pos C];rfl
  have l:=lh (show jz TB a f=none by rw[aX.o,if_pos C]);rw[b4];clear b4 C;go_wp2;refine wp_loop_rounds 1 ?_;rw[rounds_succ];go_wp2;exact bodyPost_ret (v:=.pointer (some ⟨b,0,none⟩)) (by simp[results,results176,go_sem]) rfl ⟨_,rfl,by rw[l.o];exact .nil_ b ai.o,aA.o⟩
 ·have Z:o7 a f=[0]:=by unfold o7;rw[if_neg C]
  rw[Z]at b6|-;simp only[lw,lB,lS];have l:=lh (show jz TB a f=if 0<((fc a).or TB (fc f)).len TB then some ((fc a).or TB (fc f)) else none by rw[aX.o,if_neg C]);obtain⟨cC,cu,cg,cj,ad⟩:=gU b6.o 0 dC;subst cg;simp only[Ld,lE]at ad;rw[show((0:Nat):Int)=0 from rfl]at ad;clear Z C aX;generalize fc a=cs at b0 a3 a6 l;generalize fc f=cb at aq a3 a6 l;go_wp2;refine wp_loop_rounds 2 ?_;rw[rounds_succ];go_wp2_with (go_at_call 215;refine ae ?_);refine uM (b0.o _ aA.o) ?_;rintro e cy ⟨bb,rfl,bA,aK⟩;have b7:=lh bA;have aT:=aA.u aK;have b5:=lh (ai.o.keep aK);clear bA aK ai b0 ad cj;go_wp2_with (go_at_call 215;refine ae ?_);refine uM (aq.o _ aT.o) ?_;rintro e c5 ⟨bS,rfl,bf,R⟩;have ba:=lh (a3.o c5 _ _ (b7.o.keep R) bf (aT.o.trans R));have c6:=aT.u R;have bV:=lh (b5.o.keep R);clear bf R b5 aq b7 a3;go_wp2_with (go_at_call 177;refine ae ?_);refine uM ba.o ?_;rintro e y ⟨cB,rfl,z,s⟩;generalize cs.or TB cb=U at z a6 l;have aW:=lh (λW (hW:aa y W)=>tG (z.keep hW) a6.o);obtain⟨m,rfl⟩:=kg z;obtain⟨I,J,Q,Y,T,V,O,P,S,a1⟩:=m;simp only[Cm.v]at z aW|-;have bx:=lh z;have cm:=c6.u s;have bs:=lh (bV.o.keep s);clear z s bV ba;go_upto_region 8 with fail
  have q:ak (y.alloc (.cells #[.int .u8 I,.slice J Q Y,.slice T V O,.slice P S a1] 237)) y.heap.size 237 [.int .u8 I,.slice J Q Y,.slice T V O,.slice P S a1]:=bH _ _ _;have ao:aa y (y.alloc (.cells #[.int .u8 I,.slice J Q Y,.slice T V O,.slice P S a1] 237)):=kP;generalize y.alloc (.cells #[.int .u8 I,.slice J Q Y,.slice T V O,.slice P S a1] 237)=cA at q ao|-;generalize y.heap.size=cF at q|-;have aB:=q.cell 0 _ rfl;have ar:=q.cell 1 _ rfl;have aN:=q.cell 2 _ rfl;have aM:=q.cell 3 _ rfl;have aG:=q.lt;have bc:=lh q;have aH:=lh ao;clear q ao;go_wp2_with (go_at_call 172;refine ae ?_);refine uM (aW.o _ aH.o) ?_;rintro e r ⟨rfl,ay⟩;have G:=lh (bc.o.keep ay);have a9:=aH.u ay;have bB:=lh (cm.v a9);have B:=lh (bs.o.keep a9.o);have bY:=lh (bx.o.keep a9.o);clear ay bc aH aB ar aN aM aG bs bx aW a9;generalize U.len TB=a8 at l|-
  by_cases E:0<a8
  ·have aQ:=lh (show jz TB a f=some U by rw[l.o,if_pos E]);have aB:=G.o.cell 0 _ rfl;have ar:=G.o.cell 1 _ rfl;have aN:=G.o.cell 2 _ rfl;have aM:=G.o.cell 3 _ rfl;have aG:=G.o.lt;have s0:=B.o.cell 0 _ rfl;have s1:=B.o.cell 1 _ rfl;have bX:=B.o.lt;have d1:decide (0<a8)=true:=(by simpa using E);clear E l;go_wp2
   first|refine Zone.wp_region_m_gro 2 16 kR kR ?_|refine jK 2 16 kR kR ?_
   simp only[lX,lR,lZ,L4]
   repeat (refine jL _ (by rfl) (λ_=>by rfl) ?_)
   refine jM ?_
   repeat
    refine aR (λK hK=>?_);go_simp
    first
    | (refine hK _ _ ?_;clear hK K)
    | (apply Exists.intro
       refine⟨λp=>?_,hK _ _ ?_⟩
       (fail)
       clear hK K)
   refine bW 46 (λu W=>∃g,u=.slice (some ⟨g,0,none⟩) 1 1/\Sl W 1 cT (some ⟨g,0,none⟩) 1 [0]) rfl (λ_ W W' hk ⟨g,h1,h⟩=>⟨g,h1,h.keep hk⟩) ?_ ?_
   ·intro p;simp only[aj,aC,Lr];go_simp;exact⟨br _ dC dC (λj af hq=>by match j,hq with|0,hq=>cases hq;simp[go_sem]),aa.alloc (aa.refl _) _⟩
   refine bW 47 (λu W=>cJ W r.heap.size u [0]) rfl (λ_ W W' hk k=>ah.keep k hk) ?_ ?_
   ·refine ij (d:=46) (by rfl) (λp v hv=>?_);obtain⟨g,rfl,aO⟩:=hv;rw[if_pos (by rfl)];exact qO iy dB ig (.tmp 44) (.tmp 46) rfl (ah.nil_ _ r.heap.size _ _ _) rfl rfl rfl aO sP (ce r p).size (λv' w' k _=>k)
   iterate 5
    refine aR (λK hK=>?_);unfold aw au;rw[bZ (by rfl)];go_simp
    (refine hK _ _ ?_;clear hK K)
   refine bW 53 (λu W=>∃(g:Nat) (m:Cm),u=.slice (some ⟨g,0,none⟩) 1 1/\Sl W 4 Cm.cells (some ⟨g,0,none⟩) 1 [m]/\bP W U m.v) rfl (λ_ W W' hk ⟨g,m,h1,h,h3⟩=>⟨g,m,h1,h.keep hk,h3.keep hk⟩) ?_ ?_
   ·intro p;rw[bZ (by rfl)];simp only[aj];go_simp;exact⟨⟨⟨I,J,Q,Y,T,V,O,P,S,a1⟩,br _ dC dC (tC sG sG sG sG),bY.o.keep (aa.trans kP (aa.alloc (aa.refl _) _))⟩,aa.alloc (aa.refl _) _⟩
   refine bW 54 (λu W=>∃m:Cm,iR W r.heap.size u [m]/\bP W U m.v) rfl (λ_ W W' hk ⟨m,h1,h⟩=>⟨m,ah.keep h1 hk,h.keep hk⟩) ?_ ?_
   ·refine ij (d:=53) (by rfl) (λp v hv=>?_);obtain⟨g,co,rfl,aO,cf⟩:=hv;rw[if_pos (by rfl)];exact qO tm kj tB (.tmp 51) (.tmp 53) rfl (ah.nil_ _ r.heap.size _ _ _) rfl rfl rfl aO sP (ce r p).size (λv' w' k hK=>⟨co,k,cf.keep hK⟩)
   refine bG ?_;intro p;simp only[aj];rintro cv ⟨ch,M,ac⟩ v53 _ cr s v46 _;have n:aa r (r.gro p):=kP;obtain⟨t,aP,rfl⟩:=qf M sP;obtain⟨x,aV,rfl⟩:=qf s sP;simp only[lw,lB,lS]at M s|-;generalize r.gro p=bT at n M ac s|-;have o:=lh (B.o.keep n);have bN:=lh (M.base_mono (lj _));have bK:=lh (s.base_mono (lj _));have ci:=lh ac;have c7:=bB.u n;clear M s ac n aB ar aN aM aG s0 s1 bX B G bY;have s0:=o.o.cell 0 _ rfl;have s1:=o.o.cell 1 _ rfl;have bX:=o.o.lt;have cq:=o.o.soft 0;have cx:=o.o.soft 1;have L:=lh (uE bT b 0 1 (.slice (some ⟨x,0,none⟩) 1 aV) (.slice (some ⟨t,0,none⟩) 1 aP));have bh:=lh ((o.o.set 0 (.slice (some ⟨x,0,none⟩) 1 aV)).set 1 (.slice (some ⟨t,0,none⟩) 1 aP));go_simp;go_wp2;generalize (bT.setCell ⟨b,0,none⟩ (.slice (some ⟨x,0,none⟩) 1 aV)).setCell ⟨b,1,none⟩ (.slice (some ⟨t,0,none⟩) 1 aP)=c4 at L bh|-
   (try rw[fQ])
   go_wp2;rw[rounds_succ];go_wp2;have cl:aa w c4:=ag.after c7.o L.o (λi hi=>by simp only[lm]at hi;rw[hi];exact c2.o);exact bodyPost_ret (v:=.pointer (some ⟨b,0,none⟩)) (by simp[results,results176,go_sem]) rfl ⟨_,rfl,by rw[aQ.o];exact .one b _ _ U ch bh.o (ah.turn bK.o L.o λi hi=>(by simp only[lm]at hi;subst hi;exact bu bK.o o.o dC)) (ah.turn bN.o L.o λi hi=>(by simp only[lm]at hi;subst hi;exact bu bN.o o.o dC)) (ci.o.off (sr o.o dC dC dC) L.o),cl⟩
  ·have aQ:=lh (show jz TB a f=none by rw[l.o,if_neg E]);have d1:decide (0<a8)=false:=(by simpa using E);have cc:a8=0:=oM;subst cc;clear l E;go_wp2;rw[rounds_succ];go_wp2;exact bodyPost_ret (v:=.pointer (some ⟨b,0,none⟩)) (by simp[results,results176,go_sem]) rfl ⟨_,rfl,by rw[aQ.o];exact .nil_ b B.o,bB.o⟩
theorem Ib{w:World}{b c:Option ap}{p m:Value}{X i:Nat}(a:dF w b p)(d:dF w c m)(f:eh b X)(n:eh c i)(h:X+i<=1800)(j:Tab w) :
 Calls prog 131 #[p,m] w λe w'=>∃u,e=.returned u/\dF w' (jz TB b c) u/\aa w w':=by
 have g:=lh (O6 a d f n h j);obtain⟨pa,rfl⟩:=kB a;obtain⟨s,rfl⟩:=kB d;clear a d f n h j;go_enter func131,ntmps131;go_wp2_with (go_at_call 176;refine ae ?_);refine uM g.o ?_;rintro e r ⟨u,rfl,l,k⟩;have o:=lh l;have q:=lh k;clear l k g;go_wp2;go_ret;exact⟨_,rfl,o.o,q.o⟩
def jU(a:List Nat):Nat->Option ap
 | 0=>none
 | k+1=>jz TB (jU a k) (gz TB (cB a a.length k))
def fy(a:List Nat)(many:Nat):List (Option ap):=(List.range many).map λi=>jU a (i+1)
theorem rows_ok(a:List Nat)(b:a.length<=64)(k:Nat):eh (gz TB (cB a a.length k)) (cB a a.length k).length :=
 KR TB _ (λx hx=>lp (uP x hx) b) (by have:=oI a a.length k;omega)
theorem zX(a:List Nat)(m:Nat):((List.range (m+1)).map λi=>(cB a a.length i).length).sum=((List.range m).map λi=>(cB a a.length i).length).sum+(cB a a.length m).length:=by
 rw[List.range_succ,lz,List.sum_append];simp
theorem Ae(a:List Nat)(b:a.length<=64):∀k,eh (jU a k) (129+((List.range k).map λi=>(cB a a.length i).length).sum)
 | 0=>rI _
 | k+1=>by
   have c:=Ae a b k;have d:=rN a (k+1) a.length;rw[zX]at d;rw[zX];exact(Ku TB c (rows_ok a b k) oM).mono oM
theorem zZ(a:List Nat)(b:a.length<=64)(k:Nat):eh (jU a k) 193 :=
 (Ae a b k).mono (by have:=rN a k a.length;omega)
theorem vE{a:List Nat}{many:Nat}(b:a.length<=64):∀s∈fy a many,eh s 193:=λs hs=>by
 obtain⟨i,_,rfl⟩:=lW.1 hs;exact zZ a b (i+1)
theorem BJ{a:List Nat}{many:Nat}(b:a.length<=64):∀s∈fP a many,eh s 64:=λs hs=>by
 obtain⟨i,_,rfl⟩:=lW.1 hs;exact(rows_ok a b i).mono (by have:=oI a a.length i;omega)
theorem KZ(A:Option Addr)(c many:Nat)(d:List Nat)(w:World)(a6:Sl w 1 dD A c d)(a3:d.length<=64)(ck:many<=1000)(o:∀x∈d,x<many)(bc:Tab w) :
 Calls prog 79 #[.slice A d.length c,.int .i64 many] w λe w'=>∃p,e=.returned (.tuple #[p,.int .i64 0])/\nW w' 201 (fy d many) p/\aa w w':=by
 have bB:=lh a6;have aN:=lh bc;have bF:=lh o;obtain⟨n,ap⟩:∃n,d.length=n:=⟨_,rfl⟩;rw[ap]at a3|-;have O:=lh ap;have cc:decide ((16777216:Int)<(n:Int))=false:=sO;have c1:decide ((16777216:Int)<(many:Int))=false:=sO;obtain⟨i0,aS,b3,i2,i3⟩:=iN (show(prog.info? 193).map (λi=>(i.zero,i.size,i.bytes))=some (some (.slice none 0 0),1,24) from kR);obtain⟨ac,bY,bk,aB⟩:=zm (P:=prog) (t:=192) underlying192 aS b3 i2 rfl many w (by rw[i3];omega) oM;have aJ:=lh aB;have M:=lh (show iI ac ac.heap.size w.heap.size (cB d 0) (List.replicate many (.slice none 0 0)) from(Eo bk).congr (λi=>rfl));have ax:=lh (show w.heap.size<=ac.heap.size from aB.size);clear a6 bc o ap b3 i2 i3 aS i0 bk aB;go_enter func79,ntmps79;generalize bh:w.heap.size=g at bY M ax;generalize b8:ac.heap.size=lo at M ax;have aQ:=lh bh;have bQ:=lh b8;have ai:=lh (show(List.replicate many (Value.slice none 0 0)).length=many from LH ..);generalize List.replicate many (Value.slice none 0 0)=az at M ai;clear bh b8;go_wp2;go_loopw [27] (λvi wr=>∃(k:Nat) (r:List Value),k<=n/\vi=.int .i64 k/\Hid (r.length=many)/\Hid (iI wr lo g (cB d k) r)/\Hid (lo<=wr.heap.size)/\Hid (aa w wr)) (λvi _=>n-(intOf vi).toNat)
 case atStart=>exact⟨0,az,lj _,rfl,ai.o,M.o,lV bQ.o.symm,aJ.o⟩
 case round =>
  clear M aJ ai;obtain⟨k,r,ce,rfl,av,y,b5,C⟩:=hrel
  by_cases bR:k<n
  ·have bm:k<d.length:=(by rw[O.o];exact bR);obtain⟨c7,c9,bG,c6,bA⟩:=jS (bB.o.keep C.o) k bm;have au:=lh (show ∀i,cB d (k+1) i=if i=d[k] then cB d k d[k]++[k] else cB d k i from λi=>by
    rw[rO];have e:d.getD k 0=d[k]:=(by simp[bm]);rw[e]
    by_cases hi:i=d[k]
    ·subst hi;rw[if_pos rfl]
    ·rw[if_neg (λe=>hi e.symm),if_neg hi])
   have aV:=bF.o d[k] (ll _);subst bG;generalize d[k]=f at bA au aV;have aW:f<r.length:=(by rw[av.o];exact aV);obtain⟨u,h⟩:∃u,r[f]? =some u:=⟨_,lu aW⟩;have ay:=lh h;have D:=y.o.own f u h;have aq:=oI d k f;obtain⟨ao,aF,a4⟩:=bp D;have K:=y.o.row.cell f u h;have o:=y.o.row.lt;have bd:=lh D;generalize a8:(cB d k f).length=bj at aq a4;have bM:=lh a8;clear a8 D h aW;subst a4;have c5:decide ((many:Int)<=(f:Int))=false:=sO;have ch:IntKind.u32.wrap (k:Int)=(k:Int):=(by simp[IntKind.wrap,IntKind.signed,IntKind.bits];omega);go_wp2_with (at_builtin;refine ae ?_);refine ar ?_;have b7:=y.o.keep (aa.alloc (aa.refl wr) (.cells #[.int .u32 (k:Int)] 81));have l:mQ (wr.alloc (.cells #[.int .u32 (k:Int)] 81)) lo (.slice ao bj aF) (cB d k f):=bd.o.keep (aa.alloc (aa.refl _) _);refine aD wH oh ue rfl (.tmp 44) (.tmp 47) rfl (ys:=[k]) l rfl rfl (br _ oM oM (λj u h=>by match j,h with|0,h=>cases h;simp[go_sem])) (by have:=bM.o;simp;omega) (by have:=b5.o;simp;omega) ?_;intro bX aY a2 ad aM;obtain⟨G,N,rfl⟩:=bp a2;obtain⟨aj,a1⟩:=b7.app ay.o a2 ad aM;have bW:=lh (show aa w aY from ah.kept l ad ((C.o).alloc _) (by rw[aQ.o];exact ax.o));have bD:=lh (show lo<=aY.heap.size from lk b5.o (lk sP ad.size))
   generalize (cB d k f++[k]).length=L1 at a2 aj;have bw:=lh (aj.congr (λi=>(au.o i).symm));have bE:=lh (show(r.set f (.slice G L1 N)).length=many by rw[Li];exact av.o);have c3:=a1.cell f _ ay.o;have ci:=a1.lt;have c2:=a1.soft f;clear a2 ad l b7 a1 aj aM K o y C au ay bd;go_wp2;go_roundw
   case rel=>exact⟨k+1,_,oM,by go_num,bE.o,bw.o,lh (by simpa using bD.o),bW.o.setCell (lV aQ.o) _⟩
   case measure=>simp[intOf];omega
  ·have I:k=n:=oM;subst I;obtain⟨m,bv⟩:∃m,m=wr:=⟨_,rfl⟩;subst bv;go_upto_region 12 with fail;have a0:ak (m.alloc (.cells #[.slice none 0 0] 201)) m.heap.size 201 [.slice none 0 0]:=bH _ _ _;have aw:aa m (m.alloc (.cells #[.slice none 0 0] 201)):=aa.alloc (aa.refl _) _;generalize ab:m.alloc (.cells #[.slice none 0 0] 201)=cb at a0 aw|-;clear ab;generalize o:m.heap.size=b at a0|-;have ba:=lh o;have bq:=lh a0;have b6:=lh aw;clear a0 aw o;go_wp2_with (go_at_call 130;refine ae ?_);refine uM (uS _) ?_;rintro e bO ⟨bn,rfl,bf,_,I⟩;have aH:=lh (show dF bO (jU d 0) (.pointer (some ⟨bn,0,none⟩)) from .nil_ bn bf);have bl:=lh (bq.o.keep I);have b1:=b6.u I;clear bf I bq b6;go_wp2;go_loopw [10,55] (λaz vi wr=>∃(j:Nat) (v sp:Value) (ps:List Nat),j<=many/\vi=.int .i64 j/\sp=az/\Hid (dF wr (jU d j) sp)/\Hid (ak wr b 201 [v])/\Hid (wX wr b v ps)/\Hid (jq wr ((fy d many).take j) ps)/\Hid (aa m wr)) (λ_ vi _=>many-(intOf vi).toNat)
   case atStart=>exact⟨0,.slice none 0 0,_,[],lj _,rfl,rfl,aH.o,bl.o,ah.nil_ _ _ _ _ _,⟨rfl,λi s a a6=>(by simp at a6)⟩,b1.o⟩
   case round =>
    clear bl b1 aH;obtain⟨j,v,sp,ps,c0,rfl,rfl,aG,af,X,a9,E⟩:=hrel;obtain⟨ao,aF,a4⟩:=bp X.o;have bs:ps.length=j:=by rw[a9.o.1,lD];simp[fy];omega
    by_cases aI:j<many
    ·obtain⟨u,h⟩:∃u,r[j]? =some u:=⟨_,lu (by rw[av.o];exact aI)⟩;have U:=lh (y.o.keep E.o);have D:=U.o.own j u h;have aq:=oI d k j;obtain⟨bL,bC,b2,bg⟩:=cU D oh oM;have z0:=U.o.row.cell j u h;have bN:=U.o.row.lt;have V:=lh (λW (ab:aa wr W)=>yX bL bC (cB d k j) W (bg.keep ab) (zk d k j) (λx hx=>lp (uP x hx) a3) oM (aN.o.keep ((C.v E).trans ab)));have aR:=lh (zZ d (by rw[O.o];exact a3) j);have S:=lh (rows_ok d (by rw[O.o];exact a3) j);rw[O.o]at S;have bx:=lh (show(fy d many).take (j+1)=(fy d many).take j++[jU d (j+1)] by
      rw[List.take_add_one,show(fy d many)[j]? =some (jU d (j+1)) by unfold fy;rw[lP,List.getElem?_range aI];rfl];rfl)
     have aZ:=lh (show jU d (j+1)=jz TB (jU d j) (gz TB (cB d k j)) by rw[<-O.o];rfl);generalize a8:(cB d k j).length=bj at aq b2 V S;generalize gz TB (cB d k j)=cf at V S aZ;clear a8 D bg h;subst b2;subst a4;obtain⟨cg,rfl⟩:=kB aG.o;obtain⟨bi,bU⟩:∃bi,bi=wr:=⟨_,rfl⟩;subst bU;have cd:((j:Int)<(many:Int)):=oM;go_wp2_with (go_at_call 127;refine ae ?_);refine uM (V.o _ (aa.refl _)) ?_;rintro e cj ⟨c8,rfl,aA,Y⟩;obtain⟨a5,rfl⟩:=kB aA;have aK:=lh (Ib (aG.o.keep Y) aA aR.o S.o oM (aN.o.keep ((C.v E).trans Y)));have aO:=lh Y;clear aA Y V aG z0 bN U;go_wp2_with (go_at_call 131;refine ae ?_);refine uM aK.o ?_;rintro e a7 ⟨ca,rfl,L,b9⟩;rw[<-aZ.o]at L;obtain⟨H,rfl⟩:=kB L;have J:=aO.u b9;have T:=lh (af.o.keep J.o);have aC:=lh (X.o.keep J.o);have al:=lh ((a9.o.keep J.o).snoc L);have aT:=lh L;rw[<-bx.o]at al;have bb:=lh (E.v J);clear L b9 aO aK J af X a9 E aR S;have K:=T.o.cell 0 _ rfl;have aU:=T.o.lt;have bo:=lh bs;generalize aP:ps.length=P at bo K T aC|-;have bI:=lh aP;clear bs aP;go_wp2_with (at_builtin;refine ae ?_);refine ar ?_;have z:aa a7 (a7.alloc (.cells #[.pointer (some ⟨H,0,none⟩)] 197)):=aa.alloc (aa.refl _) _
     have aX:Sl (a7.alloc (.cells #[.pointer (some ⟨H,0,none⟩)] 197)) 1 oP (some ⟨a7.heap.size,0,none⟩) 1 [H]:=br _ dC dC (λj q hq=>by match j,hq with|0,hq=>cases hq;simp[go_sem]);have Z:=T.o.keep z;have l:=aC.o.keep z;have b4:=al.o.keep z;have b0:=aT.o.keep z;have aL:=bb.o.trans z;clear z T aC al aT bb K aU;refine aD Dz sd AD rfl (.tmp 69) (.tmp 71) rfl (ys:=[H]) l rfl rfl aX (by have:=bo.o;have:=bI.o;simp;omega) (Nat.le_of_lt Z.lt) ?_;intro bX Q F R bJ;obtain⟨G,N,rfl⟩:=bp F;generalize bt:(ps++[H]).length=L1 at F;have B:ak Q b 201 [.slice ao P aF]:=de Z R (bu l Z dC);have bS:=lh (bu F B dC);have bT:=lh (show aa m Q from ah.kept l R aL (lV ba.o));have bP:=lh (b4.off (vp l dC dC dC dC dC) (ag.of_grown R));have bK:=lh (b0.off (vp l dC dC dC dC dC) (ag.of_grown R));have bV:=lh F;have aE:=lh B;have K:=B.cell 0 _ rfl;have aU:=B.lt;have c4:=B.soft 0;clear F R B l Z b4 b0 aL bJ bt aX;go_simp;go_wp2
     (try rw[fQ])
     go_wp2;go_roundw
     case rel=>exact⟨j+1,_,_,_,oM,by go_num,rfl,bK.o.off (vh aE.o dC dC dC dC dC) (ag.set Q ⟨b,0,none⟩ (.slice G L1 N)),aE.o.set 0 _,ah.turn bV.o (ag.set Q ⟨b,0,none⟩ (.slice G L1 N)) (λi hi=>by simp only[lm]at hi;subst hi;exact bS.o),bP.o.off (vh aE.o dC dC dC dC dC) (ag.set Q ⟨b,0,none⟩ (.slice G L1 N)),bT.o.setCell (lV ba.o) _⟩
     case measure=>simp[intOf];omega
    ·have bz:j=many:=oM;subst bz;have bZ:=lh (show(fy d j).take j=fy d j from lM (by simp[fy]));go_wp2;exact bodyPost_ret (v:=.tuple #[.pointer (some ⟨b,0,none⟩),.int .i64 0]) (by simp[results,results79,go_sem]) rfl ⟨_,rfl,.mk b v ps af.o (X.o.base_mono (lj _)) (by have:=a9.o;rwa [bZ.o]at this),C.o.trans E.o⟩
end Go.Proofs.YtpkocnpamcchcaaGreatDoor
