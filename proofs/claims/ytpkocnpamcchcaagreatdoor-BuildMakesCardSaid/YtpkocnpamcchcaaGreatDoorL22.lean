/- Parts. -/
import Derived.Test.YtpkocnpamcchcaaGreatDoorL21
set_option maxRecDepth 100000
set_option maxHeartbeats 40000000
set_option linter.all false
namespace Go.Proofs.YtpkocnpamcchcaaGreatDoor
open Go.RowKit Go.Zone Go.Shelf Tryz Go.Roa Go.Sym
theorem tw{w:World}{c:ap}{v:Value}(b:bP w c v):∃(k:Nat) (h:Option Addr) (m f:Nat) (d:Option Addr) (i e:Nat) (g:Option Addr) (j l:Nat),v=.agg #[.int .u8 k,.slice h m f,.slice d i e,.slice g j l]:=by
 cases b with
 | arr a k A c hk b=>exact⟨k,A,_,c,none,0,0,none,0,0,rfl⟩
 | wrd x A c b=>exact⟨2,none,0,0,A,1024,c,none,0,0,rfl⟩
 | run r A c b=>exact⟨3,none,0,0,none,0,0,A,_,c,rfl⟩
def Off(w:World)(S:List Nat)(e:TypeId):Prop:=∀g∈S,∀cs,w.heap[g]? ≠some (.cells cs e)
theorem off_row{w:World}{g:Nat}{b e:TypeId}{c:List Value}(a:ak w g b c)(he:b≠e):Off w [g] e:=λi hi cs hc=>by
 simp only[lm]at hi;subst hi;unfold ak at a;rw[a]at hc;simp at hc;exact he hc.2
theorem qk{a:Type}{w:World}{b k:Nat}{c e:TypeId}{n:a->List Value}{v:Value}{xs:List a}(d:ah w b c k n v xs)(he:c≠e):Off w v.ownBlock.toList e:=λi hi cs hc=>by
 rw[Lc]at hi
 rcases d.2 with⟨rfl,_⟩ | ⟨g,h,j,rfl,_,f,_⟩
 ·cases hi
 ·simp only[Value.ownBlock,Option.mem_def,lQ]at hi;subst hi;rw[f]at hc;simp at hc;exact he hc.2
theorem Off.own{d:Type}{w c:World}{S:List Nat}{b k:Nat}{e:TypeId}{n:d->List Value}{v:Value}{xs:List d}(h:Off w S e)(a:ah w b e k n v xs)(f:ag w c S):ah c b e k n v xs :=
 ah.turn a f λi hi hv=>by
  rcases a.2 with⟨rfl,_⟩ | ⟨g,m,l,rfl,_,j,_⟩
  ·cases hv
  ·simp only[Value.ownBlock,lQ]at hv;subst hv;exact h _ hi _ j
theorem Off.row{w b:World}{S:List Nat}{g:Nat}{e:TypeId}{c:List Value}(d:Off w S e)(a:ak w g e c)(f:ag w b S):ak b g e c:=f.row a λhm=>d g hm _ a
structure tQ(w:World)(S:List Nat):Prop where
 na:Off w S 126
 nw:Off w S 47
 nr:Off w S 277
theorem bP.off{w f:World}{c:ap}{v:Value}{S:List Nat}(b:bP w c v)(d:tQ w S)(e:ag w f S):bP f c v:=by
 cases b with
 | arr a k A c hk b=>exact .arr a k A c hk (d.na.own b e)
 | wrd x A c b=>exact .wrd x A c (d.nw.own b e)
 | run r A c b=>exact .run r A c (d.nr.own b e)
theorem sr{w:World}{g:Nat}{a:TypeId}{f:List Value}(b:ak w g a f)(e:a≠126)(c:a≠47)(d:a≠277):tQ w [g]:=⟨off_row b e,off_row b c,off_row b d⟩
theorem KN{d:Type}{w:World}{b k:Nat}{a:TypeId}{n:d->List Value}{v:Value}{xs:List d}(c:ah w b a k n v xs)(g:a≠126)(e:a≠47)(f:a≠277):tQ w v.ownBlock.toList:=⟨qk c g,qk c e,qk c f⟩
theorem bP.turn1{w a:World}{c:ap}{v:Value}{g:Nat}{e:List Value}(b:bP w c v)(f:ak w g 237 e)(d:ag w a [g]):bP a c v :=
 b.off (sr f dC dC dC) d
theorem Iw{c:ap}(d:Fit c):(c.runs TB).length<=65536:=by
 obtain⟨e,b⟩:=d
 cases c with
 | arr a=>simp only[ap.W]at b;simp only[ap.runs,oH];have:=nU a a.length;omega
 | wrd x=>simp only[ap.runs,oH];have:=nU (dP TB.tz 64 x) (dP TB.tz 64 x).length;have:=qF TB.tz 64 x;omega
 | run r=>simp only[ap.W]at b;simp only[ap.runs];omega
theorem Fe{c:ap}(f:Fit c):¬(4096<c.len TB/\¬ 2+4*c.many TB<Roa.least (c.len TB)):=by
 obtain⟨g,e⟩:=f;rintro⟨d,b⟩
 cases c with
 | arr a=>simp only[ap.W]at e;simp only[ap.len]at d;omega
 | wrd x=>simp only[ap.len,TB]at d;have:=mD x;omega
 | run r =>
   simp only[ap.W]at e;simp only[ap.len,ap.many]at d b;unfold Roa.least at b;rw[if_neg oM]at b;omega
theorem vO{c:ap}(f:Fit c):c.len TB<=65536/\c.many TB<=65536:=by
 obtain⟨d,b⟩:=f
 cases c with
 | arr a=>simp only[ap.W]at b;simp only[ap.len,ap.many];have:=nU a a.length;omega
 | wrd x=>simp only[ap.len,ap.many,TB];have:=mD x;have:=mD (x &&& (18446744073709551615-x*2%18446744073709551616));omega
 | run r =>
   simp only[ap.W]at b;have e:∀p∈r,p.1+p.2+1<=64:=d;have:=uq r (B:=64) (λp hp=>by have:=e p hp;omega);simp only[ap.len,ap.many];omega
theorem qE{w:World}{c:ap}{v:Value}(a3:bP w c v)(T:Fit c)(aH:Tab w):Calls prog 203 #[v] w λe w'=>∃u,e=.returned u/\bP w' (c.canon TB) u/\aa w w':=by
 have aL:=lh (λW (hW:aa w W)=>a3.keep hW);have aO:=lh (λW (hW:aa w W)=>tG (a3.keep hW) T);have aQ:=lh (λW (hW:aa w W)=>MM (a3.keep hW) T);have aA:=lh (λW (hW:aa w W)=>mG (a3.keep hW));have aN:=lh (λW (hW:aa w W)=>DW (a3.keep hW) T (aH.keep hW));have aX:=lh (λW (hW:aa w W)=>wL (a3.keep hW) T (aH.keep hW));have aT:=lh (show(c.runs TB).length<=1000000 by have:=Iw T;omega);have b1:=lh (show(c.list TB).length<=1000000 by have:=(BZ T).2;omega);have a8:=Fe T;obtain⟨aY,b0⟩:=vO T;obtain⟨k,j,i,y,o,z,x,l,s,q,rfl⟩:=tw a3;clear a3 aH T;obtain⟨n,az⟩:∃n,n=c.len TB:=⟨_,rfl⟩;obtain⟨r,aF⟩:∃r,r=c.many TB:=⟨_,rfl⟩;rw[<-az]at aO aY a8;rw[<-aF]at aQ b0 a8;have aJ:=lh az;have aK:=lh aF;clear az aF;go_enter func203,ntmps203;go_upto_region 1 with fail;have aS:ak (w.alloc (.cells #[.int .u8 k,.slice j i y,.slice o z x,.slice l s q] 237)) w.heap.size 237 [.int .u8 k,.slice j i y,.slice o z x,.slice l s q]:=bH _ _ _;have ay:ak ((w.alloc (.cells #[.int .u8 k,.slice j i y,.slice o z x,.slice l s q] 237)).alloc (.cells #[.int .u8 0,.slice none 0 0,.slice none 0 0,.slice none 0 0] 237)) (w.heap.size+1) 237 [.int .u8 0,.slice none 0 0,.slice none 0 0,.slice none 0 0]:=by
  have:=bH (w.alloc (.cells #[.int .u8 k,.slice j i y,.slice o z x,.slice l s q] 237)) 237 [.int .u8 0,.slice none 0 0,.slice none 0 0,.slice none 0 0]
  rwa [World.size_alloc]at this
 have S:=aS.keep (aa.alloc (aa.refl _) (.cells #[.int .u8 0,.slice none 0 0,.slice none 0 0,.slice none 0 0] 237));have aB:aa w ((w.alloc (.cells #[.int .u8 k,.slice j i y,.slice o z x,.slice l s q] 237)).alloc (.cells #[.int .u8 0,.slice none 0 0,.slice none 0 0,.slice none 0 0] 237)):=kP;clear aS;generalize (w.alloc (.cells #[.int .u8 k,.slice j i y,.slice o z x,.slice l s q] 237)).alloc (.cells #[.int .u8 0,.slice none 0 0,.slice none 0 0,.slice none 0 0] 237)=aD at ay S aB|-;have A:=lh (Nat.le_succ w.heap.size);rw[Nat.succ_eq_add_one]at A;generalize aZ:w.heap.size+1=g at ay A|-;generalize b2:w.heap.size=b at S|-;have aU:=lh S;have aV:=lh ay;have ax:=lh aB;have U:=S.cell 0 _ rfl;have a6:=S.cell 1 _ rfl;have a1:=S.cell 2 _ rfl;have a4:=S.cell 3 _ rfl;have Y:=S.lt;clear aZ b2 S ay aB;refine zR kR ?_
 repeat
  refine aR (λK hK=>?_);go_simp
  first
  | (refine hK _ _ ?_;clear hK K)
  | (apply Exists.intro
     refine⟨λp=>?_,hK _ _ ?_⟩
     (first|(go_at_call 172;exact Zone.zc (aO.o _ (ax.o.trans kP)))|(go_at_call 243;exact Zone.zc (aQ.o _ (ax.o.trans kP))))
     clear hK K)
 refine bG ?_;intro p;simp only[aj];have aw:aa aD (aD.gro p):=kP;generalize aD.gro p=b5 at aw|-;have ab:=ax.u aw;have aG:=lh (aV.o.keep aw);have a7:=lh (aU.o.keep aw);clear aw U a6 a1 a4 Y ax aV aU;have U:=a7.o.cell 0 _ rfl;have a6:=a7.o.cell 1 _ rfl;have a1:=a7.o.cell 2 _ rfl;have a4:=a7.o.cell 3 _ rfl;have Y:=a7.o.lt;obtain⟨t,aC⟩:∃t,t=4*r:=⟨_,rfl⟩;obtain⟨V,aE⟩:∃V,V=2+t:=⟨_,rfl⟩;obtain⟨a9,aI⟩:∃a9,a9=2*n:=⟨_,rfl⟩;have b6:IntKind.i64.wrap (4*(r:Int))=(t:Int):=iW oM;have b3:IntKind.i64.wrap (2+(t:Int))=(V:Int):=iW oM;have b4:IntKind.i64.wrap (2*(n:Int))=(a9:Int):=iW oM
 by_cases au:n<=4096
 ·have d1:decide ((n:Int)<=4096)=true:=sO
  by_cases aW:V<a9
  ·have d2:decide ((V:Int)<(a9:Int))=true:=sO;have X:=lh (show iU (c.len TB) (c.many TB)=3 by rw[<-aJ.o,<-aK.o];unfold iU Roa.least;rw[if_pos au,if_pos oM]);clear aC aE aI a8;go_wp2_with (go_at_call 170;refine ae ?_);refine uM (aA.o _ ab.o) ?_;rintro e a0 ⟨rfl,L⟩;have I:=ab.u L;have Q:=lh (aG.o.keep L);have C:=lh (a7.o.keep L);clear L;have U:=C.o.cell 0 _ rfl;have a6:=C.o.cell 1 _ rfl;have a1:=C.o.cell 2 _ rfl;have a4:=C.o.cell 3 _ rfl;have Y:=C.o.lt
   by_cases G:c.kind=3
   ·rw[G];have O:=lh (show c.canon TB=c by unfold ap.canon ap.turn;rw[X.o,if_pos G.symm]);clear G;have H:=lh (show bP a0 (c.canon TB) (.agg #[.int .u8 k,.slice j i y,.slice o z x,.slice l s q]) from by rw[O.o];exact aL.o _ I.o);obtain⟨h,N⟩:∃h,h=a0:=⟨_,rfl⟩;subst N;have f:=Q;have R:=I;have ai:=f.o.cell 0 _ rfl;have ad:=f.o.cell 1 _ rfl;have ar:=f.o.cell 2 _ rfl;have aq:=f.o.cell 3 _ rfl;have ac:=f.o.soft 0;have al:=f.o.soft 1;have ah:=f.o.soft 2;have af:=f.o.soft 3;have ao:=f.o.lt;have F:=lh ((((f.o.set 0 (.int .u8 k)).set 1 (.slice j i y)).set 2 (.slice o z x)).set 3 (.slice l s q));have E:=lh ((((R.o.setCell (a:=⟨g,0,none⟩) A.o (.int .u8 k)).setCell (a:=⟨g,1,none⟩) A.o (.slice j i y)).setCell (a:=⟨g,2,none⟩) A.o (.slice o z x)).setCell (a:=⟨g,3,none⟩) A.o (.slice l s q));have D:=lh ((((ag.set h ⟨g,0,none⟩ (.int .u8 k)).trans (ag.set _ ⟨g,1,none⟩ (.slice j i y))).trans (ag.set _ ⟨g,2,none⟩ (.slice o z x))).trans (ag.set _ ⟨g,3,none⟩ (.slice l s q)));go_wp2;generalize (((h.setCell ⟨g,0,none⟩ (.int .u8 k)).setCell ⟨g,1,none⟩ (.slice j i y)).setCell ⟨g,2,none⟩ (.slice o z x)).setCell ⟨g,3,none⟩ (.slice l s q)=av at F E D|-
    exact bodyPost_ret (v:=.agg #[(.int .u8 k),(.slice j i y),(.slice o z x),(.slice l s q)]) (results_cell_row rfl _ _ g 237 #[(.int .u8 k),(.slice j i y),(.slice o z x),(.slice l s q)] (0,0) _ rfl F.o underlying237 rfl iz) rfl ⟨_,rfl,H.o.turn1 f.o D.o,E.o⟩
   ·obtain⟨J,a2⟩:∃J,J=c.kind:=⟨_,rfl⟩;rw[<-a2];have aP:((3:Int)==(J:Int))=false:=sO;have aM:¬(3:Int)=(J:Int):=oM;have O:=lh (show c.canon TB=.run (c.runs TB) by unfold ap.canon ap.turn;rw[X.o,if_neg (λe=>G e.symm),if_pos rfl]);clear G a2;go_wp2_with (go_at_call 209;refine ae ?_);refine uM (aN.o _ I.o) ?_;rintro e Z ⟨u,rfl,P,M⟩;obtain⟨B,d,rfl,_⟩:=cU P gv aT.o;have a5:=P.base_mono (lj _);have R:=I.u M;have f:=lh (Q.o.keep M);have H:=lh (show bP Z (c.canon TB) (.agg #[.int .u8 3,.slice none 0 0,.slice none 0 0,.slice B (c.runs TB).length d]) from by rw[O.o];exact .run _ B d a5);generalize (c.runs TB).length=m at H|-;clear P M a5 U a6 a1 a4 Y Q C;obtain⟨h,N⟩:∃h,h=Z:=⟨_,rfl⟩;subst N;have ai:=f.o.cell 0 _ rfl;have ad:=f.o.cell 1 _ rfl;have ar:=f.o.cell 2 _ rfl;have aq:=f.o.cell 3 _ rfl;have ac:=f.o.soft 0;have al:=f.o.soft 1;have ah:=f.o.soft 2;have af:=f.o.soft 3;have ao:=f.o.lt;have F:=lh ((((f.o.set 0 (.int .u8 3)).set 1 (.slice none 0 0)).set 2 (.slice none 0 0)).set 3 (.slice B m d));have E:=lh ((((R.o.setCell (a:=⟨g,0,none⟩) A.o (.int .u8 3)).setCell (a:=⟨g,1,none⟩) A.o (.slice none 0 0)).setCell (a:=⟨g,2,none⟩) A.o (.slice none 0 0)).setCell (a:=⟨g,3,none⟩) A.o (.slice B m d))
    have D:=lh ((((ag.set h ⟨g,0,none⟩ (.int .u8 3)).trans (ag.set _ ⟨g,1,none⟩ (.slice none 0 0))).trans (ag.set _ ⟨g,2,none⟩ (.slice none 0 0))).trans (ag.set _ ⟨g,3,none⟩ (.slice B m d)));go_wp2;generalize (((h.setCell ⟨g,0,none⟩ (.int .u8 3)).setCell ⟨g,1,none⟩ (.slice none 0 0)).setCell ⟨g,2,none⟩ (.slice none 0 0)).setCell ⟨g,3,none⟩ (.slice B m d)=av at F E D|-;exact bodyPost_ret (v:=.agg #[(.int .u8 3),(.slice none 0 0),(.slice none 0 0),(.slice B m d)]) (results_cell_row rfl _ _ g 237 #[(.int .u8 3),(.slice none 0 0),(.slice none 0 0),(.slice B m d)] (0,0) _ rfl F.o underlying237 rfl iz) rfl ⟨_,rfl,H.o.turn1 f.o D.o,E.o⟩
  ·have d2:decide ((V:Int)<(a9:Int))=false:=sO;have X:=lh (show iU (c.len TB) (c.many TB)=1 by rw[<-aJ.o,<-aK.o];unfold iU Roa.least;rw[if_pos au,if_neg oM,if_pos au]);clear aC aE aI a8;go_wp2_with (go_at_call 170;refine ae ?_);refine uM (aA.o _ ab.o) ?_;rintro e a0 ⟨rfl,L⟩;have I:=ab.u L;have Q:=lh (aG.o.keep L);have C:=lh (a7.o.keep L);clear L;have U:=C.o.cell 0 _ rfl;have a6:=C.o.cell 1 _ rfl;have a1:=C.o.cell 2 _ rfl;have a4:=C.o.cell 3 _ rfl;have Y:=C.o.lt
   by_cases G:c.kind=1
   ·rw[G];have O:=lh (show c.canon TB=c by unfold ap.canon ap.turn;rw[X.o,if_pos G.symm]);clear G;have H:=lh (show bP a0 (c.canon TB) (.agg #[.int .u8 k,.slice j i y,.slice o z x,.slice l s q]) from by rw[O.o];exact aL.o _ I.o);obtain⟨h,N⟩:∃h,h=a0:=⟨_,rfl⟩;subst N;have f:=Q;have R:=I;have ai:=f.o.cell 0 _ rfl;have ad:=f.o.cell 1 _ rfl;have ar:=f.o.cell 2 _ rfl;have aq:=f.o.cell 3 _ rfl;have ac:=f.o.soft 0;have al:=f.o.soft 1;have ah:=f.o.soft 2;have af:=f.o.soft 3;have ao:=f.o.lt;have F:=lh ((((f.o.set 0 (.int .u8 k)).set 1 (.slice j i y)).set 2 (.slice o z x)).set 3 (.slice l s q));have E:=lh ((((R.o.setCell (a:=⟨g,0,none⟩) A.o (.int .u8 k)).setCell (a:=⟨g,1,none⟩) A.o (.slice j i y)).setCell (a:=⟨g,2,none⟩) A.o (.slice o z x)).setCell (a:=⟨g,3,none⟩) A.o (.slice l s q));have D:=lh ((((ag.set h ⟨g,0,none⟩ (.int .u8 k)).trans (ag.set _ ⟨g,1,none⟩ (.slice j i y))).trans (ag.set _ ⟨g,2,none⟩ (.slice o z x))).trans (ag.set _ ⟨g,3,none⟩ (.slice l s q)));go_wp2;generalize (((h.setCell ⟨g,0,none⟩ (.int .u8 k)).setCell ⟨g,1,none⟩ (.slice j i y)).setCell ⟨g,2,none⟩ (.slice o z x)).setCell ⟨g,3,none⟩ (.slice l s q)=av at F E D|-
    exact bodyPost_ret (v:=.agg #[(.int .u8 k),(.slice j i y),(.slice o z x),(.slice l s q)]) (results_cell_row rfl _ _ g 237 #[(.int .u8 k),(.slice j i y),(.slice o z x),(.slice l s q)] (0,0) _ rfl F.o underlying237 rfl iz) rfl ⟨_,rfl,H.o.turn1 f.o D.o,E.o⟩
   ·obtain⟨J,a2⟩:∃J,J=c.kind:=⟨_,rfl⟩;rw[<-a2];have aP:((1:Int)==(J:Int))=false:=sO;have aM:¬(1:Int)=(J:Int):=oM;have O:=lh (show c.canon TB=.arr (c.list TB) by unfold ap.canon ap.turn;rw[X.o,if_neg (λe=>G e.symm),if_neg dC,if_pos rfl]);clear G a2;go_wp2_with (go_at_call 211;refine ae ?_);refine uM (aX.o _ I.o) ?_;rintro e Z ⟨u,rfl,P,M⟩;obtain⟨B,d,rfl,_⟩:=cU P dB b1.o;have a5:=P.base_mono (lj _);have R:=I.u M;have f:=lh (Q.o.keep M);have H:=lh (show bP Z (c.canon TB) (.agg #[.int .u8 1,.slice B (c.list TB).length d,.slice none 0 0,.slice none 0 0]) from by rw[O.o];exact .arr _ 1 B d (.inr rfl) a5);generalize (c.list TB).length=m at H|-;clear P M a5 U a6 a1 a4 Y Q C;obtain⟨h,N⟩:∃h,h=Z:=⟨_,rfl⟩;subst N;have ai:=f.o.cell 0 _ rfl;have ad:=f.o.cell 1 _ rfl;have ar:=f.o.cell 2 _ rfl;have aq:=f.o.cell 3 _ rfl;have ac:=f.o.soft 0;have al:=f.o.soft 1;have ah:=f.o.soft 2;have af:=f.o.soft 3;have ao:=f.o.lt;have F:=lh ((((f.o.set 0 (.int .u8 1)).set 1 (.slice B m d)).set 2 (.slice none 0 0)).set 3 (.slice none 0 0));have E:=lh ((((R.o.setCell (a:=⟨g,0,none⟩) A.o (.int .u8 1)).setCell (a:=⟨g,1,none⟩) A.o (.slice B m d)).setCell (a:=⟨g,2,none⟩) A.o (.slice none 0 0)).setCell (a:=⟨g,3,none⟩) A.o (.slice none 0 0))
    have D:=lh ((((ag.set h ⟨g,0,none⟩ (.int .u8 1)).trans (ag.set _ ⟨g,1,none⟩ (.slice B m d))).trans (ag.set _ ⟨g,2,none⟩ (.slice none 0 0))).trans (ag.set _ ⟨g,3,none⟩ (.slice none 0 0)));go_wp2;generalize (((h.setCell ⟨g,0,none⟩ (.int .u8 1)).setCell ⟨g,1,none⟩ (.slice B m d)).setCell ⟨g,2,none⟩ (.slice none 0 0)).setCell ⟨g,3,none⟩ (.slice none 0 0)=av at F E D|-;exact bodyPost_ret (v:=.agg #[(.int .u8 1),(.slice B m d),(.slice none 0 0),(.slice none 0 0)]) (results_cell_row rfl _ _ g 237 #[(.int .u8 1),(.slice B m d),(.slice none 0 0),(.slice none 0 0)] (0,0) _ rfl F.o underlying237 rfl iz) rfl ⟨_,rfl,H.o.turn1 f.o D.o,E.o⟩
 ·have d1:decide ((n:Int)<=4096)=false:=sO;have aW:V<8192:=by
   unfold Roa.least at a8;rw[if_neg au]at a8;omega
  have d2:decide ((V:Int)<8192)=true:=sO;have X:=lh (show iU (c.len TB) (c.many TB)=3 by rw[<-aJ.o,<-aK.o];unfold iU Roa.least;rw[if_neg au,if_pos oM]);clear aC aE aI a8;go_wp2_with (go_at_call 170;refine ae ?_);refine uM (aA.o _ ab.o) ?_;rintro e a0 ⟨rfl,L⟩;have I:=ab.u L;have Q:=lh (aG.o.keep L);have C:=lh (a7.o.keep L);clear L;have U:=C.o.cell 0 _ rfl;have a6:=C.o.cell 1 _ rfl;have a1:=C.o.cell 2 _ rfl;have a4:=C.o.cell 3 _ rfl;have Y:=C.o.lt
  by_cases G:c.kind=3
  ·rw[G];have O:=lh (show c.canon TB=c by unfold ap.canon ap.turn;rw[X.o,if_pos G.symm]);clear G;have H:=lh (show bP a0 (c.canon TB) (.agg #[.int .u8 k,.slice j i y,.slice o z x,.slice l s q]) from by rw[O.o];exact aL.o _ I.o);obtain⟨h,N⟩:∃h,h=a0:=⟨_,rfl⟩;subst N;have f:=Q;have R:=I;have ai:=f.o.cell 0 _ rfl;have ad:=f.o.cell 1 _ rfl;have ar:=f.o.cell 2 _ rfl;have aq:=f.o.cell 3 _ rfl;have ac:=f.o.soft 0;have al:=f.o.soft 1;have ah:=f.o.soft 2;have af:=f.o.soft 3;have ao:=f.o.lt;have F:=lh ((((f.o.set 0 (.int .u8 k)).set 1 (.slice j i y)).set 2 (.slice o z x)).set 3 (.slice l s q));have E:=lh ((((R.o.setCell (a:=⟨g,0,none⟩) A.o (.int .u8 k)).setCell (a:=⟨g,1,none⟩) A.o (.slice j i y)).setCell (a:=⟨g,2,none⟩) A.o (.slice o z x)).setCell (a:=⟨g,3,none⟩) A.o (.slice l s q));have D:=lh ((((ag.set h ⟨g,0,none⟩ (.int .u8 k)).trans (ag.set _ ⟨g,1,none⟩ (.slice j i y))).trans (ag.set _ ⟨g,2,none⟩ (.slice o z x))).trans (ag.set _ ⟨g,3,none⟩ (.slice l s q)));go_wp2;generalize (((h.setCell ⟨g,0,none⟩ (.int .u8 k)).setCell ⟨g,1,none⟩ (.slice j i y)).setCell ⟨g,2,none⟩ (.slice o z x)).setCell ⟨g,3,none⟩ (.slice l s q)=av at F E D|-
   exact bodyPost_ret (v:=.agg #[(.int .u8 k),(.slice j i y),(.slice o z x),(.slice l s q)]) (results_cell_row rfl _ _ g 237 #[(.int .u8 k),(.slice j i y),(.slice o z x),(.slice l s q)] (0,0) _ rfl F.o underlying237 rfl iz) rfl ⟨_,rfl,H.o.turn1 f.o D.o,E.o⟩
  ·obtain⟨J,a2⟩:∃J,J=c.kind:=⟨_,rfl⟩;rw[<-a2];have aP:((3:Int)==(J:Int))=false:=sO;have aM:¬(3:Int)=(J:Int):=oM;have O:=lh (show c.canon TB=.run (c.runs TB) by unfold ap.canon ap.turn;rw[X.o,if_neg (λe=>G e.symm),if_pos rfl]);clear G a2;go_wp2_with (go_at_call 209;refine ae ?_);refine uM (aN.o _ I.o) ?_;rintro e Z ⟨u,rfl,P,M⟩;obtain⟨B,d,rfl,_⟩:=cU P gv aT.o;have a5:=P.base_mono (lj _);have R:=I.u M;have f:=lh (Q.o.keep M);have H:=lh (show bP Z (c.canon TB) (.agg #[.int .u8 3,.slice none 0 0,.slice none 0 0,.slice B (c.runs TB).length d]) from by rw[O.o];exact .run _ B d a5);generalize (c.runs TB).length=m at H|-;clear P M a5 U a6 a1 a4 Y Q C;obtain⟨h,N⟩:∃h,h=Z:=⟨_,rfl⟩;subst N;have ai:=f.o.cell 0 _ rfl;have ad:=f.o.cell 1 _ rfl;have ar:=f.o.cell 2 _ rfl;have aq:=f.o.cell 3 _ rfl;have ac:=f.o.soft 0;have al:=f.o.soft 1;have ah:=f.o.soft 2;have af:=f.o.soft 3;have ao:=f.o.lt;have F:=lh ((((f.o.set 0 (.int .u8 3)).set 1 (.slice none 0 0)).set 2 (.slice none 0 0)).set 3 (.slice B m d));have E:=lh ((((R.o.setCell (a:=⟨g,0,none⟩) A.o (.int .u8 3)).setCell (a:=⟨g,1,none⟩) A.o (.slice none 0 0)).setCell (a:=⟨g,2,none⟩) A.o (.slice none 0 0)).setCell (a:=⟨g,3,none⟩) A.o (.slice B m d))
   have D:=lh ((((ag.set h ⟨g,0,none⟩ (.int .u8 3)).trans (ag.set _ ⟨g,1,none⟩ (.slice none 0 0))).trans (ag.set _ ⟨g,2,none⟩ (.slice none 0 0))).trans (ag.set _ ⟨g,3,none⟩ (.slice B m d)));go_wp2;generalize (((h.setCell ⟨g,0,none⟩ (.int .u8 3)).setCell ⟨g,1,none⟩ (.slice none 0 0)).setCell ⟨g,2,none⟩ (.slice none 0 0)).setCell ⟨g,3,none⟩ (.slice B m d)=av at F E D|-;exact bodyPost_ret (v:=.agg #[(.int .u8 3),(.slice none 0 0),(.slice none 0 0),(.slice B m d)]) (results_cell_row rfl _ _ g 237 #[(.int .u8 3),(.slice none 0 0),(.slice none 0 0),(.slice B m d)] (0,0) _ rfl F.o underlying237 rfl iz) rfl ⟨_,rfl,H.o.turn1 f.o D.o,E.o⟩
attribute [local go_sem] fQ
theorem qf{a:Type}{w:World}{base k:Nat}{e:TypeId}{enc:a->List Value}{v:Value}{xs:List a}(b:ah w base e k enc v xs)(d:xs≠[]):∃g c,v=.slice (some ⟨g,0,none⟩) xs.length c:=by
 rcases b.2 with⟨rfl,h⟩ | ⟨g,f,i,rfl,_⟩
 ·exact absurd (Ly h) d
 ·exact⟨g,f,rfl⟩
theorem qO{m:Type}{P:Program}{a:World}{t e:TypeId}{k l:Nat}(s:dX P t e k l){enc:m->List Value}(q:∀x,(enc x).length=k)(w:∀x,∀u∈enc x,u.oneCell'=true){g:Oper}{b:Act}{i:dQ}
 (j x:Operand) (r:g.op=.call { callee:=.builtin .append,args:=#[j,x],argTypes:=#[t,t] })
 {base:Nat} {v:Value} {xs ys:List m} (hown:ah a base e k enc v xs) (hs:b.eval j=v) (hnil:v.ownBlock=none) {A:Option Addr} {c:Nat} (hx:b.eval x=.slice A ys.length c) (hy:Sl a k enc A c ys)
 (hlen:(xs.length+ys.length)*l<=140737488355328) (hbase:base<=a.heap.size) (hΨ:∀f d,ah d base e k enc f (xs++ys)->aa a d->i f d):av P g b a i:=by
 obtain⟨f,d,n,o,p,y⟩:=pZ (ty:=g.type) s q w hown hy hlen hbase;have h:aa a d:=aa.grown (aa.refl _) p (λk e=>by rw[hnil]at e;cases e);unfold av execOp;simp only[r,resolve,invoke,builtin,Sem.run_bind,Sem.run_pure,Result.andThen_ok,List.map_toArray,lG,L3,hs,hx,n];exact⟨hΨ f d o h,h⟩
theorem ij{P:Program}{ops:Array Oper}{w:World}{b:Oper}{a:Act}{fs:dR}{c:dQ}{d:Tmp}{e:dQ}(g:aC ops b fs=[(d,e)])
 (f:∀p v,e v (w.gro p)->if Region.wanted b (yielded ops (a.put (some d) v).tmps) then av P b (a.put (some d) v) (w.gro p) c else c undef (w.gro p)):au P ops w b a fs c:=λp=>by
 rw[g];exact λv hv=>f p v hv
structure Cm where
 k:Nat
 A1:Option Addr
 n1:Nat
 c1:Nat
 A2:Option Addr
 n2:Nat
 c2:Nat
 A3:Option Addr
 n3:Nat
 c3:Nat
def Cm.cells(m:Cm):List Value:=[.int .u8 (m.k:Int),.slice m.A1 m.n1 m.c1,.slice m.A2 m.n2 m.c2,.slice m.A3 m.n3 m.c3]
@[reducible] def Cm.v(m:Cm):Value:=.agg #[.int .u8 (m.k:Int),.slice m.A1 m.n1 m.c1,.slice m.A2 m.n2 m.c2,.slice m.A3 m.n3 m.c3]
theorem kj(m:Cm):m.cells.length=4:=rfl
theorem tB(m:Cm):∀u∈m.cells,u.oneCell'=true:=λu hu=>by
 simp only[Cm.cells,ln,lL,or_false]at hu
 rcases hu with rfl|rfl|rfl|rfl<;>rfl
theorem tC{w:World}{g:Nat}{m:Cm}(a:w.cell? ⟨g,0,none⟩=some (.int .u8 (m.k:Int)))(d:w.cell? ⟨g,1,none⟩=some (.slice m.A1 m.n1 m.c1))(b:w.cell? ⟨g,2,none⟩=some (.slice m.A2 m.n2 m.c2))(c:w.cell? ⟨g,3,none⟩=some (.slice m.A3 m.n3 m.c3)):∀j u,m.cells[j]? =some u->w.cell? ⟨g,j,none⟩=some u
 | 0,_,h=>by cases h;exact a
 | 1,_,h=>by cases h;exact d
 | 2,_,h=>by cases h;exact b
 | 3,_,h=>by cases h;exact c
theorem tm:dX prog 232 237 4 80:=by
 obtain⟨i,hi,c,a,b⟩:=iN (show(prog.info? 237).map (λi=>(i.zero,i.size,i.bytes))=some (some (.agg #[.int .u8 0,.slice none 0 0,.slice none 0 0,.slice none 0 0]),4,80) from kR);exact⟨i,_,underlying232,hi,c,a,b,rfl,dC,dC⟩
abbrev iR(w:World)(base:Nat)(v:Value)(xs:List Cm):Prop:=ah w base 237 4 Cm.cells v xs
theorem kg{w:World}{c:ap}{v:Value}(a:bP w c v):∃m:Cm,v=m.v:=by
 obtain⟨k,g,l,e,b,h,d,f,i,j,rfl⟩:=tw a;exact⟨⟨k,g,l,e,b,h,d,f,i,j⟩,rfl⟩
inductive dF (w:World):Option ap->Value->Prop
 | nil_ (b:Nat) (h:ak w b 242 [.slice none 0 0,.slice none 0 0]):dF w none (.pointer (some ⟨b,0,none⟩))
 | one (b:Nat) (kv lv:Value) (c:ap) (m:Cm) (h:ak w b 242 [kv,lv]) (hk:cJ w 0 kv [0]) (hl:iR w 0 lv [m]) (hc:bP w c m.v):dF w (some c) (.pointer (some ⟨b,0,none⟩))
theorem dF.keep{w f:World}{e:Option ap}{v:Value}(a:dF w e v)(d:aa w f):dF f e v:=by
 cases a with
 | nil_ b a=>exact .nil_ b (a.keep d)
 | one b kv lv c m a hk' hl hc=>exact .one b kv lv c m (a.keep d) (hk'.keep d) (hl.keep d) (hc.keep d)
structure tP(w:World)(S:List Nat):Prop where
 s:Off w S 242
 c:Off w S 237
 n:tQ w S
theorem dF.off{w g:World}{f:Option ap}{v:Value}{S:List Nat}(a:dF w f v)(d:tP w S)(e:ag w g S):dF g f v:=by
 cases a with
 | nil_ b a=>exact .nil_ b (d.s.row a e)
 | one b kv lv c m a hk hl hc=>exact .one b kv lv c m (d.s.row a e) (d.n.na.own hk e) (d.c.own hl e) (hc.off d.n e)
theorem vh{w:World}{g:Nat}{a:TypeId}{i:List Value}(b:ak w g a i)(h:a≠126)(c:a≠47)(e:a≠277)(d:a≠242)(f:a≠237):tP w [g]:=⟨off_row b d,off_row b f,sr b h c e⟩
theorem vp{d:Type}{w:World}{b k:Nat}{a:TypeId}{n:d->List Value}{v:Value}{xs:List d}(c:ah w b a k n v xs)(i:a≠126)(e:a≠47)(g:a≠277)(f:a≠242)(h:a≠237):tP w v.ownBlock.toList:=⟨qk c f,qk c h,KN c i e g⟩
theorem uS(w:World):Calls prog 130 #[] w λe w'=>∃b,e=.returned (.pointer (some ⟨b,0,none⟩))/\ak w' b 242 [.slice none 0 0,.slice none 0 0]/\w.heap.size<=b/\aa w w':=by
 have a:=bH w 242 [.slice none 0 0,.slice none 0 0];go_enter func130,ntmps130;go_wp2;go_ret;exact⟨_,rfl,a,lc _,kP⟩
theorem push_any(h:Nat)(A:Option Addr)(c:Nat)(a:List Nat)(w:World)(a5:ak w h 242 [.slice none 0 0,.slice none 0 0])(o:Sl w 1 cT A c a)(hi:nY a)(a3:∀x∈a,x<64)(a4:a.length<=2000)(a7:Tab w) :
 Calls prog 168 #[.pointer (some ⟨h,0,none⟩),.int .u16 0,.slice A a.length c] w λe w'=>e=.returned (.tuple #[])/\dF w' (some ((ap.arr a).canon TB)) (.pointer (some ⟨h,0,none⟩))/\ag w w' [h]:=by
 have R:=lh (KO A c a w o hi oM);have aM:=lh (show Fit (.arr a) from⟨a3,a4⟩);have ad:=lh a7;have a0:=lh a5;generalize a.length=n at R|-;clear o hi a3 a4 a7 a5;go_enter func168,ntmps168;go_wp2_with (go_at_call 202;refine ae ?_);refine uM R.o ?_;rintro e t ⟨v,rfl,T,Y⟩;obtain⟨m,rfl⟩:=kg T;have Z:=lh T;have S:=lh Y;have a6:=lh (a0.o.keep Y);clear T Y R a0;obtain⟨F,G,J,O,M,N,H,I,L,P⟩:=m;simp only[Cm.v]at Z;go_upto_region 1 with fail;have l:ak (t.alloc (.cells #[.int .u8 F,.slice G J O,.slice M N H,.slice I L P] 237)) t.heap.size 237 [.int .u8 F,.slice G J O,.slice M N H,.slice I L P]:=bH _ _ _;have s:aa t (t.alloc (.cells #[.int .u8 F,.slice G J O,.slice M N H,.slice I L P] 237)):=kP;generalize t.alloc (.cells #[.int .u8 F,.slice G J O,.slice M N H,.slice I L P] 237)=f at l s|-;generalize t.heap.size=b at l|-;have aI:=S.u s;have B:=lh (a6.o.keep s);have aq:=lh (λW (hW:aa f W)=>qE (Z.o.keep (s.trans hW)) aM.o (ad.o.keep ((S.o.trans s).trans hW)));have af:=l.cell 0 _ rfl;have aL:=l.cell 1 _ rfl;have aA:=l.cell 2 _ rfl;have aF:=l.cell 3 _ rfl;have ar:=l.lt;have s0:=B.o.cell 0 _ rfl;have s1:=B.o.cell 1 _ rfl;have ab:=B.o.lt;clear l s Z S a6
 first|refine Zone.wp_region_m_gro 2 17 kR kR ?_|refine jK 2 17 kR kR ?_
 simp only[lX,lR,lZ,L4]
 repeat (refine jL _ (by rfl) (λ_=>by rfl) ?_)
 refine jM ?_
 repeat
  refine aR (λK hK=>?_);go_simp
  first
  | (refine hK _ _ ?_;clear hK K)
  | (apply Exists.intro
     refine⟨λp=>?_,hK _ _ ?_⟩
     (fail)
     clear hK K)
 refine bW 20 (λu W=>∃g,u=.slice (some ⟨g,0,none⟩) 1 1/\Sl W 1 cT (some ⟨g,0,none⟩) 1 [0]) rfl (λ_ W W' hk ⟨g,h1,h2⟩=>⟨g,h1,h2.keep hk⟩) ?_ ?_
 ·intro p;simp only[aj,aC,Lr];go_simp;exact⟨br _ dC dC (λj q hq=>by match j,hq with|0,hq=>cases hq;simp[go_sem]),aa.alloc (aa.refl _) _⟩
 refine bW 21 (λu W=>cJ W f.heap.size u [0]) rfl (λ_ W W' hk o=>ah.keep o hk) ?_ ?_
 ·refine ij (d:=20) (by rfl) (λp v hv=>?_);obtain⟨g,rfl,U⟩:=hv;rw[if_pos (by rfl)];exact qO iy dB ig (.tmp 18) (.tmp 20) rfl (ah.nil_ _ f.heap.size _ _ _) rfl rfl rfl U sP (ce f p).size (λv' w' o _=>o)
 iterate 5
  refine aR (λK hK=>?_);unfold aw au;rw[bZ (by rfl)];go_simp
  (refine hK _ _ ?_;clear hK K)
 refine bW 27 (λu W=>∃m:Cm,u=m.v/\bP W ((ap.arr a).canon TB) m.v) rfl (λ_ W W' hk ⟨m,h1,h2⟩=>⟨m,h1,h2.keep hk⟩) ?_ ?_
 ·intro p;rw[bZ (by rfl)];simp only[aj];go_simp;go_at_call 203;refine(aq.o _ kP).mono ?_;rintro e aV ⟨u,rfl,r,ax⟩;obtain⟨C,rfl⟩:=kg r;exact⟨_,rfl,⟨C,rfl,r⟩,ax⟩
 refine bW 28 (λu W=>∃(g:Nat) (m:Cm),u=.slice (some ⟨g,0,none⟩) 1 1/\Sl W 4 Cm.cells (some ⟨g,0,none⟩) 1 [m]/\bP W ((ap.arr a).canon TB) m.v) rfl (λ_ W W' hk ⟨g,m,h1,h2,h3⟩=>⟨g,m,h1,h2.keep hk,h3.keep hk⟩) ?_ ?_
 ·refine ij (d:=27) (by rfl) (λp v hv=>?_);obtain⟨C,rfl,r⟩:=hv;rw[if_pos (by rfl)];obtain⟨aD,ay,aE,ai,ao,aK,aH,al,aG,aJ⟩:=C;simp only[Cm.v]at r|-;unfold av;go_simp;exact⟨⟨⟨aD,ay,aE,ai,ao,aK,aH,al,aG,aJ⟩,br _ dC dC (tC sG sG sG sG),r.keep (aa.alloc (aa.refl _) _)⟩,aa.alloc (aa.refl _) _⟩
 refine bW 29 (λu W=>∃m:Cm,iR W f.heap.size u [m]/\bP W ((ap.arr a).canon TB) m.v) rfl (λ_ W W' hk ⟨m,h1,h2⟩=>⟨m,ah.keep h1 hk,h2.keep hk⟩) ?_ ?_
 ·refine ij (d:=28) (by rfl) (λp v hv=>?_);obtain⟨g,C,rfl,U,r⟩:=hv;rw[if_pos (by rfl)];exact qO tm kj tB (.tmp 25) (.tmp 28) rfl (ah.nil_ _ f.heap.size _ _ _) rfl rfl rfl U sP (ce f p).size (λv' w' o hK=>⟨C,o,r.keep hK⟩)
 refine bG ?_;intro p;simp only[aj];rintro aP ⟨az,z,Q⟩ aT _ aN _ aQ D v20 _;have E:aa f (f.gro p):=kP;obtain⟨V,d1,rfl⟩:=qf z sP;obtain⟨X,d2,rfl⟩:=qf D sP;simp only[lw,lB,lS]at z D|-;generalize f.gro p=a1 at E z Q D|-;have k:=lh (B.o.keep E);have a9:=lh (z.base_mono (lj _));have a8:=lh (D.base_mono (lj _));have aB:=lh Q;have ac:=aI.u E;clear z D Q E af aL aA aF ar s0 s1 ab B;have s0:=k.o.cell 0 _ rfl;have s1:=k.o.cell 1 _ rfl;have ab:=k.o.lt;have aO:=k.o.soft 0;have aS:=k.o.soft 1;have y:=lh (uE a1 h 0 1 (.slice (some ⟨X,0,none⟩) 1 d2) (.slice (some ⟨V,0,none⟩) 1 d1));have a2:=lh ((k.o.set 0 (.slice (some ⟨X,0,none⟩) 1 d2)).set 1 (.slice (some ⟨V,0,none⟩) 1 d1));go_simp;go_wp2;generalize (a1.setCell ⟨h,0,none⟩ (.slice (some ⟨X,0,none⟩) 1 d2)).setCell ⟨h,1,none⟩ (.slice (some ⟨V,0,none⟩) 1 d1)=aU at y a2|-;rw[fQ];go_end0;refine⟨rfl,.one h _ _ _ az a2.o (ah.turn a8.o y.o λi hi=>?_) (ah.turn a9.o y.o λi hi=>?_) (aB.o.off (sr k.o dC dC dC) y.o),(ag.keep ac.o [h]).trans y.o⟩
 ·simp only[lm]at hi;subst hi;exact bu a8.o k.o dC
 ·simp only[lm]at hi;subst hi;exact bu a9.o k.o dC
theorem CG{l:List Nat}(h:nY l):∀(d i:Nat),(hi:i+d+1<l.length)->l[i]'oM<l[i+d+1]
 | 0,i,hi=>h i hi
 | d+1,i,hi=>LK (CG h d i oM) (h (i+d+1) oM)
theorem N9{l:List Nat}(h:nY l):Up l:=λi j hij hj=>by
 rcases Nat.eq_or_lt_of_le hij with e|e
 ·subst e;exact lc _
 ·obtain⟨d,rfl⟩:∃d,j=i+d+1:=⟨j-i-1,oM⟩;exact Nat.le_of_lt (CG h d i hj)
theorem yX(A:Option Addr)(c:Nat)(l:List Nat)(w:World)(au:Sl w 1 fL A c l)(hi:nY l)(G:∀x∈l,x<64)(ao:l.length<=2000)(aw:Tab w) :
 Calls prog 127 #[.slice A l.length c] w λe w'=>∃p,e=.returned p/\dF w' (gz TB l) p/\aa w w':=by
 have V:=lh (PR A c l w au oM);have O:=lh (λW B d (hW:Sl W 1 fL B d l)=>Hf B d l W (N9 hi) hW oM);have aq:=lh (show l.length<=1000000 from oM);have ax:=lh hi;have t:=lh G;have aF:=lh aw;generalize ac:l.length=n at ao V O;have g:=lh ac;clear au hi G aw ac;go_enter func127,ntmps127;go_wp2_with (go_at_call 166;refine ae ?_);refine uM V.o ?_;rintro e b1 ⟨aQ,aY,rfl,al,ab⟩;obtain⟨aP,aZ,S,az⟩:=cU al oh aq.o;injection S with S hnn hc8;subst S;subst hc8;clear hnn;have M:=lh az;have a9:=lh ab;clear al ab az V;go_wp2_with (go_at_call 167;refine ae ?_);refine uM (O.o _ _ _ M.o) ?_;rintro e aT ⟨rfl,a7⟩;have Q:=a9.u a7;have af:=lh (M.o.keep a7);clear a7 M O a9;go_wp2_with (go_at_call 130;refine ae ?_);refine uM (uS _) ?_;rintro e F ⟨z,rfl,ay,aB,Y⟩;have aA:=lh ay;have aL:=lh (lk Q.o.size aB);have Z:=Q.u Y;have a5:=lh (af.o.keep Y);obtain⟨lo,av⟩:∃lo,F.heap.size=lo:=⟨_,rfl⟩;have I:=lh av;clear ay aB Y af Q av;go_wp2;go_loopw [4,14] (λva vi wr=>∃(k:Nat) (v:Value),k<=n/\vi=.int .i64 k/\v=va/\Hid (cJ wr lo v (l.take k))/\Hid (aa F wr)) (λ_ vi _=>n-(intOf vi).toNat)
 case atStart=>exact⟨0,.slice none 0 0,lj _,rfl,rfl,ah.nil_ _ _ _ _ _,aa.refl _⟩
 case round =>
  obtain⟨k,v,aV,rfl,rfl,o,f⟩:=hrel;obtain⟨L,a6,h⟩:=bp o.o;have J:=lh (show(l.take k).length=k by rw[lD,g.o];omega)
  by_cases aM:k<n
  ·have D:k<l.length:=(by rw[g.o];exact aM);obtain⟨b,aK,P,G,C⟩:=rF (a5.o.keep f.o) k D;subst P;have aC:=t.o l[k] (ll _);have K:=lh (show l.take (k+1)=l.take k++[l[k]]from ly D);rw[J.o]at h
   by_cases m:k=0
   ·generalize l[k]=x at C aC K;have T:decide ((0:Int)<(k:Int))=false:=sO;have N:¬(0:Int)<(k:Int):=oM;have aI:IntKind.u16.wrap (x:Int)=(x:Int):=(by simp[IntKind.wrap,IntKind.signed,IntKind.bits];omega);subst h;clear m;go_wp2_with (at_builtin;refine ae ?_);refine ar ?_;have q:cJ (wr.alloc (.cells #[.int .u16 (x:Int)] 126)) lo (.slice L k a6) (l.take k):=o.o.keep (aa.alloc (aa.refl _) _);refine aD iy dB ig rfl (.tmp 54) (.tmp 57) rfl (ys:=[x]) q rfl rfl (br _ oM oM (λj u hu=>by match j,hu with|0,hu=>cases hu;simp[go_sem])) (by have:=J.o;simp;omega) (by have:=f.o.size;have:=I.o;simp;omega) ?_;intro a2 a4 r s _;have X:=lh (show aa F a4 from q.kept s (f.o.alloc _) (lV I.o));have a1:=lh r;clear r s q o f;go_wp2;go_roundw
    case rel=>exact⟨k+1,a2,oM,by go_num,rfl,(by show cJ _ _ _ _;rw[K.o];exact a1.o),X.o⟩
    case measure=>simp[intOf];omega
   ·obtain⟨a,H⟩:∃a,a+1=k:=⟨k-1,oM⟩;have ai:a<n:=oM;have U:a<l.length:=oM;obtain⟨_,aO⟩:=nu (a5.o.keep f.o) a U;have a0:=t.o l[a] (ll _);have a3:l[a]<l[k]:=by
     have:=ax.o a oM;simp only[H]at this;exact this
    generalize l[a]=y at aO a0 a3;generalize l[k]=x at C aC K a3;have T:IntKind.i64.wrap ((k:Int)-1)=(a:Int):=iW oM;have N:(0:Int)<(k:Int):=oM;have aI:IntKind.u16.wrap (x:Int)=(x:Int):=(by simp[IntKind.wrap,IntKind.signed,IntKind.bits];omega);have aX:((y:Int)==(x:Int))=false:=sO;have aU:¬(y:Int)=(x:Int):=oM;have aJ:(y:Int)/65536=0:=oM;have aW:(x:Int)/65536=0:=oM;subst h;clear m H a3;go_wp2_with (at_builtin;refine ae ?_);refine ar ?_;have q:cJ (wr.alloc (.cells #[.int .u16 (x:Int)] 126)) lo (.slice L k a6) (l.take k):=o.o.keep (aa.alloc (aa.refl _) _);refine aD iy dB ig rfl (.tmp 54) (.tmp 57) rfl (ys:=[x]) q rfl rfl (br _ oM oM (λj u hu=>by match j,hu with|0,hu=>cases hu;simp[go_sem])) (by have:=J.o;simp;omega) (by have:=f.o.size;have:=I.o;simp;omega) ?_;intro a2 a4 r s _;have X:=lh (show aa F a4 from q.kept s (f.o.alloc _) (lV I.o));have a1:=lh r;clear r s q o f;go_wp2;go_roundw
    case rel=>exact⟨k+1,a2,oM,by go_num,rfl,(by show cJ _ _ _ _;rw[K.o];exact a1.o),X.o⟩
    case measure=>simp[intOf];omega
  ·have D:k=n:=oM;subst D;have ak:l.take k=l:=(by rw[<-g.o,lC]);rw[ak]at o J h;rw[g.o]at h
   by_cases m:k=0
   ·have aN:=lh (show gz TB l=none by unfold gz;rw[if_pos (Ly (by rw[g.o];exact m))]);have T:decide ((0:Int)<(k:Int))=false:=sO;have N:¬(0:Int)<(k:Int):=oM;subst h;clear m;go_wp2;exact bodyPost_ret (v:=.pointer (some ⟨z,0,none⟩)) (by simp[results,results127,go_sem]) rfl ⟨_,rfl,by rw[aN.o];exact .nil_ z (aA.o.keep f.o),Z.o.trans f.o⟩
   ·have aH:=lh (show gz TB l=some ((ap.arr l).canon TB) by unfold gz;rw[if_neg (λe=>m (by have:=g.o;rw[e]at this;simpa using this.symm))]);obtain⟨aR,aS,E,ad⟩:=cU o.o dB aq.o;rw[h]at E;injection E with E hnn hc9;subst E;subst hc9;clear hnn;have R:=lh (λW (hW:aa wr W)=>push_any z L a6 l W ((aA.o.keep f.o).keep hW) (ad.keep hW) ax.o t.o (by rw[g.o];exact ao) (aF.o.keep ((Z.v f).trans hW)));rw[g.o]at R;obtain⟨a,H⟩:∃a,a+1=k:=⟨k-1,oM⟩;have ai:a<k:=oM;have U:a<l.length:=(by rw[g.o];exact ai);obtain⟨b,aK,P,G,C⟩:=rF (a5.o.keep f.o) a U;subst P;have a0:=t.o l[a] (ll _);generalize l[a]=y at C a0;have T:IntKind.i64.wrap ((k:Int)-1)=(a:Int):=iW oM;have N:(0:Int)<(k:Int):=oM;have aJ:(y:Int)/65536=0:=oM;subst h;clear m H ad ak;go_wp2_with (go_at_call 168;refine ae ?_);refine uM (R.o _ (aa.refl _)) ?_;rintro e b0 ⟨rfl,aj,a8⟩;have aE:=lh aj;have aG:=lh (ag.after (Z.v f) a8 (λi hi=>by simp only[lm]at hi;rw[hi];exact aL.o));clear aj a8 R;go_wp2;exact bodyPost_ret (v:=.pointer (some ⟨z,0,none⟩)) (by simp[results,results127,go_sem]) rfl ⟨_,rfl,by rw[aH.o];exact aE.o,aG.o⟩
def dM:Option ap->List Nat
 | none=>[]
 | some _=>[0]
theorem nK{w:World}{i:Option ap}{p:Value}(a:dF w i p):Calls prog 171 #[p] w λe w'=>∃A c,e=.returned (.slice A (dM i).length c)/\cJ w' w.heap.size (.slice A (dM i).length c) (dM i)/\aa w w':=by
 cases a with
 | nil_ b a =>
   have h:=lh (tD none 0 [] w (Sl.nil_ _ dC) dC);have l:=a.cell 0 _ rfl;have q:=a.lt;simp only[dM,lB]at h|-;clear a;go_enter func171,ntmps171;go_wp2_with (go_at_call 205;refine ae ?_);refine uM h.o ?_;rintro e r ⟨s,o,rfl,g,f⟩;have j:=lh g;have k:=lh f;clear g f;go_wp2;go_ret;exact⟨_,_,rfl,j.o,k.o⟩
 | one b kv lv c m a f hl hc =>
   obtain⟨A,d,rfl,n⟩:=cU f dB dC;have h:=lh (tD A d [0] w n dC);have l:=a.cell 0 _ rfl;have q:=a.lt;simp only[dM,lw,lB,lS]at h l|-;clear a f hl hc n;go_enter func171,ntmps171;go_wp2_with (go_at_call 205;refine ae ?_);refine uM h.o ?_;rintro e r ⟨s,o,rfl,g,f⟩;have j:=lh g;have k:=lh f;clear g f;go_wp2;go_ret;exact⟨_,_,rfl,j.o,k.o⟩
theorem Hr{w:World}{b:Nat}{g c:Value}{m:Cm}(a:ak w b 242 [g,c])(e:iR w 0 c [m]):Rt 244 #[.pointer (some ⟨b,0,none⟩)] w c:=by
 obtain⟨A,d,rfl,f⟩:=cU e kj sP;have h:=a.cell 1 _ rfl;have i:=a.lt;simp only[lw,lB,lS]at h|-;clear a e f;go_enter func244,ntmps244;go_wp2;go_ret;exact⟨rfl,kP⟩
theorem Is{w:World}{b:Nat}{M F:Value}{m:Cm}{c:ap}(z:ak w b 242 [M,F])(y:iR w 0 F [m])(h:bP w c m.v):Rt 204 #[.pointer (some ⟨b,0,none⟩),.int .i64 0] w (.tuple #[m.v,.bool true]):=by
 have C:=lh (λW (hW:aa w W)=>Hr (z.keep hW) (ah.keep y hW));obtain⟨A,d,rfl,L⟩:=cU y kj sP;have J:=lh L;have E:=lh z;obtain⟨k,o,l,n,s,x,i,r,q,j⟩:=m;simp only[lw,lB,lS,Cm.v]at C E|-;clear z y h L;go_enter func204,ntmps204;go_wp2_with (go_at_call 244;refine ae ?_);refine ar ?_;have K:ak (w.alloc (.cells #[.int .u8 0,.slice none 0 0,.slice none 0 0,.slice none 0 0] 237)) w.heap.size 237 [.int .u8 0,.slice none 0 0,.slice none 0 0,.slice none 0 0]:=bH _ _ _;refine(C.o _ kP).mono ?_;rintro e P ⟨rfl,D⟩;have f:=lh (K.keep D);have B:=lh (aa.trans (show aa w _ from kP) D);clear K D;generalize t:w.heap.size=g at f|-;have H:=lh (E.o.keep B.o);have Q:=H.o.cell 1 _ rfl;have a0:=H.o.lt;obtain⟨Z,a1,N,h⟩:=(J.o.keep B.o).at_ 0 sP;subst N;have z0:=h 0 _ rfl;have O:=h 1 _ rfl;have z2:=h 2 _ rfl;have z3:=h 3 _ rfl;simp only[Lf,lE]at z0 O z2 z3;have U:=block_lt_of_cell z0;have V:=f.o.cell 0 _ rfl;have X:=f.o.cell 1 _ rfl;have a3:=f.o.cell 2 _ rfl;have Y:=f.o.cell 3 _ rfl;have a5:=f.o.soft 0;have R:=f.o.soft 1;have a4:=f.o.soft 2;have S:=f.o.soft 3;have T:=f.o.lt;have I:=lh ((((f.o.set 0 (.int .u8 (k:Int))).set 1 (.slice o l n)).set 2 (.slice s x i)).set 3 (.slice r q j))
 have G:=lh ((((B.o.setCell (a:=⟨g,0,none⟩) (lV t) (.int .u8 (k:Int))).setCell (a:=⟨g,1,none⟩) (lV t) (.slice o l n)).setCell (a:=⟨g,2,none⟩) (lV t) (.slice s x i)).setCell (a:=⟨g,3,none⟩) (lV t) (.slice r q j));clear h t C J;go_wp2;generalize (((P.setCell ⟨g,0,none⟩ (.int .u8 (k:Int))).setCell ⟨g,1,none⟩ (.slice o l n)).setCell ⟨g,2,none⟩ (.slice s x i)).setCell ⟨g,3,none⟩ (.slice r q j)=a2 at I G|-;exact bodyPost_ret (v:=.tuple #[.agg #[.int .u8 (k:Int),.slice o l n,.slice s x i,.slice r q j],.bool true]) (zI (fn:=Tryz.f204) (p:=4) (u:=5) (ty:=237) rfl _ _ g #[.int .u8 (k:Int),.slice o l n,.slice s x i,.slice r q j] rfl (BW I.o)) rfl ⟨rfl,G.o⟩
def pX:ap->Nat
 | .arr a=>2*a.length
 | .wrd _=>8192
 | .run r=>2+4*r.length
theorem Po{w:World}{c:ap}{v:Value}(b:bP w c v)(g:Fit c):Rt 174 #[v] w (.int .i64 (pX c:Nat)):=by
 obtain⟨e,d⟩:=g
 cases b with
 | arr a k A c hk b =>
   simp only[ap.W]at d;simp only[pX];generalize a.length=n at d|-;have i:((k:Int)==2)=false:=sO;have j:((k:Int)==3)=false:=sO;have h:¬(k:Int)=2:=oM;have l:¬(k:Int)=3:=oM;have f:IntKind.i64.wrap (2*(n:Int))=((2*n:Nat):Int):=iW oM;clear b e hk;go_enter func174,ntmps174;go_wp2;go_ret;exact⟨dc oM,kP⟩
 | wrd x A c b =>
   simp only[pX];clear b e d;go_enter func174,ntmps174;go_wp2;go_ret;exact⟨rfl,kP⟩
 | run r A c b =>
   simp only[ap.W]at d;simp only[pX];generalize r.length=n at d|-;have f:IntKind.i64.wrap (4*(n:Int))=((4*n:Nat):Int):=iW oM;have m:IntKind.i64.wrap (2+((4*n:Nat):Int))=((2+4*n:Nat):Int):=iW oM;clear b e;go_enter func174,ntmps174;go_wp2;go_ret;exact⟨dc oM,kP⟩
def fp:ap->List UInt8
 | .arr a=>a.flatMap (le · 2)
 | .wrd _=>[]
 | .run r=>le r.length 2++r.flatMap (λp=>le p.1 2++le p.2 2)
theorem qB:∀l:List Nat,(l.flatMap (le · 2)).length=l.length*2
 | []=>rfl
 | x::r=>by simp only[lN,lg,qB r,ay,lw];omega
theorem qz:∀l:List Pr,(l.flatMap (λp=>le p.1 2++le p.2 2)).length=l.length*4
 | []=>rfl
 | x::r=>by simp only[lN,lg,qz r,ay,lw];omega
theorem Qi{w:World}{a:List Nat}{v:Value}(f:bP w (.arr a) v)(h:Fit (.arr a))(I:Tab w):Rb 175 #[v] w (fp (.arr a)):=by
 have i:=lh (λW (hW:aa w W)=>mG (f.keep hW));have r:=lh (λW (hW:aa w W)=>wL (f.keep hW) h (I.keep hW));have U:=lh (show ∀x∈a,x<64 from h.1);have T:a.length<=2000:=h.2;have X:=lh (show a.length<=1000000 from oM);simp only[ap.kind,ap.list,fp]at i r|-;rw[show((1:Nat):Int)=1 from rfl]at i;obtain⟨k,E,z,A,M,R,t,K,F,y,rfl⟩:=tw f;generalize G:a.length=n at T;have l:=lh G;clear f h I G;go_enter func175,ntmps175;go_wp2_with (go_at_call 170;refine ae ?_);refine ar ?_;have J:ak (w.alloc (.cells #[.int .u8 k,.slice E z A,.slice M R t,.slice K F y] 237)) w.heap.size 237 [.int .u8 k,.slice E z A,.slice M R t,.slice K F y]:=bH _ _ _;refine(i.o _ kP).mono ?_;rintro e ao ⟨rfl,p⟩;have b:=lh (J.keep p);have o:=lh (aa.trans (show aa w _ from kP) p);clear J p;have Z:=b.o.cell 0 _ rfl;have a2:=b.o.cell 1 _ rfl;have a9:=b.o.cell 2 _ rfl;have a3:=b.o.cell 3 _ rfl;have Y:=b.o.lt;go_wp2_with (go_at_call 211;refine ae ?_);refine uM (r.o _ o.o) ?_;rintro e a0 ⟨u,rfl,P,O⟩;obtain⟨B,d,rfl,N⟩:=cU P dB X.o;have a8:=lh N;have s:=o.u O;rw[l.o];clear P N O Z a2 a9 a3 Y b o r i;go_wp2;go_loopw [2,15] (λvb vi wr=>∃(k:Nat) (v:Value),k<=n/\vi=.int .i64 k/\v=vb/\Hid (aE wr w.heap.size v ((a.take k).flatMap (le · 2)))/\Hid (aa a0 wr)) (λ_ vi _=>n-(intOf vi).toNat)
 case atStart=>exact⟨0,.slice none 0 0,lj _,rfl,rfl,ah.nil_ _ _ _ _ _,aa.refl _⟩
 case round =>
  obtain⟨j,v,ad,rfl,rfl,m,g⟩:=hrel
  by_cases a7:j<n
  ·have c:j<a.length:=(by rw[l.o];exact a7);obtain⟨ai,aj,a6,af,ab⟩:=gU (a8.o.keep g.o) j c;subst a6;have a4:=U.o a[j] (ll c);have Q:=lh (show(a.take (j+1)).flatMap (le · 2)=(a.take j).flatMap (le · 2)++le a[j] 2 by rw[ly c,lF];simp);have ac:((a.take j).flatMap (le · 2)).length<=j*2:=(by rw[qB,lD];omega);generalize a[j]=x at ab a4 Q;obtain⟨S,a1,D,H⟩:=m.o.sl aO oM;have q:=lh (iG S a1 _ x oM wr H oM);generalize ((a.take j).flatMap (le · 2)).length=al at D q;subst D;clear ac H;go_wp2_with (go_at_call 64;refine ae ?_);refine uM q.o ?_;rintro e ag ⟨v3,rfl,L,C⟩;have a5:=lh (L.base_mono (lk s.o.size g.o.size));have V:=g.u C;clear L C q;go_wp2;go_roundw
   case rel=>exact⟨j+1,v3,oM,by go_num,rfl,(by show aE _ _ _ _;rw[Q.o];exact a5.o),V.o⟩
   case measure=>simp[intOf];omega
  ·have c:j=n:=oM;subst c;rw[<-l.o,lC]at m;go_wp2;exact bodyPost_ret (v:=v) (by simp[results,results175,go_sem]) rfl ⟨_,rfl,m.o,s.o.trans g.o⟩
end Go.Proofs.YtpkocnpamcchcaaGreatDoor
