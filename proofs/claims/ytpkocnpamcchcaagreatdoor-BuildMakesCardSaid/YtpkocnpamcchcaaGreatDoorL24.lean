/- Parts. -/
import Derived.Test.YtpkocnpamcchcaaGreatDoorL19
set_option maxRecDepth 100000
set_option maxHeartbeats 40000000
set_option linter.all false
namespace Go.Proofs.YtpkocnpamcchcaaGreatDoor
open Go.RowKit Go.Zone Go.Shelf Tryz Go.Roa Go.Sym
def oZ(s:Nat)(a b:List ai):Bool:=decide (dA (a.getD s ej) (b.getD s ej)<0)
def dj(s:Int)(rows:List (List ai)):List (List ai):=if 0<=s then dO (oZ s.toNat) rows else rows
def fe(s:Nat)(x y:Rw):Int:=dA (x.vs.getD s ej) (y.vs.getD s ej)
theorem sk:cF (λx y:ai=>decide (dA x y<0)):=by
 constructor
 ·intro a b d;rw[decide_eq_true_iff,jG]at d;rw[decide_eq_false_iff_not,jG];exact λk=>cz.irrefl _ (d.trans k)
 ·intro a b c g e;rw[decide_eq_false_iff_not,jG]at g e|-;intro f
  rcases cz.tri a b with d|d|d
  ·exact e (f.trans d)
  ·subst d;exact e f
  ·exact g d
theorem Kq(s:Nat):cF (oZ s):=⟨λa b=>sk.asym _ _,λa b c=>sk.trans _ _ _⟩
theorem qi(s:Nat):cF (bJ (fe s)):=⟨λa b=>sk.asym _ _,λa b c=>sk.trans _ _ _⟩
theorem G4(i a:Nat)(x y:Rw)(w:World)(E:w.cell? ⟨i,0,none⟩=some (.int .i64 a))(h:Sl w 3 ai.cells x.A x.c x.vs)(o:Sl w 3 ai.cells y.A y.c y.vs)(l:a<x.vs.length)(e:a<y.vs.length) :
 Rt 62 (#[.slice x.A x.vs.length x.c,.slice y.A y.vs.length y.c]++#[.pointer (some ⟨i,0,none⟩)]) w (.int .i64 (fe a x y)):=by
 obtain⟨M,f,b⟩:=x;obtain⟨I,m,d⟩:=y;simp only at h o l e;obtain⟨j,k,C,O,s,t,r⟩:=dL h a l;obtain⟨g,q,D,F,B,d1,d2⟩:=dL o a e;subst C;subst D;have z:=lh (show fe a ⟨some ⟨j,k,none⟩,f,b⟩ ⟨some ⟨g,q,none⟩,m,d⟩=dA b[a] d[a] by unfold fe;simp[l,e]);rw[show fe a ⟨some ⟨j,k,none⟩,f,b⟩ ⟨some ⟨g,q,none⟩,m,d⟩=dA b[a] d[a]from z.o];have n:=lh (λW=>DY b[a] d[a] W);have P:=block_lt_of_cell E;generalize b[a]=u at s t r n|-;generalize d[a]=v at B d1 d2 n|-;obtain⟨H,G,us⟩:=u;obtain⟨J,N,L⟩:=v;simp only at s t r B d1 d2;clear z h o;show Calls prog 62 #[.slice (some ⟨j,k,none⟩) b.length f,.slice (some ⟨g,q,none⟩) d.length m,.pointer (some ⟨i,0,none⟩)] w _;go_enter func62,ntmps62;go_wp2;refine zR kR ?_
 repeat
  refine aR (λK hK=>?_);go_simp
  first
  | (refine hK _ _ ?_;clear hK K)
  | (apply Exists.intro
     refine⟨λp=>?_,hK _ _ ?_⟩
     ((go_at_call 63;exact Zone.zc (n.o _)))
     clear hK K)
 refine bG ?_;intro p;simp only[aj];go_wp2;go_ret;exact⟨rfl,kP⟩
theorem GV(f:Nat)(b:Array Value)(a:Rw->Rw->Int)(i:Rw->Prop)(h:World)(g c base n:Nat)(xs:List Rw)(w:World)(j:cF (bJ a))(r:mV f b a i h g)(t:∀x∈xs,i x)(o:ag h w [g])(u:xs.length=n)(m:cw w base (.slice (some ⟨g,0,none⟩) n c) xs)(l:n<=1000000000) :
 Calls prog 61 #[.slice (some ⟨g,0,none⟩) n c,.func (.func f) #[] b] w λe d=>e=.returned (.tuple #[])/\cw d base (.slice (some ⟨g,0,none⟩) n c) (dO (bJ a) xs)/\ag w d [g]:=by
 have q:=lh (GU f b a i h g c base n xs w j r t o u m l);have z:=lh j;clear j r t o u m l;go_enter func61,ntmps61;go_wp2_with (go_at_call 104;refine ae ?_);refine uM q.o ?_;rintro e d ⟨rfl,ys,k,p,s⟩;have v:=lh (rB z.o k);have A:=lh p;have y:=lh s;clear k p s q;go_wp2;go_end0;exact⟨rfl,by rw[<-v.o];exact A.o,y.o⟩
theorem Qp{cs:List aG}{rows:List (List ai)}(a:da cs rows=0):∀r∈rows,r.length=cs.length:=λr hr=>by
 unfold da at a
 split at a
 ·cases a
 ·split at a
  ·cases a
  ·rename_i hb;have b:eS cs r=false:=by
    cases hq:eS cs r
    ·rfl
    ·exact absurd (List.any_eq_true.2 ⟨r,hr,hq⟩) hb
   unfold eS at b;rw[Bool.or_eq_false_iff]at b
   simpa using b.1
theorem F9(A B:Option Addr)(n m d:Nat)(cs:List aG)(c:bw)(rows:List Rw)(w:World)(J:Sl w 2 aG.cells A n cs)(a4:∀x∈cs,x.name.size<=140737488355328)(a7:ff w c)(a6:Fits cs c)(Z:c.sort=(d:Int))(ab:d<cs.length)
 (l:Sl w 1 Rw.cells B m rows) (K:dG w rows) (a0:rows.length<=1000000000) (F:∀r∈rows,r.vs.length<=1000000000) (he:da cs (rows.map (·.vs))=0) :
 Calls prog 28 #[.slice A cs.length n,c.v,.slice B rows.length m] w λe w'=>∃g,e=.returned (.tuple #[.slice (some ⟨g,0,none⟩) rows.length rows.length,.int .i64 0])/\∃f,cw w' w.heap.size (.slice (some ⟨g,0,none⟩) rows.length rows.length) f/\(∀r∈f,iS w' w.heap.size r)/\f.map (·.vs)=dO (oZ d) (rows.map (·.vs))/\aa w w':=by
 have ah:=lh (λW (hW:aa w W)=>fits_any A n cs c W (J.keep hW) a4 (a7.keep hW));have E:=lh (λW (hW:aa w W)=>uh A B n m cs rows W (J.keep hW) a4 (l.keep hW) (K.keep hW));have au:=lh (λW (hW:aa w W)=>xT B m rows W (l.keep hW) (K.keep hW) a0 F);have aQ:=ew a6;have aJ:=lh (Qp he);have aB:=lh F;have aA:=lh ab;rw[he]at E;obtain⟨s0,a3,V,O,aj,ap,R,a8,X,sp,aw⟩:=c;simp only at Z;subst Z;simp only[bw.v];clear J a7 a6 l K F he ab;go_enter func28,ntmps28;go_upto_region 1 with fail;have h:cV w (w.alloc (.cells #[.int .i64 d,.slice a3 O.length V,.slice aj R.length ap,.slice a8 sp.length X,.int .i64 aw] 26)) [.int .i64 d,.slice a3 O.length V,.slice aj R.length ap,.slice a8 sp.length X,.int .i64 aw]:=cV.start (t:=26) (aa.refl _);generalize ay:World.alloc w _=aP at h|-;have G:=h.lt;have I:=h.at_ 0 _ rfl;have S:=h.at_ 1 _ rfl;have a9:=h.at_ 2 _ rfl;have a5:=h.at_ 3 _ rfl;have a2:=h.at_ 4 _ rfl;have o:=lh h.keep;have T:=lh I;clear ay h;generalize aI:w.heap.size=q at G I S a9 a5 a2 T|-;clear aI;go_wp2_with (go_at_call 55;refine ae ?_);refine uM (ah.o _ o.o) ?_;rintro e aR ⟨rfl,N⟩;have M:=lh N;clear I S a9 a5 a2 ah N;go_wp2_with (go_at_call 59;refine ae ?_);refine uM (E.o _ (o.v M)) ?_;rintro e Y ⟨rfl,ar⟩;have s:=M.u ar;clear ar;go_wp2_with (go_at_call 60;refine ae ?_);refine uM (au.o _ (o.v s)) ?_
 rintro e H ⟨g,rfl,f,k,D,C,ac⟩;have ad:=s.u ac;have al:=lh (o.v s).size;have aO:q<Y.heap.size:=lp G s.o.size;have P:=bE ad.o G T.o;have aH:q<H.heap.size:=block_lt_of_cell P;have Q:f.length=rows.length:=by have:=congrArg List.length C;simpa using this
 have av:Y.heap.size<=g:=(k.lt g rfl).1;have ak:=lh (show ∀W,aa H W->mV 62 #[.pointer (some ⟨q,0,none⟩)] (fe d) (λx=>Sl W 3 ai.cells x.A x.c x.vs/\d<x.vs.length/\∀bb off,x.A=some ⟨bb,off,none⟩->bb≠g) W g from λW hW=>by
  refine⟨enters_of func62 kR rfl,λW' x y hx hy ht=>?_⟩;refine G4 q d x y W' ?_ (hx.1.turn ht λbb off e j=>hx.2.2 bb off e (by simpa using j)) (hy.1.turn ht λbb off e j=>hy.2.2 bb off e (by simpa using j)) hx.2.1 hy.2.1;exact ht.cell ((hW.cell (p:=⟨q,0,none⟩) aH).trans P) sO)
 have U:=lh (show ∀W,aa H W->∀x∈f,Sl W 3 ai.cells x.A x.c x.vs/\d<x.vs.length/\∀bb off,x.A=some ⟨bb,off,none⟩->bb≠g from λW hW x hx=>by
  have j:x.vs∈rows.map (·.vs):=by rw[<-C];exact Le hx
  have aS:=aJ.o x.vs j;have aM:x.vs.length<=1000000000:=by
   obtain⟨r,l,e⟩:=lW.1 j;rw[<-e];exact aB.o r l
  refine⟨((D x hx).sl oM).keep hW,by have:=aA.o;omega,λbb off e=>?_⟩;obtain⟨b,L,az,z,a1⟩:=D x hx;rw[L]at e;injection e with e;injection e with e1 e2;subst e1;intro aF;subst aF;exact bu k z dC rfl)
 have ao:=lh k;have aC:=lh D;have aL:=lh C;have aD:=lh Q;have aK:=lh (show w.heap.size<=g from lk (o.v s).size av);clear ac k D C Q au E av;go_wp2_with (go_at_call 61;refine ae ?_);refine uM (GV 62 _ (fe d) _ _ g _ _ _ f _ (qi d) (ak.o _ (aa.refl _)) (U.o _ (aa.refl _)) (ag.refl _ _) aD.o ao.o a0) ?_;rintro e aN ⟨rfl,k,aq⟩;have aE:=lh k;have af:=lh aq;clear k aq ak U;go_wp2;exact bodyPost_ret (v:=.tuple #[.slice (some ⟨g,0,none⟩) rows.length rows.length,.int .i64 0]) (by simp[results,results28,go_sem]) rfl ⟨g,rfl,dO (bJ (fe d)) f,aE.o.base_mono al.o,λr l=>by
  have ax:=(rC (qi d) f r).1 l;obtain⟨b,L,az,z,a1⟩:=aC.o r ax;refine⟨b,L,by have:=al.o;omega,af.o.row z (λj=>?_),a1⟩;simp at j;subst j;exact bu ao.o z dC rfl,by
  have:=pP (lt:=bJ (fe d)) (lt':=oZ d) (λr:Rw=>r.vs) (λa b=>rfl) f;rw[this,aL.o],ag.after (o.v ad) af.o (λi hi=>by simp at hi;subst hi;exact aK.o)⟩
theorem Ge(A B:Option Addr)(n m:Nat)(cs:List aG)(c:bw)(rows:List Rw)(w:World)(i:Sl w 2 aG.cells A n cs)(k:∀x∈cs,x.name.size<=140737488355328)(l:ff w c)(d:Fits cs c)
 (h:Sl w 1 Rw.cells B m rows) (j:dG w rows) (f:rows.length<=1000000000) (o:∀r∈rows,r.vs.length<=1000000000) (he:da cs (rows.map (·.vs))=0) :
 Calls prog 28 #[.slice A cs.length n,c.v,.slice B rows.length m] w λe w'=>∃g,e=.returned (.tuple #[.slice (some ⟨g,0,none⟩) rows.length rows.length,.int .i64 0])/\∃L,cw w' w.heap.size (.slice (some ⟨g,0,none⟩) rows.length rows.length) L/\(∀r∈L,iS w' w.heap.size r)/\L.map (·.vs)=dj c.sort (rows.map (·.vs))/\aa w w':=by
 rcases d.sort with a|a
 ·have e:dj c.sort (rows.map (·.vs))=rows.map (·.vs):=by unfold dj;rw[a];rfl
  rw[e];exact F7 A B n m cs c rows w i k l d a h j f o he
 ·obtain⟨s,q⟩:=nR a;obtain⟨b,e⟩:∃b:Nat,c.sort=(b:Int):=⟨c.sort.toNat,oM⟩;have p:dj c.sort (rows.map (·.vs))=dO (oZ b) (rows.map (·.vs)):=by unfold dj;rw[e,if_pos oM];rfl
  rw[p];exact F9 A B n m b cs c rows w i k l d e oM h j f o he
end Go.Proofs.YtpkocnpamcchcaaGreatDoor
