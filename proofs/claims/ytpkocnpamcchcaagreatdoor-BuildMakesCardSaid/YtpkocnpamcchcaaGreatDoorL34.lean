/- Parts. -/
import Derived.Test.YtpkocnpamcchcaaGreatDoorL33
set_option maxRecDepth 100000
set_option maxHeartbeats 40000000
set_option linter.all false
namespace Go.Proofs.YtpkocnpamcchcaaGreatDoor
open Go.RowKit Go.Zone Go.Shelf Tryz Go.Roa Go.Sym
structure Ir where
 A:Option Addr
 c:Nat
 xs:List Int
def Ir.v(r:Ir):Value:=.slice r.A r.xs.length r.c
def Ir.cells(r:Ir):List Value:=[.slice r.A r.xs.length r.c]
def ge(w:World)(L:List Ir):Prop:=∀r∈L,Sl w 1 bM r.A r.c r.xs
theorem ge.keep{w a:World}{b:List Ir}(c:ge w b)(d:aa w a):ge a b:=λr hr=>(c r hr).keep d
def sJ(x:Int):Value:=.int .i64 x
theorem Oj(A:Option Addr)(c:Nat)(xs:List Int)(g:Nat)(j:Array Value)(p:Int->Bool)(w:World)(z:∀args w,(callFunc g args).run prog w=.ok (.enter g args) w)
 (d:Sl w 1 bM A c xs) (h:jJ prog g j sJ p w) (o:∀x∈xs,p x=false) :
 Rt 178 #[.slice A xs.length c,.func (.func g) #[] j] w (.int .i64 (-1)):=by
 have v:=cE d;have r:=lh h;clear h;have q:=lh o;clear o;go_enter func178,ntmps178;go_wp2;go_loopw [5,8] (λ_ i wr=>∃k:Nat,k<=xs.length/\i=.int .i64 k/\Hid (aa w wr)) (λ_ i _=>xs.length-(intOf i).toNat)
 case atStart=>exact⟨0,lj _,rfl,aa.refl _⟩
 case round =>
  obtain⟨k,C,rfl,a⟩:=hrel
  by_cases l:k<xs.length
  ·have f:=r.o wr xs[k] a.o;rw[q.o xs[k] (ll l)]at f;obtain⟨b,B,rfl,m⟩:=(d.keep a.o).at_ k l;have n:=m 0 _ rfl;have s:=World.block_lt_of_cell? wr _ n;simp only at s;rw[Lb,lE]at n;have u:=lh f;clear d f m;go_wp2_with (go_at_fn g;refine u.o.mono ?_;rintro e y ⟨rfl,t⟩);go_roundw
   case rel=>exact⟨k+1,oM,by go_num,a.o.trans t⟩
   case measure=>simp[intOf];omega
  ·go_wp2;go_ret;exact⟨rfl,a.o⟩
theorem Px(A:Option Addr)(c:Nat)(xs:List Int)(g:Nat)(a:Array Value)(p:Int->Bool)(w:World)(h:∀args w,(callFunc g args).run prog w=.ok (.enter g args) w)
 (b:Sl w 1 bM A c xs) (d:jJ prog g a sJ p w) (e:∀x∈xs,p x=false) :
 Rt 135 #[.slice A xs.length c,.func (.func g) #[] a] w (.bool false):=by
 have j:=lh d;clear d;have f:=lh b;clear b;have i:=lh e;clear e;go_enter func135,ntmps135;go_wp2_with (go_at_call 178;refine uC (Oj A c xs g a p _ h f.o j.o i.o) λp=>?_);go_ret;exact⟨rfl,kP⟩
theorem Oi(A:Option Addr)(c:Nat)(xs:List Ir)(g:Nat)(j:Array Value)(p:Ir->Bool)(w:World)(B:∀args w,(callFunc g args).run prog w=.ok (.enter g args) w)
 (d:Sl w 1 Ir.cells A c xs) (h:jJ prog g j Ir.v p w) (o:∀x∈xs,p x=false) :
 Rt 179 #[.slice A xs.length c,.func (.func g) #[] j] w (.int .i64 (-1)):=by
 have y:=cE d;have r:=lh h;clear h;have q:=lh o;clear o;go_enter func179,ntmps179;go_wp2;go_loopw [5,8] (λ_ i wr=>∃k:Nat,k<=xs.length/\i=.int .i64 k/\Hid (aa w wr)) (λ_ i _=>xs.length-(intOf i).toNat)
 case atStart=>exact⟨0,lj _,rfl,aa.refl _⟩
 case round =>
  obtain⟨k,D,rfl,a⟩:=hrel
  by_cases l:k<xs.length
  ·have f:=r.o wr xs[k] a.o;rw[q.o xs[k] (ll l)]at f;obtain⟨b,C,rfl,m⟩:=(d.keep a.o).at_ k l;have n:=m 0 _ rfl;have s:=World.block_lt_of_cell? wr _ n;simp only at s;rw[Lb,lE]at n;have u:=lh f;clear d f m;go_wp2_with (go_at_fn g;refine u.o.mono ?_;rintro e z ⟨rfl,t⟩);go_roundw
   case rel=>exact⟨k+1,oM,by go_num,a.o.trans t⟩
   case measure=>simp[intOf];omega
  ·go_wp2;go_ret;exact⟨rfl,a.o⟩
theorem Pv(A:Option Addr)(c:Nat)(xs:List Ir)(g:Nat)(a:Array Value)(p:Ir->Bool)(w:World)(h:∀args w,(callFunc g args).run prog w=.ok (.enter g args) w)
 (b:Sl w 1 Ir.cells A c xs) (d:jJ prog g a Ir.v p w) (e:∀x∈xs,p x=false) :
 Rt 136 #[.slice A xs.length c,.func (.func g) #[] a] w (.bool false):=by
 have j:=lh d;clear d;have f:=lh b;clear b;have i:=lh e;clear e;go_enter func136,ntmps136;go_wp2_with (go_at_call 179;refine uC (Oi A c xs g a p _ h f.o j.o i.o) λp=>?_);go_ret;exact⟨rfl,kP⟩
theorem ML(x m:Int)(b e d:Nat)(f j c n:Nat)(A:Option Addr)(w:World)(i:A=some ⟨d,f,none⟩)(q:w.cell? ⟨b,0,none⟩=some (.slice A n c))(k:w.cell? ⟨e,0,none⟩=some (.int .i64 j))(r:j<n)(l:w.cell? ⟨d,f+j,none⟩=some (.int .i64 m)) :
 Rs 134 #[.int .i64 x,.pointer (some ⟨b,0,none⟩),.pointer (some ⟨e,0,none⟩)] w (.bool (decide (x<0)||decide (m<=x))):=by
 have g:=block_lt_of_cell q;have h:=block_lt_of_cell k;have p:=block_lt_of_cell l;simp only at g h p;subst i
 by_cases a:x<0
 ·have o:decide (x<0)=true:=decide_eq_true a;go_enter func134,ntmps134;go_wp2;go_ret;exact⟨by simp[a],rfl⟩
 ·have o:decide (x<0)=false:=decide_eq_false a;go_enter func134,ntmps134;go_wp2;go_ret;exact⟨by simp[a],rfl⟩
theorem MK(r:Ir)(n:Int)(b:Nat)(w:World)(a:w.cell? ⟨b,0,none⟩=some (.int .i64 n)) :
 Rs 137 #[r.v,.pointer (some ⟨b,0,none⟩)] w (.bool ((r.xs.length:Int) != n)):=by
 have d:=block_lt_of_cell a;simp only at d;obtain⟨A,c,xs⟩:=r;show Rs 137 #[.slice A xs.length c,.pointer (some ⟨b,0,none⟩)] w (.bool ((xs.length:Int) != n));go_enter func137,ntmps137;go_wp2;go_ret;exact⟨rfl,rfl⟩
structure tM(sp:List Ir)(many:List Int)(R:Nat):Prop where
 lo:1<=sp.length
 hi:sp.length<=8
 ml:many.length=sp.length
 row:∀r∈sp,r.xs.length=R
 id:∀j (h:j<sp.length) (h2:j<many.length),0<=many[j]/\many[j]<=16777216/\∀x∈sp[j].xs,0<=x/\x<many[j]
theorem GR(A B C:Option Addr)(a b c leaf R:Nat)(sp mt:List Ir)(many:List Int)(w:World)(M:Sl w 1 Ir.cells A a sp)(Z:ge w sp)(a5:Sl w 1 bM B b many)(V:Sl w 1 Ir.cells C c mt)(f:tM sp many R)(aM:mt.length<=256)(aP:1<=leaf)(aQ:leaf<=1000000)(aS:R<=1000000)(a3:∀r∈mt,r.xs.length=R) :
 Rt 83 #[.slice A sp.length a,.slice B many.length b,.slice C mt.length c,.int .i64 leaf] w (.bool true):=by
 have au:=lh M;have aF:=lh Z;have a9:=lh a5;have ad:=lh V;have a6:=lh f;have ai:=lh a3;obtain⟨n,z⟩:∃n,n=sp.length:=⟨_,rfl⟩;have av:=f.lo;have aw:=f.hi;rw[f.ml];rw[<-z]at av aw|-;have aE:=lh z;have ax:=lh (f.ml.trans z.symm);obtain⟨bs,os,aq,a7⟩:=M.at_ 0 oM;have s0:=a7 0 _ rfl;have h:(sp[0]'oM).xs.length=R:=f.row _ (ll _);rw[h]at s0;have E:=block_lt_of_cell s0;simp only[Lf,lE]at s0 E;generalize (sp[0]'oM).A=aR at s0;generalize (sp[0]'oM).c=aI at s0;clear M Z a5 V f a3 z a7 h;subst aq;generalize a2:mt.length=ak at *;have d1:¬((n:Int)<1):=oM;have d2:¬((8:Int)<(n:Int)):=oM;have d3:¬((256:Int)<(ak:Int)):=oM;have ac:¬((leaf:Int)<1):=oM;have al:¬((1000000:Int)<(leaf:Int)):=oM;go_enter func83,ntmps83;go_wp2;have O:aa w ((w.alloc (.cells #[.slice B n b] 24)).alloc (.cells #[.int .i64 R] 3)):=kP;have s:((w.alloc (.cells #[.slice B n b] 24)).alloc (.cells #[.int .i64 R] 3)).cell? ⟨w.heap.size,0,none⟩=some (.slice B n b):=sG;have i:((w.alloc (.cells #[.slice B n b] 24)).alloc (.cells #[.int .i64 R] 3)).cell? ⟨w.heap.size+1,0,none⟩=some (.int .i64 R):=sG;generalize (w.alloc (.cells #[.slice B n b] 24)).alloc (.cells #[.int .i64 R] 3)=ag at O s i|-;generalize w.heap.size=q at s i|-;generalize q+1=t at i|-;have ay:=lh O;have ah:=lh s;have aj:=lh i;have G:=block_lt_of_cell s;have Q:=block_lt_of_cell i;simp only at G Q
 clear O s i s0 d1 d2 d3 ac al E;go_loopw [47] (λvi wr=>∃j:Nat,j<=n/\vi=.int .i64 j/\Hid (aa ag wr)) (λvi _=>n-(intOf vi).toNat)
 case atStart=>exact⟨0,lj _,rfl,aa.refl _⟩
 case round =>
  obtain⟨j,aG,rfl,k⟩:=hrel;have J:=(k.o.cell (p:=⟨q,0,none⟩) G).trans ah.o;have N:=(k.o.cell (p:=⟨t,0,none⟩) Q).trans aj.o;have az:=lp G k.o.size;have ao:=lp Q k.o.size;have g:=ay.o.trans k.o
  by_cases ap:j<n
  ·have L:j<sp.length:=(by have:=aE.o;omega);have H:j<many.length:=(by have:=ax.o;omega);obtain⟨aH,aK,a1,a4⟩:=(au.o.keep g).at_ j L;simp only[lQ,Addr.mk.injEq,and_true]at a1;obtain⟨rfl,rfl⟩:=a1;have s0:=a4 0 _ rfl;have h:sp[j].xs.length=R:=a6.o.row _ (ll _);rw[h,Lb,lE]at s0;have E:=block_lt_of_cell s0;simp only at E;obtain⟨T,U,aC,ab,K⟩:=eZ (a9.o.keep g) j H;obtain⟨i0,X,i2⟩:=a6.o.id j L H;have a0:=(aF.o sp[j] (ll _)).keep g;have o:∀x∈sp[j].xs,(decide (x<0)||decide (many[j]<=x))=false:=λx hx=>by
    have:=i2 x hx;simp only[Bool.or_eq_false_iff,decide_eq_false_iff_not];omega
   have d:=lh (λ(W:World) (hW:aa wr W) (lb:Array Value) (hp:jJ prog 134 lb sJ (λx=>decide (x<0)||decide (many[j]<=x)) W)=>Px sp[j].A sp[j].c sp[j].xs 134 lb _ W (enters_of func134 kR rfl) (a0.keep hW) hp o);rw[h]at d;have S:=lh K;generalize sp[j].A=aL at s0 d;generalize sp[j].c=aN at s0 d;generalize many[j]=D at K i0 X d S;subst aC;have aO:¬(D<0):=oM;have aJ:¬((16777216:Int)<D):=oM;clear a4 h a0 o i2 g L H i0 X;go_wp2_with (go_at_call 135;refine ae ?_);refine ar ?_;have y:aa wr (wr.alloc (.cells #[.int .i64 j] 3)):=aa.alloc (aa.refl _) _;have P:(wr.alloc (.cells #[.int .i64 j] 3)).cell? ⟨wr.heap.size,0,none⟩=some (.int .i64 j):=sG;have m:jJ prog 134 #[.pointer (some ⟨q,0,none⟩),.pointer (some ⟨wr.heap.size,0,none⟩)] sJ (λx=>decide (x<0)||decide (D<=x)) (wr.alloc (.cells #[.int .i64 j] 3)):=λW x hW=>by
    have a8:=y.trans hW;refine(ML x D q wr.heap.size T U j b n _ W rfl ((a8.cell (p:=⟨q,0,none⟩) az).trans J) ((hW.cell (p:=⟨wr.heap.size,0,none⟩) (block_lt_of_cell P)).trans P) ap ((a8.cell (p:=⟨T,U+j,none⟩) ab).trans S.o)).mono ?_;rintro e aD ⟨rfl,rfl⟩;exact⟨rfl,aa.refl _⟩
   have Y:=lh (d.o _ y _ m);have aA:=lh y;clear y P m d;refine Y.o.mono ?_;rintro e af ⟨rfl,l⟩;have F:=aA.u l;clear l Y K s0 J N;go_wp2;go_roundw
   case rel=>exact⟨j+1,oM,by go_num,k.o.trans F.o⟩
   case measure=>simp[intOf];omega
  ·have m:jJ prog 137 #[.pointer (some ⟨t,0,none⟩)] Ir.v (λr=>(r.xs.length:Int) != (R:Int)) wr:=λW x hW=>by
    refine(MK x R t W ((hW.cell (p:=⟨t,0,none⟩) ao).trans N)).mono ?_;rintro e aD ⟨rfl,rfl⟩;exact⟨rfl,aa.refl _⟩
   have o:∀r∈mt,((r.xs.length:Int) != (R:Int))=false:=λr hr=>by
    have:=ai.o r hr;simp[this]
   have I:=Pv C c mt 137 #[.pointer (some ⟨t,0,none⟩)] _ wr (enters_of func137 kR rfl) (ad.o.keep g) m o;rw[a2]at I;have d:=lh I;have aB:=lh g;clear m o I g a2;go_wp2_with (go_at_call 136;refine ae ?_);refine uM d.o ?_;rintro e af ⟨rfl,l⟩;have F:=lh l;clear l J N;go_wp2;go_ret;exact⟨rfl,aB.o.trans F.o⟩
theorem Fp(b:Value)(w:World):Rt 138 #[.slice none 0 0,b] w (.tuple #[]):=by
 have d:∀W,Rt 220 #[.slice none 0 0,.int .i64 0,.int .i64 0,b] W (.tuple #[]):=λW=>by
  go_enter func220,ntmps220;go_wp2;refine wp_loop_rounds 1 ?_;rw[rounds_succ];go_wp2;go_end0;exact⟨rfl,kP⟩
 have f:=lh d;have g:∀W,Rt 180 #[.slice none 0 0,.int .i64 0,b] W (.tuple #[]):=λW=>by
  go_enter func180,ntmps180;go_wp2;refine wp_loop_rounds 1 ?_;rw[rounds_succ];go_wp2_with (go_at_call 220;refine ae ?_);refine uM (f.o _) ?_;rintro e h ⟨rfl,a⟩;have c:=lh a;clear a;go_wp2;refine wp_loop_rounds 1 ?_;rw[rounds_succ];go_wp2;go_end0;exact⟨rfl,c.o⟩
 have i:=lh g;clear d g f;go_enter func138,ntmps138;go_wp2_with (go_at_call 180;refine ae ?_);refine uM (i.o _) ?_;rintro e h ⟨rfl,a⟩;have c:=lh a;clear a;go_wp2;go_end0;exact⟨rfl,c.o⟩
theorem Gi(w:World):Rt 84 #[.slice none 0 0] w (.slice none 0 0):=by
 have c:=lh (Fp (.func (.func 139) #[] #[]) w);go_enter func84,ntmps84;go_wp2_with (go_at_call 138;refine ae ?_);refine uM c.o ?_;rintro e d ⟨rfl,a⟩;have b:=lh a;clear a;go_wp2;refine wp_loop_rounds 1 ?_;rw[rounds_succ];go_wp2;go_ret;exact⟨rfl,b.o⟩
def fk(sp:List Ir)(i j:Nat):List Int:=((sp.take j).map λr=>r.xs.getD i 0)++List.replicate (8-j) 0
theorem qd(sp:List Ir)(i j:Nat)(a:j<=sp.length)(b:j<=8):(fk sp i j).length=8:=by
 simp[fk];omega
theorem IP(sp:List Ir)(i j:Nat)(a:j<sp.length)(b:j<8):(fk sp i j).set j (sp[j].xs.getD i 0)=fk sp i (j+1):=by
 unfold fk;rw[Lg _ _ sO,ly a,show 8-j=(8-(j+1))+1 from oM,List.replicate_succ];simp only[ld,lD,lz,lG,L3];rw[show j-min j sp.length=0 from oM,List.set_cons_zero,lr];rfl
def eC(mt:List Ir)(i:Nat):List SM:=mt.map λr=>(r.xs.getD i 0,r.xs.getD i 0,r.xs.getD i 0)
def eH(sp mt:List Ir)(i:Nat):Star.SR:=⟨fk sp i sp.length,1,eC mt i⟩
def bV(sp mt:List Ir)(R:Nat):List Star.SR:=(List.range R).map (eH sp mt)
def cellsOf(a:List Int)(n:Int)(v:Value):List Value:=(a.map λx=>Value.int .i64 x)++[.int .i64 n,v]
theorem cellsOf_set(a:List Int)(n:Int)(v:Value)(j:Nat)(x:Int)(b:j<a.length):(cellsOf a n v).set j (.int .i64 x)=cellsOf (a.set j x) n v:=by
 unfold cellsOf;rw[List.set_append_left _ _ (by simpa using b),List.map_set]
theorem PW(a:List Int)(n:Int)(v u:Value)(b:a.length=8):(cellsOf a n v).set 9 u=cellsOf a n u:=by
 unfold cellsOf;rw[Lg _ _ sO];simp[b]
theorem Jl:∀(g:List Int),g.length=8->∀(n:Int) (A:Option Addr) (l c:Nat),∃r:Rc,r.ids=g/\r.n=n/\r.A=A/\r.l=l/\r.c=c/\r.cells=cellsOf g n (.slice A l c)
 | [a,b,c',d,e,f,x,y],_,n,A,l,c=>⟨⟨a,b,c',d,e,f,x,y,n,A,l,c⟩,rfl,rfl,rfl,rfl,rfl,rfl⟩
open Go.Star
attribute [local go_sem ↓] kx
attribute [local go_sem] kU kJ kH kG
theorem Hn(A B C:Option Addr)(a b c leaf R:Nat)(sp mt:List Ir)(many:List Int)(w:World)(aP:Sl w 1 Ir.cells A a sp)(bh:ge w sp)(co:Sl w 1 bM B b many)(b4:Sl w 1 Ir.cells C c mt)(c1:ge w mt)(a4:tM sp many R)(c6:mt.length<=256)(bo:1<=leaf)(dq:leaf<=1000000)(dS:R<=1000)(bt:∀r∈mt,r.xs.length=R) :
 Calls prog 36 #[.slice A sp.length a,.slice B many.length b,.slice C mt.length c,.int .i64 leaf] w λe L=>∃t vr vn P N,e=.returned (.tuple #[.pointer (some ⟨t,0,none⟩),.int .i64 0])/\dN L t w.heap.size sp.length mt.length leaf vr vn P N /\
  (P.map λp=>p.2)=(bC leaf sp.length 0 0 (bN (bV sp mt R)).length false (bN (bV sp mt R)) 0).1/\(N.map λp=>p.2)=(bC leaf sp.length 0 0 (bN (bV sp mt R)).length false (bN (bV sp mt R)) 0).2/\aa w L:=by
 have bf:=lh (GR A B C a b c leaf R sp mt many w aP bh co b4 a4 c6 bo dq oM bt);have dg:=lh aP;have dy:=lh bh;have cJ:=lh b4;have cW:=lh c1;have du:=lh a4;have cZ:=lh bt;obtain⟨n,aE⟩:∃n,n=sp.length:=⟨_,rfl⟩;have dk:=a4.lo;have bw:=a4.hi;rw[<-aE]at dk bw;obtain⟨bs,os,dh,cu⟩:=aP.at_ 0 oM;have s0:=cu 0 _ rfl;have I:(sp[0]'oM).xs.length=R:=a4.row _ (ll _);rw[I]at s0;have V:=block_lt_of_cell s0;simp only[Lf,lE]at s0 V;generalize (sp[0]'oM).A=dR at s0;generalize (sp[0]'oM).c=dD at s0;have M:=lh aE;have cz:=lh s0;obtain⟨m,aM⟩:∃m,m=mt.length:=⟨_,rfl⟩;have au:=lh aM;obtain⟨ck,cm⟩:∃ck,ck=many.length:=⟨_,rfl⟩;rw[<-aE,<-aM,<-cm]at bf|-;rw[<-aM]at c6;clear aP bh co b4 c1 a4 bt aE cu I s0 aM cm;subst dh;go_enter func36,ntmps36;go_wp2_with (go_at_call 83;refine ae ?_);refine uM bf.o ?_;rintro e a7 ⟨rfl,aT⟩;have s0:=(aT.cell (p:=⟨bs,os,none⟩) V).trans cz.o;have cG:=lp V aT.size;have bd:=lh aT;clear aT bf;have d1:¬((16777216:Int)<(R:Int)):=oM;go_wp2;have G:=bH a7 153 (nf n m leaf (.slice none 0 0) (.slice none 0 0));have G:ak (a7.alloc (.cells #[.int .i64 n,.int .i64 m,.int .i64 leaf,.slice none 0 0,.slice none 0 0] 153)) a7.heap.size 153 (nf n m leaf (.slice none 0 0) (.slice none 0 0)):=G
 have bv:aa w (a7.alloc (.cells #[.int .i64 n,.int .i64 m,.int .i64 leaf,.slice none 0 0,.slice none 0 0] 153)):=bd.o.trans (aa.alloc (aa.refl _) _);have b7:=lh bd.o.size;generalize a7.alloc (.cells #[.int .i64 n,.int .i64 m,.int .i64 leaf,.slice none 0 0,.slice none 0 0] 153)=s at G bv|-;generalize a7.heap.size=t at G b7|-;have dt:=lh G;have aQ:=lh bv;clear G bv s0 cG bd d1;go_loopw [11,41] (λvo vi wr=>∃(i:Nat) (P:List (Rc×Star.SR)),i<=R/\vi=.int .i64 i/\Hid (bX wr s.heap.size vo (P.map λp=>p.1))/\Hid (dV wr s.heap.size P)/\Hid ((P.map λp=>p.2)=(bV sp mt R).take i)/\Hid (i=0->vo=.slice none 0 0)/\Hid (aa s wr)) (λ_ vi _=>R-(intOf vi).toNat)
 case atStart=>exact⟨0,[],lj _,rfl,ah.nil_ _ _ _ _ _,(λ_ o=>(by cases o)),rfl,(λ_=>rfl),aa.refl _⟩
 case round =>
  obtain⟨i,P,hi,rfl,X,aL,af,cI,J⟩:=hrel;have bD:P.length=i:=by
   have:=congrArg List.length af.o
   simpa[bV,Nat.min_eq_left hi]using this
  have aA:=lh bD;obtain⟨a1,a3,bJ⟩:=bp X.o;rw[ld,bD]at bJ;subst bJ;clear bD
  by_cases df:i<R
  ·go_upto_region 12 with fail;have F:=bH wr 158 (cellsOf (fk sp i 0) 1 (.slice none 0 0));have F:ak (wr.alloc (.cells #[.int .i64 0,.int .i64 0,.int .i64 0,.int .i64 0,.int .i64 0,.int .i64 0,.int .i64 0,.int .i64 0,.int .i64 1,.slice none 0 0] 158)) wr.heap.size 158 (cellsOf (fk sp i 0) 1 (.slice none 0 0)):=F;have E:aa wr (wr.alloc (.cells #[.int .i64 0,.int .i64 0,.int .i64 0,.int .i64 0,.int .i64 0,.int .i64 0,.int .i64 0,.int .i64 0,.int .i64 1,.slice none 0 0] 158)):=aa.alloc (aa.refl _) _;generalize wr.alloc (.cells #[.int .i64 0,.int .i64 0,.int .i64 0,.int .i64 0,.int .i64 0,.int .i64 0,.int .i64 0,.int .i64 0,.int .i64 1,.slice none 0 0] 158)=cQ at F E|-;have bb:=lh (lk aQ.o.size J.o.size);have bI:=lh J.o.size;have aV:=J.u E;have cS:=lh (X.o.keep E);have cT:=lh (aL.o.keep E);have cD:a1=none\/True:=.inr trivial;have bx:=lh (show ∀b,(Value.slice a1 i a3).ownBlock=some b->b<wr.heap.size from λb hb=>(X.o.lt b hb).2);have b1:=lh (show ∀p∈P,∀b,jH p.1=some b->b<wr.heap.size from λp f b hb=>((aL.o p f).own.lt b hb).2);generalize wr.heap.size=D at F bb bI bx b1|-;have c4:=lh F;clear F E cD X aL J;go_loopw [47] (λvj wq=>∃j:Nat,j<=n/\vj=.int .i64 j/\Hid (ak wq D 158 (cellsOf (fk sp i j) 1 (.slice none 0 0)))/\Hid (ag cQ wq [D])) (λvj _=>n-(intOf vj).toNat)
   case atStart=>exact⟨0,lj _,rfl,c4.o,ag.refl _ _⟩
   case round =>
    clear c4;obtain⟨j,dA,rfl,h,a8⟩:=hrel;have ax:aa w wr:=ag.after (aQ.v aV) a8.o (λb hb=>by simp at hb;have:=bb.o;omega)
    by_cases cK:j<n
    ·have bl:j<sp.length:=(by have:=M.o;omega);obtain⟨dB,dK,cc,aq⟩:=(dg.o.keep ax).at_ j bl;simp only[lQ,Addr.mk.injEq,and_true]at cc;obtain⟨rfl,rfl⟩:=cc;have s0:=aq 0 _ rfl;have I:sp[j].xs.length=R:=du.o.row _ (ll _);have S:i<sp[j].xs.length:=oM;obtain⟨cC,dz,ap,d8,ao⟩:=eZ ((dy.o sp[j] (ll _)).keep ax) i S;have bg:=IP sp i j bl oM;have al:sp[j].xs.getD i 0=sp[j].xs[i]:=(by rw[L9,lu S];rfl);rw[al]at bg;have cM:=qd sp i j oM oM;obtain⟨bz,aK⟩:∃bz,(cellsOf (fk sp i j) 1 (.slice none 0 0))[j]? =some bz:=⟨_,lu (by simp[cellsOf];omega)⟩;have dL:=h.o.cell j _ aK;have dM:=h.o.soft j;have aU:=h.o.lt;have V:=block_lt_of_cell s0;simp only at V;rw[I,ap,Lb,lE]at s0;have ba:=h.o.set j (.int .i64 sp[j].xs[i]);rw[cellsOf_set _ _ _ _ _ oM,bg]at ba;have cb:=lh ba;have ch:=lh (ag.set wr ⟨D,j,none⟩ (.int .i64 sp[j].xs[i]));generalize sp[j].xs[i]=z at ao cb ch;generalize sp[j].c=dc at s0;obtain⟨dQ,d0⟩:∃z9,bz=.int .i64 z9:=by
      have db:(cellsOf (fk sp i j) 1 (.slice none 0 0))[j]? =some (.int .i64 ((fk sp i j)[j]'oM)):=by
       unfold cellsOf;rw[LI sO,lP,lu oM];rfl
      rw[db]at aK;exact⟨_,(ls aK).symm⟩
     subst d0;have dO:j<8:=oM;clear aq I S bg al cM aK ba ap bl ax;go_wp2;go_roundw
     case rel=>exact⟨j+1,oM,by go_num,cb.o,a8.o.trans ch.o⟩
     case measure=>simp[intOf];omega
    ·have d9:j=n:=oM;subst d9;obtain⟨aw,d2⟩:∃aw,aw=wr:=⟨_,rfl⟩;subst d2;have b6:=qd sp i j (by have:=M.o;omega) oM;have Y:=lh b6;have cl:=lh (show fk sp i j=fk sp i sp.length by rw[<-M.o]);generalize fk sp i j=bj at h b6 Y cl;have dp:=lh ax;clear ax cK b6;go_wp2;go_loopw [63] (λvj wq=>∃(d:Nat) (ay:Value),d<=m/\vj=.int .i64 d/\Hid (kp wq aw.heap.size ay ((eC mt i).take d))/\Hid ((eC mt i).take d=[]->ay=.slice none 0 0)/\Hid (ak wq D 158 (cellsOf bj 1 ay))/\Hid (ag aw wq [D])) (λvj _=>m-(intOf vj).toNat)
     case atStart=>exact⟨0,.slice none 0 0,lj _,rfl,ah.nil_ _ _ _ _ _,λ_=>rfl,h.o,ag.refl _ _⟩
     case round =>
      clear h;obtain⟨d,ay,dP,rfl,ac,cd,h,a5⟩:=hrel;have aH:aa w wr:=ag.after dp.o a5.o (λb hb=>by simp at hb;have:=bb.o;omega);have aG:((eC mt i).take d).length=d:=(by rw[lD];simp[eC];have:=au.o;omega);obtain⟨bk,cs,cn⟩:=bp ac.o;rw[aG]at cn;have bc:wr.cell? ⟨D,9,none⟩=some ay:=h.o.cell 9 _ (by unfold cellsOf;rw[LE (by simp[Y.o])];simp[Y.o]);subst cn
      by_cases dG:d<m
      ·have b0:d<mt.length:=(by have:=au.o;omega);obtain⟨dE,dH,rfl,aq⟩:=(cJ.o.keep aH).at_ d b0;have s0:=aq 0 _ rfl;have I:mt[d].xs.length=R:=cZ.o _ (ll _);have S:i<mt[d].xs.length:=oM;obtain⟨cC,dz,ap,d8,ao⟩:=eZ ((cW.o mt[d] (ll _)).keep aH) i S;have al:mt[d].xs.getD i 0=mt[d].xs[i]:=(by rw[L9,lu S];rfl);have V:=block_lt_of_cell s0;simp only at V;rw[I,ap,Lb,lE]at s0;have aZ:=lh (show(eC mt i).take (d+1)=(eC mt i).take d++[(mt[d].xs[i],mt[d].xs[i],mt[d].xs[i])] by
        rw[ly (by simp[eC];exact b0)];simp only[eC,Lj];rw[al])
       have cH:=lh ao;generalize mt[d].xs[i]=z at ao aZ cH;generalize mt[d].c=dc at s0;have aU:=h.o.lt;have c0:=h.o.soft 9;have bS:=lh aG;clear aq I S al ap b0 aH aG;go_upto_region 19 with fail
       first|refine Zone.wp_region_m_gro 1 16 kR kR ?_|refine jK 1 16 kR kR ?_
       simp only[lX,lR,lZ,L4]
       repeat (refine jL _ (by rfl) (λ_=>by rfl) ?_)
       refine jM ?_
       repeat
        refine aR (λK hK=>?_);go_simp
        first
        | (refine hK _ _ ?_;clear hK K)
        | (apply Exists.intro
           refine⟨λp=>?_,hK _ _ ?_⟩
           (fail)
           clear hK K)
       refine bW 82 (λu W=>∃a9:Nat,u=.slice (some ⟨a9,0,none⟩) 1 1/\Sl W 3 jP (some ⟨a9,0,none⟩) 1 [(z,z,z)]) rfl (λ_ W W' bm ⟨a9,q,ab⟩=>⟨a9,q,ab.keep bm⟩) ?_ ?_
       ·intro p;rw[bZ (by rfl)];simp only[aj];unfold av;go_simp;exact⟨br _ dC dC (λjj u hu=>by
         match jj,hu with
         | 0,hu=>cases hu;simp[go_sem]
         | 1,hu=>cases hu;simp[go_sem]
         | 2,hu=>cases hu;simp[go_sem]),aa.alloc (aa.refl _) _⟩
       refine bG ?_;intro p;simp only[aj];rintro dI ⟨a9,rfl,b2⟩;have E:aa wr (wr.gro p):=kP;generalize wr.gro p=dw at E b2|-;have b3:=h.o.keep E;have H:=ac.o.keep E;have b8:=lh (a5.o.trans (ag.keep E _));clear E h ac a5 bc aU c0 ao s0;go_simp;refine aD Dy nt yG rfl (.tmp 68) (.tmp 82) rfl (ys:=[(z,z,z)]) H rfl rfl b2 (by rw[bS.o];simp;omega) b8.o.size ?_;intro v9 az O Z _;obtain⟨aC,aI,bU⟩:=bp O;rw[lg,bS.o,lJ]at bU;subst bU;have a2:ak az D 158 (cellsOf bj 1 (.slice bk d cs)):=de b3 Z (bu H b3 dC);have di:=lh (bu O a2 dC);have cY:=lh (b8.o.trans_up (ag.of_grown Z) λb hb=>(H.lt b (by simpa using hb)).1);have bB:=lh O;have dr:=lh a2;have bc:az.cell? ⟨D,9,none⟩=some (.slice bk d cs):=a2.cell 9 _ (by unfold cellsOf;rw[LE (by simp[Y.o])];simp[Y.o]);have c0:=a2.soft 9;have aU:=a2.lt;clear O Z a2 H b3 b8 b2;go_simp;go_wp2
       (try rw[fQ])
       go_wp2;go_roundw
       case rel =>
        refine⟨d+1,.slice aC (d+1) aI,oM,by go_num,?_,?_,?_,cY.o.trans (ag.set az ⟨D,9,none⟩ (.slice aC (d+1) aI))⟩
        ·show kp _ _ _ _;rw[aZ.o];exact ah.turn bB.o (ag.set az ⟨D,9,none⟩ (.slice aC (d+1) aI)) λb hb=>by
          simp only[lm]at hb;subst hb;exact di.o
        ·show _->_;intro e;rw[aZ.o]at e;simp at e
        ·show ak _ _ _ _;have o:=dr.o.set 9 (.slice aC (d+1) aI)
         rwa [PW _ _ _ _ Y.o]at o
       case measure=>simp[intOf];omega
      ·have cV:d=m:=oM;subst cV;have bL:(eC mt i).take d=eC mt i:=lM (by simp[eC];have:=au.o;omega);rw[bL]at ac cd;obtain⟨r,c2,G,F,ce,cv,cp⟩:=Jl bj Y.o 1 bk d cs;have aS:=h.o;rw[<-cp]at aS;have dn:fw wr D 0=some (.agg #[.int .i64 r.i0,.int .i64 r.i1,.int .i64 r.i2,.int .i64 r.i3,.int .i64 r.i4,.int .i64 r.i5,.int .i64 r.i6,.int .i64 r.i7,.int .i64 r.n,.slice r.A r.l r.c]):=nE (x:=r) λjj u hu=>(by simpa using aS.cell jj u hu);have bP:bX wr s.heap.size (.slice a1 i a3) (P.map λp=>p.1):=(ah.turn cS.o a8.o (λb hb e=>by simp only[lm]at hb;subst hb;have:=bx.o b e;omega)).turn a5.o (λb hb e=>by simp only[lm]at hb;subst hb;have:=bx.o b e;omega);have ci:dV wr s.heap.size P:=λp f=>((cT.o p f).turn a8.o (λb hb e=>by simp only[lm]at hb;subst hb;have:=b1.o p f b e;omega)).turn a5.o (λb hb e=>by simp only[lm]at hb;subst hb;have:=b1.o p f b e;omega);have bK:aa s wr:=ag.after (ag.after aV.o a8.o (λb hb=>by simp only[lm]at hb;subst hb;exact bI.o)) a5.o (λb hb=>by simp only[lm]at hb;subst hb;exact bI.o);have dx:s.heap.size<=aw.heap.size:=lk aV.o.size a8.o.size;have cy:eN wr s.heap.size r (eH sp mt i):=⟨by rw[c2,cl.o];rfl,G,by
        have o:=ac.o.base_mono dx;unfold Rc.sv;rw[F,ce,cv];exact o,λe=>by
        have o:=cd.o e;injection o with q _ _;rw[F];exact q⟩
       have cF:=lh bP;have da:=lh ci;have cA:=lh bK;have cP:=lh cy;have aU:=aS.lt;clear bL cp aS bP ci bK cy c2 G F ce cv aH bc aG;go_wp2_with (at_builtin;refine ae ?_);refine ar ?_;have bq:Sl (wr.alloc (.cells #[.int .i64 r.i0,.int .i64 r.i1,.int .i64 r.i2,.int .i64 r.i3,.int .i64 r.i4,.int .i64 r.i5,.int .i64 r.i6,.int .i64 r.i7,.int .i64 r.n,.slice r.A r.l r.c] 158)) 10 Rc.cells (some ⟨wr.heap.size,0,none⟩) 1 [r]:=br _ oM oM λjj u hu=>(bH wr 158 r.cells).cell jj u hu;have a6:aa wr (wr.alloc (.cells #[.int .i64 r.i0,.int .i64 r.i1,.int .i64 r.i2,.int .i64 r.i3,.int .i64 r.i4,.int .i64 r.i5,.int .i64 r.i6,.int .i64 r.i7,.int .i64 r.n,.slice r.A r.l r.c] 158)):=aa.alloc (aa.refl _) _;generalize wr.alloc (.cells #[.int .i64 r.i0,.int .i64 r.i1,.int .i64 r.i2,.int .i64 r.i3,.int .i64 r.i4,.int .i64 r.i5,.int .i64 r.i6,.int .i64 r.i7,.int .i64 r.n,.slice r.A r.l r.c] 158)=dw at bq a6|-;have H:=lh (cF.o.keep a6);have cO:=lh (da.o.keep a6);have bO:=cA.u a6;have cq:=lh (cP.o.keep a6);refine aD tj fx qe rfl (.tmp 86) (.tmp 88) rfl (ys:=[r]) H.o rfl rfl bq (by rw[ld,aA.o];simp;omega) bO.o.size ?_;intro v9 az O Z _;have bB:=lh O;have c7:=lh (ag.of_grown Z);have dj:=lh (H.o.kept Z bO.o (lc _));clear O Z bq a6 dn;go_wp2;go_roundw
       case rel =>
        have cj:∀b∈(Value.slice a1 i a3).ownBlock.toList,(Value.slice a1 i a3).ownBlock=some b:=λb hb=>(by simpa using hb);refine⟨i+1,P++[(r,eH sp mt i)],oM,by go_num,?_,?_,?_,(λe=>absurd e (Nat.succ_ne_zero i)),dj.o⟩
        ·show bX _ _ _ _;rw[lz];exact bB.o
        ·show dV _ _ _;intro p f
         rcases lx.1 f with f|f
         ·exact dV.turn cO.o H.o dC c7.o cj p f
         ·rw[lm]at f;subst f;exact cq.o.turn c7.o λb hb=>cN H.o cq.o.own dC b (cj b hb)
        ·show List.map _ _=_;rw[lz,af.o,ly (by simp[bV];exact df)];simp[bV]
       case measure=>simp[intOf];omega
  ·have dv:i=R:=oM;subst dv;have c8:(bV sp mt i).take i=bV sp mt i:=lM (by simp[bV]);rw[c8]at af;have bT:∀p∈P,p.2.sums.length=m:=λp f=>by
    have q:p.2∈P.map (λp=>p.2):=Le f;rw[af.o]at q;obtain⟨x,_,aY⟩:=lW.1 q;rw[<-aY,au.o];simp[eH,eC]
   have bY:Calls prog 84 #[.slice a1 i a3] wr λe L=>∃v Q,e=.returned v/\bX L s.heap.size v (Q.map λp=>p.1)/\dV L s.heap.size Q/\(Q.map λp=>p.2)=bN (bV sp mt i)/\aa s L:=by
    rcases Nat.eq_zero_or_pos i with aF|aF
    ·have d6:=cI.o aF;subst aF;rw[d6];refine(Gi wr).mono ?_;rintro e L ⟨rfl,bm⟩;exact⟨_,[],rfl,ah.nil_ _ _ _ _ _,(λ_ o=>(by cases o)),rfl,J.o.trans bm⟩
    ·obtain⟨g,rfl,-⟩:=fh X.o (by rw[ld,aA.o];exact aF);have dl:=(X.o.lt g rfl).1;have o:=xO g a3 s.heap.size m P wr (by rw[aA.o];exact X.o) aL.o (by rw[aA.o];omega) oM bT;rw[aA.o]at o;refine o.mono ?_;rintro e L ⟨v,Q,rfl,q,ab,_,cX,d3⟩;exact⟨v,Q,rfl,q.base_mono J.o.size,ab.base J.o.size,by rw[cX,af.o],ag.after J.o d3 (λb hb=>by simp only[lm]at hb;subst hb;exact dl)⟩
   have c9:=lh bY;clear c8 bT bY;go_wp2_with (go_at_call 84;refine ae ?_);refine uM c9.o ?_;rintro e ai ⟨v,Q,rfl,aN,b5,ad,bE⟩;obtain⟨T,a0,c5⟩:=bp aN;rw[ld]at c5;subst c5;have U:=dt.o.keep bE;have cr:w.heap.size<=s.heap.size:=aQ.o.size;have dJ:Q.length<=i:=by
    have q:=congrArg List.length ad;rw[ld]at q;have ab:=ma (bV sp mt i);simp only[bV,ld,LB]at ab;simp only[bV]at q;omega
   have aO:=ag.set ai ⟨t,3,none⟩ (.slice T Q.length a0);have cw:dN (ai.setCell ⟨t,3,none⟩ (.slice T Q.length a0)) t w.heap.size n m leaf (.slice T Q.length a0) (.slice none 0 0) Q []:=⟨U.set 3 _,b7.o,(aN.base_mono cr).turn aO (λb hb=>by simp only[lm]at hb;subst hb;exact bu aN U dC),λp f=>((b5 p f).base cr).turn aO (λb hb=>by simp only[lm]at hb;subst hb;exact bu (b5 p f).own U dC),ah.nil_ _ _ _ _ _,(λ_ o=>(by cases o)),λp f=>by
    have q:p.2∈Q.map (λp=>p.2):=Le f;rw[ad]at q;refine(qY (k:=8) (m:=m) (λx aY=>?_) p.2 q).2;obtain⟨y,_,rfl⟩:=lW.1 aY;exact⟨by simp only[eH];exact qd sp y sp.length (lc _) (by have:=M.o;omega),by simp[eH,eC,au.o]⟩⟩
   have aB:=lh cw;have bF:=lh (show aa w (ai.setCell ⟨t,3,none⟩ (.slice T Q.length a0)) from ag.after (aQ.o.trans bE) aO (λb hb=>by simp only[lm]at hb;subst hb;exact b7.o));have bA:=lh ad;have c3:Q.length=(bN (bV sp mt i)).length:=(by rw[<-ad,ld]);have aJ:=lh c3;have bn:=U.cell 3 _ rfl;have cE:=U.soft 3;have dd:=U.lt;clear aN b5 ad bE U cw aO c9 c3;go_upto_region 24 with fail;have bR:w.heap.size<=(ai.setCell ⟨t,3,none⟩ (.slice T Q.length a0)).heap.size:=bF.o.size;generalize ai.setCell ⟨t,3,none⟩ (.slice T Q.length a0)=d7 at aB bF bR|-;clear bn cE dd;have bn:=aB.o.row.cell 3 _ rfl;have cR:=aB.o.row.lt;have b9:=sR leaf n bo bw (bN (bV sp mt i)) (by rw[<-aJ.o];omega);have aX:=C6 leaf n m w.heap.size bw bo oM n t 0 0 Q.length false (.slice T Q.length a0) (.slice none 0 0) Q [] d7 oM aB.o (lj _) (lc _) bR (by rw[bA.o,aJ.o];exact b9.1) (by rw[bA.o,aJ.o];simpa using b9.2);rw[bA.o]at aX;have cx:=lh aX;clear aX b9;go_wp2_with (go_at_call 85;refine ae ?_);refine uM cx.o ?_;rintro e dF ⟨rfl,d5,d4,ds,cU,bQ,cf,ca,_,cg⟩;have ct:=lh bQ;have cB:=lh cf;have dm:=lh ca;have cL:=lh (Gw.after bF.o cg (lc _));clear bQ cf ca cg bn cR cx;go_wp2;have aW:=cB.o;have bi:=dm.o;rw[aJ.o]at aW bi;rw[M.o]at aW bi ct
   exact bodyPost_ret (v:=.tuple #[.pointer (some ⟨t,0,none⟩),.int .i64 0]) (by simp[results,results36,go_sem]) rfl ⟨t,d5,d4,ds,cU,rfl,by rw[M.o];exact ct.o,by rw[M.o];exact aW,by rw[M.o];exact bi,cL.o⟩
structure iH(W w0:World)(bb:Nat)(bs:List UInt8):Prop where
 ex:∃v,ak W bb 31 [v]/\aE W w0.heap.size v bs
 lo:w0.heap.size<=bb
 keep:aa w0 W
def km(W W':World):Prop:=∀i T vs,T≠31->T≠5->ak W i T vs->ak W' i T vs
theorem km.refl(W:World):km W W:=λ_ _ _ _ _ h=>h
theorem km.trans{a b c:World}(d:km a b)(k:km b c):km a c:=λi T vs h1 h2 hr=>k i T vs h1 h2 (d i T vs h1 h2 hr)
theorem km.keep{W W':World}(h:aa W W'):km W W':=λi T vs _ _ hr=>hr.keep h
theorem iH.keep'{b W' d:World}{c:Nat}{bs:List UInt8}(e:iH b d c bs)(a:aa b W'):iH W' d c bs:=by
 obtain⟨⟨v,f,g⟩,h,i⟩:=e;exact⟨⟨v,f.keep a,g.keep a⟩,h,i.trans a⟩
def aP(x:Int)(s:Nat):List UInt8:=le (u64 x) s
theorem gQ(x:Int)(c a:Nat)(a8:c<=8)(bs:List UInt8)(g w:World)(O:iH w g a bs)(a5:bs.length<=1000000000000) :
 Calls prog 87 #[.int .i64 x,.int .i64 c,.pointer (some ⟨a,0,none⟩)] w λe w'=>e=.returned (.tuple #[])/\iH w' g a (bs++aP x c)/\km w w':=by
 have M:IntKind.u64.wrap x=((u64 x:Nat):Int):=eO x;have B:u64 x<18446744073709551616:=by unfold u64;omega
 unfold aP;generalize u64 x=X at M B|-;have E:=lh O;clear O;go_enter func87,ntmps87;go_wp2;go_loopw [5,9] (λvx vi wr=>∃(k m:Nat),k<=c/\m<18446744073709551616/\vi=.int .i64 k/\vx=.int .u64 m/\Hid (m=X/256^k)/\Hid (iH wr g a (bs++le X k))/\Hid (km w wr)) (λ_ vi _=>c-(intOf vi).toNat)
 case atStart=>exact⟨0,X,lj _,B,rfl,rfl,(by show _=_;simp),(by show iH _ _ _ _;simp only[le,lT];exact E.o),km.refl _⟩
 case round =>
  clear E M B;obtain⟨k,m,a4,a7,rfl,rfl,H,I,K⟩:=hrel;obtain⟨⟨v,p,A⟩,R,z⟩:=I.o;have j:=lh p;have t:=lh A;have s:=lh R;have F:=lh z;have C:=p.cell 0 _ rfl;have P:=p.lt;obtain⟨r,u,a2⟩:=bp A;subst a2;have a9:=z.size;clear p A R z I;generalize y:(bs++le X k).length=d at C j t;have G:=lh y;have a3:d<=1000000000008:=by rw[<-y,lg,ay];omega
  clear y
  by_cases a6:k<c
  ·have N:=j.o.soft 0;go_wp2_with (at_builtin;refine ae ?_);refine ar ?_;have b:aa wr (wr.alloc (.cells #[.int .u8 ((m:Int)%256)] 5)):=aa.alloc (aa.refl _) _;have h:aE (wr.alloc (.cells #[.int .u8 ((m:Int)%256)] 5)) g.heap.size (.slice r d u) (bs++le X k):=t.o.keep b;refine aD bQ aO bT rfl (.tmp 11) (.tmp 14) rfl (ys:=[UInt8.ofNat m]) h rfl rfl (br _ oM oM (ed _ (by rw[dH];simp[go_sem]))) (by rw[G.o];simp;omega) sO ?_;intro ab q o n _;obtain⟨D,L,S⟩:=bp o;rw[lg,G.o,lJ]at S;subst S;have f:ak q a 31 [.slice r d u]:=de (j.o.keep b) n (bu h (j.o.keep b) dC);have Z:=lh (show km wr q from λi T vs l h2 hr=>de (hr.keep b) n (bu h (hr.keep b) h2));have V:=lh (show aa g q from ah.kept h n (F.o.trans b) (lc _));have Y:=lh o;have J:=lh f;have W:=lh (bu o f dC);clear C P N;have C:=f.cell 0 _ rfl;have N:=f.soft 0;have P:=f.lt;clear o n f h b;have a1:m/256<18446744073709551616:=oM;go_wp2;go_roundw
   case rel =>
    refine⟨k+1,m/256,oM,a1,by go_num,by go_num,(by show _=_;rw[H.o,Nat.div_div_eq_div_mul,Nat.pow_succ]),⟨⟨.slice D (d+1) L,J.o.set 0 _,?_⟩,s.o,?_⟩,?_⟩
    ·have l:aE _ _ _ _:=ah.turn Y.o (ag.set q ⟨a,0,none⟩ (.slice D (d+1) L)) λi hi=>by
      simp only[lm]at hi;subst hi;exact W.o
     rw[H.o,lr]at l;exact l
    ·exact V.o.setCell s.o _
    ·exact(K.o.trans Z.o).trans λi T vs l h2 hr=>hr.other 0 _ (λe=>by
      subst e;exact row_ne hr J.o l rfl)
   case measure=>simp[intOf];omega
  ·have a0:k=c:=oM;subst a0;have Q:iH wr g a (bs++le X k):=⟨⟨.slice r d u,j.o,t.o⟩,s.o,F.o⟩;have U:=lh Q;clear Q;go_wp2;go_end0;exact⟨rfl,U.o,K.o⟩
end Go.Proofs.YtpkocnpamcchcaaGreatDoor
