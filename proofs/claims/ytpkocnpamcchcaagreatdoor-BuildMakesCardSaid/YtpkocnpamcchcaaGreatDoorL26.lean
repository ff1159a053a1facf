/- Parts. -/
import Derived.Deep.CutBlock
import Derived.Test.YtpkocnpamcchcaaGreatDoorL23
set_option maxRecDepth 100000
set_option maxHeartbeats 40000000
set_option linter.all false
namespace Go.Proofs.YtpkocnpamcchcaaGreatDoor
open Go.RowKit Go.Zone Go.Shelf Tryz Go.Roa Go.Sym
def lenV:Value->Nat
 | .slice _ n _=>n
 | _=>0
theorem Sl.tail{e:Type}{w:World}{b a c k:Nat}{enc:e->List Value}{x:e}{xs:List e}(d:Sl w k enc (some ⟨b,a,none⟩) c (x::xs)):Sl w k enc (some ⟨b,a+k,none⟩) (c-1) xs:=by
 have h:=d.cap;have g:=d.len;have n:=d.big;simp only[lw]at h g;refine⟨oM,oM,oM,λi hi=>?_⟩;obtain⟨o,m,f,l⟩:=d.at_ (i+1) sO;injection f with f;injection f with e1 e2;subst e1;subst e2;refine⟨b,a+k,rfl,λj u hu=>?_⟩;have:=l j u (by simpa using hu)
 rwa [show a+k+i*k+j=a+(i+1)*k+j by rw[lH];omega]
theorem yM:∀W:World,(sizeOf (prog.elem 230)).run prog W=.ok 1 W:=λW=>by
 obtain⟨i,hi,c,a,b⟩:=iN (show(prog.info? (prog.elem 230)).map (λi=>(i.zero,i.size,i.bytes))=some (some (.int .u16 0),1,2) from kR);simp[sizeOf,typeInfo,hi,a]
theorem rE{w:World}{b a c n m:Nat}{x:Nat}{r:List Nat}(d:Sl w 1 cT (some ⟨b,a,none⟩) c (x::r))(e:n=r.length+1)(g:m=r.length) :
 ∃A2,(∀W,(Instr.sliceAt 230 (.slice (some ⟨b,a,none⟩) n c) (some (.int .i64 1)) none none).run prog W=.ok (.slice A2 m (c-1)) W)/\Sl w 1 cT A2 (c-1) r:=by
 have i:=d.cap;have j:=d.big;simp only[lw]at i;subst g
 by_cases f:c=1
 ·have h:r=[]:=Ly oM;subst h;refine⟨some ⟨b,a,none⟩,λW=>?_,Sl.nil_ _ oM⟩;rw[run_sliceAt_slice W _ _ _ _ _ kR,run_slice_l W _ _ _ _ kR .i64 1 dC (by simp at e;omega),yM W];simp only[Result.andThen_ok,sliced];subst e f;rfl
 ·refine⟨some ⟨b,a+1,none⟩,λW=>?_,Sl.tail d⟩;rw[run_sliceAt_slice W _ _ _ _ _ kR,run_slice_l W _ _ _ _ kR .i64 1 dC oM,yM W];simp only[Result.andThen_ok,sliced];rw[if_neg (by simpa using f)];subst e;rfl
theorem qH(x y:Bool)(w:World):Rt 258 #[.bool x,.bool y] w (.bool true):=by
 go_enter func258,ntmps258;go_wp2;go_ret;exact⟨rfl,kP⟩
theorem QA(A B:Option Addr)(c d:Nat)(a b:List Nat)(w:World)(av:Sl w 1 cT A c a)(aj:Sl w 1 cT B d b)(aq:a.length<=10000)(ax:b.length<=10000) :
 Calls prog 257 #[.slice A a.length c,.slice B b.length d,.func (.func 258) #[] #[]] w λe w'=>∃v,e=.returned v/\cJ w' w.heap.size v (cO a b)/\aa w w':=by
 have al:=lh av;have aw:=lh aj;have ap:=lh aq;have ak:=lh ax;clear av aj aq ax;obtain⟨va,a6⟩:∃va,va=Value.slice A a.length c:=⟨_,rfl⟩;obtain⟨Q,af⟩:∃Q,Q=Value.slice B b.length d:=⟨_,rfl⟩;have ai:=lh a6;have ao:=lh af;rw[<-a6,<-af];clear a6 af;go_enter func257,ntmps257;go_wp2;go_loopw [0,1,7] (λva Q vo wr=>∃(ag a4:Option Addr) (T d':Nat) (R J f:List Nat) (v:Value),va=.slice ag R.length T/\Q=.slice a4 J.length d'/\v=vo/\Hid (Sl w 1 cT ag T R)/\Hid (Sl w 1 cT a4 d' J)/\Hid (cJ wr w.heap.size v f)/\Hid (f++cO R J=cO a b)/\Hid (f.length+R.length+J.length<=20000)/\Hid (aa w wr)) (λva Q _ _=>lenV va+lenV Q)
 case atStart=>exact⟨A,B,c,d,a,b,[],.slice none 0 0,ai.o,ao.o,rfl,al.o,aw.o,ah.nil_ _ _ _ _ _,rfl,(by show 0+a.length+b.length<=20000;have:=ap.o;have:=ak.o;omega),aa.refl _⟩
 case round =>
  clear al aw ap ak ai ao;obtain⟨ag,a4,T,d',R,J,f,v,rfl,rfl,rfl,H,G,K,O,q,i⟩:=hrel;obtain⟨N,S,au⟩:=bp K.o;generalize aJ:f.length=P at au;clear aJ;subst au
  cases R with
  | nil =>
    cases J with
    | nil =>
      have M:=lh (show f=cO a b by have:=O.o;rw[Kw,lT]at this;exact this);simp only[lB];go_wp2;exact bodyPost_ret (v:=.slice N P S) (by simp[results,results257,go_sem]) rfl ⟨_,rfl,by rw[<-M.o];exact K.o,i.o⟩
    | cons y s =>
      obtain⟨aO,aN,ad,aB,z0⟩:=gU (G.o.keep i.o) 0 sP;subst ad;have a9:=G.o.cap;simp only[Ld,lE]at z0;have F:(y::s).length=s.length+1:=rfl;generalize (y::s).length=m at F a9|-;have U:=lh F;have aK:((m:Int)==0)=false:=sO;have aH:decide (0<m)=true:=sO;have aF:0<m:=oM;have aM:(1:Int)<=(m:Int):=oM;have aR:(m:Int)<=(d':Int):=oM;obtain⟨az,a3,W⟩:=rE G.o F rfl;generalize X:s.length=aS at a3;have I:=lh X;have a0:=lh W;clear F W X;simp only[lB];go_wp2;go_quiet (fail);go_wp2;go_quiet (fail);go_wp2;go_quiet (fail);go_wp2_with (go_at_call 258;refine ae ?_);refine uM (qH _ _ _) ?_;rintro e p ⟨rfl,l⟩;have g:=lh (show aa wr p from aa.trans kP l);clear l;go_wp2_with (at_builtin;refine ae ?_);refine ar ?_;have h:cJ (p.alloc (.cells #[.int .u16 (y:Int)] 126)) w.heap.size (.slice N P S) f:=K.o.keep (g.o.trans (aa.alloc (aa.refl _) _));refine aD iy dB ig rfl (.tmp 69) (.tmp 71) rfl (ys:=[y]) h rfl rfl (br _ oM oM (λj u hu=>by match j,hu with|0,hu=>cases hu;simp[go_sem])) (by have:=q.o;simp;omega) (by have:=(i.v g).size;simp;omega) ?_;intro D E k o _;have z:=lh (show aa w E from h.kept o ((i.v g).alloc _) (lc _));have C:=lh k;clear k o h;go_wp2;go_roundw
      case rel=>exact⟨_,_,_,_,[],s,f++[y],D,rfl,(by rw[I.o]),rfl,(by exact Sl.nil_ _ H.o.big),a0.o,C.o,(by show f++[y]++_=_;have:=O.o;rw[uY]at this;rw[<-this,lr];rfl),(by show _<=_;have:=q.o;simp at this|-;omega),z.o⟩
      case measure=>simp[lenV];have:=U.o;have:=I.o;omega
  | cons x r =>
    cases J with
    | nil =>
      obtain⟨aG,aQ,a7,aE,a5⟩:=gU (H.o.keep i.o) 0 sP;subst a7;have ab:=H.o.cap;simp only[Ld,lE]at a5;have t:(x::r).length=r.length+1:=rfl;generalize (x::r).length=n at t ab|-;have Z:=lh t;have ay:((n:Int)==0)=false:=sO;have aT:decide (0<n)=true:=sO;have aL:0<n:=oM;have aP:(1:Int)<=(n:Int):=oM;have aA:(n:Int)<=(T:Int):=oM;obtain⟨aI,a8,Y⟩:=rE H.o t rfl;generalize V:r.length=aC at a8;have L:=lh V;have a1:=lh Y;clear t Y V;simp only[lB];go_wp2;go_quiet (fail);go_wp2;go_quiet (fail);go_wp2;go_quiet (fail);go_wp2_with (go_at_call 258;refine ae ?_);refine uM (qH _ _ _) ?_;rintro e p ⟨rfl,l⟩;have g:=lh (show aa wr p from aa.trans kP l);clear l;go_wp2_with (at_builtin;refine ae ?_);refine ar ?_;have h:cJ (p.alloc (.cells #[.int .u16 (x:Int)] 126)) w.heap.size (.slice N P S) f:=K.o.keep (g.o.trans (aa.alloc (aa.refl _) _));refine aD iy dB ig rfl (.tmp 69) (.tmp 71) rfl (ys:=[x]) h rfl rfl (br _ oM oM (λj u hu=>by match j,hu with|0,hu=>cases hu;simp[go_sem])) (by have:=q.o;simp;omega) (by have:=(i.v g).size;simp;omega) ?_;intro D E k o _;have z:=lh (show aa w E from h.kept o ((i.v g).alloc _) (lc _));have C:=lh k;clear k o h;go_wp2;go_roundw
      case rel=>exact⟨_,_,_,_,r,[],f++[x],D,(by rw[L.o]),rfl,rfl,a1.o,(by exact Sl.nil_ _ G.o.big),C.o,(by show f++[x]++_=_;have:=O.o;rw[u4]at this;rw[<-this,lr];rfl),(by show _<=_;have:=q.o;simp at this|-;omega),z.o⟩
      case measure=>simp[lenV];have:=Z.o;have:=L.o;omega
    | cons y s =>
      obtain⟨aG,aQ,a7,aE,a5⟩:=gU (H.o.keep i.o) 0 sP;subst a7;have ab:=H.o.cap;simp only[Ld,lE]at a5;have t:(x::r).length=r.length+1:=rfl;generalize (x::r).length=n at t ab|-;have Z:=lh t;have ay:((n:Int)==0)=false:=sO;have aT:decide (0<n)=true:=sO;have aL:0<n:=oM;have aP:(1:Int)<=(n:Int):=oM;have aA:(n:Int)<=(T:Int):=oM;obtain⟨aI,a8,Y⟩:=rE H.o t rfl;generalize V:r.length=aC at a8;have L:=lh V;have a1:=lh Y;clear t Y V;obtain⟨aO,aN,ad,aB,z0⟩:=gU (G.o.keep i.o) 0 sP;subst ad;have a9:=G.o.cap;simp only[Ld,lE]at z0;have F:(y::s).length=s.length+1:=rfl;generalize (y::s).length=m at F a9|-;have U:=lh F;have aK:((m:Int)==0)=false:=sO;have aH:decide (0<m)=true:=sO;have aF:0<m:=oM;have aM:(1:Int)<=(m:Int):=oM;have aR:(m:Int)<=(d':Int):=oM;obtain⟨az,a3,W⟩:=rE G.o F rfl;generalize X:s.length=aS at a3;have I:=lh X;have a0:=lh W;clear F W X
      by_cases a2:x<y
      ·have d1:decide (x<=y)=true:=sO;have d2:decide (y<=x)=false:=sO;have M:=lh (show f++[x]++cO r (y::s)=cO a b by have:=O.o;rw[uZ _ _ _ _ a2]at this;rw[<-this,lr];rfl);clear a2;go_wp2;go_quiet (fail);go_wp2;go_quiet (fail);go_wp2;go_quiet (fail);go_wp2_with (go_at_call 258;refine ae ?_);refine uM (qH _ _ _) ?_;rintro e p ⟨rfl,l⟩;have g:=lh (show aa wr p from aa.trans kP l);clear l;go_wp2_with (at_builtin;refine ae ?_);refine ar ?_;have h:cJ (p.alloc (.cells #[.int .u16 (x:Int)] 126)) w.heap.size (.slice N P S) f:=K.o.keep (g.o.trans (aa.alloc (aa.refl _) _));refine aD iy dB ig rfl (.tmp 69) (.tmp 71) rfl (ys:=[x]) h rfl rfl (br _ oM oM (λj u hu=>by match j,hu with|0,hu=>cases hu;simp[go_sem])) (by have:=q.o;simp;omega) (by have:=(i.v g).size;simp;omega) ?_;intro D E k o _;have z:=lh (show aa w E from h.kept o ((i.v g).alloc _) (lc _));have C:=lh k;clear k o h;go_wp2;go_roundw
       case rel=>exact⟨_,_,_,_,r,y::s,f++[x],D,(by rw[L.o]),(by rw[U.o];rfl),rfl,a1.o,G.o,C.o,M.o,(by show _<=_;have:=q.o;simp at this|-;omega),z.o⟩
       case measure=>simp[lenV];have:=Z.o;have:=L.o;omega
      ·by_cases ac:y<x
       ·have d1:decide (x<=y)=false:=sO;have d2:decide (y<=x)=true:=sO;have M:=lh (show f++[y]++cO (x::r) s=cO a b by have:=O.o;rw[u6 _ _ _ _ ac]at this;rw[<-this,lr];rfl);clear a2 ac;go_wp2;go_quiet (fail);go_wp2;go_quiet (fail);go_wp2;go_quiet (fail);go_wp2_with (go_at_call 258;refine ae ?_);refine uM (qH _ _ _) ?_;rintro e p ⟨rfl,l⟩;have g:=lh (show aa wr p from aa.trans kP l);clear l;go_wp2_with (at_builtin;refine ae ?_);refine ar ?_;have h:cJ (p.alloc (.cells #[.int .u16 (y:Int)] 126)) w.heap.size (.slice N P S) f:=K.o.keep (g.o.trans (aa.alloc (aa.refl _) _));refine aD iy dB ig rfl (.tmp 69) (.tmp 71) rfl (ys:=[y]) h rfl rfl (br _ oM oM (λj u hu=>by match j,hu with|0,hu=>cases hu;simp[go_sem])) (by have:=q.o;simp;omega) (by have:=(i.v g).size;simp;omega) ?_;intro D E k o _;have z:=lh (show aa w E from h.kept o ((i.v g).alloc _) (lc _));have C:=lh k;clear k o h;go_wp2;go_roundw
        case rel=>exact⟨_,_,_,_,x::r,s,f++[y],D,(by rw[Z.o];rfl),(by rw[I.o]),rfl,H.o,a0.o,C.o,M.o,(by show _<=_;have:=q.o;simp at this|-;omega),z.o⟩
        case measure=>simp[lenV];have:=U.o;have:=I.o;omega
       ·have aU:x=y:=oM;subst aU;have d1:decide (x<=x)=true:=sP;have M:=lh (show f++[x]++cO r s=cO a b by have:=O.o;rw[u7]at this;rw[<-this,lr];rfl);clear a2 ac;go_wp2;go_quiet (fail);go_wp2;go_quiet (fail);go_wp2;go_quiet (fail);go_wp2;go_quiet (fail);go_wp2_with (go_at_call 258;refine ae ?_);refine uM (qH _ _ _) ?_;rintro e p ⟨rfl,l⟩;have g:=lh (show aa wr p from aa.trans kP l);clear l;go_wp2_with (at_builtin;refine ae ?_);refine ar ?_;have h:cJ (p.alloc (.cells #[.int .u16 (x:Int)] 126)) w.heap.size (.slice N P S) f:=K.o.keep (g.o.trans (aa.alloc (aa.refl _) _));refine aD iy dB ig rfl (.tmp 69) (.tmp 71) rfl (ys:=[x]) h rfl rfl (br _ oM oM (λj u hu=>by match j,hu with|0,hu=>cases hu;simp[go_sem])) (by have:=q.o;simp;omega) (by have:=(i.v g).size;simp;omega) ?_;intro D E k o _;have z:=lh (show aa w E from h.kept o ((i.v g).alloc _) (lc _));have C:=lh k;clear k o h;go_wp2;go_roundw
        case rel=>exact⟨_,_,_,_,r,s,f++[x],D,(by rw[L.o]),(by rw[I.o]),rfl,a1.o,a0.o,C.o,M.o,(by show _<=_;have:=q.o;simp at this|-;omega),z.o⟩
        case measure=>simp[lenV];have:=U.o;have:=I.o;have:=Z.o;have:=L.o;omega
theorem Qy(A B:Option Addr)(c d:Nat)(a b:List Nat)(w:World)(h:Sl w 1 cT A c a)(j:Sl w 1 cT B d b)(g:a.length<=10000)(i:b.length<=10000) :
 Calls prog 216 #[.slice A a.length c,.slice B b.length d] w λe w'=>∃v,e=.returned v/\cJ w' w.heap.size v (cO a b)/\aa w w':=by
 have f:=lh (QA A B c d a b w h j g i);generalize a.length=n at f|-;generalize b.length=m at f|-;clear h j g i;go_enter func216,ntmps216;go_wp2_with (go_at_call 257;refine ae ?_);refine uM f.o ?_;rintro e q ⟨v,rfl,l,k⟩;have o:=lh l;have p:=lh k;clear l k f;go_wp2;go_ret;exact⟨v,rfl,o.o,p.o⟩
attribute [local go_sem] fQ
theorem Hw{w:World}{a c x y:Nat}(f:2<=c)(d:c<=9223372036854775807)(b:w.cell? ⟨a,0,none⟩=some (.int .i64 (x:Int)))(e:w.cell? ⟨a,1,none⟩=some (.int .i64 (y:Int))):Sl w 1 dD (some ⟨a,0,none⟩) c [x,y] :=
 ⟨f,d,sP,λi hi=>⟨a,0,rfl,λj u hu=>by
  match i,j,hi,hu with
  | 0,0,_,hu=>cases hu;exact b
  | 1,0,_,hu=>cases hu;exact e⟩⟩
theorem IR(r:List Pr)(k:Nat)(h:k<r.length):dI (r.take (k+1))=dI (r.take k)++[r[k].1,r[k].1+r[k].2+1]:=by
 unfold dI;rw[ly h,lF];simp
theorem zg(A:Option Addr)(c:Nat)(r:List Pr)(w:World)(I:Sl w 2 io A c r)(P:∀p∈r,p.1+p.2+1<=64)(V:r.length<=65536) :
 Calls prog 262 #[.slice A r.length c] w λe w'=>∃v,e=.returned v/\pw w' w.heap.size v (dI r)/\aa w w':=by
 have a7:=lh I;have Y:=lh P;generalize N:r.length=n at V;have J:=lh N;clear I P N;go_enter func262,ntmps262;go_wp2;go_loopw [3,8] (λvl vi wr=>∃(k:Nat) (v:Value),k<=n/\vi=.int .i64 k/\v=vl/\Hid (pw wr w.heap.size v (dI (r.take k)))/\Hid (aa w wr)) (λ_ vi _=>n-(intOf vi).toNat)
 case atStart=>exact⟨0,.slice none 0 0,lj _,rfl,rfl,ah.nil_ _ _ _ _ _,aa.refl _⟩
 case round =>
  obtain⟨k,v,R,rfl,rfl,d,m⟩:=hrel
  by_cases a3:k<n
  ·have j:k<r.length:=(by rw[J.o];exact a3);obtain⟨b,ac,a2,U,C,i⟩:=pV (a7.o.keep m.o) k j;subst a2;have E:=Y.o r[k] (ll _);have f:=lh (IR r k j);have M:=lh (show(dI (r.take k)).length<=k*2 by rw[ja,lD];omega);generalize r[k]=p at C i E f;obtain⟨x,y⟩:=p;simp only at C i E f;generalize dI (r.take k)=Z at d f M;have z:=lh (λW=>zJ (x,y) W (by simp only;omega));simp only at z;obtain⟨t,L⟩:∃t,t=x+y+1:=⟨_,rfl⟩;rw[<-L]at z f;have a8:IntKind.i64.wrap (x:Int)=(x:Int):=(by rw[IntWalk.i64_in _ ⟨oM,oM⟩]);have O:=lh d.o;clear E L;go_upto_region 5 with fail;have a:ak (wr.alloc (.cells #[.int .u16 (x:Int),.int .u16 (y:Int)] 277)) wr.heap.size 277 [.int .u16 (x:Int),.int .u16 (y:Int)]:=bH _ _ _;have q:aa w (wr.alloc (.cells #[.int .u16 (x:Int),.int .u16 (y:Int)] 277)):=m.o.alloc _;have s:pw (wr.alloc (.cells #[.int .u16 (x:Int),.int .u16 (y:Int)] 277)) w.heap.size v Z:=O.o.keep (aa.alloc (aa.refl _) _);generalize wr.alloc (.cells #[.int .u16 (x:Int),.int .u16 (y:Int)] 277)=D at a q s|-;generalize wr.heap.size=g at a|-;have F:=lh q;have S:=lh s;have a6:=a.cell 0 _ rfl;have X:=a.cell 1 _ rfl;have a0:=a.lt;clear a q s O d m C i U
   first|refine Zone.wp_region_m_gro 1 7 kR kR ?_|refine jK 1 7 kR kR ?_
   simp only[lX,lR,lZ,L4]
   repeat (refine jL _ (by rfl) (λ_=>by rfl) ?_)
   refine jM ?_
   repeat
    refine aR (λK hK=>?_);go_simp
    first
    | (refine hK _ _ ?_;clear hK K)
    | (apply Exists.intro
       refine⟨λp=>?_,hK _ _ ?_⟩
       ((go_at_call 275;exact Zone.zc (z.o _)))
       clear hK K)
   refine bW 18 (λu W=>∃h,u=.slice (some ⟨h,0,none⟩) 2 2/\Sl W 1 dD (some ⟨h,0,none⟩) 2 [x,t]) rfl (λ_ W W' R ⟨h,i,h2⟩=>⟨h,i,h2.keep R⟩) ?_ ?_
   ·intro p;rw[bZ (by rfl)];simp only[aj];go_simp;exact⟨Hw dC dC sG sG,aa.alloc (aa.refl _) _⟩
   refine bG ?_;intro p;simp only[aj];rintro ab ⟨h,rfl,o⟩;have l:aa D (D.gro p):=kP;generalize D.gro p=a9 at l o|-;have H:=F.u l;have B:=S.o.keep l;clear l a6 X a0 F S;go_simp;refine aD nP mE vv rfl (.tmp 12) (.tmp 18) rfl (ys:=[x,t]) B rfl rfl o (by have:=M.o;simp;omega) H.o.size ?_;intro a1 a4 G Q _;have a5:=lh (show aa w a4 from B.kept Q H.o (lc _));have T:=lh G;clear G Q B o;go_simp;go_wp2
   (try rw[fQ])
   go_wp2;go_roundw
   case rel=>exact⟨k+1,a1,oM,by go_num,rfl,(by show pw _ _ _ _;rw[f.o];exact T.o),a5.o⟩
   case measure=>simp[intOf];omega
  ·have j:k=n:=oM;subst j;rw[<-J.o,lC]at d;go_wp2;exact bodyPost_ret (v:=v) (by simp[results,results262,go_sem]) rfl ⟨_,rfl,d.o,m.o⟩
theorem IW(x y:Bool)(w:World):Rt 263 #[.bool x,.bool y] w (.bool (eJ x y)):=by
 cases x<;>cases y
 all_goals
  go_enter func263,ntmps263;go_wp2;go_ret;exact⟨rfl,kP⟩
theorem yL{a:List Nat}{t i:Nat}(b:i<a.length)(c:a[i]<=t):du a t (a.length-i) i=du a t (a.length-(i+1)) (i+1):=by
 obtain⟨f,d⟩:∃f,a.length-i=f+1:=⟨a.length-i-1,oM⟩;rw[d,show a.length-(i+1)=f from oM];show(if i<a.length/\a.getD i 0<=t then _ else _)=_;rw[if_pos ⟨b,by simpa[b]using c⟩]
theorem rH{a:List Nat}{t i:Nat}(h:∀hi:i<a.length,¬ a[i]<=t):du a t (a.length-i) i=i:=by
 cases hf:a.length-i with
 | zero=>rfl
 | succ f =>
   have hi:i<a.length:=oM;show(if i<a.length/\a.getD i 0<=t then _ else _)=_;rw[if_neg (λhc=>h hi (by simpa[hi]using hc.2))]
theorem Br(i:Nat):(((i:Int)%2==1):Bool)=(i%2==1):=by
 rw[Bool.eq_iff_iff];simp only[beq_iff_eq];omega
theorem Jc(A B:Option Addr)(c d:Nat)(a b:List Nat)(w:World)(y:Sl w 1 dD A c a)(az:Sl w 1 dD B d b)(b0:a.length<=10000)(bd:b.length<=10000)(aG:∀x∈a,x<=64)(aQ:∀x∈b,x<=64) :
 Calls prog 261 #[.slice A a.length c,.slice B b.length d,.func (.func 263) #[] #[]] w λe w'=>∃v,e=.returned v/\ib w' w.heap.size v (Roa.edges eJ a b)/\aa w w':=by
 have aB:=lh y;have aJ:=lh az;have ag:=lh aG;have ax:=lh aQ;obtain⟨n,ab⟩:∃n,a.length=n:=⟨_,rfl⟩;obtain⟨m,ap⟩:∃m,b.length=m:=⟨_,rfl⟩;rw[ab]at b0|-;rw[ap]at bd|-;have D:=lh ab;have s:=lh ap;clear y az aG aQ ab ap;go_enter func261,ntmps261;go_wp2;go_step3;go_wp2;go_step3;go_wp2;go_loopw [7,8,9,10,11] (λvr von vlo vi vk wr=>∃(f i k lo:Nat) (on:Bool) (o:List Pr) (v:Value),i<=n/\k<=m/\vi=.int .i64 i/\vk=.int .i64 k/\vlo=.int .i64 lo/\von=.bool on/\v=vr/\lo<=64/\n-i+(m-k)<=f/\o.length<=i+k/\Hid (hE eJ a b f i k on lo o=Roa.edges eJ a b)/\Hid (on=true->(i<a.length\/k<b.length)->lo<dy a b i k)/\Hid (ib wr w.heap.size v o)/\Hid (aa w wr)) (λ_ _ _ vi vk _=>n-(intOf vi).toNat+(m-(intOf vk).toNat))
 case atStart=>exact⟨n+m,0,0,0,false,[],.slice none 0 0,lj _,lj _,rfl,rfl,rfl,rfl,rfl,oM,oM,sP,lh (by rw[<-D.o,<-s.o];rfl),lh (λe=>by cases e),ah.nil_ _ _ _ _ _,aa.refl _⟩
 case round =>
  obtain⟨f,i,k,lo,on,o,v,hi,b4,rfl,rfl,rfl,rfl,rfl,b3,b6,aA,W,X,O,F⟩:=hrel
  by_cases Y:i<n\/k<m
  ·have V:=lh (show i<a.length\/k<b.length by rw[D.o,s.o];exact Y);obtain⟨H,b9⟩:∃H,H=wr:=⟨_,rfl⟩;subst b9;have ad:=lh hi;have a9:=lh b4;go_upto_region 4 with fail;go_cut [23]from 14 to 23 (λs23 wx=>s23=.bool true/\Hid (aa H wx))
   case first =>
    by_cases ac:i<n
    ·have d1:decide (i<n)=true:=sO;have d3:(i:Int)<(n:Int):=oM;clear Y;go_wp2;go_meet;exact⟨rfl,kP⟩
    ·have d1:decide (i<n)=false:=sO;have d2:decide (k<m)=true:=sO;clear Y;go_wp2;go_meet;exact⟨rfl,kP⟩
   case rest =>
   obtain⟨rfl,a4⟩:=hcut;rename World=>w1;clear Y;go_upto_if 27 with fail;go_cut [12]from 28 to 31 (λs12 wx=>s12=.int .i64 ((if i<a.length then a.getD i 0 else 65537:Nat):Int)/\Hid (aa H wx))
   case first =>
    by_cases ac:i<n
    ·have a6:i<a.length:=(by rw[D.o];exact ac);have aX:=lh a6;have d1:decide (i<n)=true:=sO;obtain⟨aF,aR,S,aC,E⟩:=jS (aB.o.keep (F.v a4)) i a6;subst S;have K:=lh (show a.getD i 0=a[i] by rw[L9,lu a6];rfl);generalize a[i]=x at E K;clear a6;go_wp2;go_meet;exact⟨by rw[if_pos aX.o,K.o],a4.o⟩
    ·have d1:decide (i<n)=false:=sO;go_wp2;go_meet;exact⟨by rw[if_neg (by rw[D.o];exact ac)];rfl,a4.o⟩
   case rest =>
   obtain⟨rfl,Q⟩:=hcut;rename World=>w2;generalize aT:(if i<a.length then a.getD i 0 else 65537:Nat)=a2;have aq:=lh aT;clear aT a4;go_upto_if 35 with fail;go_cut [12]from 36 to 41 (λs12 wx=>s12=.int .i64 ((dy a b i k:Nat):Int)/\Hid (aa H wx))
   case first =>
    have aO:=lh (show dy a b i k=min a2 (if k<b.length then b.getD k 0 else 65537) by rw[<-aq.o];rfl);have bm:a2<=65537:=by
     rw[<-aq.o]
     split
     ·rename_i y;have e:a.getD i 0=a[i]:=(by simp[y]);rw[e];have:=ag.o a[i] (ll _);omega
     ·exact lc _
    by_cases aN:k<m
    ·have a7:k<b.length:=(by rw[s.o];exact aN);have d1:decide (k<m)=true:=sO;obtain⟨bu,bt,bb,bk,E⟩:=jS (aJ.o.keep (F.v Q)) k a7;subst bb;have K:=lh (show dy a b i k=min a2 b[k] by rw[aO.o,if_pos a7];simp[a7]);generalize b[k]=x at E K;clear a7;go_wp2;go_meet;exact⟨by rw[K.o];go_num,Q.o⟩
    ·have d1:decide (k<m)=false:=sO;have K:=lh (show dy a b i k=a2 by rw[aO.o,if_neg (by rw[s.o];exact aN)];omega);go_wp2;go_meet;exact⟨by rw[K.o],Q.o⟩
   case rest =>
   obtain⟨rfl,aw⟩:=hcut;rename World=>w3;have T:=lh (BB (λx l=>ag.o x l) (λx l=>ax.o x l) V.o (by decide:64<=65536));have L:=lh (DI (λx l=>ag.o x l) (λx l=>ax.o x l) (by decide:64<=65536) (by rw[D.o];exact ad.o) (by rw[s.o];exact a9.o) V.o);have J:=lh (DJ (a:=a) (b:=b) (by rw[D.o];exact ad.o) (by rw[s.o];exact a9.o) T.o (by decide:64<=65536));generalize ao:dy a b i k=h at T L J X;have b2:=lh ao;clear ao Q aq;go_upto_block 2 with fail;go_cut [10]from 42 to 55 (λs10 wx=>s10=.int .i64 ((du a h (a.length-i) i:Nat):Int)/\Hid (aa H wx))
   case first =>
    have R:=aw;clear X J W L;go_wp2;go_loopw [10] (λvi wr=>∃g:Nat,i<=g/\g<=n/\vi=.int .i64 g/\Hid (du a h (a.length-g) g=du a h (a.length-i) i)/\Hid (aa H wr)) (λvi _=>n-(intOf vi).toNat)
    case atStart=>exact⟨i,lc _,ad.o,rfl,rfl,R.o⟩
    case round =>
     clear R;obtain⟨g,aU,a3,rfl,N,I⟩:=hrel
     by_cases Z:g<n
     ·have G:g<a.length:=(by rw[D.o];exact Z);obtain⟨aF,aR,S,aC,E⟩:=jS (aB.o.keep (F.v I)) g G;subst S;have d1:decide (g<n)=true:=sO
      by_cases l:a[g]<=h
      ·have r:=lh (yL G l);generalize a[g]=x at E l;have d2:decide (x<=h)=true:=sO;have ak:IntKind.i64.wrap ((g:Int)+1)=((g+1:Nat):Int):=iW oM;clear G l;go_wp2;go_roundw
       case rel=>exact⟨g+1,oM,oM,by go_num,lh (by rw[<-r.o];exact N.o),I.o⟩
       case measure=>simp[intOf];omega
      ·have r:=lh (rH (a:=a) (t:=h) (i:=g) (λ_=>l));generalize a[g]=x at E l;have d2:decide (x<=h)=false:=sO;clear G l;go_wp2;go_meet;exact⟨by rw[<-N.o,r.o],I.o⟩
     ·have r:=lh (rH (a:=a) (t:=h) (i:=g) (λy=>absurd y (by rw[D.o];exact Z)));have d1:decide (g<n)=false:=sO;go_wp2;go_meet;exact⟨by rw[<-N.o,r.o],I.o⟩
   case rest =>
   obtain⟨rfl,aE⟩:=hcut;rename World=>w4;generalize a3:du a h (a.length-i) i=i2 at L J;have b5:=lh a3;clear a3 aw;go_upto_block 4 with fail;go_cut [11]from 56 to 69 (λs11 wx=>s11=.int .i64 ((du b h (b.length-k) k:Nat):Int)/\Hid (aa H wx))
   case first =>
    have R:=aE;clear X J W L;go_wp2;go_loopw [11] (λvi wr=>∃g:Nat,k<=g/\g<=m/\vi=.int .i64 g/\Hid (du b h (b.length-g) g=du b h (b.length-k) k)/\Hid (aa H wr)) (λvi _=>m-(intOf vi).toNat)
    case atStart=>exact⟨k,lc _,a9.o,rfl,rfl,R.o⟩
    case round =>
     clear R;obtain⟨g,aU,a3,rfl,N,I⟩:=hrel
     by_cases Z:g<m
     ·have G:g<b.length:=(by rw[s.o];exact Z);obtain⟨aF,aR,S,aC,E⟩:=jS (aJ.o.keep (F.v I)) g G;subst S;have d1:decide (g<m)=true:=sO
      by_cases l:b[g]<=h
      ·have r:=lh (yL G l);generalize b[g]=x at E l;have d2:decide (x<=h)=true:=sO;have ak:IntKind.i64.wrap ((g:Int)+1)=((g+1:Nat):Int):=iW oM;clear G l;go_wp2;go_roundw
       case rel=>exact⟨g+1,oM,oM,by go_num,lh (by rw[<-r.o];exact N.o),I.o⟩
       case measure=>simp[intOf];omega
      ·have r:=lh (rH (a:=b) (t:=h) (i:=g) (λ_=>l));generalize b[g]=x at E l;have d2:decide (x<=h)=false:=sO;clear G l;go_wp2;go_meet;exact⟨by rw[<-N.o,r.o],I.o⟩
     ·have r:=lh (rH (a:=b) (t:=h) (i:=g) (λy=>absurd y (by rw[s.o];exact Z)));have d1:decide (g<m)=false:=sO;go_wp2;go_meet;exact⟨by rw[<-N.o,r.o],I.o⟩
   case rest =>
   obtain⟨rfl,ay⟩:=hcut;rename World=>w5;generalize aP:du b h (b.length-k) k=p at L J;have Q:=lh aP;clear aP aE;obtain⟨s1,s2,s3,s4,s5⟩:=L.o;rw[D.o]at s2;rw[s.o]at s4;obtain⟨C,aj⟩:∃C,f=C+1:=⟨f-1,oM⟩;have a0:=lh (show(if eJ (i2%2==1) (p%2==1)=on then hE eJ a b C i2 p on lo o else hE eJ a b C i2 p (eJ (i2%2==1) (p%2==1)) h (if on then o++[(lo,h-lo-1)] else o))=Roa.edges eJ a b by
    have:=W.o;rw[aj]at this;unfold hE at this;rw[if_pos V.o]at this;simp only[b2.o,b5.o,Q.o]at this;exact this)
   have al:=lh aj;obtain⟨a1,ai⟩:∃a1,(i2%2==1)=a1:=⟨_,rfl⟩;obtain⟨a5,au⟩:∃a5,(p%2==1)=a5:=⟨_,rfl⟩;rw[ai,au]at a0;have bo:(((i2:Int)%2==1):Bool)=a1:=(by rw[Br,ai]);have bn:(((p:Int)%2==1):Bool)=a5:=(by rw[Br,au]);clear ai au W L aj;go_wp2_with (go_at_call 263;refine ae ?_);refine uM (IW _ _ _) ?_;rintro e b1 ⟨rfl,aL⟩;have M:=ay.u aL;clear aL ay;generalize eJ a1 a5=q at a0|-
   by_cases U:q=on
   ·subst U;have P:=lh (show hE eJ a b C i2 p q lo o=Roa.edges eJ a b by have:=a0.o;rwa [if_pos rfl]at this);have ak:(q==q)=true:=sP;go_wp2;go_roundw
    case rel=>exact⟨C,i2,p,lo,q,o,v,s2,s4,rfl,rfl,rfl,rfl,rfl,b3,by have:=al.o;omega,oM,P.o,lh (λy _=>LK (X.o y V.o) J.o),O.o.keep M.o,F.o.trans M.o⟩
    case measure=>simp[intOf];omega
   ·have ak:(q==on)=false:=(by simpa using U);have P:=lh (show hE eJ a b C i2 p q h (if on then o++[(lo,h-lo-1)] else o)=Roa.edges eJ a b by have:=a0.o;rwa [if_neg U]at this)
    cases on with
    | false =>
      go_wp2;go_roundw
      case rel=>exact⟨C,i2,p,h,q,o,v,s2,s4,rfl,rfl,rfl,congrArg Value.bool (show q=true by simpa using U).symm,rfl,T.o,by have:=al.o;omega,oM,P.o,lh (λ_ _=>J.o),O.o.keep M.o,F.o.trans M.o⟩
      case measure=>simp[intOf];omega
    | true =>
      have bs:=X.o rfl V.o;have ao:=T.o;obtain⟨aW,bg,aI⟩:=bp O.o;have aV:=lh (O.o.keep M.o);generalize aK:o.length=b8 at aA aI;have aH:=lh aK;clear aK;subst aI;obtain⟨z,aM⟩:∃z,z=h-lo-1:=⟨_,rfl⟩;obtain⟨a8,aY⟩:∃a8,a8=h-lo:=⟨_,rfl⟩;rw[<-aM]at P;have bj:IntKind.u16.wrap (lo:Int)=(lo:Int):=(by simp[IntKind.wrap,IntKind.signed,IntKind.bits];omega);have bq:IntKind.i64.wrap ((h:Int)-(lo:Int))=(a8:Int):=iW oM;have bi:IntKind.i64.wrap ((a8:Int)-1)=(z:Int):=iW oM;have bl:IntKind.u16.wrap (z:Int)=(z:Int):=(by simp[IntKind.wrap,IntKind.signed,IntKind.bits];omega);have aZ:=lh (show hE eJ a b C i2 p q h (o++[(lo,z)])=Roa.edges eJ a b by have:=P.o;rwa [if_pos rfl]at this);clear aM aY P a0 O;go_wp2_with (at_builtin;refine ae ?_);refine ar ?_;have af:ib (b1.alloc (.cells #[.int .u16 (lo:Int),.int .u16 (z:Int)] 277)) w.heap.size (.slice aW b8 bg) o:=aV.o.keep (aa.alloc (aa.refl _) _);refine aD tf gv rU rfl (.tmp 82) (.tmp 91) rfl (ys:=[(lo,z)]) af rfl rfl (br _ oM oM (λj u hu=>by match j,hu with|0,hu=>cases hu;simp[go_sem]|1,hu=>cases hu;simp[go_sem])) (by have:=aH.o;simp;omega) (by have:=(F.v M).size;simp;omega) ?_;intro bc bf av aS _;have b7:=lh (show aa w bf from af.kept aS ((F.v M).alloc _) (lc _));have ba:=lh av;clear av aS af;go_wp2;go_roundw
      case rel=>exact⟨C,i2,p,h,q,o++[(lo,z)],bc,s2,s4,rfl,rfl,rfl,congrArg Value.bool (show q=false by simpa using U).symm,rfl,T.o,by have:=al.o;omega,by simp;have:=aH.o;omega,aZ.o,lh (λ_ _=>J.o),ba.o,b7.o⟩
      case measure=>simp[intOf];omega
  ·have bh:=lh (show o=Roa.edges eJ a b by
    have:=W.o
    cases f with
    | zero=>exact this
    | succ f=>unfold hE at this;rw[if_neg (by rw[D.o,s.o];exact Y)]at this;exact this)
   have d1:decide ((i:Int)<(n:Int))=false:=sO;have d2:decide ((k:Int)<(m:Int))=false:=sO;clear b6 aA;go_wp2
   (try rw[Exit.noGoto_ret])
   exact bodyPost_ret (v:=v) (by simp[results,results261,go_sem]) rfl ⟨_,rfl,by rw[<-bh.o];exact O.o,F.o⟩
theorem zn{r:List Pr}(c:∀p∈r,p.1+p.2+1<=64):∀x∈dI r,x<=64:=λx a=>by
 obtain⟨p,b,a⟩:=List.mem_flatMap.1 a;have:=c p b;simp only[ln,lL,or_false]at a;omega
theorem IV(A B:Option Addr)(c d:Nat)(r a:List Pr)(w:World)(t:Sl w 2 io A c r)(z:Sl w 2 io B d a)(I:r.length<=5000)(K:a.length<=5000)(q:∀p∈r,p.1+p.2+1<=64)(l:∀p∈a,p.1+p.2+1<=64) :
 Calls prog 218 #[.slice A r.length c,.slice B a.length d] w λe w'=>∃v,e=.returned v/\ib w' w.heap.size v (Roa.edges eJ (dI r) (dI a))/\aa w w':=by
 have b:=lh (zg A c r w t q oM);have g:=lh (λW (hW:aa w W)=>zg B d a W (z.keep hW) l oM);have f:=lh (λW A c B d (hA:Sl W 1 dD A c (dI r)) (hB:Sl W 1 dD B d (dI a))=>Jc A B c d _ _ W hA hB (by rw[ja];omega) (by rw[ja];omega) (zn q) (zn l));have k:(dI r).length<=1000000:=by rw[ja];omega
 have j:(dI a).length<=1000000:=by rw[ja];omega
 generalize dI r=R1 at b f k|-;generalize dI a=R2 at g f j|-;have L:=lh k;have N:=lh j;generalize r.length=n at b|-;generalize a.length=m at g|-;clear t z I K q l k j;go_enter func218,ntmps218;go_wp2_with (go_at_call 262;refine ae ?_);refine uM b.o ?_;rintro e X ⟨R,rfl,x,H⟩;have G:=lh x;have o:=lh H;clear x H b;go_wp2_with (go_at_call 262;refine ae ?_);refine uM (g.o _ o.o) ?_;rintro e S ⟨v2,rfl,F,s⟩;obtain⟨V,O,rfl,D⟩:=cU F mE N.o;obtain⟨U,T,rfl,E⟩:=cU (G.o.keep s) mE L.o;have i:=o.u s;have h:=lh (f.o _ _ _ _ _ E D);generalize R1.length=P at h|-;generalize R2.length=Y at h|-;clear F s g E D f G o;go_wp2_with (go_at_call 261;refine ae ?_);refine uM h.o ?_;rintro e Q ⟨v3,rfl,C,y⟩;have M:=lh (C.base_mono i.o.size);have J:=i.u y;clear C y h i;go_wp2;go_ret;exact⟨v3,rfl,M.o,J.o⟩
theorem nG{w:World}{base:Nat}{v:Value}{x:Nat}(b:ei w base v x):∃A c,v=.slice A 1024 c/\jp w A c x:=by
 obtain⟨A,c,a,d⟩:=cU b mY (by rw[eT];decide);rw[eT]at a;exact⟨A,c,a,d⟩
def nC(r:List Pr):Nat:=r.foldl (λx p=>g9 x p.1 (p.1+p.2+1)) 0
theorem IE(r:List Pr)(k:Nat)(h:k<r.length):nC (r.take (k+1))=g9 (nC (r.take k)) r[k].1 (r[k].1+r[k].2+1):=by
 unfold nC;rw[ly h,List.foldl_append];rfl
theorem IF(r:List Pr):nC r<18446744073709551616:=by
 have:∀(l:List Pr) (x:Nat),x<2^64->l.foldl (λx p=>g9 x p.1 (p.1+p.2+1)) x<2^64:=by
  intro l
  induction l with
  | nil=>intro x a;exact a
  | cons v r ih=>intro x b;exact ih _ (Dc b)
 exact this r 0 dC
theorem Pj{w:World}{a:List Nat}{v:Value}(b:bP w (.arr a) v)(l:Fit (.arr a)):Calls prog 210 #[v] w λe w'=>∃u,e=.returned u/\ei w' w.heap.size u (kN a)/\aa w w':=by
 obtain⟨i,d⟩:=l;simp only[ap.W]at d
 cases b with
 | arr a k A c hk b =>
   have f:=lh (λW (hW:aa w W)=>xq A c a W ((fO b dB oM).keep hW) i oM);generalize a.length=n at f;have r:((k:Int)==2)=false:=sO;have o:((k:Int)==3)=false:=sO;have p:¬(k:Int)=2:=oM;have q:¬(k:Int)=3:=oM;clear b i d hk;go_enter func210,ntmps210;go_wp2_with (go_at_call 250;refine ae ?_);refine uM (f.o _ kP) ?_;rintro e s ⟨u,rfl,g,h⟩;have m:=lh (g.base_mono (show w.heap.size<=_ from sP));have j:=lh (aa.trans (show aa w _ from kP) h);clear g h;go_wp2;go_ret;exact⟨_,rfl,m.o,j.o⟩
theorem Pi{w:World}{r:List Pr}{v:Value}(i:bP w (.run r) v)(a9:Fit (.run r)):Calls prog 210 #[v] w λe w'=>∃u,e=.returned u/\ei w' w.heap.size u (nC r)/\aa w w':=by
 obtain⟨U,I⟩:=a9;simp only[ap.W]at I
 cases i with
 | run r A c i =>
   have ac:=lh (fO i gv oM);have Y:=lh (show ∀p∈r,p.1+p.2+1<=64 from U);obtain⟨n,B⟩:∃n,r.length=n:=⟨_,rfl⟩;rw[B]at I|-;have J:=lh B;have E:=lh (λW=>xq none 0 [] W (Sl.nil_ _ dC) (λx hx=>by cases hx) sP);simp only[lB]at E;clear i U B;go_enter func210,ntmps210;go_upto_region 1 with fail;have a:ak (w.alloc (.cells #[.int .u8 3,.slice none 0 0,.slice none 0 0,.slice A n c] 237)) w.heap.size 237 [.int .u8 3,.slice none 0 0,.slice none 0 0,.slice A n c]:=bH _ _ _;have m:aa w (w.alloc (.cells #[.int .u8 3,.slice none 0 0,.slice none 0 0,.slice A n c] 237)):=kP;generalize w.alloc (.cells #[.int .u8 3,.slice none 0 0,.slice none 0 0,.slice A n c] 237)=ab at a m|-;obtain⟨lo,a1⟩:∃lo,w.heap.size=lo:=⟨_,rfl⟩;generalize N:w.heap.size=g at a|-;have l:=lh m;have T:=lh a;have z:=lh N;have Z:=a.cell 0 _ rfl;have q:=a.cell 3 _ rfl;have o:=a.lt;clear a m N a1;go_wp2_with (go_at_call 250;refine ae ?_);refine uM (E.o _) ?_;rintro e ao ⟨u,rfl,S,D⟩;have R:=lh (S.base_mono (show g<=ab.heap.size by rw[<-z.o];exact l.o.size));have M:=l.u D;have s:=lh (T.o.keep D);clear S D Z q o l T E;have q:=s.o.cell 3 _ rfl;have o:=s.o.lt;go_wp2;go_loopw [3,19] (λvl vi wr=>∃(k:Nat) (v:Value),k<=n/\vi=.int .i64 k/\v=vl/\Hid (ei wr g v (nC (r.take k)))/\Hid (aa w wr)) (λ_ vi _=>n-(intOf vi).toNat)
   case atStart=>exact⟨0,u,lj _,rfl,rfl,R.o,M.o⟩
   case round =>
    clear R M s q o;obtain⟨k,v,aj,rfl,rfl,d,j⟩:=hrel
    by_cases a4:k<n
    ·have h:k<r.length:=(by rw[J.o];exact a4);obtain⟨b,ai,a3,ad,P,V⟩:=pV (ac.o.keep j.o) k h;subst a3;have C:=Y.o r[k] (ll _);have f:=lh (IE r k h);have F:=lh (IF (r.take k));generalize r[k]=p at P V C f;obtain⟨x,y⟩:=p;simp only at P V C f;generalize nC (r.take k)=X at d f F;obtain⟨a2,a7,rfl,O⟩:=nG d.o;obtain⟨t,L⟩:∃t,t=x+y+1:=⟨_,rfl⟩;obtain⟨t0,a8⟩:∃t0,t0=x+y:=⟨_,rfl⟩;have Q:=lh (λW (hW:aa wr W)=>Fa a2 a7 X x t W F.o (O.keep hW) oM oM);rw[<-L]at f;have ah:IntKind.i64.wrap ((x:Int)+(y:Int))=(t0:Int):=iW oM;have al:IntKind.i64.wrap ((t0:Int)+1)=(t:Int):=iW oM;have af:IntKind.i64.wrap (x:Int)=(x:Int):=(by rw[IntWalk.i64_in _ ⟨oM,oM⟩]);have ag:IntKind.i64.wrap (y:Int)=(y:Int):=(by rw[IntWalk.i64_in _ ⟨oM,oM⟩]);clear C L a8 O;go_wp2_with (go_at_call 251;refine ae ?_);refine uM (Q.o _ kP) ?_;rintro e a6 ⟨v5,rfl,G,K⟩;have H:aa wr a6:=aa.trans kP K;have a5:=lh (G.base_mono (base':=g) (by have:=j.o.size;have:=z.o;simp;omega));have a0:=j.u H;clear G K H Q d;go_wp2;go_roundw
     case rel=>exact⟨k+1,v5,oM,by go_num,rfl,(by show ei _ _ _ _;rw[f.o];exact a5.o),a0.o⟩
     case measure=>simp[intOf];omega
    ·have h:k=n:=oM;subst h;rw[<-J.o,lC]at d;go_wp2;exact bodyPost_ret (v:=v) (by simp[results,results210,go_sem]) rfl ⟨_,rfl,by rw[z.o];exact d.o,j.o⟩
theorem DU{w:World}{c:ap}{v:Value}(b:bP w c v)(d:Fit c)(f:c.NotW):Calls prog 210 #[v] w λe w'=>∃u,e=.returned u/\ei w' w.heap.size u c.word/\aa w w':=by
 cases c with
 | arr a=>exact Pj b d
 | wrd x=>exact f.elim
 | run r=>exact Pi b d
open Go.Star
def fP(a:List Nat)(many:Nat):List (Option ap):=(List.range many).map λi=>gz TB (cB a a.length i)
theorem NH(A:Option Addr)(c many:Nat)(f:List Nat)(w:World)(V:Sl w 1 dD A c f)(aS:f.length<=64)(c5:many<=1000)(r:∀x∈f,x<many)(aW:Tab w) :
 Calls prog 77 #[.slice A f.length c,.int .i64 many] w λe w'=>∃p,e=.returned (.tuple #[p,.int .i64 0])/\nW w' 196 (fP f many) p/\aa w w':=by
 have bg:=lh V;have b9:=lh aW;have bm:=lh r;obtain⟨n,ab⟩:∃n,f.length=n:=⟨_,rfl⟩;rw[ab]at aS|-;have b4:=lh ab;have bY:decide ((16777216:Int)<(n:Int))=false:=sO;have bM:decide ((16777216:Int)<(many:Int))=false:=sO;obtain⟨i0,aI,aO,i2,i3⟩:=iN (show(prog.info? 193).map (λi=>(i.zero,i.size,i.bytes))=some (some (.slice none 0 0),1,24) from kR);obtain⟨a2,bJ,b3,aw⟩:=zm (P:=prog) (t:=192) underlying192 aI aO i2 rfl many w (by rw[i3];omega) oM;have aA:=lh aw;have L:=lh (show iI a2 a2.heap.size w.heap.size (cB f 0) (List.replicate many (.slice none 0 0)) from(Eo b3).congr (λi=>rfl));have ao:=lh (show w.heap.size<=a2.heap.size from aw.size);clear V aW r ab aO i2 i3 aI i0 b3 aw;go_enter func77,ntmps77;generalize aZ:w.heap.size=g at bJ L ao;generalize aU:a2.heap.size=lo at L ao;have aH:=lh aZ;have bz:=lh aU;have a7:=lh (show(List.replicate many (Value.slice none 0 0)).length=many from LH ..);generalize List.replicate many (Value.slice none 0 0)=bx at L a7;clear aZ aU;go_wp2;go_loopw [26] (λvi wr=>∃(k:Nat) (y:List Value),k<=n/\vi=.int .i64 k/\Hid (y.length=many)/\Hid (iI wr lo g (cB f k) y)/\Hid (lo<=wr.heap.size)/\Hid (aa w wr)) (λvi _=>n-(intOf vi).toNat)
 case atStart=>exact⟨0,bx,lj _,rfl,a7.o,L.o,lV bz.o.symm,aA.o⟩
 case round =>
  clear L aA a7;obtain⟨k,y,M,rfl,af,B,aP,I⟩:=hrel
  by_cases bA:k<n
  ·have b5:k<f.length:=(by rw[b4.o];exact bA);obtain⟨bT,bU,bn,bR,bf⟩:=jS (bg.o.keep I.o) k b5;have ad:=lh (show ∀i,cB f (k+1) i=if i=f[k] then cB f k f[k]++[k] else cB f k i from λi=>by
    rw[rO];have e:f.getD k 0=f[k]:=(by simp[b5]);rw[e]
    by_cases hi:i=f[k]
    ·subst hi;rw[if_pos rfl]
    ·rw[if_neg (λe=>hi e.symm),if_neg hi])
   have aK:=bm.o f[k] (ll _);subst bn;generalize f[k]=h at bf ad aK;have aL:h<y.length:=(by rw[af.o];exact aK);obtain⟨u,l⟩:∃u,y[h]? =some u:=⟨_,lu aL⟩;have au:=lh l;have F:=B.o.own h u l;have ac:=oI f k h;obtain⟨a9,ay,E⟩:=bp F;have J:=B.o.row.cell h u l;have r:=B.o.row.lt;have aX:=lh F;generalize X:(cB f k h).length=b0 at ac E;have bt:=lh X;clear X F l aL;subst E;have bQ:decide ((many:Int)<=(h:Int))=false:=sO;have c1:IntKind.u32.wrap (k:Int)=(k:Int):=(by simp[IntKind.wrap,IntKind.signed,IntKind.bits];omega);go_wp2_with (at_builtin;refine ae ?_);refine ar ?_;have aT:=B.o.keep (aa.alloc (aa.refl wr) (.cells #[.int .u32 (k:Int)] 81));have o:mQ (wr.alloc (.cells #[.int .u32 (k:Int)] 81)) lo (.slice a9 b0 ay) (cB f k h):=aX.o.keep (aa.alloc (aa.refl _) _);refine aD wH oh ue rfl (.tmp 43) (.tmp 46) rfl (ys:=[k]) o rfl rfl (br _ oM oM (λj u l=>by match j,l with|0,l=>cases l;simp[go_sem])) (by have:=bt.o;simp;omega) (by have:=aP.o;simp;omega) ?_;intro bI aM U a5 aC;obtain⟨Q,a0,rfl⟩:=bp U;obtain⟨a8,T⟩:=aT.app au.o U a5 aC;have bF:=lh (show aa w aM from ah.kept o a5 ((I.o).alloc _) (by rw[aH.o];exact ao.o));have bj:=lh (show lo<=aM.heap.size from lk aP.o (lk sP a5.size))
   generalize (cB f k h++[k]).length=L1 at U a8;have bc:=lh (a8.congr (λi=>(ad.o i).symm));have bk:=lh (show(y.set h (.slice Q L1 a0)).length=many by rw[Li];exact af.o);have bO:=T.cell h _ au.o;have c2:=T.lt;have bN:=T.soft h;clear U a5 o aT T a8 aC J r B I ad au aX;go_wp2;go_roundw
   case rel=>exact⟨k+1,_,oM,by go_num,bk.o,bc.o,lh (by simpa using bj.o),bF.o.setCell (lV aH.o) _⟩
   case measure=>simp[intOf];omega
  ·have bh:k=n:=oM;subst bh;obtain⟨m,bb⟩:∃m,m=wr:=⟨_,rfl⟩;subst bb;go_wp2;have S:ak (m.alloc (.cells #[.slice none 0 0] 196)) m.heap.size 196 [.slice none 0 0]:=bH _ _ _;have al:aa m (m.alloc (.cells #[.slice none 0 0] 196)):=aa.alloc (aa.refl _) _;generalize a1:m.alloc (.cells #[.slice none 0 0] 196)=bX at S al|-;clear a1;generalize r:m.heap.size=b at S|-;have aV:=lh r;have b7:=lh S;have aQ:=lh al;clear S al r;go_loopw [53] (λvi wr=>∃(j:Nat) (v:Value) (ps:List Nat),j<=many/\vi=.int .i64 j/\Hid (ak wr b 196 [v])/\Hid (wX wr b v ps)/\Hid (jq wr ((fP f many).take j) ps)/\Hid (aa m wr)) (λvi _=>many-(intOf vi).toNat)
   case atStart=>exact⟨0,.slice none 0 0,[],lj _,rfl,b7.o,ah.nil_ _ _ _ _ _,⟨rfl,λi s a V=>(by simp at V)⟩,aQ.o⟩
   case round =>
    clear b7 aQ;obtain⟨j,v,ps,bL,rfl,z,H,Z,O⟩:=hrel;obtain⟨a9,ay,E⟩:=bp H.o;have b8:ps.length=j:=by rw[Z.o.1,lD];simp[fP];omega
    by_cases az:j<many
    ·obtain⟨u,l⟩:∃u,y[j]? =some u:=⟨_,lu (by rw[af.o];exact az)⟩;have a6:=lh (B.o.keep O.o);have F:=a6.o.own j u l;have ac:=oI f k j;obtain⟨bs,bi,aN,aY⟩:=cU F oh oM;have z0:=a6.o.row.cell j u l;have bv:=a6.o.row.lt;have ai:=lh (λW (a1:aa wr W)=>yX bs bi (cB f k j) W (aY.keep a1) (zk f k j) (λx hx=>lp (uP x hx) aS) oM (b9.o.keep ((I.v O).trans a1)));generalize X:(cB f k j).length=b0 at ac aN ai;have aE:=lh (show(fP f many).take (j+1)=(fP f many).take j++[gz TB (cB f k j)] by
      rw[List.take_add_one,show(fP f many)[j]? =some (gz TB (cB f k j)) by unfold fP;rw[lP,List.getElem?_range az,b4.o];rfl];rfl)
     generalize gz TB (cB f k j)=b1 at ai aE;clear X F aY l;subst aN;subst E;have J:=z.o.cell 0 _ rfl;have aJ:=z.o.lt;have b6:=lh b8;generalize aF:ps.length=P at b6 J z H|-;have bo:=lh aF;clear b8 aF;have c0:((j:Int)<(many:Int)):=oM;obtain⟨N,bD⟩:∃N,N=wr:=⟨_,rfl⟩;subst bD;go_wp2
     first|refine Zone.wp_region_m_gro 1 11 kR kR ?_|refine jK 1 11 kR kR ?_
     simp only[lX,lR,lZ,L4]
     repeat (refine jL _ (by rfl) (λ_=>by rfl) ?_)
     refine jM ?_
     repeat
      refine aR (λK hK=>?_);go_simp
      first
      | (refine hK _ _ ?_;clear hK K)
      | (apply Exists.intro
         refine⟨λp=>?_,hK _ _ ?_⟩
         (fail)
         clear hK K)
     refine bW 65 (λu W=>∃a,u=.pointer (some ⟨a,0,none⟩)/\dF W b1 u) rfl (λ_ W W' M ⟨a,h1,h2⟩=>⟨a,h1,h2.keep M⟩) ?_ ?_
     ·intro p;rw[bZ (by rfl)];simp only[aj];go_simp;go_at_call 127;refine(ai.o _ kP).mono ?_;rintro e c4 ⟨u,rfl,Y,bl⟩;obtain⟨a,rfl⟩:=kB Y;exact⟨_,rfl,⟨⟨a,rfl⟩,Y⟩,bl⟩
     refine bW 66 (λu W=>∃(q a:Nat),u=.slice (some ⟨q,0,none⟩) 1 1/\Sl W 1 oP (some ⟨q,0,none⟩) 1 [a]/\dF W b1 (.pointer (some ⟨a,0,none⟩))) rfl (λ_ W W' M ⟨q,a,h1,h2,h3⟩=>⟨q,a,h1,h2.keep M,h3.keep M⟩) ?_ ?_
     ·refine ij (d:=65) (by rfl) (λp v E=>?_);obtain⟨a,rfl,Y⟩:=E;rw[if_pos (by rfl)];unfold av;go_simp;exact⟨⟨a,br _ dC dC (λj q hq=>by match j,hq with|0,hq=>cases hq;simp[go_sem]),Y.keep (aa.alloc (aa.refl _) _)⟩,aa.alloc (aa.refl _) _⟩
     refine bG ?_;intro p;simp only[aj];rintro v66 ⟨bV,aG,rfl,aq,ax⟩ c3 _;have C:aa N (N.gro p):=kP;generalize N.gro p=bS at C aq ax|-;have R:=z.o.keep C;have o:=H.o.keep C;have ap:=(Z.o.keep C).snoc ax;rw[<-aE.o]at ap;have aB:=O.o.trans C;clear C ax z H Z O J aJ z0 bv;go_simp;refine aD Dz sd AD rfl (.tmp 60) (.tmp 66) rfl (ys:=[aG]) o rfl rfl aq (by have:=b6.o;have:=bo.o;simp;omega) (Nat.le_of_lt R.lt) ?_;intro bI a3 G a4 bq;obtain⟨Q,a0,rfl⟩:=bp G;generalize ba:(ps++[aG]).length=L1 at G;have D:ak a3 b 196 [.slice a9 P ay]:=de R a4 (bu o R dC);have bB:=lh (bu G D dC);have bC:=lh (show aa m a3 from ah.kept o a4 aB (lV aV.o));have bw:=lh (ap.off (vp o dC dC dC dC dC) (ag.of_grown a4));have bE:=lh G;have b2:=lh D;have J:=D.cell 0 _ rfl;have aJ:=D.lt;have bP:=D.soft 0;clear G a4 D o R ap aB bq ba aq;go_simp;go_wp2
     (try rw[fQ])
     go_wp2;go_roundw
     case rel=>exact⟨j+1,_,_,oM,by go_num,b2.o.set 0 _,ah.turn bE.o (ag.set a3 ⟨b,0,none⟩ (.slice Q L1 a0)) (λi hi=>by simp only[lm]at hi;subst hi;exact bB.o),bw.o.off (vh b2.o dC dC dC dC dC) (ag.set a3 ⟨b,0,none⟩ (.slice Q L1 a0)),bC.o.setCell (lV aV.o) _⟩
     case measure=>simp[intOf];omega
    ·have bd:j=many:=oM;subst bd;have bK:=lh (show(fP f j).take j=fP f j from lM (by simp[fP]));go_wp2;exact bodyPost_ret (v:=.tuple #[.pointer (some ⟨b,0,none⟩),.int .i64 0]) (by simp[results,results77,go_sem]) rfl ⟨_,rfl,.mk b v ps z.o (H.o.base_mono (lj _)) (by have:=Z.o;rwa [bK.o]at this),I.o.trans O.o⟩
end Go.Proofs.YtpkocnpamcchcaaGreatDoor
