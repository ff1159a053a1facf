/- Parts. -/
import Derived.Test.YtpkocnpamcchcaaGreatDoorL10
set_option maxRecDepth 100000
set_option maxHeartbeats 40000000
set_option linter.all false
namespace Go.Proofs.YtpkocnpamcchcaaGreatDoor
open Go.RowKit Go.Zone Go.Shelf Tryz Go.Roa Go.Star Go.Sym
theorem qy{a:Type}(l:List a)(i:Nat)(d:a)(b:i<l.length):l.getD i d=l[i]:=by simp[b]
theorem byte_at{B:List UInt8}{p i:Nat}{x:UInt8}{X c:List UInt8}(a:B.drop p=X++(x::c))(hi:X.length=i):∃hb:p+i<B.length,B[p+i]=x:=by
 have b:=congrArg List.length a;simp only[LF,lg,lw]at b;refine⟨oM,?_⟩;have:(B.drop p)[i]'sO=x:=by
  subst hi;simp only[a];simp
 rwa [List.getElem_drop]at this
theorem zh(A:Option Addr)(c:Nat)(S:List bI)(B:List UInt8)(w:World)(a4:B=fK S)(s:cH w A c B)(aj:jr S) :
 Calls prog 12 #[.slice A B.length c] w λe w'=>∃A' c' f,e=.returned (.tuple #[.slice A' f.length c',.int .i64 0])/\Sl w' 2 bI.cells A' c' f/\pr w' f/\f.map cI=S.map cI/\aa w w':=by
 have bi:B.length=6+(S.flatMap fj).length:=by rw[a4];simp[fK,ay];omega
 have ca:=s.len;have bW:=s.big;have cd:=s.cap;have c6:=aj.few;have c9:=uI S aj.at_;have ad:=lh aj;have bp:=lh (λk a0=>show ∃rest,B.drop (gZ S k)=_ from a4▸Qu S k a0);have bP:=lh (JM S);have aZ:=lh (show gZ S S.length=B.length from a4▸JO S);obtain⟨b,n,av⟩:∃b n,A=some ⟨b,n,none⟩:=by
  obtain⟨b,n,av,_⟩:=s.at_ 0 oM;exact⟨b,n,av⟩
 subst av;have b8:6<=B.length:=oM;have b1:B=[73,83,71,76,UInt8.ofNat (S.length/256^0),UInt8.ofNat (S.length/256^1)]++S.flatMap fj:=by rw[a4];simp[fK,le]
 have g:∀i,(hi:i<6)->B[i]'oM=[73,83,71,76,UInt8.ofNat (S.length/256^0),UInt8.ofNat (S.length/256^1)][i]:=λi hi=>by
  simp only[b1];rw[List.getElem_append_left]
 have y:∀i,(hi:i<6)->w.cell? ⟨b,n+i,none⟩=some (.int .u8 (([73,83,71,76,UInt8.ofNat (S.length/256^0),UInt8.ofNat (S.length/256^1)]:List UInt8)[i].toNat:Int)):=λi hi=>by
  obtain⟨_,_,e,_,y⟩:=jw s i oM
  cases e
  rw[g i hi]at y;exact y
 have I:b<w.heap.size:=block_lt_of_cell (y 0 dC);have ao:w.cell? ⟨b,n,none⟩=some (.int .u8 73):=y 0 dC;have aF:w.cell? ⟨b,n+1,none⟩=some (.int .u8 83):=y 1 dC;have aC:w.cell? ⟨b,n+2,none⟩=some (.int .u8 71):=y 2 dC;have aw:w.cell? ⟨b,n+3,none⟩=some (.int .u8 76):=y 3 dC;obtain⟨T,bc⟩:∃T,T=S.length%256:=⟨_,rfl⟩;obtain⟨Z,b2⟩:∃Z,Z=S.length/256:=⟨_,rfl⟩;have aW:w.cell? ⟨b,n+4,none⟩=some (.int .u8 (T:Int)):=by rw[bc];exact(y 4 dC).trans (by simp only[List.getElem_cons_succ,Ld,dH];simp)
 have aU:w.cell? ⟨b,n+5,none⟩=some (.int .u8 (Z:Int)):=by
  rw[b2];exact(y 5 dC).trans (by simp only[List.getElem_cons_succ,Ld,dH];simp;omega)
 have aV:(T:Int)+256*(Z:Int)=(S.length:Int):=oM;have ba:=lh (And.intro aW aU);have bn:=lh aV;have a6:=lh s;have bm:T<256:=oM;have bM:Z<256:=oM;clear s g b1 aj aW aU y bi a4 bc b2 aV;go_enter func12,ntmps12;go_wp2;go_loopw [5] (λi wr=>∃k:Nat,k<=4/\i=.int .i64 k/\Hid (aa w wr)) (λi _=>4-(intOf i).toNat)
 case atStart=>exact⟨0,lj _,rfl,aa.refl _⟩
 case round =>
  obtain⟨k,a0,rfl,h⟩:=hrel;have ac:b<wr.heap.size:=lp I h.o.size
  by_cases F:k<4
  ·have M:=(h.o.cell (p:=⟨b,n,none⟩) I).trans ao;have c2:=(h.o.cell (p:=⟨b,n+1,none⟩) I).trans aF;have bT:=(h.o.cell (p:=⟨b,n+2,none⟩) I).trans aC;have c1:=(h.o.cell (p:=⟨b,n+3,none⟩) I).trans aw;have bL:k=0\/k=1\/k=2\/k=3:=oM;have bR:¬ B=[]:=(by intro e;rw[e]at b8;simp at b8);have s0:((⟨#[73,83,71,76]⟩:ByteArray)[0]'dC).toNat=73:=dC;have s1:((⟨#[73,83,71,76]⟩:ByteArray)[1]'dC).toNat=83:=dC;have s2:((⟨#[73,83,71,76]⟩:ByteArray)[2]'dC).toNat=71:=dC;have s3:((⟨#[73,83,71,76]⟩:ByteArray)[3]'dC).toNat=76:=dC;clear ao aF aC aw
   rcases bL with rfl|rfl|rfl|rfl
   all_goals
    go_wp2;go_region;go_wp2;go_roundw
    case rel=>exact⟨_,dC,rfl,h.o.trans kP⟩
    case measure=>simp[intOf]
  ·clear ao aF aC aw;have bz:=(h.o.cell (p:=⟨b,n+4,none⟩) I).trans ba.o.1;have bu:=(h.o.cell (p:=⟨b,n+5,none⟩) I).trans ba.o.2;go_wp2;go_region;rw[bn.o];clear bz bu bm bM;go_wp2;have aL:∀k,k<=S.length->Hid (gZ S k<=B.length):=λk a0=>by
    show _<=_;rw[<-aZ.o];unfold gZ;have q:(S.take S.length).flatMap fj=(S.take k).flatMap fj++((S.take S.length).drop k).flatMap fj:=(by rw[<-lF];congr 1;simp);rw[q,lg];omega
   have aO:=lh aL;clear aL;go_loopw [7,8,9] (λvat vl i wr=>∃(k p:Nat) (ai:Value) (f:List bI),k<=S.length/\i=.int .i64 k/\vat=.int .i64 p/\ai=vl/\Hid (p=gZ S k)/\Hid (eB wr w.heap.size ai f)/\Hid (f.map cI=(S.take k).map cI)/\Hid (∀a∈f,aE wr w.heap.size (.slice a.A a.bs.length a.c) a.bs)/\Hid (aa w wr)) (λ_ _ i _=>S.length-(intOf i).toNat)
   case atStart=>exact⟨0,6,_,[],lj _,rfl,rfl,rfl,(by show _=_;simp[gZ]),ah.nil_ _ _ _ _ _,rfl,(λa hs=>by cases hs),h.o.trans kP⟩
   case round =>
    clear ac h;obtain⟨k,p,ai,f,a0,rfl,rfl,rfl,aH,D,L,E,h⟩:=hrel;have bV:p<=B.length:=by rw[aH.o];exact aO.o k a0
    by_cases F:k<S.length
    ·obtain⟨rest,G⟩:=bp.o k F;have U:=bP.o k F;have aM:=aO.o (k+1) F;rw[<-aH.o]at G U;have O:=ad.o.name k F;have aq:=ad.o.small k F;have aG:=lh (show dz (fJ S[k].name) f 0= -1 by
         have b9:=L.o;have:∀a∈f,fJ S[k].name a=false:=λa hs=>by
          have q:cI a∈(S.take k).map cI:=(by rw[<-b9];exact Le hs);obtain⟨t,au,he⟩:=lW.1 q;obtain⟨j,R,rfl⟩:=lU au;simp only[lD]at R;have:=ad.o.one k j F oM;simp only[cI,Prod.mk.injEq,List.getElem_take]at he;simp only[fJ,beq_eq_false_iff_ne,ne_eq,<-he.1];exact this
         rw[jk _ f 0 f.length λj R _=>this _ (ll R)];simp[dz])
     have b6:=lh (show(S.take (k+1)).map cI=(S.take k).map cI++[cI S[k]] by rw[ly F,lz];rfl);generalize S[k]=a at G U O aq aG b6;obtain⟨d,c7,c3,r⟩:=a;simp only at G U O aq aG;have bH:=O.lo;have bd:=O.hi;have aP:=O.ok;have bN:d.data.toList.length=d.size:=(by rw[Lib.size_eq]);have bw:p+1+d.size+r.length+8<=B.length:=(by have:=aM.o;omega);obtain⟨bG,b3⟩:=byte_at (X:=[]) G rfl;have aK:B[p]'oM=UInt8.ofNat d.size:=b3;have b4:=lh (show ∀i,i<d.size->p+1+i<B.length/\B.getD (p+1+i) 0=d.data.toList.getD i 0 from λi hi=>by
         have a7:B.drop p=([UInt8.ofNat d.size]++d.data.toList.take i)++(d.data.toList[i]'oM::(d.data.toList.drop (i+1)++(fA r++rest))):=by
          rw[G]
          conv=>lhs;rw[<-Ls i d.data.toList,Lh (show i<d.data.toList.length from oM)]
          simp
         obtain⟨c0,bB⟩:=byte_at (i:=1+i) a7 sO;refine⟨oM,?_⟩;rw[qy _ _ _ oM,qy _ _ _ oM]
         simpa[Nat.add_assoc]using bB)
     have b5:=lh (show ∀i,i<d.size->dZ (d.data.toList.getD i 0).toNat=true from λi hi=>by
         rw[qy _ _ _ oM];have:=aP i hi
         simpa[ByteArray.getElem_eq_getElem_data]using this)
     have aT:=lh (show ∀i,i<d.size->jW d i++⟨[d.data.toList.getD i 0].toArray⟩=jW d (i+1) from λi hi=>by
         rw[qy _ _ _ oM];exact JF d i oM)
     have bb:=lh (JG d);have az:=lh (show B.drop (p+1+d.size)=fA r++rest by
         rw[Nat.add_assoc,<-List.drop_drop,G,<-lr,List.drop_left' sO])
     obtain⟨bK,bJ,ax,ac,M⟩:=jw (a6.o.keep h.o) p oM
     cases ax
     rw[aK,dH,show(d.size:Int)%256=(d.size:Int) from oM]at M;have aQ:=lh U;clear G bG b3 aK U aM bN aP O;obtain⟨z,aX⟩:∃z,z=d.size:=⟨_,rfl⟩;rw[<-aX]at M bH bd bw b4 b5 aT bb az aQ;clear aX;have bS:((z:Int)==0)=false:=sO;have c4:decide (B.length<=p)=false:=sO;go_wp2;go_loopw [7,11,12] (λvat vs i wr=>∃m:Nat,m<=z/\i=.int .i64 m/\vat=.int .i64 (p+1+m:Nat)/\vs=.string (jW d m)/\Hid (eB wr w.heap.size ai f)/\Hid (∀a∈f,aE wr w.heap.size (.slice a.A a.bs.length a.c) a.bs)/\Hid (aa w wr)) (λ_ _ i _=>z-(intOf i).toNat)
     case atStart=>exact⟨0,lj _,rfl,by go_num,rfl,D.o,E.o,h.o⟩
     case round =>
         clear M D E h ac;obtain⟨m,b9,rfl,rfl,rfl,D,E,h⟩:=hrel
         by_cases al:m<z
         ·obtain⟨hi,P⟩:=b4.o m al;have bF:=b5.o m al;have aN:=lh (aT.o m al);generalize d.data.toList.getD m 0=x at bF aN P;obtain⟨o,K⟩:∃o,o=p+1+m:=⟨_,rfl⟩;have J:((p+1+m:Nat):Int)=(o:Int):=oM;rw[<-K]at hi P|-;rw[qy _ _ _ hi]at P;obtain⟨bK,bJ,ax,ac,M⟩:=jw (a6.o.keep h.o) o hi
          cases ax
          rw[P]at M;have bZ:o+1<=c:=oM;have cc:(jW d m).size<=1000:=by
           have q:(jW d m).size=(d.data.toList.take m).length:=List.size_toArray;rw[q,lD];omega
          have aB:=lh K;have bv:=lh P;clear K P J;go_wp2_with (go_at_call 43;refine ae ?_);refine uM (M4 _ _) ?_;rintro e b7 ⟨rfl,C⟩;have H:=h.u C;have ak:=lh (D.o.keep C);have a5:=lh (λa hs=>(E.o a hs).keep C);have bl:=ii (w:=b7) (A:=some ⟨b,n+o,none⟩) (c:=c-o) (l:=[x]) (by
           have q:=((uz (a6.o.keep H.o) o oM)).cut_front 1 sO;have a7:=bv.o;rw[show(B.drop o).take 1=[x] by rw[Lh hi,a7];rfl]at q;exact q)
          simp only[lJ]at bl;clear D E h C;go_wp2;go_roundw
          case rel =>
           exact⟨m+1,oM,by go_num,(by have:=aB.o;exact congrArg (Value.int .i64) oM),by rw[<-aN.o],ak.o,a5.o,H.o⟩
          case measure=>simp[intOf];omega
         ·have bg:m=z:=oM;subst bg;rw[bb.o];obtain⟨o,K⟩:∃o,o=p+1+m:=⟨_,rfl⟩;have J:((p+1+m:Nat):Int)=(o:Int):=oM;rw[<-K]at az|-;have bt:o<=B.length:=oM;have aB:=lh K;obtain⟨V,Y,rfl,a3⟩:=ah.sl D.o nB (by
           have:=congrArg List.length L.o;simp only[ld,lD]at this;omega)
          have a8:=lh a3;have bj:o+r.length+8<=140737488355328:=oM;clear K J a3;go_wp2_with (go_at_call 44;refine ae ?_);refine uM (IK V Y f d _ a8.o) ?_;rintro e b7 ⟨rfl,C⟩;rw[aG.o];have H:=h.u C;have ak:=lh (D.o.keep C);have a5:=lh (λa hs=>(E.o a hs).keep C);clear D E h C a8;go_wp2_with (go_at_call 45;refine ae ?_);refine uM (FS (some ⟨b,n,none⟩) c o B r rest _ (a6.o.keep H.o) bt az.o aq) ?_;rintro e af ⟨c5,rfl,ap,ag⟩;obtain⟨N,Q,rfl,bx⟩:=uX ap oM;have aS:=H.u ag;have aJ:=lh (ak.o.keep ag);have aR:=lh (λa hs=>(a5.o a hs).keep ag);have aY:=lh (ap.base_mono H.o.size);have bC:=lh (show f.length<=2000 by
           have:=congrArg List.length L.o;simp only[ld,lD]at this;omega)
          clear ak a5 H ag ap bx;obtain⟨ab,J⟩:∃ab,ab=o+r.length+8:=⟨_,rfl⟩;rw[<-J];have bA:=lh J;clear J bj;go_wp2_with (at_builtin;refine ae ?_);refine ar ?_;have W:aa af (af.alloc (.cells #[.string d,.slice N r.length Q] 68)):=kP;have a9:eB (af.alloc (.cells #[.string d,.slice N r.length Q] 68)) w.heap.size (.slice V f.length Y) f:=aJ.o.keep W;refine aD DC nB zd rfl (.tmp 108) (.tmp 112) rfl (ys:=[⟨d,N,Q,r⟩]) a9 rfl rfl (br _ oM oM (λj u hu=>by
           match j,hu with
           | 0,hu=>cases hu;simp[go_sem]
           | 1,hu=>cases hu;simp[go_sem])) (by have:=bC.o;simp;omega) (by simp;exact Lv aS.o.size) ?_
          intro cb bh b0 aA bQ;have ⟨a1,a2,_⟩:=a9.after (w:=w) aA (aS.o.trans W) (lc _);have bq:=lh (show ∀a∈f++[(⟨d,N,Q,r⟩:bI)],aE bh w.heap.size (.slice a.A a.bs.length a.c) a.bs from λa hs=>by
           have q:aE (af.alloc (.cells #[.string d,.slice N r.length Q] 68)) w.heap.size (.slice a.A a.bs.length a.c) a.bs:=by
               rcases lx.1 hs with s|s
               ·exact(aR.o a s).keep W
               ·have:a=⟨d,N,Q,r⟩:=(by simpa using s);subst this;exact aY.o.keep W
           exact q.grown aA λj R=>Ko a9 q j R)
          have bO:=lh b0;have bo:=lh a1;clear b0 aA bQ a1 a2 a9 W aJ aR aY;have bE:Hid (ab=gZ S (k+1)):=by
           show _=_;rw[aQ.o,bA.o,aB.o];omega
          go_wp2;go_roundw
          case rel=>exact⟨k+1,ab,_,_,oM,by go_num,rfl,rfl,bE.o,bO.o,(by
           show _=_;rw[lz,L.o,b6.o];rfl),bq.o,bo.o⟩
          case measure=>simp[intOf];omega
    ·have bf:k=S.length:=oM;subst bf;have bk:p=B.length:=(by rw[aH.o,aZ.o]);have bY:f.length<=2000:=by
         have:=congrArg List.length L.o;simp only[ld,lD]at this;omega
     obtain⟨V,Y,rfl,a3⟩:=ah.sl D.o nB oM;have a8:=lh a3;have c8:¬ p<B.length:=oM;clear bk a3;go_wp2;exact bodyPost_ret (v:=.tuple #[.slice V f.length Y,.int .i64 0]) (by simp[results,results12,go_sem]) rfl ⟨V,Y,f,rfl,a8.o,(λa hs=>by
         obtain⟨bU,bX,aI,bD⟩:=uX (E.o a hs) (by
          have q:cI a∈(S.take S.length).map cI:=(by rw[<-L.o];exact Le hs);obtain⟨t,au,he⟩:=lW.1 q;have a7:=(ad.o.at_ t (Lx au)).2;simp only[cI,Prod.mk.injEq]at he;rw[<-he.2];omega)
         simp only[Value.slice.injEq,true_and]at aI;obtain⟨rfl,rfl⟩:=aI;exact bD),by rw[L.o,lC],h.o⟩
end Go.Proofs.YtpkocnpamcchcaaGreatDoor
