/- Parts. -/
import Derived.Test.YtpkocnpamcchcaaGreatDoorL13
set_option maxRecDepth 100000
set_option maxHeartbeats 40000000
set_option linter.all false
namespace Go.Proofs.YtpkocnpamcchcaaGreatDoor
open Go.RowKit Go.Zone Go.Shelf Tryz
theorem Dh:∀(xs:List ai) (i:Nat) (x:ai),i<xs.length->(((xs.flatMap ai.cells).set (i*3) (.int .u8 x.k)).set (i*3+1) (.int .i64 x.n)).set (i*3+2) (.string x.s)=(xs.set i x).flatMap ai.cells
 | y::r,0,x,_=>by
   simp only[lN,ai.cells,List.set_cons_zero,List.cons_append,lO,Lf,lS,List.set_cons_succ]
 | y::r,i+1,x,h=>by
   have:=Dh r i x (by simpa using h);simp only[lN,List.set_cons_succ];rw[<-this];have e:(i+1)*3=i*3+1+1+1:=oM;simp only[ai.cells,e,List.cons_append,lO,List.set_cons_succ]
theorem IQ{w:World}{g:Nat}{xs:List ai}(h:ak w g 72 (xs.flatMap ai.cells))(i:Nat)(hi:i<xs.length)(x:ai) :
 ak (((w.setCell ⟨g,i*3,none⟩ (.int .u8 x.k)).setCell ⟨g,i*3+1,none⟩ (.int .i64 x.n)).setCell ⟨g,i*3+2,none⟩ (.string x.s)) g 72 ((xs.set i x).flatMap ai.cells):=by
 rw[<-Dh xs i x hi];exact((ak.set h _ _).set _ _).set _ _
def bD(rows:List (List ai))(p:Nat):List ai:=rows.map λr=>r.getD p ej
theorem xU(A:Option Addr)(c p:Nat)(rows:List Rw)(w:World)(H:Sl w 1 Rw.cells A c rows)(E:dG w rows)(F:rows.length<=1000000000) :
 Calls prog 66 #[.slice A rows.length c,.int .i64 p] w λe w'=>∃g,e=.returned (.slice (some ⟨g,0,none⟩) rows.length rows.length)/\ak w' g 72 ((bD (rows.map (·.vs)) p).flatMap ai.cells)/\w.heap.size<=g/\aa w w':=by
 have a0:=lh H;have Z:=lh E;generalize M:rows.length=n at F;have L:=lh M;obtain⟨W',J,K,B⟩:=BQ n w.heap.size w F (lc _);have a:=lh K;have f:=lh B;clear H E K B M;generalize Q:w.heap.size=g at a J;have T:=lh Q;clear Q;go_enter func66,ntmps66;go_wp2;clear J;go_loopw [13] (λi wr=>∃k:Nat,k<=n/\i=.int .i64 k/\Hid (ak wr g 72 ((bD ((rows.take k).map (·.vs)) p++List.replicate (n-k) ej).flatMap ai.cells))/\Hid (aa w wr)) (λi _=>n-(intOf i).toNat)
 case atStart=>exact⟨0,lj _,rfl,a.o,f.o⟩
 case round =>
  clear a f;obtain⟨k,B,rfl,a,f⟩:=hrel
  by_cases X:k<n
  ·have u:k<rows.length:=(by rw[L.o];exact X);obtain⟨b,a9,V,a8,P⟩:=jv (a0.o.keep f.o) k u;have z:=lh ((Z.o rows[k] (ll u)).keep f.o);have l:=lh (show bD ((rows.take (k+1)).map (·.vs)) p=bD ((rows.take k).map (·.vs)) p++[rows[k].vs.getD p ej] by rw[ly u,lz];simp[bD]);have q:(bD ((rows.take k).map (·.vs)) p).length=k:=(by simp[bD];omega);subst V;generalize rows[k]=r at P z l;obtain⟨a6,af,d⟩:=r;simp only at P z l;generalize bD ((rows.take k).map (·.vs)) p=m at a l q;have N:(m++List.replicate (n-k) ej).length=n:=sO;have Y:=a.o.lt;have j:=a.o.soft
   by_cases t:p<d.length
   ·obtain⟨a7,ab,S,a3,G,I,D⟩:=dL z.o p t;have o:=lh (show d.getD p ej=d[p] by simp[t]);have O:(m++List.replicate (n-k) ej).set k d[p]=(m++[d[p]])++List.replicate (n-(k+1)) ej:=by
     rw[Lg _ _ oM,q,Nat.sub_self,show n-k=(n-(k+1))+1 from oM,List.replicate_succ,List.set_cons_zero,lr];rfl
    subst S;have h:=IQ a.o k oM d[p];rw[O]at h;generalize d[p]=x at G I D o h;obtain⟨a5,ag,xs⟩:=x;simp only at G I D h;have U:=lh h;have aj:=j (k*3);have a1:=j (k*3+1);have ae:=j (k*3+2);obtain⟨a2,ah⟩:∃y,wr.cell? ⟨g,k*3,none⟩=some y:=⟨_,a.o.cell (k*3) _ (lu (by rw[eL di];omega))⟩;obtain⟨a4,d1⟩:∃y,wr.cell? ⟨g,k*3+1,none⟩=some y:=⟨_,a.o.cell (k*3+1) _ (lu (by rw[eL di];omega))⟩;obtain⟨ad,d2⟩:∃y,wr.cell? ⟨g,k*3+2,none⟩=some y:=⟨_,a.o.cell (k*3+2) _ (lu (by rw[eL di];omega))⟩;have C:(p:Int)<(d.length:Int):=oM;clear h O N j q;go_wp2;go_roundw
    case rel =>
     have s:w.heap.size<=g:=lV T.o;exact⟨k+1,oM,by go_num,(by show ak _ _ _ _;rw[l.o,o.o];exact U.o),((f.o.setCell s _).setCell s _).setCell s _⟩
    case measure=>simp[intOf];omega
   ·have C:¬(p:Int)<(d.length:Int):=oM;have ac:decide ((p:Int)<(d.length:Int))=false:=decide_eq_false C;have o:=lh (show d.getD p ej=ej by simp[Nat.le_of_not_lt t]);have W:=lh (show m++List.replicate (n-k) ej=(m++[ej])++List.replicate (n-(k+1)) ej by
     rw[show n-k=(n-(k+1))+1 from oM,List.replicate_succ,lr];rfl)
    clear N j q Y;go_wp2;go_roundw
    case rel =>
     exact⟨k+1,oM,by go_num,(by show ak _ _ _ _;rw[l.o,o.o,<-W.o];exact a.o),f.o⟩
    case measure=>simp[intOf];omega
  ·have R:k=n:=oM;subst R;rw[Nat.sub_self,List.replicate_zero,lT,<-L.o,lC]at a;go_wp2;exact bodyPost_ret (v:=.slice (some ⟨g,0,none⟩) k k) (by simp[results,results66,go_sem]) rfl ⟨g,rfl,a.o,lc _,f.o⟩
theorem F7(A B:Option Addr)(n m:Nat)(cs:List aG)(c:bw)(rows:List Rw)(w:World)(i:Sl w 2 aG.cells A n cs)(L:∀x∈cs,x.name.size<=140737488355328)(S:ff w c)(P:Fits cs c)(p:c.sort= -1)
 (f:Sl w 1 Rw.cells B m rows) (j:dG w rows) (a2:rows.length<=1000000000) (Z:∀r∈rows,r.vs.length<=1000000000) (he:da cs (rows.map (·.vs))=0) :
 Calls prog 28 #[.slice A cs.length n,c.v,.slice B rows.length m] w λe w'=>∃g,e=.returned (.tuple #[.slice (some ⟨g,0,none⟩) rows.length rows.length,.int .i64 0])/\∃h,cw w' w.heap.size (.slice (some ⟨g,0,none⟩) rows.length rows.length) h/\(∀r∈h,iS w' w.heap.size r)/\h.map (·.vs)=rows.map (·.vs)/\aa w w':=by
 have G:=lh (λW (hW:aa w W)=>fits_any A n cs c W (i.keep hW) L (S.keep hW));have I:=lh (λW (hW:aa w W)=>uh A B n m cs rows W (i.keep hW) L (f.keep hW) (j.keep hW));have af:=lh (λW (hW:aa w W)=>xT B m rows W (f.keep hW) (j.keep hW) a2 Z);have al:=ew P;rw[he]at I;obtain⟨s0,K,U,D,H,O,a0,Q,Y,sp,a1⟩:=c;simp only at p;subst p;simp only[bw.v];clear i S P f j Z he;go_enter func28,ntmps28;go_upto_region 1 with fail;have a:cV w (w.alloc (.cells #[.int .i64 (-1),.slice K D.length U,.slice H a0.length O,.slice Q sp.length Y,.int .i64 a1] 26)) [.int .i64 (-1),.slice K D.length U,.slice H a0.length O,.slice Q sp.length Y,.int .i64 a1]:=cV.start (t:=26) (aa.refl _);generalize a3:World.alloc w _=aj at a|-;have F:=a.lt;have l:=a.at_ 0 _ rfl;have y:=a.at_ 1 _ rfl;have R:=a.at_ 2 _ rfl;have M:=a.at_ 3 _ rfl;have C:=a.at_ 4 _ rfl;have d:=lh a.keep;have E:=lh l;clear a3 a;generalize w.heap.size=a7 at F l y R M C E;go_wp2_with (go_at_call 55;refine ae ?_);refine uM (G.o _ d.o) ?_;rintro e ai ⟨rfl,z⟩;have q:=lh z;clear l y R M C G z;go_wp2_with (go_at_call 59;refine ae ?_);refine uM (I.o _ (d.v q)) ?_;rintro e ak ⟨rfl,V⟩;have k:=q.u V;clear V;go_wp2_with (go_at_call 60;refine ae ?_);refine uM (af.o _ (d.v k)) ?_;rintro e a6 ⟨g,rfl,h,N,X,s,T⟩;have o:=k.u T;have J:=lh (d.v k).size;have ab:=lh N
 have ad:=lh X;have ac:=lh s;have a5:=bE o.o F E.o;have ah:a7<a6.heap.size:=block_lt_of_cell a5;clear T N X s;go_wp2;exact bodyPost_ret (v:=.tuple #[.slice (some ⟨g,0,none⟩) rows.length rows.length,.int .i64 0]) (by simp[results,results28,go_sem]) rfl ⟨g,rfl,h,ab.o.base_mono J.o,λr f=>by
  obtain⟨b,ag,a8,a9,a4⟩:=ad.o r f;exact⟨b,ag,lk J.o a8,a9,a4⟩,ac.o,d.o.trans o.o⟩
open Go.Roa Go.Sym
attribute [local go_sem high] kE kD kF
theorem I8(A B:Option Addr)(n m:Nat)(cs:List aG)(c:bw)(rows:List Rw)(mx:Int)(w:World)(a:Sl w 2 aG.cells A n cs)(U:∀x∈cs,x.name.size<=140737488355328)(X:ff w c)(o:Sl w 1 Rw.cells B m rows)(S:dG w rows) :
 Calls prog 27 #[.slice A cs.length n,c.v,.slice B rows.length m,.int .i64 mx] w λe w'=>(∃g,e=.returned (.bool g)/\(g=false->(rows.length:Int)<=mx/\∀r∈rows,r.vs.length<=300))/\aa w w':=by
 have z:=lh (λW (hW:aa w W)=>I7 A n cs c W (a.keep hW) U (X.keep hW));have a6:=lh o;have af:=lh S;have ad:=cE o;generalize E:rows.length=N at ad|-;have a0:=lh E;obtain⟨s0,T,O,D,a2,a3,G,Y,P,sp,a5⟩:=c;simp only[bw.v]at z|-;clear a U X o S E;go_enter func27,ntmps27;go_upto_region 1 with fail;have d:cV w (w.alloc (.cells #[.int .i64 s0,.slice T D.length O,.slice a2 G.length a3,.slice Y sp.length P,.int .i64 a5] 26)) [.int .i64 s0,.slice T D.length O,.slice a2 G.length a3,.slice Y sp.length P,.int .i64 a5]:=cV.start (t:=26) (aa.refl _);generalize a7:World.alloc w _=ax at d|-;have K:=d.lt;have M:=d.at_ 0 _ rfl;have J:=d.at_ 1 _ rfl;have Z:=d.at_ 2 _ rfl;have V:=d.at_ 3 _ rfl;have R:=d.at_ 4 _ rfl;have Q:=lh d.keep;clear a7 d;generalize w.heap.size=ap at K M J Z V R|-;go_wp2_with (go_at_call 57;refine ae ?_);refine uM (z.o _ Q.o) ?_;rintro e ay ⟨⟨b,rfl⟩,a4⟩;have p:=Q.u a4;clear M J Z V R a4 z K
 cases b
 ·by_cases H:mx<(N:Int)
  ·have ah:decide (mx<(N:Int))=true:=decide_eq_true H;go_wp2;go_ret;exact⟨⟨true,rfl,λa=>by cases a⟩,p.o⟩
  ·have ah:decide (mx<(N:Int))=false:=decide_eq_false H;go_wp2;go_loopw [10,9] (λvi vn wr=>∃(k:Nat) (x:Int),vi=.int .i64 k/\k<=N/\vn=.int .i64 x/\Hid (∀j,(a:j<rows.length)->j<k->rows[j].vs.length<=300)/\Hid (aa w wr)) (λvi _ _=>N-(intOf vi).toNat)
   case atStart=>exact⟨0,_,rfl,lj _,rfl,(λj _ a=>absurd a (lI _)),p.o⟩
   case round =>
    clear p;obtain⟨k,x,rfl,aA,rfl,s,h⟩:=hrel
    by_cases ag:k<N
    ·have a1:k<rows.length:=(by rw[a0.o];exact ag);obtain⟨b,aw,ac,av,F⟩:=jv (a6.o.keep h.o) k a1;have l:=lh ((af.o rows[k] (ll a1)).keep h.o);have q:=lh (show rows[k].vs.length<=300->∀j,(a:j<rows.length)->j<k+1->rows[j].vs.length<=300 from λh9 j C hjk=>by
      rcases L8 j k with L|L
      ·exact s.o j C L
      ·have:j=k:=oM;subst this;exact h9)
     subst ac;generalize rows[k]=r at F l q;obtain⟨al,ak,f⟩:=r;simp only at F l q;have aq:=cE l.o
     by_cases I:(300:Int)<(f.length:Int)
     ·have a8:decide ((300:Int)<(f.length:Int))=true:=decide_eq_true I;go_wp2;go_ret;exact⟨⟨true,rfl,λa=>by cases a⟩,h.o⟩
     ·have a8:decide ((300:Int)<(f.length:Int))=false:=decide_eq_false I;have a9:=lh (q.o oM);clear q s;go_wp2_with (go_at_call 58;refine ae ?_);refine uM (OC al ak f 300 _ l.o) ?_;rintro e ar ⟨rfl,rfl⟩
      cases hgv:wo f 300
      ·clear hgv;go_wp2;go_loopw [11,9] (λvj vn wq=>∃(j:Nat) (x:Int),vj=.int .i64 j/\j<=f.length/\vn=.int .i64 x/\wq=wr) (λvj _ _=>f.length-(intOf vj).toNat)
       case atStart=>exact⟨0,_,rfl,lj _,rfl,rfl⟩
       case round =>
           obtain⟨j,y,rfl,C,rfl,rfl⟩:=hrel
           by_cases ai:j<f.length
           ·obtain⟨au,az,aj,aD,ao,aC,aB⟩:=dL l.o j ai;subst aj;go_wp2;go_roundw
            case rel=>exact⟨j+1,_,by go_num,oM,rfl,trivial⟩
            case measure=>simp[intOf];omega
           ·have:j=f.length:=oM;subst this;go_wp2;go_roundw
            case rel=>exact⟨k+1,_,by go_num,oM,rfl,a9.o,h.o⟩
            case measure=>simp[intOf];omega
      ·clear hgv;go_wp2;go_ret;exact⟨⟨true,rfl,λa=>by cases a⟩,h.o⟩
    ·have ab:k=N:=oM;subst ab;go_wp2;go_ret;exact⟨⟨_,rfl,λ_=>⟨oM,λr o=>by
      obtain⟨i,hi,rfl⟩:=lU o;exact s.o i hi (by rw[<-a0.o];exact hi)⟩⟩,h.o⟩
 ·go_wp2;go_ret;exact⟨⟨true,rfl,λa=>by cases a⟩,p.o⟩
theorem OD(A B:Option Addr)(n m:Nat)(cs:List aG)(c:bw)(rows:List Rw)(w:World)(l:Sl w 2 aG.cells A n cs)(z:∀x∈cs,x.name.size<=140737488355328)(E:ff w c)(k:Sl w 1 Rw.cells B m rows)(p:dG w rows) :
 Calls prog 6 #[.slice A cs.length n,c.v,.slice B rows.length m] w λe w'=>(∃g,e=.returned (.bool g)/\(g=false->(rows.length:Int)<=60/\∀r∈rows,r.vs.length<=300))/\aa w w':=by
 have d:=lh (λW (hW:aa w W)=>I8 A B n m cs c rows 60 W (l.keep hW) z (E.keep hW) (k.keep hW) (p.keep hW));obtain⟨s0,s,I,j,q,D,L,F,K,sp,M⟩:=c;simp only[bw.v]at d|-;clear l z E k p;go_enter func6,ntmps6;go_upto_region 1 with fail;have a:cV w (w.alloc (.cells #[.int .i64 s0,.slice s j.length I,.slice q L.length D,.slice F sp.length K,.int .i64 M] 26)) [.int .i64 s0,.slice s j.length I,.slice q L.length D,.slice F sp.length K,.int .i64 M]:=cV.start (t:=26) (aa.refl _);generalize N:World.alloc w _=R at a|-;have o:=a.lt;have G:=a.at_ 0 _ rfl;have h:=a.at_ 1 _ rfl;have H:=a.at_ 2 _ rfl;have C:=a.at_ 3 _ rfl;have i:=a.at_ 4 _ rfl;have f:=lh a.keep;clear N a;generalize w.heap.size=Q at o G h H C i|-;go_wp2_with (go_at_call 27;refine ae ?_);refine uM (d.o _ f.o) ?_;rintro e S ⟨⟨b,rfl,y⟩,J⟩;have P:=f.u J;have O:=lh y;clear G h H C i J d o y;go_wp2;go_ret;exact⟨⟨b,rfl,O.o⟩,P.o⟩
theorem Na(A:Option Addr)(c p:Nat)(rows:List Rw)(w:World)(y:Sl w 1 Rw.cells A c rows)(t:dG w rows)(L:rows.length<=1000)(z:∀r∈rows,p<r.vs.length) :
 Calls prog 18 #[.slice A rows.length c,.int .i64 p] w λe w'=>∃v,e=.returned v/\ah w' w.heap.size 72 3 ai.cells v (bD (rows.map (·.vs)) p)/\aa w w':=by
 have U:=lh y;have R:=lh t;have N:=lh z;generalize F:rows.length=n at L|-;have D:=lh F;clear y t F z;go_enter func18,ntmps18;go_wp2;go_loopw [9,5] (λi v wr=>∃(k:Nat) (g:Value),k<=n/\i=.int .i64 k/\g=v/\Hid (ah wr w.heap.size 72 3 ai.cells g (bD ((rows.take k).map (·.vs)) p))/\Hid (aa w wr)) (λi _ _=>n-(intOf i).toNat)
 case atStart=>exact⟨0,_,lj _,rfl,rfl,ah.nil_ _ _ _ _ _,kP⟩
 case round =>
  obtain⟨k,g,a8,rfl,rfl,f,a⟩:=hrel
  by_cases P:k<n
  ·have d:k<rows.length:=(by rw[D.o];exact P);obtain⟨b,a5,O,a4,H⟩:=jv (U.o.keep a.o) k d;have j:=N.o _ (ll d);have o:=lh ((R.o rows[k] (ll d)).keep a.o);have h:=lh (show bD ((rows.take (k+1)).map (·.vs)) p=bD ((rows.take k).map (·.vs)) p++[rows[k].vs.getD p ej] by rw[ly d,lz];simp[bD]);have q:(bD ((rows.take k).map (·.vs)) p).length=k:=(by simp[bD];omega);subst O;generalize rows[k]=r at H o h j;obtain⟨Z,a9,m⟩:=r;simp only at H o h j;obtain⟨a0,a6,M,Y,u,B,s⟩:=dL o.o p j;have C:=lh (show m.getD p ej=m[p] by simp[j]);subst M;generalize m[p]=x at u B s C;obtain⟨E,G,xs⟩:=x;simp only at u B s;generalize bD ((rows.take k).map (·.vs)) p=T at f h q;have Q:=lh q;have a7:=a.o.size;clear q;go_wp2_with (at_builtin;refine ae ?_);refine ar ?_;have l:ah (wr.alloc (.cells #[.int .u8 E,.int .i64 G,.string xs] 72)) w.heap.size 72 3 ai.cells g T:=f.o.keep (aa.alloc (aa.refl _) _);refine aD mO di jO rfl (.tmp 12) (.tmp 20) rfl (ys:=[⟨E,G,xs⟩]) l rfl rfl (br _ oM oM (oe _ sG sG sG)) (by have:=Q.o;simp;omega) sO ?_;intro W X J I _;have ⟨a1,a2,a3⟩:=l.after I (a.o.trans kP) (lc _);have V:=lh J;have S:=lh a1;clear J I l a3;go_wp2;go_roundw
   case rel=>exact⟨k+1,_,oM,by go_num,rfl,(by show ah _ _ _ _ _ _ _;rw[h.o,C.o];exact V.o),S.o⟩
   case measure=>simp[intOf];omega
  ·have K:k=n:=oM;subst K;rw[<-D.o,lC]at f;go_wp2;go_ret;exact⟨_,rfl,f.o,a.o⟩
theorem IN(A B:Option Addr)(c d:Nat)(xs ys:List ai)(w:World)(a:Sl w 3 ai.cells A c xs)(k:Sl w 3 ai.cells B d ys) :
 Calls prog 42 #[.slice A xs.length c,.slice B ys.length d] w λe w'=>(∃b,e=.returned (.bool b)/\(b=true<->xs=ys))/\aa w w':=by
 have E:=lh a;have C:=lh k;have R:=a.len;clear a k;go_enter func42,ntmps42
 by_cases h:xs.length=ys.length
 ·have p:=lh h;have u:((xs.length:Int) != (ys.length:Int))=false:=by simp[h]
  clear h;go_wp2;clear u;go_loopw [5] (λvi wr=>∃k:Nat,k<=xs.length/\vi=.int .i64 k/\Hid (∀j (h1:j<xs.length) (h2:j<ys.length),j<k->xs[j]=ys[j])/\Hid (aa w wr)) (λvi _=>xs.length-(intOf vi).toNat)
  case atStart=>exact⟨0,lj _,rfl,(λj _ _ a=>absurd a (lI _)),aa.refl _⟩
  case round =>
   obtain⟨k,U,rfl,q,g⟩:=hrel
   by_cases t:k<xs.length
   ·have H:k<ys.length:=(by rw[<-p.o];exact t);obtain⟨N,W,F,O,r,s,o⟩:=dL (E.o.keep g.o) k t;obtain⟨T,P,D,Q,v,d1,d2⟩:=dL (C.o.keep g.o) k H;have f:=lh (pj xs[k] ys[k]);have m:=lh (show xs[k]=ys[k]->∀j (h1:j<xs.length) (h2:j<ys.length),j<k+1->xs[j]=ys[j]from λhe j h1 h2 hj=>by
     rcases L8 j k with a|a
     ·exact q.o j h1 h2 a
     ·have:j=k:=oM;subst this;exact he)
    have l:=lh (show xs=ys->xs[k]=ys[k]from λhe=>by subst he;rfl);subst F;subst D;generalize xs[k]=x at r s o f m l;generalize ys[k]=y at v d1 d2 f m l;obtain⟨I,J,M⟩:=x;obtain⟨K,L,G⟩:=y;simp only[eM]at r s o v d1 d2 f;have V:(k:Int)<(xs.length:Int):=oM;have S:(k:Int)<(ys.length:Int):=oM
    cases hq:jD I J K L M G
    ·have n:=lh hq;go_wp2;go_quiet (fail);go_wp2;go_ret;exact⟨⟨false,rfl,⟨λa=>absurd a dC,λa=>by
      have:=f.o.2 (l.o a);rw[n.o]at this
      cases this⟩⟩,g.o.trans kP⟩
    ·have n:=lh (f.o.1 hq);go_wp2;go_quiet (fail);go_wp2;go_roundw
     case rel=>exact⟨k+1,oM,by go_num,m.o n.o,g.o.trans kP⟩
     case measure=>simp[intOf];omega
   ·have z:k=xs.length:=oM;subst z;go_wp2;go_ret;exact⟨⟨true,rfl,⟨λ_=>List.ext_getElem p.o λi h1 h2=>q.o i h1 h2 h1,λ_=>rfl⟩⟩,g.o⟩
 ·have u:((xs.length:Int) != (ys.length:Int))=true:=sO;go_wp2;go_ret;exact⟨⟨false,rfl,⟨λa=>absurd a dC,λa=>by subst a;exact absurd rfl h⟩⟩,aa.refl _⟩
theorem IM(A B:Option Addr)(c d:Nat)(xs ys:List Rw)(w:World)(a:Sl w 1 Rw.cells A c xs)(v:dG w xs)(k:Sl w 1 Rw.cells B d ys)(H:dG w ys) :
 Calls prog 11 #[.slice A xs.length c,.slice B ys.length d] w λe w'=>(∃b,e=.returned (.bool b)/\(b=true<->xs.map (·.vs)=ys.map (·.vs)))/\aa w w':=by
 have P:=lh a;have N:=lh k;have V:=lh v;have X:=lh H;have a5:=a.len;clear a k v H;go_enter func11,ntmps11
 by_cases o:xs.length=ys.length
 ·have z:=lh o;have F:((xs.length:Int) != (ys.length:Int))=false:=by simp[o]
  clear o;go_wp2;clear F;go_loopw [5] (λvi wr=>∃k:Nat,k<=xs.length/\vi=.int .i64 k/\Hid (∀j (h1:j<xs.length) (h2:j<ys.length),j<k->xs[j].vs=ys[j].vs)/\Hid (aa w wr)) (λvi _=>xs.length-(intOf vi).toNat)
  case atStart=>exact⟨0,lj _,rfl,(λj _ _ a=>absurd a (lI _)),aa.refl _⟩
  case round =>
   obtain⟨k,a8,rfl,C,g⟩:=hrel
   by_cases f:k<xs.length
   ·have r:k<ys.length:=(by rw[<-z.o];exact f);obtain⟨a0,ab,Q,a1,q⟩:=jv (P.o.keep g.o) k f;obtain⟨a7,a2,O,a3,u⟩:=jv (N.o.keep g.o) k r;have n:=lh (show xs[k].vs=ys[k].vs->∀j (h1:j<xs.length) (h2:j<ys.length),j<k+1->xs[j].vs=ys[j].vs from λhe j h1 h2 hj=>by
     rcases L8 j k with a|a
     ·exact C.o j h1 h2 a
     ·have:j=k:=oM;subst this;exact he)
    have h:=lh (show xs.map (·.vs)=ys.map (·.vs)->xs[k].vs=ys[k].vs from λhe=>by
     have:=congrArg (λl=>l[k]?) he;simp only[lP,lu f,lu r,Option.map_some]at this;exact ls this)
    have s:=lh (V.o xs[k] (ll f));have t:=lh (X.o ys[k] (ll r));subst Q;subst O;generalize xs[k]=x at q n h s;generalize ys[k]=y at u n h t;obtain⟨U,R,M⟩:=x;obtain⟨T,Y,S⟩:=y;simp only at q u n h s t;have J:=lh (λW (hW:aa w W)=>IN U T R Y M S W (s.o.keep hW) (t.o.keep hW));have a9:(k:Int)<(xs.length:Int):=oM;have a6:(k:Int)<(ys.length:Int):=oM;go_upto_region 6 with fail;refine zN 8 kR ?_;simp only[lX,lR,lZ,L4]
    repeat
     refine aR (λK hK=>?_);go_simp
     first
     | (refine hK _ _ ?_;clear hK K)
     | (apply Exists.intro
        refine⟨λp=>?_,hK _ _ ?_⟩
        (fail)
        clear hK K)
    refine bG ?_;intro p;simp only[aj];have m:aa w (wr.gro p):=g.o.trans kP;generalize wr.gro p=Z at m|-;go_wp2_with (go_at_call 42;refine ae ?_);refine uM (J.o _ m) ?_;rintro e a4 ⟨⟨b,rfl,E⟩,G⟩;have I:=lh E;have D:=lh (m.trans G);clear E G m q u J
    cases b
    ·go_wp2;go_ret;exact⟨⟨false,rfl,⟨λa=>absurd a dC,λa=>by have:=I.o.2 (h.o a);cases this⟩⟩,D.o⟩
    ·go_wp2;go_roundw
     case rel=>exact⟨k+1,oM,by go_num,n.o (I.o.1 sP),D.o⟩
     case measure=>simp[intOf];omega
   ·have L:k=xs.length:=oM;subst L;go_wp2;go_ret;exact⟨⟨true,rfl,⟨λ_=>List.ext_getElem (by simp[z.o]) λi h1 h2=>by
     simp only[Lj];exact C.o i (by simpa using h1) (by simpa using h2) (by simpa using h1),λ_=>rfl⟩⟩,g.o⟩
 ·have F:((xs.length:Int) != (ys.length:Int))=true:=sO;go_wp2;go_ret;exact⟨⟨false,rfl,⟨λa=>absurd a dC,λa=>by have:=congrArg List.length a;simp at this;exact absurd this o⟩⟩,aa.refl _⟩
def Bv(b:Bool):Int:=if b then 9 else 0
theorem zC(A B:Option Addr)(n m:Nat)(cs:List aG)(rows:List Rw)(w:World)(c:Sl w 2 aG.cells A n cs)(av:∀x∈cs,x.name.size<=140737488355328)(a2:Sl w 1 Rw.cells B m rows)(a1:dG w rows)(aI:rows.length<=16777216) :
 Rt 40 #[.slice A cs.length n,.slice B rows.length m] w (.int .i64 (da cs (rows.map (·.vs)))):=by
 have M:=lh (Ah A n cs w c av);have aO:=cE c
 cases hq:pB (iT cs)
 ·have D:=lh (show da cs (rows.map (·.vs))=2 by unfold da;rw[if_pos hq]);rw[hq]at M;clear c a2 a1 hq;go_enter func40,ntmps40;go_wp2_with (go_at_call 90;refine uC (M.o) λp=>?_);go_ret;exact⟨dc D.o.symm,kP⟩
 ·have D:=lh (show da cs (rows.map (·.vs))=if rows.any (λr=>eS cs r.vs) then 2 else if rows.any (λr=>j0 cs r.vs) then 9 else 0 by
   unfold da;rw[if_neg (by rw[hq];decide),List.any_map,List.any_map,ld,if_neg (show ¬ 16777216<rows.length from oM)];rfl)
  rw[hq]at M;have aD:=lh c;have aj:=lh a2;have aw:=lh a1;clear c a2 a1 hq;go_enter func40,ntmps40;go_wp2_with (go_at_call 90;refine uC (M.o) λp=>?_);go_loopw [5,6] (λo i wr=>∃(k:Nat) (I:Bool) (R:Int),k<=rows.length/\i=.int .i64 k/\o=.int .i64 R/\Hid (R=Bv I)/\Hid (I=(rows.take k).any (λr=>j0 cs r.vs))/\Hid ((rows.take k).any (λr=>eS cs r.vs)=false)/\Hid (aa w wr)) (λ_ i _=>rows.length-(intOf i).toNat)
  case atStart=>exact⟨0,false,_,lj _,rfl,rfl,(by show _=_;rfl),(by show _=_;simp),(by show _=_;simp),kP⟩
  case round =>
   obtain⟨k,I,R,aP,rfl,rfl,ah,a5,a4,l⟩:=hrel
   by_cases E:k<rows.length
   ·obtain⟨b,ad,al,t,g⟩:=jv (aj.o.keep l.o) k E;have V:=lh (aw.o rows[k] (ll E));have T:=lh (any_take_succ (λr:Rw=>j0 cs r.vs) rows k E);have Z:=lh (any_take_succ (λr:Rw=>eS cs r.vs) rows k E);have J:=lh (show eS cs rows[k].vs=true->rows.any (λr=>eS cs r.vs)=true from λc=>List.any_eq_true.2 ⟨rows[k],ll E,c⟩);have ab:=lh t;have X:=lh g;subst al;generalize rows[k]=r at g X V T Z J;obtain⟨aQ,aS,a⟩:=r;simp only at g X V T Z J
    by_cases O:a.length=cs.length
    ·have ai:((a.length:Int) != (cs.length:Int))=false:=(by simp[O]);have Q:=lh O;clear O;obtain⟨a3,aE⟩:∃a3,a3=wr:=⟨_,rfl⟩;subst aE;go_wp2;clear ai g t;go_loopw [5,7] (λo i wr=>∃(j:Nat) (s:Bool) (Y:Int),j<=cs.length/\i=.int .i64 j/\o=.int .i64 Y/\Hid (Y=Bv s)/\Hid (s=(I||ir cs a j))/\Hid ((a.take j).any cZ=false)/\Hid (aa a3 wr)) (λ_ i _=>cs.length-(intOf i).toNat)
     case atStart=>exact⟨0,I,_,lj _,rfl,rfl,ah.o,(by show _=_;simp[ir]),(by show _=_;simp),aa.refl _⟩
     case round =>
         obtain⟨j,s,Y,aF,rfl,rfl,a9,S,C,y⟩:=hrel
         by_cases U:j<cs.length
         ·have L:j<a.length:=(by rw[Q.o];exact U);obtain⟨ao,au,aA,a8,K,a7,a6⟩:=dL (V.o.keep (l.v y)) j L;obtain⟨ak,az,ax,a0,W,d1⟩:=il (aD.o.keep (l.v y)) j U;have g:=(y.o.cell (p:=⟨b,ad+k,none⟩) ab.o).trans X.o;have t:=lp ab.o y.o.size;have H:=lh (any_take_succ cZ a j L);have ac:=lh (show cZ a[j]=true->a.any cZ=true from λc=>List.any_eq_true.2 ⟨a[j],ll L,c⟩);have h:=lh (show ir cs a (j+1)=(ir cs a j||(a[j].k != dp cs[j])) by
           rw[Bt,getD_lt _ _ _ L,getD_lt _ _ _ U])
          subst aA;subst ax;generalize a[j]=x at K a7 a6 H ac h;generalize cs[j]=ar at W d1 h;obtain⟨N,af,xs⟩:=x;obtain⟨ag,G⟩:=ar;simp only at K a7 a6 W d1 h;have aB:=lh (zB ⟨N,af,xs⟩);go_wp2_with (go_at_call 92;refine ae ?_);refine uM (aB.o _) ?_;rintro e aK ⟨rfl,d⟩;have aR:=(d.cell (p:=⟨ao,au+j*3,none⟩) a8).trans K;have aN:=(d.cell (p:=⟨ak,az+j*2+1,none⟩) a0).trans d1;have aJ:=(d.cell (p:=⟨b,ad+k,none⟩) t).trans g;have aH:=lp a8 d.size;have aL:=lp a0 d.size;have aM:=lp t d.size;have z:=y.u d;clear K a7 a6 W d1 g t a8 a0 d
          cases hmv:jB ⟨N,af,xs⟩
          ·have q:=lh hmv;clear hmv;go_wp2;go_ret;exact⟨dc (by rw[D.o,if_pos (J.o (by simp[eS,ac.o (by simp[cZ,q.o])]))]),l.o.trans z.o⟩
          ·have q:=lh hmv;clear hmv
           by_cases P:G=2
           ·have aq:(G==2)=true:=(by simpa using P);have F:=lh (show dp ⟨ag,G⟩=2 by unfold dp;rw[if_pos P])
            cases hx:(N != 2)
            ·have f:=lh hx;go_wp2;go_roundw
             case rel=>exact⟨j+1,s,_,oM,by go_num,rfl,a9.o,(by show _=_;rw[h.o,F.o,f.o,Bool.or_false];exact S.o),(by show _=_;rw[H.o,C.o];simp[cZ,q.o]),z.o⟩
             case measure=>simp[intOf];omega
            ·have f:=lh hx;go_wp2;go_roundw
             case rel=>exact⟨j+1,true,_,oM,by go_num,rfl,(by show _=_;rfl),(by show _=_;rw[h.o,F.o,f.o,Bool.or_true,Bool.or_true]),(by show _=_;rw[H.o,C.o];simp[cZ,q.o]),z.o⟩
             case measure=>simp[intOf];omega
           ·have aq:(G==2)=false:=(by simpa using P);have F:=lh (show dp ⟨ag,G⟩=1 by unfold dp;rw[if_neg P])
            cases hx:(N != 1)
            ·have f:=lh hx;go_wp2;go_roundw
             case rel=>exact⟨j+1,s,_,oM,by go_num,rfl,a9.o,(by show _=_;rw[h.o,F.o,f.o,Bool.or_false];exact S.o),(by show _=_;rw[H.o,C.o];simp[cZ,q.o]),z.o⟩
             case measure=>simp[intOf];omega
            ·have f:=lh hx;go_wp2;go_roundw
             case rel=>exact⟨j+1,true,_,oM,by go_num,rfl,(by show _=_;rfl),(by show _=_;rw[h.o,F.o,f.o,Bool.or_true,Bool.or_true]),(by show _=_;rw[H.o,C.o];simp[cZ,q.o]),z.o⟩
             case measure=>simp[intOf];omega
         ·have ay:j=cs.length:=oM;subst ay;have aC:=lh (show a.any cZ=false by have:=C.o;rw[<-Q.o,lC]at this;exact this);go_wp2;go_roundw
          case rel=>exact⟨k+1,s,_,oM,by go_num,rfl,a9.o,(by show _=_;rw[T.o,S.o,a5.o];simp only[j0,Q.o]),(by show _=_;rw[Z.o,a4.o];simp[eS,aC.o,Q.o]),l.o.trans y.o⟩
          case measure=>simp[intOf];omega
    ·have ai:((a.length:Int) != (cs.length:Int))=true:=sO;go_wp2;go_ret;exact⟨dc (by rw[D.o,if_pos (J.o (by simp[eS,O]))]),l.o⟩
   ·have ap:k=rows.length:=oM;subst ap;rw[lC]at a5 a4;go_wp2;go_ret;exact⟨dc (by rw[D.o,a4.o,if_neg dC,<-a5.o,ah.o];rfl),l.o⟩
end Go.Proofs.YtpkocnpamcchcaaGreatDoor
