/- Parts. -/
import Derived.Laws.Append
import Derived.Test.YtpkocnpamcchcaaGreatDoorL23
set_option maxRecDepth 100000
set_option maxHeartbeats 40000000
set_option linter.all false
namespace Go.Proofs.YtpkocnpamcchcaaGreatDoor
open Go.RowKit Go.Zone Go.Shelf Tryz
theorem ID{g:Type}{P:Program}{w:World}{t ty e:TypeId}{k f:Nat}(h:dX P t e k f){enc:g->List Value}(B:∀x,(enc x).length=k)(K:∀x,∀u∈enc x,u.oneCell'=true){base:Nat}(b:Addr)
 {A:Option Addr} {c:Nat} {ys:List g} (J:Sl w k enc A c ys) (D:ys≠[]) (s:ys.length*f<=140737488355328) (p:base<=w.heap.size) :
 ∃d a,(Builtin.append_ #[t,t] ty #[.slice (some b) 0 0,.slice A ys.length c]).run P w=.ok d a/\ah a base e k enc d ys/\aa w a:=by
 obtain⟨d,a,j,E,I,_⟩:=pZ (ty:=ty) h B K (ah.nil_ w base e k enc) J (by simpa using s) p;refine⟨d,a,?_,by simpa using E,(aa.refl w).grown I (λk e=>by cases e)⟩;rw[<-j];obtain⟨i,z,o,hi,y,L,v,N,M,H⟩:=h.ex;have q:0<ys.length:=LJ.2 D;have F:¬(9223372036854775807<(ys.length:Int)):=by have:=Nat.le_mul_of_pos_right ys.length H;omega
 have G:¬(281474976710656<Builtin.nextslicecap ys.length 0*i.bytes):=by rw[nextslicecap_zero q,v];omega
 have C:∀W:World,(Builtin.firstCells i.size 0 (.slice (some b) 0 0)).run P W=.ok #[] W:=λW=>by simpa using run_firstCells_some (P:=P) (w:=W) i.size 0 b 0 0 [] sP sP
 have l:ys.length≠0:=oM;simp[Builtin.append_,run_underlying o,sizeOf,typeInfo,zeroValue,hi,y,Builtin.lenOf,l,F,G,Question.forced,run_firstCells_none,C]
theorem EL{l:Type}{P:Program}{W:World}{t e:TypeId}{k j:Nat}(w:dX P t e k j){enc:l->List Value}(s:∀x,(enc x).length=k)(y:∀x,∀u∈enc x,u.oneCell'=true){f:Oper}{b:Act}{h:dQ}
 (i x:Operand) (v:f.op=.call { callee:=.builtin .append,args:=#[i,x],argTypes:=#[t,t] }) {base:Nat} {g:Addr} {ys:List l} (hs:b.eval i=.slice (some g) 0 0) {A:Option Addr} {c:Nat} (hx:b.eval x=.slice A ys.length c) (hy:Sl W k enc A c ys) (h0:ys≠[])
 (hlen:ys.length*j<=140737488355328) (hbase:base<=W.heap.size) (hΨ:∀a d,ah d base e k enc a ys->h a d):av P f b W h:=by
 obtain⟨a,d,o,p,q⟩:=ID (ty:=f.type) w s y g hy h0 hlen hbase;unfold av execOp;simp only[v,resolve,invoke,builtin,Sem.run_bind,Sem.run_pure,Result.andThen_ok,List.map_toArray,lG,L3,hs,hx,o];exact⟨hΨ a d p,q⟩
theorem rp{P:Program}{ops:Array Oper}{w:World}{b:Oper}{a:Act}{fs:dR}{c:dQ}{d:Tmp}{e:dQ}(g:aC ops b fs=[(d,e)])
 (f:∀p v,e v (w.gro p)->if Region.wanted b (yielded ops (a.put (some d) v).tmps) then av P b (a.put (some d) v) (w.gro p) c else c undef (w.gro p)):au P ops w b a fs c:=λp=>by
 rw[g];exact λv hv=>f p v hv
theorem pe(b:TypeId){P:Program}{ops:Array Oper}{Q:Exit->Act->World->Prop}{rest:List Oper}{a:Act}{w:World}{x y:Operand}{ty:TypeId}{e:String}{c:Array Edge}{d:Option (Nat×Bool)}(f:Hid (wpList P ops Q (⟨none,.store b x y,ty,e,c,d⟩::rest) a w)):wpList P ops Q (⟨none,.store b x y,ty,e,c,d⟩::rest) a w:=f.o
structure Rd where
 iA:Option Addr
 iK:Nat
 n:Int
 sA:Option Addr
 sK:Nat
 lA:Option Addr
 lK:Nat
 gA:Option Addr
 gK:Nat
def Rd.cells(k m:Nat)(r:Rd):List Value:=[.slice r.iA k r.iK,.int .i64 r.n,.slice r.sA m r.sK,.slice r.lA m r.lK,.slice r.gA m r.gK]
def Rd.v(k m:Nat)(r:Rd):Value:=.agg #[.slice r.iA k r.iK,.int .i64 r.n,.slice r.sA m r.sK,.slice r.lA m r.lK,.slice r.gA m r.gK]
theorem iM(k m:Nat)(r:Rd):(r.cells k m).length=5:=rfl
theorem nD(k m:Nat)(r:Rd):∀u∈r.cells k m,u.oneCell'=true:=by simp[Rd.cells,Value.oneCell']
theorem nO:dX prog 106 112 5 104:=by
 obtain⟨i,hi,c,a,b⟩:=info_parts (show(prog.info? 112).map (λi=>(i.zero,i.size,i.bytes))=some (some (.agg #[.slice none 0 0,.int .i64 0,.slice none 0 0,.slice none 0 0,.slice none 0 0]),5,104) from kR);exact⟨i,_,underlying106,hi,c,a,b,rfl,dC,dC⟩
theorem iO:dX prog 54 2 1 8:=by
 obtain⟨i,hi,c,a,b⟩:=info_parts (show(prog.info? 2).map (λi=>(i.zero,i.size,i.bytes))=some (some (.int .i64 0),1,8) from kR);exact⟨i,_,underlying54,hi,c,a,b,rfl,dC,dC⟩
theorem gC(x:Int):∀u∈bM x,u.oneCell'=true:=by simp[bM,Value.oneCell']
abbrev mT(W:World)(b:Nat)(v:Value)(xs:List Int):Prop:=ah W b 3 1 bM v xs
abbrev ie(W:World)(b:Nat)(v:Value)(xs:List Int):Prop:=ah W b 2 1 bM v xs
structure cQ(W:World)(base k m:Nat)(r:Rd)(x:Star.SR):Prop where
 ids:mT W base (.slice r.iA k r.iK) (x.ids.take k)
 z:Star.Z8 k x
 n:r.n=x.n
 len:x.sums.length=m
 s:ie W base (.slice r.sA m r.sK) (x.sums.map (·.1))
 l:ie W base (.slice r.lA m r.lK) (x.sums.map (·.2.1))
 g:ie W base (.slice r.gA m r.gK) (x.sums.map (·.2.2))
def NI(W:World)(i:Nat):Prop:=∀cs T f,W.heap[i]? =some (.cells cs T f)->T≠3/\T≠2
theorem sh{a:Type}{w:World}{b k i:Nat}{e:TypeId}{enc:a->List Value}{v:Value}{xs:List a}(c:ah w b e k enc v xs)(he:e=3\/e=2)(hi:NI w i):v.ownBlock≠some i:=λhv=>by
 rcases c.2 with⟨rfl,_⟩ | ⟨g,f,h,rfl,_,d,_⟩
 ·cases hv
 ·simp only[Value.ownBlock,lQ]at hv;subst hv;have:=hi _ _ _ d
  rcases he with rfl|rfl
  ·exact this.1 rfl
  ·exact this.2 rfl
section
variable {W W' W9:World} {base base' k m:Nat} {r:Rd} {x:Star.SR}
theorem cQ.keep(a:cQ W base k m r x)(b:aa W W'):cQ W' base k m r x:=⟨a.ids.keep b,a.z,a.n,a.len,a.s.keep b,a.l.keep b,a.g.keep b⟩
theorem cQ.low(a:cQ W base k m r x)(b:base'<=base):cQ W base' k m r x:=⟨a.ids.base_mono b,a.z,a.n,a.len,a.s.base_mono b,a.l.base_mono b,a.g.base_mono b⟩
theorem cQ.turn{S:List Nat}(a:cQ W base k m r x)(c:ag W W' S)(b:∀i∈S,NI W i):cQ W' base k m r x :=
 ⟨a.ids.turn c λi hi=>sh a.ids (.inl rfl) (b i hi),a.z,a.n,a.len,a.s.turn c λi hi=>sh a.s (.inr rfl) (b i hi),a.l.turn c λi hi=>sh a.l (.inr rfl) (b i hi),a.g.turn c λi hi=>sh a.g (.inr rfl) (b i hi)⟩
structure Bx(W:World)(lo gx:Nat)(vi:Value)(is:List Int)(n:Int)(V:List Value)(X:List (List Int)):Prop where
 row:ak W gx 112 (vi::.int .i64 n::V)
 ids:mT W lo vi is
 own:∀(j:Nat) (u:Value) (xs:List Int),V[j]? =some u->X[j]? =some xs->ie W lo u xs
 all:X.length=V.length
 dis:∀(i j:Nat) (u u':Value),i≠j->V[i]? =some u->V[j]? =some u'->∀b,u.ownBlock=some b->u'.ownBlock≠some b
variable {lo gx:Nat} {vi:Value} {is:List Int} {n:Int} {V:List Value} {X:List (List Int)}
theorem Bx.keep(a:Bx W lo gx vi is n V X)(b:aa W W'):Bx W' lo gx vi is n V X:=⟨a.row.keep b,a.ids.keep b,λj u xs h1 h2=>(a.own j u xs h1 h2).keep b,a.all,a.dis⟩
theorem Bx.step(a:Bx W lo gx vi is n V X)(j:Nat){u v9:Value}{xs ys:List Int}(d:V[j]? =some u)(z:X[j]? =some xs)(f:ie W9 lo v9 ys)(g:W.grownBy W9 u.ownBlock)(c:v9.ownBlock=u.ownBlock\/v9.ownBlock=some W.heap.size) :
 Bx (W9.setCell ⟨gx,j+2,none⟩ v9) lo gx vi is n (V.set j v9) (X.set j ys):=by
 have p:=a.own j u xs d z;have l:ak W9 gx 112 (vi::.int .i64 n::V):=de a.row g (bu p a.row dC);have w:ag W9 (W9.setCell ⟨gx,j+2,none⟩ v9) [gx]:=ag.set W9 ⟨gx,j+2,none⟩ v9;have h:j<V.length:=(Lw.1 d).1;have t:∀{b:Nat} {v:Value} {xs:List Int},ie W9 b v xs->ie (W9.setCell ⟨gx,j+2,none⟩ v9) b v xs:=λf=>f.turn w λi hi=>by
  simp only[lm]at hi;subst hi;exact bu f l dC
 refine⟨l.set (j+2) v9,?_,λi u' xs' h1 h2=>?_,by simp[a.all],λi i' u1 u2 hii h1 h2 b hb=>?_⟩
 ·refine(ah.grown a.ids g (cN p a.ids dC)).turn w λi hi=>?_;simp only[lm]at hi;subst hi;exact bu (ah.grown a.ids g (cN p a.ids dC)) l dC
 ·rw[List.getElem?_set]at h1 h2
  by_cases e:j=i
  ·subst e;rw[if_pos rfl,if_pos h]at h1;rw[if_pos rfl,if_pos (by rw[a.all];exact h)]at h2
   cases h1;cases h2
   exact t f
  ·rw[if_neg e]at h1 h2;exact t (ah.grown (a.own i u' xs' h1 h2) g (a.dis j i u u' e d h1))
 ·have s:∀(q:Nat) (u3:Value),j≠q->V[q]? =some u3->∀b,v9.ownBlock=some b->u3.ownBlock≠some b:=λq u3 hq h3 b hb3 hb4=>by
   rcases c with c|c
   ·exact a.dis j q u u3 hq d h3 b (c▸hb3) hb4
   ·rw[c]at hb3
    cases hb3
    obtain⟨o,A⟩:∃o,X[q]? =some o:=⟨X[q]'(by rw[a.all];exact(Lw.1 h3).1),lu _⟩;have:=((a.own q u3 o h3 A).lt _ hb4).2;omega
  rw[List.getElem?_set]at h1 h2
  by_cases e:j=i
  ·subst e;rw[if_pos rfl,if_pos h]at h1;rw[if_neg hii]at h2
   cases h1
   exact s i' u2 hii h2 b hb
  ·rw[if_neg e]at h1
   by_cases y:j=i'
   ·subst y;rw[if_pos rfl,if_pos h]at h2
    cases h2
    exact λhb2=>s i u1 e h1 b hb2 hb
   ·rw[if_neg y]at h2;exact a.dis i i' u1 u2 hii h1 h2 b hb
theorem Bx.stepI(a:Bx W lo gx vi is n V X){v9:Value}{ys:List Int}(c:mT W9 lo v9 ys)(e:W.grownBy W9 vi.ownBlock):Bx (W9.setCell ⟨gx,0,none⟩ v9) lo gx v9 ys n V X:=by
 have b:ak W9 gx 112 (vi::.int .i64 n::V):=de a.row e (bu a.ids a.row dC);have f:ag W9 (W9.setCell ⟨gx,0,none⟩ v9) [gx]:=ag.set W9 ⟨gx,0,none⟩ v9;refine⟨b.set 0 v9,c.turn f λi hi=>?_,λj u xs h1 h2=>?_,a.all,a.dis⟩
 ·simp only[lm]at hi;subst hi;exact bu c b dC
 ·have d:=ah.grown (a.own j u xs h1 h2) e (cN a.ids (a.own j u xs h1 h2) dC);refine d.turn f λi hi=>?_;simp only[lm]at hi;subst hi;exact bu d b dC
end
open Go.Roa Go.Star Go.Sym
theorem jx{a:World}{b n c:Nat}{e:TypeId}{A:Option Addr}{xs:List Int}(f:ah a b e 1 bM (.slice A n c) xs)(j:xs.length<=1000000):n=xs.length/\Sl a 1 bM A c xs:=by
 obtain⟨h,i,d,g⟩:=f.sl ea oM;injection d with e1 e2 e3;subst e1;subst e2;subst e3;exact⟨rfl,g⟩
theorem jy{f:World}{b n c:Nat}{e:TypeId}{A:Option Addr}{xs:List Int}(j:ah f b e 1 bM (.slice A n c) xs)(o:xs.length<=1000000)(i:Nat)(z:Int)(p:xs[i]? =some z) :
 ∃a d,A=some ⟨a,d,none⟩/\a<f.heap.size/\f.cell? ⟨a,d+i,none⟩=some (.int .i64 z)/\n<=c/\i<n:=by
 obtain⟨k,g⟩:=jx j o;obtain⟨hi,he⟩:=Lw.1 p;obtain⟨a,d,l,m,h⟩:=eZ g i hi;rw[he]at h;exact⟨a,d,l,m,h,by rw[k];exact g.cap,oM⟩
theorem EC{Z:List (Int×Int×Int)}{i:Nat}{z:Int×Int×Int}(h:Z[i]? =some z):(Z.take (i+1)).map (·.1)=(Z.take i).map (·.1)++[z.1]/\(Z.take (i+1)).map (·.2.1)=(Z.take i).map (·.2.1)++[z.2.1]/\(Z.take (i+1)).map (·.2.2)=(Z.take i).map (·.2.2)++[z.2.2]:=by
 obtain⟨hi,rfl⟩:=Lw.1 h;rw[ly hi];refine⟨?_,?_,?_⟩<;>rw[lz]<;>rfl
theorem m7(w:World)(g:Nat)(cs:Array Value):ag w (w.setRow g cs) [g]:=⟨rfl,rfl,rfl,sP,λi _ hi=>setRow_other w g i cs (by simpa using hi)⟩
theorem EQ(x:Int):wrap64 x=js x:=by unfold wrap64 js;rfl
theorem merge_any(k m base:Nat)(J U:Rd)(P aP:Star.SR)(w:World)(F:cQ w base k m J P)(Q:cQ w base k m U aP)(dv:1<=k)(dw:k<=8)(dz:m<=1000)(bv:base<=w.heap.size) :
 Calls prog 97 #[J.v k m,U.v k m] w λe w'=>∃r,e=.returned (r.v k m)/\cQ w' base k m r (P.add aP)/\aa w w':=by
 have aJ:=lh F;have b1:=lh Q;obtain⟨o,c0⟩:∃o,o=List.zipWith jI P.sums aP.sums:=⟨_,rfl⟩;have cA:=lh c0;have bt:=lh (show o.length=m by rw[c0];simp[F.len,Q.len]);have da:=F.ids;have bQ:(P.ids.take k).length=k:=by have:=F.z.1;simp;omega
 have cS:P.ids.take k≠[]:=λe=>by rw[e]at bQ;simp at bQ;omega
 have bo:=lh bQ;have cV:=lh cS;clear F Q c0 da bQ cS;unfold Rd.v;go_enter func97,ntmps97;go_upto_region 1 with fail;generalize b2:World.alloc (World.alloc (World.alloc w _) _) _=G;have bk:ak G w.heap.size 112 (J.cells k m):=by rw[<-b2];exact((bH w 112 (J.cells k m)).keep (aa.alloc (aa.refl _) _)).keep (aa.alloc (aa.refl _) _)
 have bw:ak G (w.heap.size+1) 112 (U.cells k m):=by
  rw[<-b2];have Z:=bH (w.alloc (.cells (J.cells k m).toArray 112)) 112 (U.cells k m);rw[World.size_alloc]at Z;exact Z.keep (aa.alloc (aa.refl _) _)
 have bD:ak G (w.heap.size+2) 112 [.slice none 0 0,.int .i64 0,.slice none 0 0,.slice none 0 0,.slice none 0 0]:=by
  rw[<-b2];have Z:=bH ((w.alloc (.cells (J.cells k m).toArray 112)).alloc (.cells (U.cells k m).toArray 112)) 112 [.slice none 0 0,.int .i64 0,.slice none 0 0,.slice none 0 0,.slice none 0 0];rw[World.size_alloc,World.size_alloc]at Z;exact Z
 have cH:aa w G:=by rw[<-b2];exact((aa.alloc (aa.refl _) _).alloc _).alloc _
 have cR:G.heap.size=w.heap.size+3:=by rw[<-b2,World.size_alloc,World.size_alloc,World.size_alloc]
 have aK:=lh bk;have aL:=lh bw;have cx:=lh bD;have bf:=lh cH;have cY:=lh cR;clear b2 cH;have a0:=bk.cell 0 _ rfl;have cZ:=bk.cell 1 _ rfl;have d1:=bw.cell 1 _ rfl;have aq:=bk.lt;have ad:=bw.lt;obtain⟨-,cN⟩:=jx (aJ.o.ids.keep bf.o) (by have:=bo.o;omega);have cy:=lh cN;clear bk bw bD cN cR;refine zN 11 kR ?_;simp only[lX,lR,lZ,L4]
 repeat
  refine aR (λK hK=>?_);go_simp
  first
  | (refine hK _ _ ?_;clear hK K)
  | (apply Exists.intro
     refine⟨λp=>?_,hK _ _ ?_⟩
     (fail)
     clear hK K)
 refine bW 9 (λu _=>∃g,u=.slice (some ⟨g,0,none⟩) 0 0) rfl (λ_ _ _ _ Z=>Z) ?_ ?_
 ·intro p;rw[bZ (by rfl)];simp only[aj];unfold av;go_simp;exact aa.alloc (aa.refl _) _
 refine aR (λK hK=>?_);unfold aw au;rw[bZ (by rfl)];go_simp
 (refine hK _ _ ?_;clear hK K)
 refine aR (λK hK=>?_);unfold aw au;rw[bZ (by rfl)];go_simp
 (refine hK _ _ ?_;clear hK K)
 refine bW 12 (λu W=>mT W G.heap.size u (P.ids.take k)) rfl (λ_ _ _ hk Z=>ah.keep Z hk) ?_ ?_
 ·refine rp (d:=9) (by rfl) (λp v hv=>?_);obtain⟨g,rfl⟩:=hv;rw[if_pos (by rfl)];exact EL nP ea gC (.tmp 9) (.tmp 11) rfl (g:=⟨g,0,none⟩) rfl (A:=J.iA) (c:=J.iK) (by rw[bo.o];rfl) (cy.o.keep (ce _ _)) cV.o (by have:=bo.o;omega) (ce G p).size (λv' w' Z=>Z)
 iterate 5
  refine aR (λK hK=>?_);unfold aw au;rw[bZ (by rfl)];go_simp
  (refine hK _ _ ?_;clear hK K)
 refine bW 18 (λu W=>∃A c,u=.agg #[.slice A k c,.int .i64 (IntKind.i64.wrap (J.n+U.n)),.slice none 0 0,.slice none 0 0,.slice none 0 0]/\mT W G.heap.size (.slice A k c) (P.ids.take k)) rfl (λ_ _ _ hk ⟨A,c,F,Q⟩=>⟨A,c,F,ah.keep Q hk⟩) ?_ ?_
 ·refine rp (d:=12) (by rfl) (λp v hv=>?_);obtain⟨af,bY,rfl⟩:=bp hv;rw[bo.o]at hv|-;have cX:=lh hv;clear hv;rw[if_pos (by rfl)];unfold av;go_simp;exact⟨af,bY,sP,cX.o⟩
 refine bW 5 (λu W=>∃g,u=.pointer (some ⟨g,0,none⟩)/\ak W g 112 [.slice none 0 0,.int .i64 0,.slice none 0 0,.slice none 0 0,.slice none 0 0]/\G.heap.size<=g) rfl (λ_ _ _ hk ⟨g,F,Q,h3⟩=>⟨g,F,ak.keep Q hk,h3⟩) ?_ ?_
 ·intro p;rw[bZ (by rfl)];simp only[aj];unfold av;go_simp;have Z:=bH (G.gro p) 112 [.slice none 0 0,.int .i64 0,.slice none 0 0,.slice none 0 0,.slice none 0 0];simp only[az]at Z;exact⟨Z,aa.alloc (aa.refl _) _⟩
 refine bG ?_;intro p;simp only[aj];rintro v5 ⟨h,rfl,cg,a1⟩ dE ⟨R,T,rfl,cj⟩ dD-v9 -;have c5:aa G (G.gro p):=ce _ _;generalize G.gro p=co at cg cj c5|-;have aA:=lh a1;have bV:=lh cj;have bq:=lh cg;have cv:=lh c5;clear cg cj c5 a1 a0 cZ d1 aq ad;go_simp;refine wpList_store_row rfl 112 (.tmp 5) (.tmp 18) rfl h #[.slice R k T,.int .i64 (IntKind.i64.wrap (J.n+U.n)),.slice none 0 0,.slice none 0 0,.slice none 0 0] rfl rfl 112 _ bq.o kR rfl (by simp[Value.oneCell']) ?_;have cf:=setRow_heap co h _ #[.slice R k T,.int .i64 (IntKind.i64.wrap (J.n+U.n)),.slice none 0 0,.slice none 0 0,.slice none 0 0] 112 (0,0) bq.o;have bL:=m7 co h #[.slice R k T,.int .i64 (IntKind.i64.wrap (J.n+U.n)),.slice none 0 0,.slice none 0 0,.slice none 0 0];have cK:Value.ownBlock (.slice R k T)≠some h:=bu bV.o bq.o dC;have c4:=bV.o.turn bL (λi hi=>by simp only[lm]at hi;subst hi;exact cK);generalize World.setRow co h _=dl at cf bL c4|-;have cw:=lh (ag.after cv.o bL (λi hi=>by simp only[lm]at hi;subst hi;exact aA.o));have ct:=lh (show Bx dl G.heap.size h (.slice R k T) (P.ids.take k) (IntKind.i64.wrap (J.n+U.n)) [.slice none 0 0,.slice none 0 0,.slice none 0 0] [(o.take 0).map (·.1),(o.take 0).map (·.2.1),(o.take 0).map (·.2.2)]from⟨cf,c4,λj u xs F Q=>by
  match j,F,Q with
  | 0,F,Q=>cases F;cases Q;exact ah.nil_ _ _ _ _ _
  | 1,F,Q=>cases F;cases Q;exact ah.nil_ _ _ _ _ _
  | 2,F,Q=>cases F;cases Q;exact ah.nil_ _ _ _ _ _,rfl,λi j u u' _ F _ b bv=>by
  match i,F with
  | 0,F=>cases F;cases bv
  | 1,F=>cases F;cases bv
  | 2,F=>cases F;cases bv⟩)
 clear cf bL cK c4 bq cv bV cy;go_wp2;go_loopw [6] (λvi wr=>∃(i:Nat) (S cB cr:Value),i<=m/\vi=.int .i64 i/\Hid (Bx wr G.heap.size h (.slice R k T) (P.ids.take k) (IntKind.i64.wrap (J.n+U.n)) [S,cB,cr] [(o.take i).map (·.1),(o.take i).map (·.2.1),(o.take i).map (·.2.2)])/\Hid (aa G wr)) (λvi _=>m-(intOf vi).toNat)
 case atStart=>exact⟨0,_,_,_,lj _,rfl,ct.o,cw.o⟩
 case round =>
  clear ct cw;obtain⟨i,S,cB,cr,hi,rfl,Y,aB⟩:=hrel;have a2:=(aK.o.keep aB.o).cell 2 _ rfl;have aq:=(aK.o.keep aB.o).lt;have a1:=Y.o.row.lt
  by_cases du:i<m
  ·obtain⟨cl,cc⟩:∃q,P.sums[i]? =some q:=⟨_,lu (by have:=aJ.o.len;omega)⟩;obtain⟨cm,cd⟩:∃q,aP.sums[i]? =some q:=⟨_,lu (by have:=b1.o.len;omega)⟩;have cP:o[i]? =some (jI cl cm):=(by rw[cA.o,List.getElem?_zipWith,cc,cd]);obtain⟨cU,z2,z3⟩:=EC cP;have bX:=lh cU;have aV:=lh z2;have aG:=lh z3;clear cP cU z2 z3;have bO:∀{f:(Int×Int×Int)->Int},(P.sums.map f)[i]? =some (f cl):=λ{f}=>(by rw[lP,cc];rfl);have bP:∀{f:(Int×Int×Int)->Int},(aP.sums.map f)[i]? =some (f cm):=λ{f}=>(by rw[lP,cd];rfl);have bB:∀{f:(Int×Int×Int)->Int},(P.sums.map f).length<=1000000:=λ{f}=>(by rw[ld,aJ.o.len];omega);have bC:∀{f:(Int×Int×Int)->Int},(aP.sums.map f).length<=1000000:=λ{f}=>(by rw[ld,b1.o.len];omega);have bd:=lh (bf.v aB);obtain⟨bs,os,cL,bE,bI,dA,-⟩:=jy aJ.o.s bB i _ bO;obtain⟨d3,dh,cI,c6,c8,dx,-⟩:=jy aJ.o.l bB i _ bO;obtain⟨d2,dg,cE,ad,c2,ds,-⟩:=jy aJ.o.g bB i _ bO;obtain⟨cs,ps,cM,bF,bJ,dB,-⟩:=jy b1.o.s bC i _ bP;obtain⟨d6,pl,cJ,c7,c9,dy,-⟩:=jy b1.o.l bC i _ bP;obtain⟨d5,di,cF,c1,c3,dt,-⟩:=jy b1.o.g bC i _ bP;have ba:=lh (And.intro cL (And.intro cI cE));have bb:=lh (And.intro cM (And.intro cJ cF));clear bO bP bB bC cc cd cL cI cE cM cJ cF;obtain⟨s1,aE,ab⟩:=cl;obtain⟨s2,aF,ac⟩:=cm
   simp only[jI]at bI c8 c2 bJ c9 c3 bX aV aG;have cu:=lh (λW (hW:aa w W)=>And.intro (And.intro (lp c6 hW.size) ((hW.cell (p:=⟨d3,dh+i,none⟩) c6).trans c8)) (And.intro (And.intro (lp ad hW.size) ((hW.cell (p:=⟨d2,dg+i,none⟩) ad).trans c2)) (And.intro (And.intro (lp c7 hW.size) ((hW.cell (p:=⟨d6,pl+i,none⟩) c7).trans c9)) (And.intro (lp c1 hW.size) ((hW.cell (p:=⟨d5,di+i,none⟩) c1).trans c3)))))
   replace bI:=(bd.o.cell (p:=⟨bs,os+i,none⟩) bE).trans bI
   replace bE:=lp bE bd.o.size
   replace bJ:=(bd.o.cell (p:=⟨cs,ps+i,none⟩) bF).trans bJ
   replace bF:=lp bF bd.o.size
   clear c6 c7 ad c1 c8 c9 c2 c3;obtain⟨bn,ck⟩:∃bn,bn=js (s1+s2):=⟨_,rfl⟩;rw[<-ck]at bX;have dd:IntKind.i64.wrap (s1+s2)=bn:=(by rw[ck,IntKind.wrap_i64];unfold js;omega);have bl:∀f:(Int×Int×Int)->Int,((o.take i).map f).length=i:=λf=>(by rw[ld,lD,bt.o];omega);have X:=lh bl;obtain⟨aQ,aW,bj⟩:=bp (Y.o.own 0 _ _ rfl rfl);obtain⟨aI,aO,bi⟩:=bp (Y.o.own 1 _ _ rfl rfl);obtain⟨ai,al,bh⟩:=bp (Y.o.own 2 _ _ rfl rfl);rw[bl]at bj bi bh;subst bj;subst bi;subst bh;have d4:=Y.o.row.cell 2 _ rfl;have d7:=Y.o.row.soft 2;have cC:=(aL.o.keep aB.o).cell 2 _ rfl;have ad:=(aL.o.keep aB.o).lt;have d0:=a2;rw[ba.o.1]at a2;rw[bb.o.1]at cC;clear ck bl;go_upto_region 5 with fail
   first|refine Zone.wp_region_m_gro 1 14 kR kR ?_|refine jK 1 14 kR kR ?_
   simp only[lX,lR,lZ,L4]
   repeat (refine jL _ (by rfl) (λ_=>by rfl) ?_)
   refine jM ?_
   repeat
    refine aR (λK hK=>?_);go_simp
    first
    | (refine hK _ _ ?_;clear hK K)
    | (apply Exists.intro
       refine⟨λp=>?_,hK _ _ ?_⟩
       (fail)
       clear hK K)
   refine bW 39 (λu W=>∃bm:Nat,u=.slice (some ⟨bm,0,none⟩) 1 1/\Sl W 1 bM (some ⟨bm,0,none⟩) 1 [bn]) rfl (λ_ W W' hk ⟨bm,F,Q⟩=>⟨bm,F,Q.keep hk⟩) ?_ ?_
   ·intro p;rw[bZ (by rfl)];simp only[aj];unfold av;go_simp;exact⟨br _ dC dC (λjj u hu=>by
     match jj,hu with
     | 0,hu=>cases hu;simp[go_sem]),aa.alloc (aa.refl _) _⟩
   refine bG ?_;intro p;simp only[aj];rintro v39 ⟨bm,rfl,ch⟩;have bz:aa wr (wr.gro p):=kP;generalize wr.gro p=cT at bz ch|-;have aT:=lh (Y.o.keep bz);have bT:=aB.u bz;clear bz;go_simp;refine aD iO ea gC rfl (.tmp 27) (.tmp 39) rfl (ys:=[bn]) (aT.o.own 0 _ _ rfl rfl) rfl rfl ch (by rw[X.o];simp;omega) bT.o.size ?_;intro v9 cp cb bx cD;obtain⟨af,ap,cO⟩:=bp cb;rw[lg,X.o,lJ]at cO;subst cO;have bR:ak cp h 112 _:=de aT.o.row bx (bu (aT.o.own 0 _ _ rfl rfl) aT.o.row dC);have bY:=bR.cell 2 _ rfl;have d8:=bR.soft 2;have d9:=bR.lt;have I:=Bx.step aT.o 0 rfl rfl cb bx cD;have cG:=(bT.o.grown bx (λb e=>((aT.o.own 0 _ _ rfl rfl).lt b e).1)).setCell (a:=⟨h,2,none⟩) aA.o (.slice af (i+1) ap);have bc:=lh (show Bx (cp.setCell ⟨h,2,none⟩ (.slice af (i+1) ap)) G.heap.size h (.slice R k T) (P.ids.take k) (IntKind.i64.wrap (J.n+U.n)) [.slice af (i+1) ap,.slice aI i aO,.slice ai i al] [(o.take (i+1)).map (·.1),(o.take i).map (·.2.1),(o.take i).map (·.2.2)]from by rw[bX.o];exact I);have aC:=lh cG;clear bR I cG cb bx cD ch aT bT Y aB d4 d7 cC ad aq a1 a2 d0 dd bd bE bF bI bJ;go_simp;go_upto_region 6 with fail;rw[fQ];generalize World.setCell cp _ _=bS at bc aC|-;clear bY d8 d9;obtain⟨⟨p1,p2⟩,⟨b3,b4⟩,⟨b5,b6⟩,b7,b8⟩:=cu.o bS (bf.v aC)
   have b9:=bc.o.row.cell 3 _ rfl;have a1:=bc.o.row.lt;have a3:=(aK.o.keep aC.o).cell 3 _ rfl;have a4:=(aK.o.keep aC.o).cell 4 _ rfl;have aM:=(aL.o.keep aC.o).cell 3 _ rfl;have aN:=(aL.o.keep aC.o).cell 4 _ rfl;have aq:=(aK.o.keep aC.o).lt;have ad:=(aL.o.keep aC.o).lt;rw[ba.o.2.1]at a3;rw[ba.o.2.2]at a4;rw[bb.o.2.1]at aM;rw[bb.o.2.2]at aN;go_upto_region 6 with fail;go_quiet (fail);have bA:aa bS (bS.drewN nq):=aa.drewN (aa.refl _) nq;generalize World.drewN bS nq=dk at bA|-;have ay:=lh (bc.o.keep bA);have a6:=aC.u bA;clear p1 p2 b3 b4 b5 b6 b7 b8 a3 a4 aM aN aq ad b9 a1 bA bc aC;obtain⟨⟨p1,p2⟩,⟨b3,b4⟩,⟨b5,b6⟩,b7,b8⟩:=cu.o dk (bf.v a6);have b9:=ay.o.row.cell 3 _ rfl;have a1:=ay.o.row.lt;have a3:=(aK.o.keep a6.o).cell 3 _ rfl;have a4:=(aK.o.keep a6.o).cell 4 _ rfl;have aM:=(aL.o.keep a6.o).cell 3 _ rfl;have aN:=(aL.o.keep a6.o).cell 4 _ rfl;have aq:=(aK.o.keep a6.o).lt;have ad:=(aL.o.keep a6.o).lt;rw[ba.o.2.1]at a3;rw[ba.o.2.2]at a4;rw[bb.o.2.1]at aM;rw[bb.o.2.2]at aN
   rcases Int.lt_or_le aF aE with F|F
   ·rw[show min aE aF=aF from oM]at aV
    rcases Int.lt_or_le ab ac with Q|Q
    ·rw[show max ab ac=ac from oM]at aG;go_wp2_with (at_builtin;refine ae ?_);refine ar ?_;have C:=lh (ay.o.keep (aa.alloc (aa.refl _) (.cells #[.int .i64 aF] 2)));have a7:=lh (a6.o.trans (aa.alloc (aa.refl _) (.cells #[.int .i64 aF] 2)));clear ay a6;refine aD iO ea gC rfl (.tmp 77) (.tmp 79) rfl (ys:=[aF]) (C.o.own 1 _ _ rfl rfl) rfl rfl (br (c:=1) _ dC dC (λjj u hu=>by
      match jj,hu with
      | 0,hu=>cases hu;simp[go_sem])) (by rw[X.o];simp;omega) a7.o.size ?_
     intro b0 H E t M;obtain⟨V,B,O⟩:=bp E;rw[lg,X.o,lJ]at O;subst O;have y:ak H h 112 _:=de C.o.row t (bu (C.o.own 1 _ _ rfl rfl) C.o.row dC);have ao:=y.cell 3 _ rfl;have fn:=y.soft 3;have ax:=y.lt;have I:=Bx.step C.o 1 rfl rfl E t M;have N:=(a7.o.grown t (λb e=>((C.o.own 1 _ _ rfl rfl).lt b e).1)).setCell (a:=⟨h,3,none⟩) aA.o (.slice V (i+1) B);have L:=lh (show Bx (H.setCell ⟨h,3,none⟩ (.slice V (i+1) B)) G.heap.size h (.slice R k T) (P.ids.take k) (IntKind.i64.wrap (J.n+U.n)) [.slice af (i+1) ap,.slice V (i+1) B,.slice ai i al] [(o.take (i+1)).map (·.1),(o.take (i+1)).map (·.2.1),(o.take i).map (·.2.2)]from by rw[aV.o];exact I);have a8:=lh N;clear y I N E t M C a7;obtain⟨aX,aY⟩:∃x,x=B:=⟨_,rfl⟩;subst aY;clear p1 p2 b3 b4 b5 b6 b7 b8 a3 a4 aM aN aq ad b9 a1;go_upto_region 12 with fail;generalize World.setCell H _ _=cn at L a8|-;clear ao fn ax;have cq:=L.o.row.cell 4 _ rfl;have a1:=L.o.row.lt;go_wp2_with (at_builtin;refine ae ?_);refine ar ?_;have D:=lh (L.o.keep (aa.alloc (aa.refl _) (.cells #[.int .i64 ac] 2)));have a9:=lh (a8.o.trans (aa.alloc (aa.refl _) (.cells #[.int .i64 ac] 2)));clear L a8
     refine aD iO ea gC rfl (.tmp 83) (.tmp 85) rfl (ys:=[ac]) (D.o.own 2 _ _ rfl rfl) rfl rfl (br (c:=1) _ dC dC (λjj u hu=>by
      match jj,hu with
      | 0,hu=>cases hu;simp[go_sem])) (by rw[X.o];simp;omega) a9.o.size ?_
     intro b0 H E t M;obtain⟨a5,B,O⟩:=bp E;rw[lg,X.o,lJ]at O;subst O;have y:ak H h 112 _:=de D.o.row t (bu (D.o.own 2 _ _ rfl rfl) D.o.row dC);have ao:=y.cell 4 _ rfl;have fn:=y.soft 4;have ax:=y.lt;have I:=Bx.step D.o 2 rfl rfl E t M;have N:=(a9.o.grown t (λb e=>((D.o.own 2 _ _ rfl rfl).lt b e).1)).setCell (a:=⟨h,4,none⟩) aA.o (.slice a5 (i+1) B);have aS:=lh (show Bx (H.setCell ⟨h,4,none⟩ (.slice a5 (i+1) B)) G.heap.size h (.slice R k T) (P.ids.take k) (IntKind.i64.wrap (J.n+U.n)) [.slice af (i+1) ap,.slice V (i+1) aX,.slice a5 (i+1) B] [(o.take (i+1)).map (·.1),(o.take (i+1)).map (·.2.1),(o.take (i+1)).map (·.2.2)]from by rw[aG.o];exact I);have aU:=lh N;clear y I N E t M D a9;go_wp2;go_roundw
     case rel=>exact⟨i+1,_,_,_,oM,by go_num,aS.o,aU.o⟩
     case measure=>simp[intOf];omega
    ·rw[show max ab ac=ab from oM]at aG;go_wp2_with (at_builtin;refine ae ?_);refine ar ?_;have C:=lh (ay.o.keep (aa.alloc (aa.refl _) (.cells #[.int .i64 aF] 2)));have a7:=lh (a6.o.trans (aa.alloc (aa.refl _) (.cells #[.int .i64 aF] 2)));clear ay a6;refine aD iO ea gC rfl (.tmp 77) (.tmp 79) rfl (ys:=[aF]) (C.o.own 1 _ _ rfl rfl) rfl rfl (br (c:=1) _ dC dC (λjj u hu=>by
      match jj,hu with
      | 0,hu=>cases hu;simp[go_sem])) (by rw[X.o];simp;omega) a7.o.size ?_
     intro b0 H E t M;obtain⟨V,B,O⟩:=bp E;rw[lg,X.o,lJ]at O;subst O;have y:ak H h 112 _:=de C.o.row t (bu (C.o.own 1 _ _ rfl rfl) C.o.row dC);have ao:=y.cell 3 _ rfl;have fn:=y.soft 3;have ax:=y.lt;have I:=Bx.step C.o 1 rfl rfl E t M;have N:=(a7.o.grown t (λb e=>((C.o.own 1 _ _ rfl rfl).lt b e).1)).setCell (a:=⟨h,3,none⟩) aA.o (.slice V (i+1) B);have L:=lh (show Bx (H.setCell ⟨h,3,none⟩ (.slice V (i+1) B)) G.heap.size h (.slice R k T) (P.ids.take k) (IntKind.i64.wrap (J.n+U.n)) [.slice af (i+1) ap,.slice V (i+1) B,.slice ai i al] [(o.take (i+1)).map (·.1),(o.take (i+1)).map (·.2.1),(o.take i).map (·.2.2)]from by rw[aV.o];exact I);have a8:=lh N;clear y I N E t M C a7;obtain⟨aX,aY⟩:∃x,x=B:=⟨_,rfl⟩;subst aY;clear p1 p2 b3 b4 b5 b6 b7 b8 a3 a4 aM aN aq ad b9 a1;go_upto_region 12 with fail;generalize World.setCell H _ _=cn at L a8|-;clear ao fn ax;have cq:=L.o.row.cell 4 _ rfl;have a1:=L.o.row.lt;go_wp2_with (at_builtin;refine ae ?_);refine ar ?_;have D:=lh (L.o.keep (aa.alloc (aa.refl _) (.cells #[.int .i64 ab] 2)));have a9:=lh (a8.o.trans (aa.alloc (aa.refl _) (.cells #[.int .i64 ab] 2)));clear L a8
     refine aD iO ea gC rfl (.tmp 83) (.tmp 85) rfl (ys:=[ab]) (D.o.own 2 _ _ rfl rfl) rfl rfl (br (c:=1) _ dC dC (λjj u hu=>by
      match jj,hu with
      | 0,hu=>cases hu;simp[go_sem])) (by rw[X.o];simp;omega) a9.o.size ?_
     intro b0 H E t M;obtain⟨a5,B,O⟩:=bp E;rw[lg,X.o,lJ]at O;subst O;have y:ak H h 112 _:=de D.o.row t (bu (D.o.own 2 _ _ rfl rfl) D.o.row dC);have ao:=y.cell 4 _ rfl;have fn:=y.soft 4;have ax:=y.lt;have I:=Bx.step D.o 2 rfl rfl E t M;have N:=(a9.o.grown t (λb e=>((D.o.own 2 _ _ rfl rfl).lt b e).1)).setCell (a:=⟨h,4,none⟩) aA.o (.slice a5 (i+1) B);have aS:=lh (show Bx (H.setCell ⟨h,4,none⟩ (.slice a5 (i+1) B)) G.heap.size h (.slice R k T) (P.ids.take k) (IntKind.i64.wrap (J.n+U.n)) [.slice af (i+1) ap,.slice V (i+1) aX,.slice a5 (i+1) B] [(o.take (i+1)).map (·.1),(o.take (i+1)).map (·.2.1),(o.take (i+1)).map (·.2.2)]from by rw[aG.o];exact I);have aU:=lh N;clear y I N E t M D a9;go_wp2;go_roundw
     case rel=>exact⟨i+1,_,_,_,oM,by go_num,aS.o,aU.o⟩
     case measure=>simp[intOf];omega
   ·rw[show min aE aF=aE from oM]at aV
    rcases Int.lt_or_le ab ac with Q|Q
    ·rw[show max ab ac=ac from oM]at aG;go_wp2_with (at_builtin;refine ae ?_);refine ar ?_;have C:=lh (ay.o.keep (aa.alloc (aa.refl _) (.cells #[.int .i64 aE] 2)));have a7:=lh (a6.o.trans (aa.alloc (aa.refl _) (.cells #[.int .i64 aE] 2)));clear ay a6;refine aD iO ea gC rfl (.tmp 77) (.tmp 79) rfl (ys:=[aE]) (C.o.own 1 _ _ rfl rfl) rfl rfl (br (c:=1) _ dC dC (λjj u hu=>by
      match jj,hu with
      | 0,hu=>cases hu;simp[go_sem])) (by rw[X.o];simp;omega) a7.o.size ?_
     intro b0 H E t M;obtain⟨V,B,O⟩:=bp E;rw[lg,X.o,lJ]at O;subst O;have y:ak H h 112 _:=de C.o.row t (bu (C.o.own 1 _ _ rfl rfl) C.o.row dC);have ao:=y.cell 3 _ rfl;have fn:=y.soft 3;have ax:=y.lt;have I:=Bx.step C.o 1 rfl rfl E t M;have N:=(a7.o.grown t (λb e=>((C.o.own 1 _ _ rfl rfl).lt b e).1)).setCell (a:=⟨h,3,none⟩) aA.o (.slice V (i+1) B);have L:=lh (show Bx (H.setCell ⟨h,3,none⟩ (.slice V (i+1) B)) G.heap.size h (.slice R k T) (P.ids.take k) (IntKind.i64.wrap (J.n+U.n)) [.slice af (i+1) ap,.slice V (i+1) B,.slice ai i al] [(o.take (i+1)).map (·.1),(o.take (i+1)).map (·.2.1),(o.take i).map (·.2.2)]from by rw[aV.o];exact I);have a8:=lh N;clear y I N E t M C a7;obtain⟨aX,aY⟩:∃x,x=B:=⟨_,rfl⟩;subst aY;clear p1 p2 b3 b4 b5 b6 b7 b8 a3 a4 aM aN aq ad b9 a1;go_upto_region 12 with fail;generalize World.setCell H _ _=cn at L a8|-;clear ao fn ax;have cq:=L.o.row.cell 4 _ rfl;have a1:=L.o.row.lt;go_wp2_with (at_builtin;refine ae ?_);refine ar ?_;have D:=lh (L.o.keep (aa.alloc (aa.refl _) (.cells #[.int .i64 ac] 2)));have a9:=lh (a8.o.trans (aa.alloc (aa.refl _) (.cells #[.int .i64 ac] 2)));clear L a8
     refine aD iO ea gC rfl (.tmp 83) (.tmp 85) rfl (ys:=[ac]) (D.o.own 2 _ _ rfl rfl) rfl rfl (br (c:=1) _ dC dC (λjj u hu=>by
      match jj,hu with
      | 0,hu=>cases hu;simp[go_sem])) (by rw[X.o];simp;omega) a9.o.size ?_
     intro b0 H E t M;obtain⟨a5,B,O⟩:=bp E;rw[lg,X.o,lJ]at O;subst O;have y:ak H h 112 _:=de D.o.row t (bu (D.o.own 2 _ _ rfl rfl) D.o.row dC);have ao:=y.cell 4 _ rfl;have fn:=y.soft 4;have ax:=y.lt;have I:=Bx.step D.o 2 rfl rfl E t M;have N:=(a9.o.grown t (λb e=>((D.o.own 2 _ _ rfl rfl).lt b e).1)).setCell (a:=⟨h,4,none⟩) aA.o (.slice a5 (i+1) B);have aS:=lh (show Bx (H.setCell ⟨h,4,none⟩ (.slice a5 (i+1) B)) G.heap.size h (.slice R k T) (P.ids.take k) (IntKind.i64.wrap (J.n+U.n)) [.slice af (i+1) ap,.slice V (i+1) aX,.slice a5 (i+1) B] [(o.take (i+1)).map (·.1),(o.take (i+1)).map (·.2.1),(o.take (i+1)).map (·.2.2)]from by rw[aG.o];exact I);have aU:=lh N;clear y I N E t M D a9;go_wp2;go_roundw
     case rel=>exact⟨i+1,_,_,_,oM,by go_num,aS.o,aU.o⟩
     case measure=>simp[intOf];omega
    ·rw[show max ab ac=ab from oM]at aG;go_wp2_with (at_builtin;refine ae ?_);refine ar ?_;have C:=lh (ay.o.keep (aa.alloc (aa.refl _) (.cells #[.int .i64 aE] 2)));have a7:=lh (a6.o.trans (aa.alloc (aa.refl _) (.cells #[.int .i64 aE] 2)));clear ay a6;refine aD iO ea gC rfl (.tmp 77) (.tmp 79) rfl (ys:=[aE]) (C.o.own 1 _ _ rfl rfl) rfl rfl (br (c:=1) _ dC dC (λjj u hu=>by
      match jj,hu with
      | 0,hu=>cases hu;simp[go_sem])) (by rw[X.o];simp;omega) a7.o.size ?_
     intro b0 H E t M;obtain⟨V,B,O⟩:=bp E;rw[lg,X.o,lJ]at O;subst O;have y:ak H h 112 _:=de C.o.row t (bu (C.o.own 1 _ _ rfl rfl) C.o.row dC);have ao:=y.cell 3 _ rfl;have fn:=y.soft 3;have ax:=y.lt;have I:=Bx.step C.o 1 rfl rfl E t M;have N:=(a7.o.grown t (λb e=>((C.o.own 1 _ _ rfl rfl).lt b e).1)).setCell (a:=⟨h,3,none⟩) aA.o (.slice V (i+1) B);have L:=lh (show Bx (H.setCell ⟨h,3,none⟩ (.slice V (i+1) B)) G.heap.size h (.slice R k T) (P.ids.take k) (IntKind.i64.wrap (J.n+U.n)) [.slice af (i+1) ap,.slice V (i+1) B,.slice ai i al] [(o.take (i+1)).map (·.1),(o.take (i+1)).map (·.2.1),(o.take i).map (·.2.2)]from by rw[aV.o];exact I);have a8:=lh N;clear y I N E t M C a7;obtain⟨aX,aY⟩:∃x,x=B:=⟨_,rfl⟩;subst aY;clear p1 p2 b3 b4 b5 b6 b7 b8 a3 a4 aM aN aq ad b9 a1;go_upto_region 12 with fail;generalize World.setCell H _ _=cn at L a8|-;clear ao fn ax;have cq:=L.o.row.cell 4 _ rfl;have a1:=L.o.row.lt;go_wp2_with (at_builtin;refine ae ?_);refine ar ?_;have D:=lh (L.o.keep (aa.alloc (aa.refl _) (.cells #[.int .i64 ab] 2)));have a9:=lh (a8.o.trans (aa.alloc (aa.refl _) (.cells #[.int .i64 ab] 2)));clear L a8
     refine aD iO ea gC rfl (.tmp 83) (.tmp 85) rfl (ys:=[ab]) (D.o.own 2 _ _ rfl rfl) rfl rfl (br (c:=1) _ dC dC (λjj u hu=>by
      match jj,hu with
      | 0,hu=>cases hu;simp[go_sem])) (by rw[X.o];simp;omega) a9.o.size ?_
     intro b0 H E t M;obtain⟨a5,B,O⟩:=bp E;rw[lg,X.o,lJ]at O;subst O;have y:ak H h 112 _:=de D.o.row t (bu (D.o.own 2 _ _ rfl rfl) D.o.row dC);have ao:=y.cell 4 _ rfl;have fn:=y.soft 4;have ax:=y.lt;have I:=Bx.step D.o 2 rfl rfl E t M;have N:=(a9.o.grown t (λb e=>((D.o.own 2 _ _ rfl rfl).lt b e).1)).setCell (a:=⟨h,4,none⟩) aA.o (.slice a5 (i+1) B);have aS:=lh (show Bx (H.setCell ⟨h,4,none⟩ (.slice a5 (i+1) B)) G.heap.size h (.slice R k T) (P.ids.take k) (IntKind.i64.wrap (J.n+U.n)) [.slice af (i+1) ap,.slice V (i+1) aX,.slice a5 (i+1) B] [(o.take (i+1)).map (·.1),(o.take (i+1)).map (·.2.1),(o.take (i+1)).map (·.2.2)]from by rw[aG.o];exact I);have aU:=lh N;clear y I N E t M D a9;go_wp2;go_roundw
     case rel=>exact⟨i+1,_,_,_,oM,by go_num,aS.o,aU.o⟩
     case measure=>simp[intOf];omega
  ·have db:i=m:=oM;subst db;have bl:∀f:(Int×Int×Int)->Int,((o.take i).map f).length=i:=λf=>(by rw[ld,lD,bt.o];omega);obtain⟨aQ,aW,bj⟩:=bp (Y.o.own 0 _ _ rfl rfl);obtain⟨aI,aO,bi⟩:=bp (Y.o.own 1 _ _ rfl rfl);obtain⟨ai,al,bh⟩:=bp (Y.o.own 2 _ _ rfl rfl);rw[bl]at bj bi bh;subst bj;subst bi;subst bh;have dm:=Y.o.row.cell 0 _ rfl;have dn:=Y.o.row.cell 1 _ rfl;have dp:=Y.o.row.cell 2 _ rfl;have dq:=Y.o.row.cell 3 _ rfl;have dr:=Y.o.row.cell 4 _ rfl;have bD:=(cx.o.keep aB.o).lt;have bU:=lh (cx.o.keep aB.o);go_wp2_with (with_reducible refine pe 112 ?_);refine ar ?_;obtain⟨aH,ca⟩:∃aH,aH=wrap64 (J.n+U.n):=⟨_,rfl⟩;rw[<-ca];have cW:=lh ca;clear ca;refine wpList_store_row rfl 112 (.tmp 4) (.tmp 88) rfl (w.heap.size+1+1) #[.slice R k T,.int .i64 aH,.slice aQ i aW,.slice aI i aO,.slice ai i al] rfl rfl 112 _ bU.o kR rfl (by simp[Value.oneCell']) ?_;have aZ:ak (wr.setRow (w.heap.size+1+1) #[.slice R k T,.int .i64 aH,.slice aQ i aW,.slice aI i aO,.slice ai i al]) (w.heap.size+1+1) 112 [.slice R k T,.int .i64 aH,.slice aQ i aW,.slice aI i aO,.slice ai i al]:=setRow_heap wr (w.heap.size+2) _ _ 112 (0,0) bU.o;have ci:=m7 wr (w.heap.size+1+1) #[.slice R k T,.int .i64 aH,.slice aQ i aW,.slice aI i aO,.slice ai i al];generalize World.setRow wr _ _=cT at aZ ci|-;have cz:=lh ci;have t0:=aZ.cell 0 _ rfl;have dj:=aZ.cell 1 _ rfl
   have t2:=aZ.cell 2 _ rfl;have t3:=aZ.cell 3 _ rfl;have t4:=aZ.cell 4 _ rfl;clear dm dn dp dq dr aZ ci aq a1 bD a2;go_wp2;refine bodyPost_ret (v:=.agg #[.slice R k T,.int .i64 aH,.slice aQ i aW,.slice aI i aO,.slice ai i al]) (by simp[results,results97,go_sem,t0,dj,t2,t3,t4]) rfl ?_;have df:o.take i=o:=lM (by rw[bt.o];exact lc _);have bK:(P.add aP).sums=o:=cA.o.symm;have dc:base<=G.heap.size:=(by have:=cY.o;omega);have bg:=Y.o;rw[df]at bg;have bN:∀{e:TypeId} {v:Value} {xs:List Int},ah wr G.heap.size e 1 bM v xs->112≠e->ah cT base e 1 bM v xs:=λZ he=>(Z.turn cz.o λj hj=>by
    simp only[lm]at hj;subst hj;exact bu Z bU.o he).base_mono dc
   refine⟨⟨R,T,aH,aQ,aW,aI,aO,ai,al⟩,rfl,⟨bN bg.ids dC,aJ.o.z,?_,by rw[bK];exact bt.o,?_,?_,?_⟩,ag.after (bf.v aB) cz.o λj hj=>by simp only[lm]at hj;omega⟩
   ·show aH=js (P.n+aP.n);rw[cW.o,EQ,aJ.o.n,b1.o.n]
   ·rw[bK];exact bN (bg.own 0 _ _ rfl rfl) dC
   ·rw[bK];exact bN (bg.own 1 _ _ rfl rfl) dC
   ·rw[bK];exact bN (bg.own 2 _ _ rfl rfl) dC
theorem NJ{w:World}{S:List (Option ap)}{p:Value}(a:nW w 196 S p):Rt 128 #[p] w (.int .i64 (S.length:Nat)):=by
 cases a with
 | mk b v ps a ho hs =>
   obtain⟨A,c,e⟩:=bp ho;have f:=a.cell 0 _ rfl;have g:=a.lt;have d:=hs.1;generalize ps.length=n at d e;generalize S.length=m at d|-;subst d;subst e;clear a ho hs;go_enter func128,ntmps128;go_wp2;exact bodyPost_ret (v:=.int .i64 (n:Nat)) (by simp[results,results128,go_sem]) rfl ⟨rfl,kP⟩
theorem NL{w:World}{S:List (Option ap)}{p:Value}(d:nW w 196 S p)(N:∀s∈S,eh s 2000)(U:S.length<=1000)(H:Tab w):Rb 78 #[p] w (S.flatMap cP):=by
 have D:=lh (NJ d);have W:=lh H;have R:=lh N
 cases d with
 | mk b v ps d ho hs =>
   have y:=lh d;have a9:=lh hs;have ad:=lh ho;have q:=lh hs.1;generalize E:S.length=h at U D;have i:=lh E;clear d hs ho E H N;go_enter func78,ntmps78;go_wp2_with (go_at_call 128;refine ae ?_);refine uM D.o ?_;rintro e aq ⟨rfl,Q⟩;have I:=lh Q;clear Q;go_wp2;go_loopw [3,7] (λvb vi wr=>∃(k:Nat) (v:Value),k<=h/\vi=.int .i64 k/\v=vb/\Hid (aE wr w.heap.size v ((S.take k).flatMap cP))/\Hid (aa w wr)) (λ_ vi _=>h-(intOf vi).toNat)
   case atStart=>exact⟨0,.slice none 0 0,lj _,rfl,rfl,ah.nil_ _ _ _ _ _,I.o⟩
   case round =>
    clear I;obtain⟨k,u,aj,rfl,rfl,n,f⟩:=hrel
    by_cases a5:k<h
    ·have g:k<S.length:=(by rw[i.o];exact a5);have o:k<ps.length:=(by rw[q.o];exact g);have m:=R.o S[k] (ll g);have L:=(a9.o.keep f.o).2 k S[k] ps[k] (lu g) (lu o);obtain⟨A,c,C,z⟩:=cU (ad.o.keep f.o) sd (by rw[q.o,i.o];omega);have ab:=(y.o.keep f.o).cell 0 _ rfl;have a6:=(y.o.keep f.o).lt;obtain⟨a2,a7,a3,G⟩:=z.at_ k o;have z0:wr.cell? ⟨a2,a7+k,none⟩=some (.pointer (some ⟨ps[k],0,none⟩)):=by
      have:=G 0 _ rfl
      simpa using this
     have X:=block_lt_of_cell z0;have O:=lh (show(S.take (k+1)).flatMap cP=(S.take k).flatMap cP++cP S[k] by rw[ly g,lF];simp);have al:((S.take k).flatMap cP).length<=4016*k:=by
      have a8:∀s∈S.take k,(cP s).length<=4016:=λs hs=>lk (ny (R.o s (Lx hs))) oM;have:∀l:List (Option ap),(∀s∈l,(cP s).length<=4016)->(l.flatMap cP).length<=4016*l.length:=by
       intro l
       induction l with
       | nil=>intro _;simp
       | cons a l ih =>
         intro d;have au:=d a (Lt ..);have ai:=ih λs hs=>d s (Lm _ hs);simp only[lN,lg,lw];omega
      refine lk (this _ a8) ?_;rw[lD];omega
     have j:=yV L (qL.of m (lc _)) (W.o.keep f.o);have a4:=ny m;generalize Z:cP S[k]=a0 at O j a4;have r:=lh j;generalize ps[k]=ao at z0 r;subst a3;have P:ps.length=h:=(by rw[q.o,i.o]);rw[P]at C;subst C;clear m L z G g o Z j P;go_wp2_with (go_at_call 129;refine ae ?_);refine uM r.o ?_;rintro e ag ⟨v2,rfl,M,t⟩;obtain⟨ak,af,rfl,J⟩:=cU M aO oM;have B:=lh (n.o.keep t);have x:=f.u t;have ac:=lh J;clear M t J r z0 ab a6 X;go_wp2_with (at_builtin;refine ae ?_);refine ar ?_;refine aD bQ aO bT rfl (.tmp 10) (.tmp 18) rfl (ys:=a0) B.o rfl rfl ac.o oM x.o.size ?_;intro v3 Y F K _;have V:=lh (show aa w Y from ah.kept B.o K x.o (lc _));have a1:=lh F;clear F K;go_wp2;go_roundw
     case rel=>exact⟨k+1,v3,oM,by go_num,rfl,(by show aE _ _ _ _;rw[O.o];exact a1.o),V.o⟩
     case measure=>simp[intOf];omega
    ·have T:k=h:=oM;subst T;rw[<-i.o,lC]at n;go_wp2;exact bodyPost_ret (v:=u) (by simp[results,results78,go_sem]) rfl ⟨_,rfl,n.o,f.o⟩
theorem Jm{w:World}{S:List (Option ap)}{p:Value}(a:nW w 201 S p):Rt 132 #[p] w (.int .i64 (S.length:Nat)):=by
 cases a with
 | mk b v ps a ho hs =>
   obtain⟨A,c,e⟩:=bp ho;have f:=a.cell 0 _ rfl;have g:=a.lt;have d:=hs.1;generalize ps.length=n at d e;generalize S.length=m at d|-;subst d;subst e;clear a ho hs;go_enter func132,ntmps132;go_wp2;exact bodyPost_ret (v:=.int .i64 (n:Nat)) (by simp[results,results132,go_sem]) rfl ⟨rfl,kP⟩
theorem Jo{w:World}{S:List (Option ap)}{p:Value}(d:nW w 201 S p)(N:∀s∈S,eh s 2000)(U:S.length<=1000)(H:Tab w):Rb 80 #[p] w (S.flatMap cP):=by
 have D:=lh (Jm d);have W:=lh H;have R:=lh N
 cases d with
 | mk b v ps d ho hs =>
   have y:=lh d;have a9:=lh hs;have ad:=lh ho;have q:=lh hs.1;generalize E:S.length=h at U D;have i:=lh E;clear d hs ho E H N;go_enter func80,ntmps80;go_wp2_with (go_at_call 132;refine ae ?_);refine uM D.o ?_;rintro e aq ⟨rfl,Q⟩;have I:=lh Q;clear Q;go_wp2;go_loopw [3,7] (λvb vi wr=>∃(k:Nat) (v:Value),k<=h/\vi=.int .i64 k/\v=vb/\Hid (aE wr w.heap.size v ((S.take k).flatMap cP))/\Hid (aa w wr)) (λ_ vi _=>h-(intOf vi).toNat)
   case atStart=>exact⟨0,.slice none 0 0,lj _,rfl,rfl,ah.nil_ _ _ _ _ _,I.o⟩
   case round =>
    clear I;obtain⟨k,u,aj,rfl,rfl,n,f⟩:=hrel
    by_cases a5:k<h
    ·have g:k<S.length:=(by rw[i.o];exact a5);have o:k<ps.length:=(by rw[q.o];exact g);have m:=R.o S[k] (ll g);have L:=(a9.o.keep f.o).2 k S[k] ps[k] (lu g) (lu o);obtain⟨A,c,C,z⟩:=cU (ad.o.keep f.o) sd (by rw[q.o,i.o];omega);have ab:=(y.o.keep f.o).cell 0 _ rfl;have a6:=(y.o.keep f.o).lt;obtain⟨a2,a7,a3,G⟩:=z.at_ k o;have z0:wr.cell? ⟨a2,a7+k,none⟩=some (.pointer (some ⟨ps[k],0,none⟩)):=by
      have:=G 0 _ rfl
      simpa using this
     have X:=block_lt_of_cell z0;have O:=lh (show(S.take (k+1)).flatMap cP=(S.take k).flatMap cP++cP S[k] by rw[ly g,lF];simp);have al:((S.take k).flatMap cP).length<=4016*k:=by
      have a8:∀s∈S.take k,(cP s).length<=4016:=λs hs=>lk (ny (R.o s (Lx hs))) oM;have:∀l:List (Option ap),(∀s∈l,(cP s).length<=4016)->(l.flatMap cP).length<=4016*l.length:=by
       intro l
       induction l with
       | nil=>intro _;simp
       | cons a l ih =>
         intro d;have au:=d a (Lt ..);have ai:=ih λs hs=>d s (Lm _ hs);simp only[lN,lg,lw];omega
      refine lk (this _ a8) ?_;rw[lD];omega
     have j:=yV L (qL.of m (lc _)) (W.o.keep f.o);have a4:=ny m;generalize Z:cP S[k]=a0 at O j a4;have r:=lh j;generalize ps[k]=ao at z0 r;subst a3;have P:ps.length=h:=(by rw[q.o,i.o]);rw[P]at C;subst C;clear m L z G g o Z j P;go_wp2_with (go_at_call 129;refine ae ?_);refine uM r.o ?_;rintro e ag ⟨v2,rfl,M,t⟩;obtain⟨ak,af,rfl,J⟩:=cU M aO oM;have B:=lh (n.o.keep t);have x:=f.u t;have ac:=lh J;clear M t J r z0 ab a6 X;go_wp2_with (at_builtin;refine ae ?_);refine ar ?_;refine aD bQ aO bT rfl (.tmp 10) (.tmp 18) rfl (ys:=a0) B.o rfl rfl ac.o oM x.o.size ?_;intro v3 Y F K _;have V:=lh (show aa w Y from ah.kept B.o K x.o (lc _));have a1:=lh F;clear F K;go_wp2;go_roundw
     case rel=>exact⟨k+1,v3,oM,by go_num,rfl,(by show aE _ _ _ _;rw[O.o];exact a1.o),V.o⟩
     case measure=>simp[intOf];omega
    ·have T:k=h:=oM;subst T;rw[<-i.o,lC]at n;go_wp2;exact bodyPost_ret (v:=u) (by simp[results,results80,go_sem]) rfl ⟨_,rfl,n.o,f.o⟩
end Go.Proofs.YtpkocnpamcchcaaGreatDoor
