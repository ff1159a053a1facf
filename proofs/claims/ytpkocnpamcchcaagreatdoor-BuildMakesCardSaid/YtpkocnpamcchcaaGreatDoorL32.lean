/- Parts. -/
import Derived.Test.YtpkocnpamcchcaaGreatDoorL30
set_option maxRecDepth 100000
set_option maxHeartbeats 40000000
set_option linter.all false
namespace Go.Proofs.YtpkocnpamcchcaaGreatDoor
open Go.RowKit Go.Zone Go.Shelf Tryz
theorem Ip(A:Option Addr)(c:Nat)(xs:List SM)(w:World)(d:Sl w 3 jP A c xs)(p:xs.length<=1000000000)(i:xs=[]->A=none) :
 Calls prog 141 #[.slice A xs.length c] w λe w'=>∃a b,e=.returned (.slice a xs.length b)/\ah w' w.heap.size 160 3 jP (.slice a xs.length b) xs/\(xs=[]->a=none)/\aa w w':=by
 have h:=λW:World=>Lib.run_eql_slice_nil W 156 160 A xs.length c 0 0 underlying156
 cases A with
 | none =>
   have k:xs=[]:=by
    rcases xs with _ | ⟨y,r⟩
    ·rfl
    ·obtain⟨_,_,m,_⟩:=d.at_ 0 sP
     cases m
   subst k;simp only[lB,Option.isNone_none]at h|-;go_enter func141,ntmps141;go_wp2;go_ret;exact⟨none,0,rfl,ah.nil_ _ _ _ _ _,sP,aa.refl _⟩
 | some ad =>
   have o:=lh d;clear d;have n:=lh (λe:xs=[]=>by cases i e:xs=[]->False);clear i;go_enter func141,ntmps141;go_wp2_with (at_builtin;refine ae ?_);refine ar ?_;have j:ah (w.alloc (.cells #[] 160)) w.heap.size 160 3 jP (.slice (some ⟨w.heap.size,0,none⟩) 0 0) ([]:List SM):=World.ownsRow_made w #[] 0 (lc _) (by unfold maxLen;omega) rfl;refine aD Dy nt yG rfl (.tmp 5) (.tmp 6) rfl (ys:=xs) j rfl rfl (o.o.keep kP) sO sP ?_;intro q s f l _;have ⟨a1,a2,a3⟩:=j.after (w:=w) l kP (lc _);clear h a2 a3;go_wp2;go_ret;simp only[lO]at f;obtain⟨a,b,g⟩:=bp f;exact⟨a,b,by rw[<-g];rfl,by rw[<-g];exact f,λe=>(n.o e).elim,a1⟩
theorem Jj(A:Option Addr)(c:Nat)(xs:List Rc)(w:World)(d:Sl w 10 Rc.cells A c xs)(p:xs.length<=1000000000)(i:xs=[]->A=none) :
 Calls prog 142 #[.slice A xs.length c] w λe w'=>∃a b,e=.returned (.slice a xs.length b)/\ah w' w.heap.size 158 10 Rc.cells (.slice a xs.length b) xs/\(xs=[]->a=none)/\aa w w':=by
 have h:=λW:World=>Lib.run_eql_slice_nil W 151 158 A xs.length c 0 0 underlying151
 cases A with
 | none =>
   have k:xs=[]:=by
    rcases xs with _ | ⟨y,r⟩
    ·rfl
    ·obtain⟨_,_,m,_⟩:=d.at_ 0 sP
     cases m
   subst k;simp only[lB,Option.isNone_none]at h|-;go_enter func142,ntmps142;go_wp2;go_ret;exact⟨none,0,rfl,ah.nil_ _ _ _ _ _,sP,aa.refl _⟩
 | some ad =>
   have o:=lh d;clear d;have n:=lh (λe:xs=[]=>by cases i e:xs=[]->False);clear i;go_enter func142,ntmps142;go_wp2_with (at_builtin;refine ae ?_);refine ar ?_;have j:ah (w.alloc (.cells #[] 158)) w.heap.size 158 10 Rc.cells (.slice (some ⟨w.heap.size,0,none⟩) 0 0) ([]:List Rc):=World.ownsRow_made w #[] 0 (lc _) (by unfold maxLen;omega) rfl;refine aD tj fx qe rfl (.tmp 5) (.tmp 6) rfl (ys:=xs) j rfl rfl (o.o.keep kP) sO sP ?_;intro q s f l _;have ⟨a1,a2,a3⟩:=j.after (w:=w) l kP (lc _);clear h a2 a3;go_wp2;go_ret;simp only[lO]at f;obtain⟨a,b,g⟩:=bp f;exact⟨a,b,by rw[<-g];rfl,by rw[<-g];exact f,λe=>(n.o e).elim,a1⟩
theorem Oq:prog.stoodInHeld 155=false:=kR
theorem CX:prog.eqGuardType prog.depth 155=false:=kR
theorem ub:prog.underlying 155=some (.array 8 3):=kR
theorem mM(d:Nat)(a b:Int)(w:World):Sem.run prog (Op.equalIn (d+1) 3 (.int .i64 a) (.int .i64 b)) w=.ok (a==b) w:=by
 simp only[Op.equalIn,Sem.run_bind,run_underlying underlying3,Result.andThen_ok,if_true,Sem.run_pure]
theorem fX(xs:Array Value)(i:Nat)(v:Value)(h:xs[i]? =some v)(_hv:v.oneCell'=true)(w:World):Sem.run prog (part 3 xs i) w=.ok v w:=by
 go_simp
theorem O1(d:Nat)(a0 h a2 a3 a4 a5 j i l a c b e f k g:Int)(w:World):Sem.run prog (Op.equalIn (d+2) 155 (.agg #[.int .i64 a0,.int .i64 h,.int .i64 a2,.int .i64 a3,.int .i64 a4,.int .i64 a5,.int .i64 j,.int .i64 i]) (.agg #[.int .i64 l,.int .i64 a,.int .i64 c,.int .i64 b,.int .i64 e,.int .i64 f,.int .i64 k,.int .i64 g])) w=.ok (a0==l&&h==a&&a2==c&&a3==b&&a4==e&&a5==f&&j==k&&i==g) w:=by
 unfold Op.equalIn;simp only[Sem.run_bind,run_underlying ub,Result.andThen_ok];have m:(Sem.run prog (sizeOf 3) w)=.ok 1 w:=by go_simp
 have n:=fX;rw[m];simp only[Result.andThen_ok,Std.Legacy.Range.forIn_eq_forIn_range',Std.Legacy.Range.size,Lb];simp only[Nat.sub_zero,Nat.add_one_sub_one,Nat.div_one,List.range',List.forIn_cons,List.forIn_nil,Sem.run_bind,lS,Nat.reduceAdd,Nat.reduceSub,Nat.reduceDiv];rw[fX _ 0 (.int .i64 a0) rfl rfl,Result.andThen_ok,fX _ 0 (.int .i64 l) rfl rfl,Result.andThen_ok,mM,Result.andThen_ok]
 cases h0:a0==l
 ·simp only[Bool.not_false,if_true,Sem.run_pure,Result.andThen_ok,Bool.false_and,Bool.true_and]
 simp only[Bool.not_true,lY,if_false,Sem.run_pure,Result.andThen_ok,Sem.run_bind,Bool.true_and];rw[fX _ 1 (.int .i64 h) rfl rfl,Result.andThen_ok,fX _ 1 (.int .i64 a) rfl rfl,Result.andThen_ok,mM,Result.andThen_ok]
 cases h1:h==a
 ·simp only[Bool.not_false,if_true,Sem.run_pure,Result.andThen_ok,Bool.false_and,Bool.true_and]
 simp only[Bool.not_true,lY,if_false,Sem.run_pure,Result.andThen_ok,Sem.run_bind,Bool.true_and];rw[fX _ 2 (.int .i64 a2) rfl rfl,Result.andThen_ok,fX _ 2 (.int .i64 c) rfl rfl,Result.andThen_ok,mM,Result.andThen_ok]
 cases h2:a2==c
 ·simp only[Bool.not_false,if_true,Sem.run_pure,Result.andThen_ok,Bool.false_and,Bool.true_and]
 simp only[Bool.not_true,lY,if_false,Sem.run_pure,Result.andThen_ok,Sem.run_bind,Bool.true_and];rw[fX _ 3 (.int .i64 a3) rfl rfl,Result.andThen_ok,fX _ 3 (.int .i64 b) rfl rfl,Result.andThen_ok,mM,Result.andThen_ok]
 cases h3:a3==b
 ·simp only[Bool.not_false,if_true,Sem.run_pure,Result.andThen_ok,Bool.false_and,Bool.true_and]
 simp only[Bool.not_true,lY,if_false,Sem.run_pure,Result.andThen_ok,Sem.run_bind,Bool.true_and];rw[fX _ 4 (.int .i64 a4) rfl rfl,Result.andThen_ok,fX _ 4 (.int .i64 e) rfl rfl,Result.andThen_ok,mM,Result.andThen_ok]
 cases h4:a4==e
 ·simp only[Bool.not_false,if_true,Sem.run_pure,Result.andThen_ok,Bool.false_and,Bool.true_and]
 simp only[Bool.not_true,lY,if_false,Sem.run_pure,Result.andThen_ok,Sem.run_bind,Bool.true_and];rw[fX _ 5 (.int .i64 a5) rfl rfl,Result.andThen_ok,fX _ 5 (.int .i64 f) rfl rfl,Result.andThen_ok,mM,Result.andThen_ok]
 cases h5:a5==f
 ·simp only[Bool.not_false,if_true,Sem.run_pure,Result.andThen_ok,Bool.false_and,Bool.true_and]
 simp only[Bool.not_true,lY,if_false,Sem.run_pure,Result.andThen_ok,Sem.run_bind,Bool.true_and];rw[fX _ 6 (.int .i64 j) rfl rfl,Result.andThen_ok,fX _ 6 (.int .i64 k) rfl rfl,Result.andThen_ok,mM,Result.andThen_ok]
 cases h6:j==k
 ·simp only[Bool.not_false,if_true,Sem.run_pure,Result.andThen_ok,Bool.false_and,Bool.true_and]
 simp only[Bool.not_true,lY,if_false,Sem.run_pure,Result.andThen_ok,Sem.run_bind,Bool.true_and];rw[fX _ 7 (.int .i64 i) rfl rfl,Result.andThen_ok,fX _ 7 (.int .i64 g) rfl rfl,Result.andThen_ok,mM,Result.andThen_ok]
 cases h7:i==g
 ·simp only[Bool.not_false,if_true,Sem.run_pure,Result.andThen_ok,Bool.false_and,Bool.true_and]
 simp only[Bool.not_true,lY,if_false,Sem.run_pure,Result.andThen_ok,Sem.run_bind,Bool.true_and]
theorem Iy(a0 g a2 a3 a4 a5 i h k a c b d e j f:Int)(w:World):Sem.run prog (binOp .neq 155 (.agg #[.int .i64 a0,.int .i64 g,.int .i64 a2,.int .i64 a3,.int .i64 a4,.int .i64 a5,.int .i64 i,.int .i64 h]) (.agg #[.int .i64 k,.int .i64 a,.int .i64 c,.int .i64 b,.int .i64 d,.int .i64 e,.int .i64 j,.int .i64 f])) w=.ok (.bool (!(a0==k&&g==a&&a2==c&&a3==b&&a4==d&&a5==e&&i==j&&h==f))) w:=by
 have n:=Oq;have m:=CX;have l:Sem.run prog (Op.equalIn 10000 155 (.agg #[.int .i64 a0,.int .i64 g,.int .i64 a2,.int .i64 a3,.int .i64 a4,.int .i64 a5,.int .i64 i,.int .i64 h]) (.agg #[.int .i64 k,.int .i64 a,.int .i64 c,.int .i64 b,.int .i64 d,.int .i64 e,.int .i64 j,.int .i64 f])) w=.ok (a0==k&&g==a&&a2==c&&a3==b&&a4==d&&a5==e&&i==j&&h==f) w:=O1 9998 a0 g a2 a3 a4 a5 i h k a c b d e j f w;generalize (a0==k&&g==a&&a2==c&&a3==b&&a4==d&&a5==e&&i==j&&h==f)=r at l|-;go_simp
theorem IA(a:BinOp)(x y:Operand)(xs ys:Array Value)(w:World):(eqGuard a 155 x y (.agg xs) (.agg ys)).run prog w=.ok () w:=run_eqGuard_agg w a 155 x y xs ys CX
def fW(w:World)(g o:Nat):Option Value :=
 match w.cell? ⟨g,o+0,none⟩,w.cell? ⟨g,o+1,none⟩,w.cell? ⟨g,o+2,none⟩,w.cell? ⟨g,o+3,none⟩,w.cell? ⟨g,o+4,none⟩,w.cell? ⟨g,o+5,none⟩,w.cell? ⟨g,o+6,none⟩,w.cell? ⟨g,o+7,none⟩with
 | some a,some b,some c,some d,some e,some f,some x,some y=>some (.agg #[a,b,c,d,e,f,x,y])
 | _,_,_,_,_,_,_,_=>none
theorem zQ{w:World}{g o:Nat}{v:Value}(h:fW w g o=some v):∃cs:List Value,cs.length=8/\w.rangeAt g o cs/\v=.agg cs.toArray:=by
 unfold fW at h
 split at h
 ·rename_i a b c d e f x y h0 h1 h2 h3 h4 h5 h6 h7
  cases h
  refine⟨[a,b,c,d,e,f,x,y],rfl,λj v hv=>?_,rfl⟩
  match j,hv with
  | 0,hv=>cases hv;exact h0
  | 1,hv=>cases hv;exact h1
  | 2,hv=>cases hv;exact h2
  | 3,hv=>cases hv;exact h3
  | 4,hv=>cases hv;exact h4
  | 5,hv=>cases hv;exact h5
  | 6,hv=>cases hv;exact h6
  | 7,hv=>cases hv;exact h7
  | n+8,hv=>simp at hv
 ·cases h
def Rc.iv(x:Rc):Value:=.agg #[.int .i64 x.i0,.int .i64 x.i1,.int .i64 x.i2,.int .i64 x.i3,.int .i64 x.i4,.int .i64 x.i5,.int .i64 x.i6,.int .i64 x.i7]
theorem zS{w:World}{g o:Nat}{x:Rc}(h:∀j u,x.cells[j]? =some u->w.cell? ⟨g,o+j,none⟩=some u):fW w g o=some x.iv:=by
 unfold fW;rw[h 0 _ rfl,h 1 _ rfl,h 2 _ rfl,h 3 _ rfl,h 4 _ rfl,h 5 _ rfl,h 6 _ rfl,h 7 _ rfl];rfl
noncomputable def Hq(w:World)(g o:Nat):Result Value:=(Instr.loadAt 155 (.pointer (some ⟨g,o,none⟩))).run prog w
noncomputable def wF(v:Value):Sem Value:=Instr.loadAt 155 v
theorem Gm(v:Value):Instr.loadAt 155 v=wF v:=rfl
theorem Ol:(prog.info? 155).map (·.size)=some 8:=kR
theorem OY(w:World)(g a:Nat):(wF (.pointer (some ⟨g,a,none⟩))).run prog w=match fW w g a with
 | some v=>.ok v w
 | none=>Hq w g a:=by
 unfold wF
 cases h:fW w g a with
 | none=>rfl
 | some v =>
   obtain⟨cs,b,c,rfl⟩:=zQ h;exact run_loadAt_mid w g a 155 cs _ c ub rfl (by rw[b];exact Ol)
theorem zT{w i:World}{g j:Nat}{v:Value}(o:fW w g j=some v)(s:aa w i):fW i g j=some v:=by
 obtain⟨cs,k,n,rfl⟩:=zQ o;have h:=zY n s
 match cs,k with
 | [a,b,c,d,e,f,x,y],_ =>
   have t:=h 0 _ rfl;have z:=h 1 _ rfl;have p:=h 2 _ rfl;have q:=h 3 _ rfl;have l:=h 4 _ rfl;have r:=h 5 _ rfl;have u:=h 6 _ rfl;have m:=h 7 _ rfl;unfold fW;rw[t,z,p,q,l,r,u,m]
theorem Jg{w:World}{g o k:Nat}{v:Value}(h:fW w g o=some v):fW (w.drewN k) g o=some v:=zT h kP
theorem Jf{w:World}{p:GB}{g o:Nat}{v:Value}(h:fW w g o=some v):fW (w.gro p) g o=some v:=zT h kP
theorem Jh(w:World)(g o:Nat):fW w.drew g o=fW w g o:=rfl
def nN(x y:Rc):Bool:=x.i0==y.i0&&x.i1==y.i1&&x.i2==y.i2&&x.i3==y.i3&&x.i4==y.i4&&x.i5==y.i5&&x.i6==y.i6&&x.i7==y.i7
theorem O2(x y:Rc):nN x y=true<->x.ids=y.ids:=by
 simp[nN,Rc.ids,and_assoc]
theorem Ix(x y:Rc)(w:World):Sem.run prog (binOp .neq 155 x.iv y.iv) w=.ok (.bool (!nN x y)) w:=Iy _ _ _ _ _ _ _ _ _ _ _ _ _ _ _ _ w
theorem Iz(c:BinOp)(a b:Operand)(x y:Rc)(w:World):(eqGuard c 155 a b x.iv y.iv).run prog w=.ok () w:=IA c a b _ _ w
open Go.Roa Go.Star Go.Sym
attribute [local go_sem ↓] kx mc Gm
attribute [local go_sem] kU mL kJ kH kG mh QU mg mf kA
theorem rV{b:World}{base g N c:Nat}{a:List Rc}(d:bX b base (.slice (some ⟨g,0,none⟩) N c) a)(e:a.length=N)(k:Nat)(f:k<a.length):∀j u,a[k].cells[j]? =some u->b.cell? ⟨g,k*10+j,none⟩=some u:=(fY d fx e k f).1
theorem Ee(a:World)(x:Rc):ak ((a.alloc (.cells #[.int .i64 0,.int .i64 0,.int .i64 0,.int .i64 0,.int .i64 0,.int .i64 0,.int .i64 0,.int .i64 0,.int .i64 0,.slice none 0 0] 158)).setCells a.heap.size 0 x.cells) a.heap.size 158 x.cells:=by
 have b:=bH a 158 [.int .i64 0,.int .i64 0,.int .i64 0,.int .i64 0,.int .i64 0,.int .i64 0,.int .i64 0,.int .i64 0,.int .i64 0,.slice none 0 0];have d:=(((((((((b.set 0 (.int .i64 x.i0)).set 1 (.int .i64 x.i1)).set 2 (.int .i64 x.i2)).set 3 (.int .i64 x.i3)).set 4 (.int .i64 x.i4)).set 5 (.int .i64 x.i5)).set 6 (.int .i64 x.i6)).set 7 (.int .i64 x.i7)).set 8 (.int .i64 x.n)).set 9 (.slice x.A x.l x.c);exact d
theorem Ef(W:World)(x:Rc):aa W ((W.alloc (.cells #[.int .i64 0,.int .i64 0,.int .i64 0,.int .i64 0,.int .i64 0,.int .i64 0,.int .i64 0,.int .i64 0,.int .i64 0,.slice none 0 0] 158)).setCells W.heap.size 0 x.cells) :=
 ag.after (show aa W (W.alloc _) from aa.alloc (aa.refl _) _) (ag.setCells W.heap.size x.cells 0 _) (λi hi=>by simp at hi;omega)
theorem xQ(a:World):gj (a.alloc (.cells #[.int .i64 0,.int .i64 0,.int .i64 0,.int .i64 0,.int .i64 0,.int .i64 0,.int .i64 0,.int .i64 0,.int .i64 0,.slice none 0 0] 158)) a.heap.size 0:=λj hj=>by
 have b:=bH a 158 [.int .i64 0,.int .i64 0,.int .i64 0,.int .i64 0,.int .i64 0,.int .i64 0,.int .i64 0,.int .i64 0,.int .i64 0,.slice none 0 0];refine⟨?_,by simpa using b.soft (0+j)⟩;have:=b.cell (0+j) _ (lu sO);rw[this];rfl
attribute [local go_sem] xQ
attribute [local go_sem] Ix Iz OY Jh Jg Jf
theorem fh{a:Type}{w:World}{base k N c:Nat}{e:TypeId}{enc:a->List Value}{A:Option Addr}{xs:List a}(b:ah w base e k enc (.slice A N c) xs)(f:0<xs.length):∃g,A=some ⟨g,0,none⟩/\N=xs.length:=by
 rcases b.2 with⟨_,j⟩ | ⟨g,h,i,d,_⟩
 ·omega
 ·injection d with h1 h2 h3;exact⟨g,h1,h2⟩
theorem xN{j:World}{base:Nat}{Q:List (Rc×Star.SR)}{x:Rc}{X:Star.SR}{b:Bool}(k:dV j base Q)(i:x.ids=X.ids)(a:b=match Q.getLast? with|none=>true|some y=>!nN y.1 x) :
 (b=true->eF (Q.map (·.2)) X=Q.map (·.2)++[X])/\(b=false->∃d y,Q=d++[y]/\eF (Q.map (·.2)) X=d.map (·.2)++[y.2.add X]):=by
 rcases List.eq_nil_or_concat Q with c | ⟨d,y,c⟩
 ·subst c;refine⟨λ_=>rfl,λh=>?_⟩;rw[a]at h
  cases h
 ·have f:Q.getLast? =some y:=by rw[c];simp
  have l:=k y (by rw[c];simp);rw[f]at a;simp only at a;have e:eF (Q.map (·.2)) X=if y.2.ids=X.ids then (Q.map (·.2)).dropLast++[y.2.add X] else Q.map (·.2)++[X]:=by
   unfold eF;rw[List.getLast?_map,f];rfl
  have g:nN y.1 x=true<->y.2.ids=X.ids:=by rw[O2,l.ids,i]
  refine⟨λh=>?_,λh=>⟨d,y,by rw[c];simp,?_⟩⟩
  ·rw[e,if_neg];rw[<-g];rw[h]at a
   simpa using a.symm
  ·rw[e,if_pos,c]
   ·simp
   ·rw[<-g];rw[h]at a
    simpa using a.symm
theorem OR{b:Type}{k:Nat}{enc:b->List Value}(c:∀x,(enc x).length=k)(a:List b)(i j:Nat)(hi:i<a.length)(g:j<k)(u:Value)(y:b)(f:enc y=(enc a[i]).set j u):(a.flatMap enc).set (i*k+j) u=(a.set i y).flatMap enc:=by
 have l:a=a.take i++a[i]::a.drop (i+1):=by
  rw[List.getElem_cons_drop hi,Ls]
 have h:a.flatMap enc=(a.take i).flatMap enc++(enc a[i]++(a.drop (i+1)).flatMap enc):=by
  conv=>lhs;rw[l]
  rw[lF,lN]
 have e:(a.set i y).flatMap enc=(a.take i).flatMap enc++(enc y++(a.drop (i+1)).flatMap enc):=by
  rw[List.set_eq_take_append_cons_drop,if_pos hi,lF,lN]
 have d:((a.take i).flatMap enc).length=i*k:=by rw[eL c,lD];congr 1;omega
 rw[e,h,Lg _ _ (by rw[d];omega),d,show i*k+j-i*k=j from oM,List.set_append_left _ _ (by rw[c];exact g),f]
theorem sf{b:Type}{f:World}{base g N c k:Nat}{e:TypeId}{enc:b->List Value}{a:List b}(d:ah f base e k enc (.slice (some ⟨g,0,none⟩) N c) a)(m:∀x,(enc x).length=k)(l:a.length=N)(i j:Nat)(hi:i<a.length)(h:j<k)(u:Value)(y:b)(n:enc y=(enc a[i]).set j u):ah (f.setCell ⟨g,i*k+j,none⟩ u) base e k enc (.slice (some ⟨g,0,none⟩) N c) (a.set i y):=by
 subst l;unfold ah at d|-;rw[Li,<-OR m a i j hi h u y n];exact uV (xs:=[]) [u] _ _ _ d
theorem xg(x:Int):wrap64 x=js x:=by unfold wrap64 js;rfl
theorem EW{P:Program}{c:Code}{Q:Exit->Act->World->Prop}{a:Act}{w:World}(d:∀K:Act->World->Prop,K=Q .normal->c.wp P (Exit.then K Q) a w):c.wp P Q a w:=by
 refine wp_mono (d _ rfl) ?_;intro e g f b
 cases e with
 | normal=>exact b
 | exit id=>exact b
 | goto l=>exact b
 | ret=>exact b
 | panic ch=>exact b
 | outgrown=>exact b
theorem ou{w a:World}{g b:Nat}(d:aa w a)(e:g<w.heap.size)(c:w.frozen? ⟨g,b,none⟩=false):a.frozen? ⟨g,b,none⟩=false:=by
 have:=d.block g e;simp only[World.frozen?]at c|-;rw[this];exact c
theorem yf(e:World)(d i:Nat)(a b c:Int):((e.setCell ⟨d,i*3,none⟩ (.int .i64 (wrap64 a))).setCell ⟨d,i*3+1,none⟩ (.int .i64 b)).setCell ⟨d,i*3+2,none⟩ (.int .i64 c)=e.setCells d (i*3) (jP (js a,b,c)):=by
 rw[xg];rfl
def qP(d:World)(a i:Nat)(c g b h f e:Int):World:=((d.setCell ⟨a,i*3,none⟩ (.int .i64 (wrap64 (c+g)))).setCell ⟨a,i*3+1,none⟩ (.int .i64 (min b h))).setCell ⟨a,i*3+2,none⟩ (.int .i64 (max f e))
theorem xO(g c base m:Nat)(P:List (Rc×Star.SR))(w:World)(aY:bX w base (.slice (some ⟨g,0,none⟩) P.length c) (P.map (·.1)))(cT:dV w base P)(dR:P.length<=1000000)(e3:m<=1000)(cM:∀p∈P,p.2.sums.length=m) :
 Calls prog 84 #[.slice (some ⟨g,0,none⟩) P.length c] w λe w'=>∃v Q,e=.returned v/\bX w' w.heap.size v (Q.map (·.1))/\dV w' w.heap.size Q/\Apart Q/\Q.map (·.2)=bN (P.map (·.2))/\ag w w' [g]:=by
 have a1:=lh aY;have aK:=lh cT;have ce:=lh cM;have cD:=lh (Ft g c base P.length (P.map (·.1)) w sP aY oM);have cw:=(aY.lt g rfl).2;clear aY cT cM;generalize cI:P.length=N at *;go_enter func84,ntmps84;go_wp2_with (go_at_call 138;refine ae ?_);refine uM cD.o ?_;rintro e q ⟨rfl,bq,b2⟩;obtain⟨S,aG⟩:∃S,S=dO (λx y:Rc×Star.SR=>bU jn x.1 y.1) P:=⟨_,rfl⟩;have c1:S.map (·.1)=dO (bU jn) (P.map (·.1)):=by rw[aG];exact pP (lt:=λx y:Rc×Star.SR=>bU jn x.1 y.1) (lt':=bU jn) (λr=>r.1) (λa b=>rfl) P
 have bS:S.map (·.2)=dO dk (P.map (·.2)):=by
  rw[aG,yr (lt2:=λx y:Rc×Star.SR=>dk x.2 y.2) P λa ha b hb=>by
   rw[BR,(aK.o a ha).ids,(aK.o b hb).ids];rfl]
  exact pP (lt:=λx y:Rc×Star.SR=>dk x.2 y.2) (lt':=dk) (λr=>r.2) (λa b=>rfl) P
 have bB:∀p,p∈S->p∈P:=λp d=>(uu (lt:=λx y:Rc×Star.SR=>bU jn x.1 y.1) P).mem_iff.1 (aG▸d);have cu:S.length=N:=by rw[aG,pQ,cI]
 have c9:=lh (show dV q base S from λp d=>dV.turn aK.o a1.o dC b2 (λi hi=>by simp at hi;subst hi;rfl) p (bB p d));have d7:=lh (λp d=>ce.o p (bB p d));rw[<-c1]at bq;have cZ:=lh bq;have dq:=lh bS;have bd:=lh cu;have b6:=lh b2;have dQ:g<q.heap.size:=lp cw b2.size;clear aG c1 bS cu bB bq b2 cD a1 aK ce cI cw;go_wp2;go_loopw [2,13] (λvo vi wr=>∃(k C:Nat) (Q:List (Rc×Star.SR)),k<=N/\vi=.int .i64 k/\C<=k/\Hid (Q.length=C)/\Hid (bX wr q.heap.size vo (Q.map (·.1)))/\Hid (dV wr q.heap.size Q)/\Hid (Apart Q)/\Hid (Q.map (·.2)=((S.map (·.2)).take k).foldl eF [])/\Hid (∀H∈Q,H.2.sums.length=m)/\Hid (aa q wr)) (λ_ vi _=>N-(intOf vi).toNat)
 case atStart=>exact⟨0,0,[],lj _,rfl,lj _,rfl,ah.nil_ _ _ _ _ _,(λ_ L=>(by cases L)),List.Pairwise.nil,rfl,(λ_ L=>(by cases L)),aa.refl _⟩
 case round =>
  obtain⟨k,C,Q,dW,rfl,bx,J,a1,V,bJ,cx,bI,au⟩:=hrel;obtain⟨A,aT,bR⟩:=bp a1.o;rw[ld,J.o]at bR;subst bR
  by_cases dp:k<N
  ·have ai:k<S.length:=(by rw[bd.o];exact dp);have ao:=fY (cZ.o.keep au.o) fx (by rw[ld];exact bd.o) k (by rw[ld];exact ai);have aL:=lh ((c9.o S[k] (ll ai)).keep au.o);have aX:=lh (c9.o S[k] (ll ai));have z:=lh (d7.o S[k] (ll ai));have b1:=lh (show((S.map (·.2)).take (k+1)).foldl eF []=eF (Q.map (·.2)) S[k].2 by
    rw[Gh _ k (by rw[ld];exact ai),<-cx.o];simp)
   simp only[Lj]at ao;generalize S[k]=H at ao aL aX z b1;obtain⟨x,X⟩:=H;simp only at ao aL aX z b1;have a0:=nE ao.1;have e1:=ao.2.2.1;clear ao ai;go_upto_region 6 with fail;have E:=Ee wr x;have b5:=Ef wr x;generalize World.setCells (World.alloc wr _) _ _ _=bF at E b5|-;have a2:=lh b5;have cS:=E.lt;have bl:=lh (lc wr.heap.size);generalize cK:wr.heap.size=F at E cS|-;have bQ:=lh E;have bl:=lh cK;have dd:fW bF F 0=some x.iv:=zS λj u hu=>(by simpa using E.cell j u hu);clear E b5 cK a0;generalize aS:(C:Int)-1=bj;have aF:=lh (a1.o.keep a2.o);go_cut [31]from 20 to 31 (λs31 wx=>∃b:Bool,s31=.bool b/\Hid (b=match Q.getLast? with|none=>true|some y=>!nN y.1 x)/\Hid (aa bF wx))
   case first =>
    rcases List.eq_nil_or_concat Q with a6 | ⟨Z,y,a6⟩
    ·obtain rfl:C=0:=(by rw[<-J.o,a6];rfl);have cU:=lh (show Q.getLast? =none by rw[a6];rfl);obtain rfl:bj= -1:=(by rw[<-aS];rfl);clear aS a6;go_quiet (fail);go_wp2_with fail;go_meet;exact⟨true,rfl,by rw[cU.o];rfl,kP⟩
    ·have aU:Q.length=Z.length+1:=(by rw[a6];simp);have cP:Q.getLast? =some y:=(by rw[a6];simp);obtain⟨go,rfl,-⟩:=fh aF.o (by rw[ld];omega);have c6:=(aF.o.lt go rfl).2;have M:=rV aF.o (by rw[ld];exact J.o) Z.length (by rw[ld];omega);have al:(Q.map (·.1))[Z.length]'(by rw[ld];omega)=y.1:=(by simp[a6]);rw[al]at M;have d3:=J.o;obtain⟨n,T⟩:∃n,n=Z.length:=⟨_,rfl⟩;rw[<-T]at M;obtain rfl:bj=((n:Nat):Int):=oM;have dj:=lh cP;have cs:n<C:=oM;clear aS cP al a6 aU d3 T;obtain⟨y,f⟩:=y;simp only at M;have dI:fW bF go (n*10)=some y.iv:=zS M;clear M bx;have de:¬((n:Int)<0):=oM;have dX:decide ((n:Int)<0)=false:=decide_eq_false de;go_quiet (fail);go_wp2_with fail;go_meet;exact⟨!nN y x,rfl,by rw[dj.o];rfl,kP⟩
   case rest =>
    rename World=>w5;obtain⟨b,rfl,bT,R⟩:=hcut;clear dd;have E:=bQ.o.keep R.o;have aV:=E.lt;have ay:=lh (aL.o.keep (a2.v R));have dF:x.l=m:=aL.o.len.trans z.o;have aW:=E.cell 9 _ rfl;rw[dF]at aW;have cO:=E.soft 9;have cy:=E.cell 8 _ rfl;have cb:=lh E;have a4:=lh (aF.o.keep R.o);clear E cS bQ aF
    cases b with
    | true =>
      have cF:Sl w5 3 jP x.A x.c X.sums:=by
       obtain⟨dJ,dY,O,ca⟩:=ay.o.own.sl nt (by have:=z.o;omega);unfold Rc.sv at O;injection O with b0 _ a7;rw[b0,a7];exact ca
      have bO:=Ip x.A x.c X.sums w5 cF (by have:=z.o;omega) ay.o.nil_;rw[z.o]at bO;have cC:=lh bO;clear cF bO;go_wp2_with (go_at_call 141;refine ae ?_);refine uM cC.o ?_;rintro e G ⟨o,h,rfl,cd,co,aZ⟩;have b8:=lh cd;have ds:=lh co;have aC:=lh (cb.o.keep aZ);have d8:=lh aZ;have di:=lp aV aZ.size;have d9:=aC.o.soft 9;have d4:=aC.o.cell 9 _ rfl;have bV:=aC.o.set 9 (.slice o m h);have du:fw (G.setCell ⟨F,9,none⟩ (.slice o m h)) F 0=some (.agg #[.int .i64 x.i0,.int .i64 x.i1,.int .i64 x.i2,.int .i64 x.i3,.int .i64 x.i4,.int .i64 x.i5,.int .i64 x.i6,.int .i64 x.i7,.int .i64 x.n,.slice o m h]):=nE (x:=⟨x.i0,x.i1,x.i2,x.i3,x.i4,x.i5,x.i6,x.i7,x.n,o,m,h⟩) λj u hu=>(by simpa using bV.cell j u hu);clear cd co aZ bV cy aW cO aV cC;go_wp2_with (at_builtin;refine ae ?_);refine ar ?_;have ck:aa wr (G.setCell ⟨F,9,none⟩ (.slice o m h)):=ag.after (a2.o.trans (R.v d8)) (ag.set _ _ _) (λi hi=>by have:=bl.o;simp at hi;omega);have bK:aa (G.setCell ⟨F,9,none⟩ (.slice o m h)) ((G.setCell ⟨F,9,none⟩ (.slice o m h)).alloc (.cells #[.int .i64 x.i0,.int .i64 x.i1,.int .i64 x.i2,.int .i64 x.i3,.int .i64 x.i4,.int .i64 x.i5,.int .i64 x.i6,.int .i64 x.i7,.int .i64 x.n,.slice o m h] 158)):=kP
      have bv:Sl ((G.setCell ⟨F,9,none⟩ (.slice o m h)).alloc (.cells #[.int .i64 x.i0,.int .i64 x.i1,.int .i64 x.i2,.int .i64 x.i3,.int .i64 x.i4,.int .i64 x.i5,.int .i64 x.i6,.int .i64 x.i7,.int .i64 x.n,.slice o m h] 158)) 10 Rc.cells (some ⟨G.heap.size,0,none⟩) 1 [(⟨x.i0,x.i1,x.i2,x.i3,x.i4,x.i5,x.i6,x.i7,x.n,o,m,h⟩:Rc)]:=by
       have L:=bH (G.setCell ⟨F,9,none⟩ (.slice o m h)) 158 [.int .i64 x.i0,.int .i64 x.i1,.int .i64 x.i2,.int .i64 x.i3,.int .i64 x.i4,.int .i64 x.i5,.int .i64 x.i6,.int .i64 x.i7,.int .i64 x.n,.slice o m h];have e:(G.setCell ⟨F,9,none⟩ (.slice o m h)).heap.size=G.heap.size:=sP;rw[e]at L;exact br _ oM oM λj u hu=>L.cell j u hu
      have aJ:=ck.trans bK;have bM:kp ((G.setCell ⟨F,9,none⟩ (.slice o m h)).alloc (.cells #[.int .i64 x.i0,.int .i64 x.i1,.int .i64 x.i2,.int .i64 x.i3,.int .i64 x.i4,.int .i64 x.i5,.int .i64 x.i6,.int .i64 x.i7,.int .i64 x.n,.slice o m h] 158)) w5.heap.size (.slice o m h) X.sums :=
       (ah.turn b8.o (ag.set G ⟨F,9,none⟩ (.slice o m h)) λi hi=>by
         simp only[lm]at hi;subst hi;exact bu b8.o aC.o dC).keep bK
      have c3:=lh (show wr.heap.size<=w5.heap.size from(a2.v R).size);generalize World.alloc (World.setCell G _ _) _=dT at bv aJ bM|-;have aP:=lh (a1.o.keep aJ);have cG:=au.u aJ;have d5:=lh (V.o.keep aJ);have b4:=lh bM;clear ck bK aJ bM du aC b8 cb d4 d9 a4 di;refine aD tj fx qe rfl (.tmp 36) (.tmp 38) rfl (ys:=[(⟨x.i0,x.i1,x.i2,x.i3,x.i4,x.i5,x.i6,x.i7,x.n,o,m,h⟩:Rc)]) aP.o rfl rfl bv (by rw[ld,J.o];simp;omega) cG.o.size ?_;intro e2 cW cJ bC dG;have dB:=lh cJ;have c0:=lh (ag.of_grown bC);have cX:=lh (aP.o.kept bC cG.o (lc _));clear cJ bC dG bv;go_wp2;go_roundw
      case rel =>
       have c2:∀i∈(Value.slice A C aT).ownBlock.toList,(Value.slice A C aT).ownBlock=some i:=λi hi=>(by simpa using hi);have d0:q.heap.size<=w5.heap.size:=lk au.o.size c3.o;have dE:eN cW q.heap.size ⟨x.i0,x.i1,x.i2,x.i3,x.i4,x.i5,x.i6,x.i7,x.n,o,m,h⟩ X:=⟨ay.o.ids,ay.o.n,(ah.turn b4.o c0.o λi hi=>cN aP.o b4.o dC i (c2 i hi)).base_mono d0,ds.o⟩;refine⟨k+1,C+1,Q++[(⟨x.i0,x.i1,x.i2,x.i3,x.i4,x.i5,x.i6,x.i7,x.n,o,m,h⟩,X)],oM,by go_num,oM,?_,?_,?_,?_,?_,?_,cX.o⟩
       ·show List.length _=_;rw[lg,J.o];rfl
       ·show bX _ _ _ _;rw[lz];exact dB.o
       ·show dV _ _ _;intro p d
        rcases lx.1 d with d|d
        ·exact dV.turn d5.o aP.o dC c0.o c2 p d
        ·rw[lm]at d;subst d;exact dE
       ·show Apart _;refine List.pairwise_append.2 ⟨bJ.o,List.pairwise_singleton _ _,λp d H s b hb hb2=>?_⟩;rw[lm]at s;subst s;have O:=((V.o p d).own.lt b hb).2;have ca:=(b4.o.lt b hb2).1;have:=c3.o;omega
       ·show List.map _ _=_;rw[b1.o,(xN V.o ay.o.ids bT.o).1 rfl,lz];rfl
       ·show ∀H∈_,_;intro H s
        rcases lx.1 s with s|s
        ·exact bI.o H s
        ·rw[lm]at s;subst s;exact z.o
      case measure=>simp[intOf];omega
    | false =>
      obtain⟨Z,y,aB,cg⟩:=(xN V.o ay.o.ids bT.o).2 rfl;obtain⟨y,f⟩:=y;have da:=lh cg;have b3:(y,f)∈Q:=(by rw[aB];simp);have b7:=lh ((V.o _ b3).keep (a2.v R));have D:=lh (bI.o _ b3);have dv:y.l=m:=b7.o.len.trans D.o;obtain⟨n,T⟩:∃n,n=Z.length:=⟨_,rfl⟩;have aU:C=n+1:=(by rw[<-J.o,aB,T];simp);obtain⟨go,rfl,-⟩:=fh a4.o (by rw[ld,J.o];omega);have a3:(Q.map (·.1)).length=C:=(by rw[ld];exact J.o);have al:(Q.map (·.1))[n]'(by rw[a3];omega)=y:=(by simp[aB,T]);have M:=rV a4.o a3 n (by rw[a3];omega);rw[al]at M;have df:=M 8 _ rfl;have aq:=M 9 _ rfl;rw[dv]at aq;have c6:=(a4.o.lt go rfl).2;have db:w5.frozen? ⟨go,n*10+8,none⟩=false:=((fY a4.o fx a3 n (by rw[a3];omega)).2.1 8 dC).2;have dw:=lh (And.intro T aU);have c5:=lh aB;have bP:=lh (λ(W:World) (u:Int) (L:bX W q.heap.size (.slice (some ⟨go,0,none⟩) C aT) (Q.map (·.1)))=>sf L fx a3 n 8 (by rw[a3];omega) dC (.int .i64 u) { y with n:=u } (by rw[al];rfl));have cs:n<C:=oM;obtain rfl:bj=((n:Nat):Int):=oM;have dm:=lh bx;clear cg b3 T aU aB a3 al M aS bx cO;go_upto_region 9 with fail;go_region;have av:=lh (show ag w5 (w5.setCell ⟨go,n*10+8,none⟩ (.int .i64 (wrap64 (y.n+x.n)))).drew [go]from(ag.set w5 ⟨go,n*10+8,none⟩ (.int .i64 (wrap64 (y.n+x.n)))).trans (ag.keep (aa.drew (aa.refl _)) _))
      have aH:=lh (show bX (w5.setCell ⟨go,n*10+8,none⟩ (.int .i64 (wrap64 (y.n+x.n)))).drew _ _ _ from(bP.o w5 (wrap64 (y.n+x.n)) a4.o).keep kP);generalize (w5.setCell ⟨go,n*10+8,none⟩ (.int .i64 (wrap64 (y.n+x.n)))).drew=cR at av aH|-;have dL:q.heap.size<=go/\go<wr.heap.size:=a1.o.lt go rfl;have cE:=lh (ag.after (au.o.trans (a2.v R)) av.o (λi hi=>by simp at hi;omega));have cj:F≠go:=(by have:=bl.o;omega);have cL:=av.o.cell aW (by simpa using cj);have dr:=lp aV av.o.size;have cQ:=λb hb=>(V.o _ (c5.o▸List.mem_append_right _ (List.mem_singleton_self _))).own.lt b hb;have bW:=lh (show ∀b,jH y=some b->q.heap.size<=b/\b<wr.heap.size from cQ);have ab:=lh (show eN cR q.heap.size y f from b7.o.turn av.o λi hi=>cN a4.o b7.o.own dC i (by simp at hi;subst hi;rfl));clear cy aW df aq db c6 aV cQ bP;go_wp2;go_loopw [53] (λvi wq=>∃i:Nat,i<=m/\vi=.int .i64 i/\Hid (kp wq q.heap.size y.sv (Star.upd f.sums X.sums i))/\Hid (ag cR wq (jH y).toList)) (λvi _=>m-(intOf vi).toNat)
      case atStart=>exact⟨0,lj _,rfl,by rw[FK];exact ab.o.own,ag.refl _ _⟩
      case round =>
       obtain⟨i,dz,rfl,bE,aw⟩:=hrel
       by_cases af:i<m
       ·have aM:=aX.o.own;unfold Rc.sv at aM;obtain⟨dZ,ch,ci⟩:=fh aM (by rw[z.o];omega);have dx:aa q wr:=ag.after cE.o aw.o (λb hb=>(bW.o b (by simpa using hb)).1);obtain⟨aA,_,dA,_⟩:=fY (ch▸aM.keep dx) nt ci.symm i (by rw[z.o];omega);have az:=bE.o;unfold Rc.sv at az;have bc:=FN f.sums X.sums (by rw[z.o,D.o]) i;obtain⟨B,aI,bh⟩:=fh az (by rw[bc,D.o];omega);rw[aI]at az;have aO:i<(Star.upd f.sums X.sums i).length:=(by rw[bc,D.o];exact af);obtain⟨ap,d1,a5,_⟩:=fY az nt bh.symm i aO;have b9:=FO f.sums X.sums (by rw[z.o,D.o]) i (by rw[D.o];exact af);rw[lu aO]at b9;have cn:=ls b9;rw[cn]at ap;have cl:=FM f.sums X.sums (by rw[z.o,D.o]) i (by rw[D.o];exact af) (by rw[z.o];exact af);have bo:=λ(W:World) (L:kp W q.heap.size (.slice (some ⟨B,0,none⟩) y.l y.c) (Star.upd f.sums X.sums i))=>qg L nt bh.symm i aO (jI f.sums[i] X.sums[i]);rw[<-cl]at bo;have aE:=lh bo;have dg:i<f.sums.length:=(by rw[D.o];exact af);have dl:i<X.sums.length:=(by rw[z.o];exact af);generalize X.sums[i]=cV at aA aE;generalize f.sums[i]=t at ap aE;obtain⟨ac,ad,a9⟩:=cV;obtain⟨cf,c8,cz⟩:=t;have c7:=aA 0 _ rfl;have dt:=aA 1 _ rfl;have dH:=aA 2 _ rfl;have bk:=ap 0 _ rfl;have cB:=ap 1 _ rfl;have cm:=ap 2 _ rfl
        have bt:=(d1 0 dC).2;have cc:=(d1 1 dC).2;have cA:=(d1 2 dC).2;have bi:bX wr q.heap.size (.slice (some ⟨go,0,none⟩) C aT) ((Q.map (·.1)).set n { y with n:=wrap64 (y.n+x.n) }):=ah.turn aH.o aw.o λb hb=>cN ab.o.own aH.o dC b (by simpa[jH]using hb);have bs:((Q.map (·.1)).set n { y with n:=wrap64 (y.n+x.n) }).length=C:=(by rw[Li,ld];exact J.o);have bz:=rV bi bs n (by rw[bs];exact cs);rw[List.getElem_set_self]at bz;have aq:=bz 9 _ rfl;have dD:=(bi.lt go rfl).2;have c4:=lh az;have dh:=lh aI;have d6:=lh (show jH y=some B by unfold jH Rc.sv;rw[aI];rfl);simp only at aq;rw[aI,ab.o.len,D.o]at aq;simp only[lE]at c7 bk bt;clear aA ap d1 aM az bc b9 cn cl bo dg dl bi bs bz aO ci bh aI bE;go_upto_region 14 with fail;clear ch aq cL dD cj dr dA;have I:aa wr (wr.alloc (.cells #[.int .i64 ac,.int .i64 ad,.int .i64 a9] 160)):=aa.alloc (aa.refl _) _;have Y:=bH wr 160 [.int .i64 ac,.int .i64 ad,.int .i64 a9];have Y:ak (wr.alloc (.cells #[.int .i64 ac,.int .i64 ad,.int .i64 a9] 160)) wr.heap.size 160 [.int .i64 ac,.int .i64 ad,.int .i64 a9]:=Y;have bn:B≠wr.heap.size:=oM;generalize wr.alloc (.cells #[.int .i64 ac,.int .i64 ad,.int .i64 a9] 160)=aN at I Y|-;generalize wr.heap.size=dU at Y bn|-;have cY:=lh I;have bZ:=lh (c4.o.keep I);have ct:=Y.cell 0 _ rfl;have b0:=Y.cell 1 _ rfl
        have a7:=Y.cell 2 _ rfl;have cv:=Y.lt;have bb:=(I.cell (p:=⟨B,i*3,none⟩) a5).trans bk;have bD:=(I.cell (p:=⟨B,i*3+1,none⟩) a5).trans cB;have bL:=(I.cell (p:=⟨B,i*3+2,none⟩) a5).trans cm;have bf:=ou I a5 bt;have bw:=ou I a5 cc;have ba:=ou I a5 cA;have a8:=lp a5 I.size;clear c7 dt dH bk cB cm bt cc cA c4 a5 I Y;refine EW λKL hKL=>?_;go_cut []from 65 to 88 (λwx=>Hid (kp wx q.heap.size (.slice (some ⟨B,0,none⟩) y.l y.c) (Star.upd f.sums X.sums (i+1)))/\Hid (ag aN wx [B]))
        case first =>
            refine zN 24 kR ?_;simp only[lX,lR,lZ,L4]
            repeat
             refine aR (λK hK=>?_);go_simp
             first
             | (refine hK _ _ ?_;clear hK K)
             | (apply Exists.intro
                refine⟨λp=>?_,hK _ _ ?_⟩
                (fail)
                clear hK K)
            refine bG ?_;intro cr;simp only[aj];have U:aa aN (aN.gro cr):=aa.gro (aa.refl _) _;generalize aN.gro cr=aQ at U|-;have dK:=(U.cell (p:=⟨B,i*3,none⟩) a8).trans bb;have dS:=(U.cell (p:=⟨B,i*3+1,none⟩) a8).trans bD;have dN:=(U.cell (p:=⟨B,i*3+2,none⟩) a8).trans bL;have dM:=ou U a8 bf;have e0:=ou U a8 bw;have dP:=ou U a8 ba;have cq:=lh U;clear U bb bD bL bf bw ba ct b0 a7 cv bn;have cH:kp (qP aQ B i cf ac c8 ad cz a9) q.heap.size (.slice (some ⟨B,0,none⟩) y.l y.c) (Star.upd f.sums X.sums (i+1)):=by
             unfold qP;rw[yf];exact aE.o aQ (bZ.o.keep cq.o)
            have cp:ag aQ (qP aQ B i cf ac c8 ad cz a9) [B]:=by
             unfold qP;rw[yf];exact ag.setCells B _ _ _
            have bg:=lh cH;have bA:=lh cp;clear cH cp aE;go_wp2_with fail;go_meet;exact⟨bg.o,(ag.keep cq.o _).trans bA.o⟩
        case rest =>
        rename World=>w10;obtain⟨bg,bA⟩:=hcut;rw[hKL];clear ct b0 a7 bb bD bL bf bw ba aE bZ a8 cv bn;go_wp2;go_roundw
        case rel =>
            refine⟨i+1,oM,by go_num,?_,?_⟩
            ·show kp _ _ y.sv _;unfold Rc.sv;rw[dh.o];exact bg.o
            ·show ag _ _ _;have e:(jH y).toList=[B]:=(by rw[d6.o];rfl);have O:=aw.o;rw[e]at O|-;exact(O.trans (ag.keep cY.o _)).trans bA.o
        case measure=>simp[intOf];omega
       ·have dy:i=m:=oM;subst dy;clear af dz cL;have dc:=lh (show kp wr q.heap.size y.sv (List.zipWith jI f.sums X.sums) by
            rw[<-FP f.sums X.sums (by rw[z.o,D.o]),z.o];exact bE.o)
        go_wp2;go_roundw
        case rel =>
            have T:=dw.o.1;have ax:=c5.o;have d2:eN wr q.heap.size { y with n:=wrap64 (y.n+x.n) } (f.add X):=by
             refine⟨ab.o.ids,?_,dc.o,λe=>ab.o.nil_ ?_⟩
             ·show wrap64 (y.n+x.n)=js (f.n+X.n);rw[xg,ab.o.n,aX.o.n]
             ·have a7:=congrArg List.length (show List.zipWith jI f.sums X.sums=[]from e);rw[List.length_zipWith,z.o,D.o]at a7;exact Ly (by rw[D.o];simpa using a7)
            have bY:=bJ.o;rw[ax]at bY;have bm:=List.pairwise_append.1 bY;refine⟨k+1,C,Z++[({ y with n:=wrap64 (y.n+x.n) },f.add X)],oM,by go_num,by have:=dm.o;omega,?_,?_,?_,?_,?_,?_,ag.after cE.o aw.o (λb hb=>(bW.o b (by simpa using hb)).1)⟩
            ·show List.length _=_;rw[lg,<-J.o,ax,lg];rfl
            ·show bX _ _ _ _;have O:bX wr q.heap.size _ _:=ah.turn aH.o aw.o λb hb=>cN ab.o.own aH.o dC b (by simpa[jH]using hb);have e:(Q.map (·.1)).set n { y with n:=wrap64 (y.n+x.n) }=List.map (λp:Rc×Star.SR=>p.1) (Z++[(({ y with n:=wrap64 (y.n+x.n) }:Rc),f.add X)]):=by
              rw[ax,lz,lz,Lg _ _ (by rw[ld];omega),ld,T,Nat.sub_self];rfl
             rw[<-e];exact O
            ·show dV _ _ _;intro p d
             rcases lx.1 d with d|d
             ·have O:=((V.o p (by rw[ax];exact List.mem_append_left _ d)).keep (a2.v R)).turn av.o λi hi=>cN a4.o ((V.o p (by rw[ax];exact List.mem_append_left _ d)).keep (a2.v R)).own dC i (by simp at hi;subst hi;rfl);refine O.turn aw.o λi hi e=>?_;exact bm.2.2 p d (y,f) (List.mem_singleton_self _) i e (by simpa using hi)
             ·rw[lm]at d;subst d;exact d2
            ·show Apart _;refine List.pairwise_append.2 ⟨bm.1,List.pairwise_singleton _ _,λp d H s b hb hb2=>?_⟩;rw[lm]at s;subst s;exact bm.2.2 p d (y,f) (List.mem_singleton_self _) b hb hb2
            ·show List.map _ _=_;rw[b1.o,da.o,lz];rfl
            ·show ∀H∈_,_;intro H s
             rcases lx.1 s with s|s
             ·exact bI.o H (by rw[ax];exact List.mem_append_left _ s)
             ·rw[lm]at s;subst s;show(List.zipWith jI f.sums X.sums).length=_;rw[List.length_zipWith,z.o,D.o,Nat.min_self]
        case measure=>simp[intOf];omega
  ·have dn:k=N:=oM;subst dn;go_wp2;go_ret;refine⟨_,rfl,Q,a1.o.base_mono b6.o.size,V.o.base b6.o.size,bJ.o,?_,b6.o.trans (ag.keep au.o _)⟩;rw[cx.o,lM (by rw[ld,bd.o];exact lc _),dq.o];rfl
end Go.Proofs.YtpkocnpamcchcaaGreatDoor
