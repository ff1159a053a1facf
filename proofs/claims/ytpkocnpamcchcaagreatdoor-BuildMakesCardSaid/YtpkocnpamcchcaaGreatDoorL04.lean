/- Parts. -/
import Derived.Maps.AppendAt
import Derived.Tactics
import Derived.Sort.Statements
import Derived.Shelf.SlSortCmp.Insertion
import Derived.StillTailTactics
import Derived.Lib.SliceRun
import Derived.Test.YtpkocnpamcchcaaGreatDoorL01
import Derived.Test.YtpkocnpamcchcaaGreatDoorL02
set_option maxRecDepth 100000
set_option maxHeartbeats 40000000
set_option linter.all false
namespace Go.Zone
open Go.RowKit
structure dX(P:Program)(t e:TypeId)(k bytes:Nat):Prop where
 ex:∃i z,P.underlying t=some (.slice e)/\P.info? e=some i/\i.zero=some z/\i.size=k/\i.bytes=bytes/\z.cells.size=k/\0<k/\0<bytes
def ah{α:Type}(w:World)(base:Nat)(e:TypeId)(k:Nat)(enc:α->List Value)(v:Value)(xs:List α):Prop:=w.ownsRow base e k v xs.length (xs.flatMap enc)
section
variable {α:Type} {w w':World} {base k:Nat} {e:TypeId} {enc:α->List Value} {v:Value} {xs:List α}
theorem ah.nil_(w:World)(base:Nat)(e:TypeId)(k:Nat)(enc:α->List Value):ah w base e k enc (.slice none 0 0) ([]:List α):=World.ownsRow_nil w base e k
theorem eL(a:∀x,(enc x).length=k):∀(xs:List α),(xs.flatMap enc).length=xs.length*k
 | []=>sP
 | x::r=>by simp[eL a r,a x,lH,Nat.add_comm]
theorem flat_get(b:∀x,(enc x).length=k):∀(xs:List α) (i j:Nat) (a:i<xs.length) (u:Value),(enc xs[i])[j]? =some u->(xs.flatMap enc)[i*k+j]? =some u
 | [],i,_,a,_,_=>absurd a (lI _)
 | x::r,0,j,_,u,hu=>by
   have c:j<(enc x).length:=(Lw.1 hu).1;simp only[lN,Lf,lS];rw[LI c];exact hu
 | x::r,i+1,j,a,u,hu=>by
   simp only[lN];rw[LE (by rw[b x,lH];omega),b x];have:=flat_get b r i j (by simpa using a) u hu;rw[show(i+1)*k+j-k=i*k+j by rw[lH];omega];exact this
theorem ah.sl(d:ah w base e k enc v xs)(n:∀x,(enc x).length=k)(l:xs.length<=140737488355328):∃A c,v=.slice A xs.length c/\Sl w k enc A c xs:=by
 rcases d.2 with⟨rfl,b⟩ | ⟨g,h,r,rfl,s,m,p,f,q,o⟩
 ·have:xs=[]:=Ly b;subst this;exact⟨none,0,rfl,Sl.nil_ _ oM⟩
 ·refine⟨some ⟨g,0,none⟩,h,rfl,p,by simpa[maxLen]using f,l,λi hi=>⟨g,0,rfl,λj u hu=>?_⟩⟩;have a:=flat_get n xs i j hi u hu;rw[<-o,List.getElem?_take]at a
  split at a
  ·simp only[World.cell?,m];simp only[lS,Option.isSome_none,lY,if_false]
   simpa using a
  ·cases a
theorem ah.grown{a:Option Nat}(b:ah w base e k enc v xs)(c:w.grownBy w' a)(d:∀j,a=some j->v.ownBlock≠some j):ah w' base e k enc v xs:=by
 refine World.ownsRow.kept b c ?_
 cases hv:v.ownBlock with
 | none=>exact .inl rfl
 | some j=>exact .inr λe=>d j e.symm hv
theorem ah.keep(a:ah w base e k enc v xs)(h:aa w w'):ah w' base e k enc v xs:=by
 refine⟨a.1,?_⟩
 rcases a.2 with i | ⟨g,c,d,rfl,f,b,rest⟩
 ·exact .inl i
 ·exact .inr ⟨g,c,d,rfl,f,(h.block g (La.1 b).1).trans b,rest⟩
theorem ah.lt(h:ah w base e k enc v xs):∀j,v.ownBlock=some j->base<=j/\j<w.heap.size:=World.ownsRow.lt h
theorem ah.base_mono{base':Nat}(a:ah w base e k enc v xs)(i:base'<=base):ah w base' e k enc v xs:=by
 refine⟨a.1,?_⟩
 rcases a.2 with f | ⟨g,b,c,rfl,h,d,rest⟩
 ·exact .inl f
 ·exact .inr ⟨g,b,c,rfl,oM,d,rest⟩
end
section
variable {α:Type} {P:Program} {w:World}
theorem pZ{t ty e:TypeId}{k n:Nat}(U:dX P t e k n){enc:α->List Value}(f:∀x,(enc x).length=k)(V:∀x,∀u∈enc x,u.oneCell'=true){base:Nat}{v:Value}{xs ys:List α}(o:ah w base e k enc v xs)
 {A:Option Addr} {c:Nat} (l:Sl w k enc A c ys) (J:(xs.length+ys.length)*n<=140737488355328) (I:base<=w.heap.size) :
 ∃a w',(Builtin.append_ #[t,t] ty #[v,.slice A ys.length c]).run P w=.ok a w'/\ah w' base e k enc a (xs++ys)/\w.grownBy w' v.ownBlock/\(a.ownBlock=v.ownBlock\/a.ownBlock=some w.heap.size):=by
 obtain⟨i,z,m,hi,R,F,M,O,q,T⟩:=U.ex;have Z:xs.length+ys.length<=9223372036854775807:=by have:=Nat.le_mul_of_pos_right (xs.length+ys.length) T;omega
 rcases A with _|B
 ·have h:ys=[]:=by
   rcases ys with _ | ⟨y,r⟩
   ·rfl
   ·obtain⟨_,_,d,_⟩:=l.at_ 0 sP
    cases d
  subst h;refine⟨v,w,?_,by simpa using o,⟨rfl,rfl,rfl,lc _,λ_ _ _=>rfl⟩,.inl rfl⟩
  rcases o.2 with⟨rfl,h⟩ | ⟨g,Y,W,rfl,_,_,L,_⟩
  ·simp[Builtin.append_,run_underlying m,sizeOf,typeInfo,hi,Builtin.lenOf,Builtin.firstCells]
  ·simp[Builtin.append_,run_underlying m,sizeOf,typeInfo,hi,Builtin.lenOf,Builtin.firstCells,L,storeCells]
 ·have H:∀j u,(ys.flatMap enc)[j]? =some u->w.cell? (B.add j)=some u:=λj u hu=>by
   have p:j<(ys.flatMap enc).length:=(Lw.1 hu).1;rw[eL f]at p;have C:j/k<ys.length:=Nat.div_lt_of_lt_mul (by rw[Nat.mul_comm];exact p);obtain⟨b,X,d,S⟩:=l.at_ (j/k) C;injection d with d;subst d;have D:j%k<(enc ys[j/k]).length:=(by rw[f];exact Nat.mod_lt _ q);have E:=flat_get f ys (j/k) (j%k) C _ (lu D);have s:j/k*k+j%k=j:=(by rw[Nat.mul_comm];exact Nat.div_add_mod j k);rw[s]at E;rw[E]at hu;have:=S (j%k) _ (lu D);rw[Nat.add_assoc,s]at this;rw[<-ls hu];unfold Addr.add
   split
   ·rename_i h;subst h;exact this
   ·exact this
  obtain⟨a,w',G,K,N,_,Q⟩:=run_append_own_at (P:=P) w base t ty e i z k n m hi R F M O q v xs.length (xs.flatMap enc) o B ys.length c (ys.flatMap enc) (eL f ys) H
   (λu hu=>by obtain⟨y,_,l⟩:=List.mem_flatMap.1 hu;exact V y u l) (by unfold maxLen;omega) J I
  refine⟨a,w',G,?_,N,Q⟩;unfold ah;rw[lg,lF];exact K
theorem aD{t e:TypeId}{k g:Nat}(q:dX P t e k g){enc:α->List Value}(o:∀x,(enc x).length=k)(r:∀x,∀u∈enc x,u.oneCell'=true){ops:Array Oper}{rest:List Oper}{d:Oper}{a:Act}{Q:Exit->Act->World->Prop}
 (l:d.guard=none) (f x:Operand) (p:d.op=.call { callee:=.builtin .append,args:=#[f,x],argTypes:=#[t,t] })
 {base:Nat} {v:Value} {xs ys:List α} (hown:ah w base e k enc v xs) (hs:a.eval f=v) {A:Option Addr} {c:Nat} (hx:a.eval x=.slice A ys.length c) (hy:Sl w k enc A c ys)
 (hlen:(xs.length+ys.length)*g<=140737488355328) (hbase:base<=w.heap.size)
 (h:∀b w',ah w' base e k enc b (xs++ys)->w.grownBy w' v.ownBlock->(b.ownBlock=v.ownBlock\/b.ownBlock=some w.heap.size)->wpList P ops Q rest (a.put d.dst b) w'):wpList P ops Q (d::rest) a w :=
 wpList_plain l λ_ hK=>by
  obtain⟨b,w',j,m,n,i⟩:=pZ (ty:=d.type) q o r hown hy hlen hbase;unfold Oper.wp execOp;simp only[p,resolve,invoke,builtin,Sem.run_bind,Sem.run_pure,Result.andThen_ok,List.map_toArray,lG,L3,hs,hx,j];exact hK _ _ (h b w' m n i)
end
section
variable {α:Type} {w wr w':World} {base k:Nat} {e:TypeId} {enc:α->List Value} {v:Value} {xs:List α}
theorem ah.kept(a:ah wr base e k enc v xs)(b:wr.grownBy w' v.ownBlock)(c:aa w wr)(d:w.heap.size<=base):aa w w':=c.grown b λj hj=>by have:=(a.lt j hj).1;omega
theorem ah.after(c:ah wr base e k enc v xs)(b:wr.grownBy w' v.ownBlock)(d:aa w wr)(f:w.heap.size<=base):aa w w'/\wr.heap.size<=w'.heap.size/\∀(a:Addr) (u:Value),a.block<base->wr.cell? a=some u->w'.cell? a=some u :=
 ⟨d.grown b λj hj=>by have:=(c.lt j hj).1;omega,b.size,λa u ha hc=>b.cell hc λhj=>by have:=(c.lt _ hj.symm).1;omega⟩
theorem ah.cell(b:ah wr base e k enc v xs)(c:wr.grownBy w' v.ownBlock){a:Addr}{u:Value}(d:wr.cell? a=some u)(f:a.block<base):w'.cell? a=some u :=
 c.cell d λhj=>by have:=(b.lt _ hj.symm).1;omega
theorem br{α:Type}{w:World}{k:Nat}{enc:α->List Value}{g c:Nat}(y:α)(d:1<=c)(b:c<=9223372036854775807)(a:∀j u,(enc y)[j]? =some u->w.cell? ⟨g,j,none⟩=some u):Sl w k enc (some ⟨g,0,none⟩) c [y] :=
 ⟨d,b,sP,λi hi=>⟨g,0,rfl,λj u hu=>by
  have:i=0:=by simpa using hi
  subst this;have:=a j u hu
  simpa using this⟩⟩
end
end Go.Zone
namespace Go.Proofs.YtpkocnpamcchcaaGreatDoor
open Go.RowKit Go.Zone Go.Shelf Tryz Go.Roa
theorem NZ:(prog.info? 72).map (λi=>(i.zero,i.size,i.bytes))=some (some (.agg #[.int .u8 0,.int .i64 0,.string ByteArray.empty]),3,32):=kR
theorem mO:dX prog 56 72 3 32:=by
 obtain⟨i,hi,c,a,b⟩:=info_parts NZ;exact⟨i,_,underlying56,hi,c,a,b,rfl,dC,dC⟩
theorem di(x:ai):x.cells.length=3:=rfl
theorem jO(x:ai):∀u∈x.cells,u.oneCell'=true:=by simp[ai.cells,Value.oneCell']
theorem oe(x:ai){w:World}{g:Nat}(a:w.cell? ⟨g,0,none⟩=some (.int .u8 x.k))(c:w.cell? ⟨g,1,none⟩=some (.int .i64 x.n))(b:w.cell? ⟨g,2,none⟩=some (.string x.s)):∀j u,x.cells[j]? =some u->w.cell? ⟨g,j,none⟩=some u
 | 0,_,h=>by cases h;exact a
 | 1,_,h=>by cases h;exact c
 | 2,_,h=>by cases h;exact b
def jD(k n b d:Int)(a c:ByteArray):Bool:=k==b&&n==d&&a.toList==c.toList
def eM(x y:ai):Bool:=jD x.k x.n y.k y.n x.s y.s
theorem CN:prog.stoodInHeld 72=false:=kR
theorem vZ:prog.eqGuardType prog.depth 72=false:=kR
theorem kE(k n e g:Int)(d f:ByteArray)(w:World):Sem.run prog (binOp .eql 72 (.agg #[.int .u8 k,.int .i64 n,.string d]) (.agg #[.int .u8 e,.int .i64 g,.string f])) w=.ok (.bool (jD k n e g d f)) w:=by
 have i:=CN;have h:=vZ;go_simp;unfold jD
 by_cases a:k=e<;>by_cases b:n=g<;>by_cases c:d.toList=f.toList<;>simp[a,b,c]
theorem kD(k n e g:Int)(d f:ByteArray)(w:World):Sem.run prog (binOp .neq 72 (.agg #[.int .u8 k,.int .i64 n,.string d]) (.agg #[.int .u8 e,.int .i64 g,.string f])) w=.ok (.bool (!jD k n e g d f)) w:=by
 have i:=CN;have h:=vZ;go_simp;unfold jD
 by_cases a:k=e<;>by_cases b:n=g<;>by_cases c:d.toList=f.toList<;>simp[a,b,c]
theorem kF(a:BinOp)(x y:Operand)(xs ys:Array Value)(w:World):(eqGuard a 72 x y (.agg xs) (.agg ys)).run prog w=.ok () w:=run_eqGuard_agg w a 72 x y xs ys vZ
attribute [local go_sem high] kE kD kF
def gu(v:ai)(a:List ai×Bool)(x:ai):List ai×Bool:=if !a.2&&gB v x then (a.1++[v]++[x],true) else (a.1++[x],a.2)
def jd(v:ai)(xs:List ai):List ai×Bool:=xs.foldl (gu v) ([],false)
theorem JA(v:ai)(xs:List ai)(k:Nat)(h:k<xs.length):jd v (xs.take (k+1))=gu v (jd v (xs.take k)) xs[k]:=by
 unfold jd;rw[ly h,List.foldl_append];rfl
def dS(xs:List ai)(v:ai):List ai:=if xs.any (λx=>eM x v) then xs else if (jd v xs).2 then (jd v xs).1 else (jd v xs).1++[v]
def nZ(base:Nat)(A:Option Addr)(n:Nat):Prop:=∀g off,A=some ⟨g,off,none⟩->0<n->base<=g
theorem wu{a:Type}{w:World}{base b:Nat}{e:TypeId}{k:Nat}{enc:a->List Value}{A:Option Addr}{n m c:Nat}{xs:List a}(d:ah w b e k enc (.slice A n c) xs)(f:base<=b):nZ base A m:=λg off hA _=>by
 subst hA;have:=(d.lt g rfl).1;omega
theorem Ju(base:Nat)(A:Option Addr)(c:Nat)(xs:List ai)(v:ai)(w:World)(ap:base<=w.heap.size)(a5:nZ base A xs.length)(I:Sl w 3 ai.cells A c xs)(X:∀x∈xs,x.s.size<=maxLen)(Y:v.s.size<=maxLen)(av:xs.length<=1000000) :
 Calls prog 94 #[.slice A xs.length c,v.v] w λe w'=>∃z B,e=.returned (.slice z (dS xs v).length B)/\Sl w' 3 ai.cells z B (dS xs v)/\aa w w'/\nZ base z (dS xs v).length:=by
 have a0:=lh X;clear X;have ag:=lh a5;clear a5;obtain⟨a,f,s0⟩:=v;simp only[ai.v];go_enter func94,ntmps94;go_wp2;go_loopw [5,6,7] (λvo d i wr=>∃(k:Nat) (h:List ai) (b:Bool),k<=xs.length/\i=.int .i64 k/\d=.bool b/\Hid (jd ⟨a,f,s0⟩ (xs.take k)=(h,b))/\Hid (ah wr (w.heap.size+1) 72 3 ai.cells vo h)/\Hid (aa w wr) /\
  Hid (∀j,(I:j<xs.length)->j<k->eM xs[j] ⟨a,f,s0⟩=false)/\h.length<=2*k /\
  w.heap.size<wr.heap.size/\wr.cell? ⟨w.heap.size,0,none⟩=some (.int .u8 a)/\wr.cell? ⟨w.heap.size,1,none⟩=some (.int .i64 f)/\wr.cell? ⟨w.heap.size,2,none⟩=some (.string s0)) (λ_ _ i _=>xs.length-(intOf i).toNat)
 case atStart=>exact⟨0,[],false,lj _,rfl,rfl,rfl,ah.nil_ _ _ _ _ _,kP,λj _ l=>absurd l (lI _),sP,sP,sG,sG,sG⟩
 case round =>
  obtain⟨k,h,b,aw,rfl,rfl,R,m,t,E,au,q,H,J,F⟩:=hrel
  by_cases P:k<xs.length
  ·obtain⟨a9,ac,rfl,aA,T,a6,a4⟩:=dL (I.keep t.o) k P
   by_cases he:jD xs[k].k xs[k].n a f xs[k].s s0=true
   ·go_wp2;refine zR kR ?_
    repeat
     refine aR (λK hK=>?_);go_simp
     first
     | (refine hK _ _ ?_;clear hK K)
     | (apply Exists.intro
        refine⟨λp=>?_,hK _ _ ?_⟩
        (fail)
        clear hK K)
    refine bG ?_;intro p;simp only[aj];go_wp2;go_ret;have r:dS xs ⟨a,f,s0⟩=xs:=by
     unfold dS;rw[if_pos (List.any_eq_true.2 ⟨xs[k],ll _,he⟩)]
    exact⟨some ⟨a9,ac,none⟩,c,by rw[r];rfl,by rw[r];exact(I.keep t.o).keep (ce _ _),t.o.gro _,by rw[r];exact ag.o⟩
   ·have M:jD xs[k].k xs[k].n a f xs[k].s s0=false:=(by simpa using he);clear he;have N:=JA ⟨a,f,s0⟩ xs k P;rw[R.o]at N;have O:=lh N;clear N;go_wp2;refine zR kR ?_
    repeat
     refine aR (λK hK=>?_);go_simp
     first
     | (refine hK _ _ ?_;clear hK K)
     | (apply Exists.intro
        refine⟨λp=>?_,hK _ _ ?_⟩
        (fail)
        clear hK K)
    refine bG ?_;intro p;simp only[aj]
    cases b
    ·cases hless:gB ⟨a,f,s0⟩ xs[k]
     ·have u:=λW=>vL ⟨a,f,s0⟩ xs[k] W Y (a0.o _ (ll _));rw[hless]at u;have S:=lh u;clear u;go_wp2;refine zR kR ?_
      repeat
       refine aR (λK hK=>?_);go_simp
       first
       | (refine hK _ _ ?_;clear hK K)
       | (apply Exists.intro
          refine⟨λp=>?_,hK _ _ ?_⟩
          ((go_at_call 41;exact Zone.zc (S.o _)))
          clear hK K)
      refine bG ?_;intro C;simp only[aj];go_wp2_with (at_builtin;refine ae ?_);refine ar ?_;have g:=(m.o.keep (ce _ C)).keep (aa.alloc (aa.refl _) (.cells #[.int .u8 xs[k].k,.int .i64 xs[k].n,.string xs[k].s] 72));refine aD mO di jO rfl (.tmp 35) (.tmp 40) rfl (ys:=[xs[k]]) g rfl rfl (br _ oM oM (oe _ sG sG sG)) sO (by simp[az];omega) ?_;intro Z G o y _;have ⟨a1,a2,a3⟩:=g.after y (t.o.trans kP) (Nat.le_succ _);go_wp2;go_roundw
      case rel=>exact⟨k+1,h++[xs[k]],false,oM,by go_num,rfl,(by show _=_;rw[O.o];simp[gu,hless]),o,a1,(λj l hjk=>by
           by_cases e:j=k
           ·subst e;exact M
           ·exact E.o j l oM),sO,by simp[az]at a2;omega,a3 _ _ sP (by simp[go_sem,q,H]),a3 _ _ sP (by simp[go_sem,q,J]),a3 _ _ sP (by simp[go_sem,q,F])⟩
      case measure=>simp[intOf];omega
     ·have u:=λW=>vL ⟨a,f,s0⟩ xs[k] W Y (a0.o _ (ll _));rw[hless]at u;have S:=lh u;clear u;go_wp2;refine zR kR ?_
      repeat
       refine aR (λK hK=>?_);go_simp
       first
       | (refine hK _ _ ?_;clear hK K)
       | (apply Exists.intro
          refine⟨λp=>?_,hK _ _ ?_⟩
          ((go_at_call 41;exact Zone.zc (S.o _)))
          clear hK K)
      refine bG ?_;intro C;simp only[aj];go_wp2_with (at_builtin;refine ae ?_);refine ar ?_;have g:=(m.o.keep (ce _ C)).keep (aa.alloc (aa.refl _) (.cells #[.int .u8 a,.int .i64 f,.string s0] 72));refine aD mO di jO rfl (.tmp 31) (.tmp 33) rfl (ys:=[⟨a,f,s0⟩]) g rfl rfl (br _ oM oM (oe _ sG sG sG)) sO (by simp[az];omega) ?_;intro ax G o y _;have ⟨a1,a2,a3⟩:=g.after y (t.o.trans kP) (Nat.le_succ _);have L:w.heap.size<G.heap.size:=(by simp[az]at a2;omega);have ab:=a3 ⟨w.heap.size,0,none⟩ (.int .u8 a) sP (by simp[go_sem,q,H]);have d1:=a3 ⟨w.heap.size,1,none⟩ (.int .i64 f) sP (by simp[go_sem,q,J]);have d2:=a3 ⟨w.heap.size,2,none⟩ (.string s0) sP (by simp[go_sem,q,F]);clear H J F T a6 a4 a3;obtain⟨ao,ay,ad,al,T,a6,a4⟩:=dL (I.keep a1) k P
      cases ad
      clear m g;have m:=lh o;clear o;go_wp2_with (at_builtin;refine ae ?_);refine ar ?_;have g:=m.o.keep (aa.alloc (aa.refl _) (.cells #[.int .u8 xs[k].k,.int .i64 xs[k].n,.string xs[k].s] 72));refine aD mO di jO rfl (.tmp 35) (.tmp 40) rfl (ys:=[xs[k]]) g rfl rfl (br _ oM oM (oe _ sG sG sG)) sO sO ?_;intro v2 aq af ak _;have ⟨e1,e2,e3⟩:=g.after ak (a1.trans kP) (Nat.le_succ _);go_wp2;go_roundw
      case rel=>exact⟨k+1,h++[(⟨a,f,s0⟩:ai)]++[xs[k]],true,oM,by go_num,rfl,(by show _=_;rw[O.o];simp[gu,hless]),af,e1,(λj l hjk=>by
           by_cases e:j=k
           ·subst e;exact M
           ·exact E.o j l oM),sO,by simp at e2;omega,e3 _ _ sP (by simp[go_sem,L,ab]),e3 _ _ sP (by simp[go_sem,L,d1]),e3 _ _ sP (by simp[go_sem,L,d2])⟩
      case measure=>simp[intOf];omega
    ·go_wp2;refine zR kR ?_
     repeat
      refine aR (λK hK=>?_);go_simp
      first
      | (refine hK _ _ ?_;clear hK K)
      | (apply Exists.intro
         refine⟨λp=>?_,hK _ _ ?_⟩
         (fail)
         clear hK K)
     refine bG ?_;intro C;simp only[aj];go_wp2_with (at_builtin;refine ae ?_);refine ar ?_;have g:=(m.o.keep (ce _ C)).keep (aa.alloc (aa.refl _) (.cells #[.int .u8 xs[k].k,.int .i64 xs[k].n,.string xs[k].s] 72));refine aD mO di jO rfl (.tmp 35) (.tmp 40) rfl (ys:=[xs[k]]) g rfl rfl (br _ oM oM (oe _ sG sG sG)) sO (by simp[az];omega) ?_;intro Z G o y _;have ⟨a1,a2,a3⟩:=g.after y (t.o.trans kP) (Nat.le_succ _);go_wp2;go_roundw
     case rel=>exact⟨k+1,h++[xs[k]],true,oM,by go_num,rfl,(by show _=_;rw[O.o];simp[gu]),o,a1,(λj l hjk=>by
      by_cases e:j=k
      ·subst e;exact M
      ·exact E.o j l oM),sO,by simp[az]at a2;omega,a3 _ _ sP (by simp[go_sem,q,H]),a3 _ _ sP (by simp[go_sem,q,J]),a3 _ _ sP (by simp[go_sem,q,F])⟩
     case measure=>simp[intOf];omega
  ·have V:k=xs.length:=oM;have U:Hid (jd ⟨a,f,s0⟩ xs=(h,b)):=by
    have:=R.o;rw[V,lC]at this;exact this
   have a7:Hid (xs.any (λx=>eM x ⟨a,f,s0⟩)=false):=by
    show _=_;rw[List.any_eq_false];intro x a8;obtain⟨j,l,rfl⟩:=lU a8;simp[E.o j l oM]
   clear R V
   cases b
   ·go_wp2_with (at_builtin;refine ae ?_);refine ar ?_;have g:=m.o.keep (aa.alloc (aa.refl _) (.cells #[.int .u8 a,.int .i64 f,.string s0] 72));refine aD mO di jO rfl (.tmp 44) (.tmp 46) rfl (ys:=[⟨a,f,s0⟩]) g rfl rfl (br _ oM oM (oe _ sG sG sG)) sO sO ?_;intro Z G o y _;have ⟨a1,a2,a3⟩:=g.after y (t.o.trans kP) (Nat.le_succ _);go_wp2;go_ret;obtain⟨z,B,D,Q⟩:=o.sl di sO;have r:dS xs ⟨a,f,s0⟩=h++[⟨a,f,s0⟩]:=by
     unfold dS;rw[a7.o,U.o];simp
    exact⟨z,B,by rw[r,<-D];rfl,by rw[r];exact Q,a1,wu (D▸o) oM⟩
   ·go_wp2;go_ret;obtain⟨z,B,D,Q⟩:=m.o.sl di oM;have r:dS xs ⟨a,f,s0⟩=h:=by
     unfold dS;rw[a7.o,U.o];simp
    exact⟨z,B,by rw[r,<-D];rfl,by rw[r];exact Q,t.o,wu (D▸m.o) oM⟩
open Go.Sort
theorem wO:∀l,Op.bytesLess l l=false
 | []=>rfl
 | a::l=>by simp[Op.bytesLess,wO l]
theorem Ei:∀l m n,Op.bytesLess l m=true->Op.bytesLess m n=true->Op.bytesLess l n=true
 | [],[],_,h,_=>by cases h
 | [],_::_,[],_,h=>by cases h
 | [],_::_,_::_,_,_=>rfl
 | _::_,[],_,h,_=>by cases h
 | _::_,_::_,[],_,h=>by cases h
 | a::l,b::m,c::n,e,d=>by
   simp only[Op.bytesLess,Bool.or_eq_true,L6,decide_eq_true_eq,beq_iff_eq]at e d|-
   rcases e with e | ⟨rfl,e⟩
   ·rcases d with d | ⟨rfl,d⟩
    ·exact .inl (UInt8.lt_trans e d)
    ·exact .inl e
   ·rcases d with d | ⟨rfl,d⟩
    ·exact .inl d
    ·exact .inr ⟨rfl,Ei l m n e d⟩
theorem Ej:∀l m,Op.bytesLess l m=false->Op.bytesLess m l=false->l=m
 | [],[],_,_=>rfl
 | [],_::_,h,_=>by cases h
 | _::_,[],_,h=>by cases h
 | a::l,b::m,h1,h2=>by
   simp only[Op.bytesLess,Bool.or_eq_false_iff,Bool.and_eq_false_iff,decide_eq_false_iff_not,beq_eq_false_iff_ne,ne_eq,UInt8.not_lt]at h1 h2;have:a=b:=UInt8.le_antisymm h2.1 h1.1;subst this;rw[Ej l m (h1.2.elim (λh=>absurd rfl h) id) (h2.2.elim (λh=>absurd rfl h) id)]
theorem wQ{a b:ByteArray}(h:a.toList=b.toList):a=b:=by
 rw[Lib.toList_data,Lib.toList_data]at h
 cases a;cases b
 congr 1
 exact Array.ext' (by simpa using h)
theorem PM(a b:ByteArray):kh a b<0<->Op.bytesLess a.toList b.toList=true:=by
 unfold kh
 cases Op.bytesLess a.toList b.toList<;>cases (a.toList==b.toList)<;>simp
theorem PN(a b:ByteArray):kh a b=0<->a=b:=by
 unfold kh;constructor
 ·intro h
  cases h1:Op.bytesLess a.toList b.toList<;>cases h2:(a.toList==b.toList)<;>simp[h1,h2]at h
  exact wQ (by simpa using h2)
 ·rintro rfl;simp[wO]
theorem D5(a b:Int):gJ a b<0<->a<b:=by unfold gJ;(repeat' split)<;>omega
theorem tA(a b:Int):gJ a b=0<->a=b:=by unfold gJ;(repeat' split)<;>omega
def cz(x y:ai):Prop:=x.k<y.k\/(x.k=y.k/\(x.n<y.n\/(x.n=y.n/\Op.bytesLess x.s.toList y.s.toList=true)))
theorem jG(x y:ai):dA x y<0<->cz x y:=by
 unfold dA cz;simp only[g5];have a:=D5 x.k y.k;have l:=tA x.k y.k;have b:=D5 x.n y.n;have j:=tA x.n y.n;have c:=PM x.s y.s
 by_cases e:gJ x.k y.k=0
 ·have f:=l.1 e;rw[if_pos e]
  by_cases d:gJ x.n y.n=0
  ·have g:=j.1 d;rw[if_pos d]
   by_cases i:kh x.s y.s=0
   ·rw[if_pos i,f,g];have:¬(Op.bytesLess x.s.toList y.s.toList=true):=λh=>(by have:=c.2 h;omega);simp[this]
   ·rw[if_neg i,c,f,g];simp
  ·rw[if_neg d,b,f];have:x.n≠y.n:=λh=>d (j.2 h);simp[this]
 ·rw[if_neg e,a];have:x.k≠y.k:=λh=>e (l.2 h);simp[this]
theorem PK(x y:ai):dA x y=0<->x=y:=by
 obtain⟨k,n,d⟩:=x;obtain⟨e,l,g⟩:=y;unfold dA;simp only[g5,ai.mk.injEq];have j:=tA k e;have i:=tA n l;have f:=PN d g
 by_cases c:gJ k e=0
 ·rw[if_pos c]
  by_cases a:gJ n l=0
  ·rw[if_pos a]
   by_cases b:kh d g=0
   ·rw[if_pos b];simp[j.1 c,i.1 a,f.1 b]
   ·rw[if_neg b];exact⟨λh=>absurd h b,λh=>absurd (f.2 h.2.2) b⟩
  ·rw[if_neg a];exact⟨λh=>absurd h a,λh=>absurd (i.2 h.2.1) a⟩
 ·rw[if_neg c];exact⟨λh=>absurd h c,λh=>absurd (j.2 h.1) c⟩
theorem cz.irrefl(x:ai):¬ cz x x:=by
 unfold cz;simp[wO]
theorem cz.trans{x y z:ai}(a:cz x y)(k:cz y z):cz x z:=by
 unfold cz at *
 rcases a with a | ⟨e,a⟩
 ·rcases k with k | ⟨b,k⟩
  ·exact .inl oM
  ·exact .inl oM
 ·rcases k with k | ⟨b,k⟩
  ·exact .inl oM
  ·refine .inr ⟨oM,?_⟩
   rcases a with a | ⟨d,a⟩
   ·rcases k with k | ⟨c,k⟩
    ·exact .inl oM
    ·exact .inl oM
   ·rcases k with k | ⟨c,k⟩
    ·exact .inl oM
    ·exact .inr ⟨oM,Ei _ _ _ a k⟩
theorem cz.tri(x y:ai):cz x y\/x=y\/cz y x:=by
 obtain⟨k,n,c⟩:=x;obtain⟨e,f,d⟩:=y;unfold cz;simp only[ai.mk.injEq]
 rcases Int.lt_trichotomy k e with a|a|a
 ·exact .inl (.inl a)
 ·rcases Int.lt_trichotomy n f with b|b|b
  ·exact .inl (.inr ⟨a,.inl b⟩)
  ·cases h3:Op.bytesLess c.toList d.toList
   ·cases h4:Op.bytesLess d.toList c.toList
    ·exact .inr (.inl ⟨a,b,wQ (Ej _ _ h3 h4)⟩)
    ·exact .inr (.inr (.inr ⟨a.symm,.inr ⟨b.symm,rfl⟩⟩))
   ·exact .inl (.inr ⟨a,.inr ⟨b,rfl⟩⟩)
  ·exact .inr (.inr (.inr ⟨a.symm,.inl b⟩))
 ·exact .inr (.inr (.inl a))
theorem rk:SWO (ltOf dA):=by
 refine⟨λx=>?_,λx y z h k=>?_,λx y z h k=>?_⟩
 ·simp only[ltOf,decide_eq_false_iff_not];rw[jG];exact cz.irrefl x
 ·simp only[ltOf,decide_eq_true_eq]at *;rw[jG]at *;exact h.trans k
 ·simp only[ltOf,decide_eq_false_iff_not]at *;rw[jG]at *;intro b
  rcases cz.tri x y with a|a|a
  ·exact h a
  ·subst a;exact k b
  ·exact k (a.trans b)
theorem QY(x y:ai)(b:ltOf dA x y=false)(k:ltOf dA y x=false):x=y:=by
 simp only[ltOf,decide_eq_false_iff_not]at *;rw[jG]at *
 rcases cz.tri x y with a|a|a
 ·exact absurd a b
 ·exact a
 ·exact absurd a k
theorem vM(x y:ai):gB x y=true<->cz x y:=by
 unfold gB cz
 by_cases a:x.k=y.k
 ·by_cases b:x.n=y.n
  ·simp[a,b]
  ·simp[a,b]
 ·simp[a]
theorem pj(x y:ai):eM x y=true<->x=y:=by
 obtain⟨k,n,d⟩:=x;obtain⟨e,g,f⟩:=y;simp only[eM,jD,L6,beq_iff_eq,ai.mk.injEq];constructor
 ·rintro⟨⟨c,a⟩,b⟩;exact⟨c,a,wQ b⟩
 ·rintro⟨c,a,b⟩;exact⟨⟨c,a⟩,by rw[b]⟩
theorem Q4(W:World)(a b c:Obj):(((W.alloc a).alloc b).alloc c).drew=grow (W.drewN 1) ((#[a]++#[b])++#[c]):=by
 simp only[alloc_eq_grow,grow_grow];rfl
theorem Q2(x y:ai)(a:World):Calls prog 63 #[x.v,y.v] a λe b=>e=.returned (.int .i64 (dA x y))/\∃q os',b=grow (a.drewN q) os':=by
 obtain⟨k,n,c⟩:=x;obtain⟨d,g,f⟩:=y;simp only[ai.v,dA];go_enter func63,ntmps63;go_wp2;refine wp_region_still_tail 15 kR kR ?_;simp only[lX,lR,lZ,L4]
 change wpStill _ _ (World.drew _) (λa'=>wpList _ _ _ _ a' (World.drew _)) _ _
 repeat still_step
 still_call ((PO _ _ _).mono λ_ _ h=>⟨h.1,h.2.symm⟩)
 repeat still_step
 still_call ((PP _ _ _).mono λ_ _ h=>⟨h.1,h.2.symm⟩)
 repeat still_step
 still_call ((PL _ _ _).mono λ_ _ h=>⟨h.1,h.2.symm⟩)
 refine wpStill_nil ?_;go_wp2_with (go_at_call 105;refine(Kt _ 0 [gJ k d,gJ n g,kh c f] 3 3 _ rfl oM (λi hi=>by match i,hi with|0,_=>simp[go_sem]|1,_=>simp[go_sem]|2,_=>simp[go_sem])).mono ?_;rintro e b ⟨rfl,rfl⟩);go_ret;exact⟨rfl,1,_,Q4 a _ _ _⟩
theorem Q3(a b c:Nat)(w:World):CmpLays prog 63 #[] ai.cells 3 dA a b c w :=
 λ_ _ _ _ x y=>Q2 x y _
theorem Q5(w:World):(isAgg 72).run prog w=.ok true w:=kR
theorem Q1(w:World):(Go.sizeOf 72).run prog w=.ok 3 w:=kR
def sortV(xs:List ai):List ai:=xs.mergeSort λx y=>!(ltOf dA) y x
theorem Df(xs:List ai):flatK ai.cells 3 xs.toArray=(xs.flatMap ai.cells).toArray:=by
 apply Array.ext
 ·simp[eL di]
 ·intro i c h;have f:i<xs.length*3:=by simpa using c
  have b:i/3<xs.length:=oM;have:=flat_get di xs (i/3) (i%3) b ((xs[i/3].cells)[i%3]!) (by
   have:i%3<(xs[i/3].cells).length:=(by rw[di];omega);rw[lu this,getElem!_pos (xs[i/3].cells) (i%3) this])
  have e:i/3*3+i%3=i:=oM;rw[e]at this;have a:=get_flatK ai.cells 3 xs.toArray i (by simpa using f);rw[getElem!_pos (flatK ai.cells 3 xs.toArray) i c]at a;rw[a];simp only[List.getElem_toArray];rw[getElem!_pos xs.toArray (i/3) (by simpa using b)];have g:=Lw.1 this;obtain⟨_,d⟩:=g;rw[d];simp
theorem Hh(A:Option Addr)(c:Nat)(xs:List ai)(base:Nat)(w:World)(p:ah w base 72 3 ai.cells (.slice A xs.length c) xs)(L:xs.length<=1000000000) :
 Calls prog 117 #[.slice A xs.length c,.func (.func 63) #[] #[]] w λe b=>e=.returned (.tuple #[])/\ah b base 72 3 ai.cells (.slice A xs.length c) (sortV xs)/\w.grownBy b (Value.slice A xs.length c).ownBlock:=by
 by_cases s:xs.length=0
 ·have C:xs=[]:=Ly s;subst C;refine(AnyF.slices_SortFunc_none (P:=prog) (ρ:=Tryz.sortV_ren) { Tryz.sortV with } A c (.func (.func 63) #[] #[]) w).mono ?_;rintro e b ⟨rfl,rfl⟩;refine⟨rfl,?_,⟨rfl,rfl,rfl,lc _,λ_ _ _=>rfl⟩⟩;have:sortV []=[]:=by simp[sortV]
  rw[this];exact p
 ·rcases p.2 with⟨_,K⟩ | ⟨g,M,l,v,F,d,q,I,o,D⟩
  ·exact absurd K s
  ·injection v with hA _ hc;subst hA;subst hc;have G:HoldsK ai.cells 3 w g 0 xs.toArray:=λj hj=>by
    rw[Df]at hj|-;have m:j<(xs.flatMap ai.cells).length:=(by simpa using hj);have J:j<xs.length*3:=(by rw[eL di]at m;exact m);have E:l[j]? =some (xs.flatMap ai.cells)[j]:=by
     have f:(xs.flatMap ai.cells)[j]? =some (xs.flatMap ai.cells)[j]:=lu m;generalize (xs.flatMap ai.cells)[j]=u at f|-;rw[<-D,List.getElem?_take,if_pos J]at f
     simpa using f
    rw[getElem!_pos _ j hj];refine⟨?_,by simp[World.frozen?,d]⟩;simp only[World.cell?,d,lS,Option.isSome_none,lY,if_false,id];rw[E];simp
   have r:g<w.heap.size:=(La.1 d).1;have:=AnyQ.slices_SortFunc_total (P:=prog) (ρ:=Tryz.sortV_ren) Tryz.sortV 3 Q5 Q1 ai.cells di jO dA rk 63 #[] g 0 c xs.toArray w (enters_of func63 kR rfl) (Q3 _ _ _ _) G r sO QY;refine Calls.mono this ?_;rintro e b ⟨rfl,n,os,rfl⟩;have a:(sortV xs).length=xs.length:=List.length_mergeSort _;have B:flatK ai.cells 3 (xs.toArray.toList.mergeSort λx y=>!ltOf dA y x).toArray=((sortV xs).flatMap ai.cells).toArray:=Df (sortV xs);have h:(sortWorldK ai.cells 3 w g 0 n (xs.toArray.toList.mergeSort λx y=>!ltOf dA y x).toArray os).heap=w.heap.modify g (onCells (putCells id 0 ((sortV xs).flatMap ai.cells).toArray))++os:=by
    unfold sortWorldK putRowK;rw[B];rfl
   have t:((sortV xs).flatMap ai.cells).length=xs.length*3:=(by rw[eL di,a]);refine⟨rfl,?_,rfl,rfl,rfl,by rw[h];simp,λk hk hne=>?_⟩
   ·refine⟨by rw[t,a],.inr ⟨g,c,putCells id 0 ((sortV xs).flatMap ai.cells).toArray l,by rw[a],F,?_,by rw[a];exact q,I,?_,?_⟩⟩
    ·rw[h,Array.getElem?_append,if_pos (by simpa using r),Array.getElem?_modify,if_pos rfl,d];rfl
    ·simp[putCells,o]
    ·rw[a];apply List.ext_getElem?;intro i;rw[List.getElem?_take]
     by_cases hi:i<xs.length*3
     ·rw[if_pos hi];have H:i<l.size:=(by rw[o];have:=L7 3 q;omega);simp[putCells,H,t,hi]
     ·rw[if_neg hi,LL oM]
   ·have z:k≠g:=λe=>hne (by simp[Value.ownBlock,e]);rw[h,Array.getElem?_append,if_pos (by simpa using hk),Array.getElem?_modify,if_neg (Ne.symm z)]
open Go.Sym
attribute [local go_sem high] kE kD kF
theorem bp{a:Type}{w:World}{base k:Nat}{e:TypeId}{enc:a->List Value}{v:Value}{xs:List a}(d:ah w base e k enc v xs):∃A c,v=.slice A xs.length c:=by
 rcases d.2 with⟨rfl,b⟩ | ⟨g,f,h,rfl,_⟩
 ·exact⟨none,0,by rw[b]⟩
 ·exact⟨_,_,rfl⟩
theorem clone_any(A:Option Addr)(c:Nat)(xs:List ai)(w:World)(d:Sl w 3 ai.cells A c xs)(n:xs.length<=1000000000) :
 Calls prog 116 #[.slice A xs.length c] w λe w'=>∃b a,e=.returned (.slice b xs.length a)/\ah w' w.heap.size 72 3 ai.cells (.slice b xs.length a) xs/\aa w w':=by
 have h:=λW:World=>Lib.run_eql_slice_nil W 56 72 A xs.length c 0 0 underlying56
 cases A with
 | none =>
   have j:xs=[]:=by
    rcases xs with _ | ⟨y,r⟩
    ·rfl
    ·obtain⟨_,_,l,_⟩:=d.at_ 0 sP
     cases l
   subst j;simp only[lB,Option.isNone_none]at h|-;go_enter func116,ntmps116;go_wp2;go_ret;exact⟨none,0,rfl,ah.nil_ _ _ _ _ _,aa.refl _⟩
 | some ad =>
   have m:=lh d;clear d;go_enter func116,ntmps116;go_wp2_with (at_builtin;refine ae ?_);refine ar ?_;have i:ah (w.alloc (.cells #[] 72)) w.heap.size 72 3 ai.cells (.slice (some ⟨w.heap.size,0,none⟩) 0 0) ([]:List ai):=World.ownsRow_made w #[] 0 (lc _) (by unfold maxLen;omega) rfl;refine aD mO di jO rfl (.tmp 5) (.tmp 6) rfl (ys:=xs) i rfl rfl (m.o.keep kP) sO sP ?_;intro o p f k _;have ⟨a1,a2,a3⟩:=i.after (w:=w) k kP (lc _);clear h a2 a3;go_wp2;go_ret;simp only[lO]at f;obtain⟨b,a,g⟩:=bp f;exact⟨b,a,by rw[<-g];rfl,by rw[<-g];exact f,a1⟩
def fB(xs:List ai):Nat->List ai
 | 0=>[]
 | m+1=>if m=0\/eM (xs.getD m default) (xs.getD (m-1) default)=false then fB xs m++[xs.getD m default] else fB xs m
theorem DT(xs:List ai):∀m,(fB xs m).length<=m
 | 0=>lc _
 | m+1=>by
   have:=DT xs m;unfold fB
   split<;>simp<;>omega
theorem tu(xs:List ai):∀m,m<=xs.length->(∀j,0<j->j<m->eM (xs.getD j default) (xs.getD (j-1) default)=false)->fB xs m=xs.take m
 | 0,_,_=>by simp[fB]
 | m+1,hm,h=>by
   have b:=tu xs m oM λj a hj=>h j a oM;have c:m=0\/eM (xs.getD m default) (xs.getD (m-1) default)=false:=by
    rcases Nat.eq_zero_or_pos m with a|a
    ·exact .inl a
    ·exact .inr (h m a oM)
   rw[fB,if_pos c,b,ly oM];simp[show m<xs.length from oM]
def iD(xs:List ai):List ai:=fB xs xs.length
theorem Di:∀(a:List ai) (k:Nat) (y:ai),k<a.length->(a.set k y).flatMap ai.cells=(((a.flatMap ai.cells).set (k*3) (.int .u8 y.k)).set (k*3+1) (.int .i64 y.n)).set (k*3+2) (.string y.s)
 | [],k,_,h=>by simp at h
 | x::r,0,y,_=>by simp[ai.cells]
 | x::r,k+1,y,h=>by
   have b:=Di r k y (by simpa using h);simp only[List.set_cons_succ,lN,b];rw[show(k+1)*3=k*3+3 from oM];simp[ai.cells,Nat.add_right_comm _ 3]
theorem J1{w:World}{base g c k:Nat}{a:List ai}(i:ah w base 72 3 ai.cells (.slice (some ⟨g,0,none⟩) a.length c) a)(p:k<a.length)(y:ai) :
 ah (((w.setCell ⟨g,k*3,none⟩ (.int .u8 y.k)).setCell ⟨g,k*3+1,none⟩ (.int .i64 y.n)).setCell ⟨g,k*3+2,none⟩ (.string y.s)) base 72 3 ai.cells (.slice (some ⟨g,0,none⟩) a.length c) (a.set k y) /\
 w.grownBy (((w.setCell ⟨g,k*3,none⟩ (.int .u8 y.k)).setCell ⟨g,k*3+1,none⟩ (.int .i64 y.n)).setCell ⟨g,k*3+2,none⟩ (.string y.s)) (some g):=by
 rcases i.2 with⟨q,_⟩ | ⟨t,u,b,h,o,d,m,r,f,l⟩
 ·cases q
 ·injection h with hA _ hc;injection hA with hA;injection hA with hA;subst hA;subst hc;rw[setCell_eq_setRow w g (k*3) b _ (0,0) _ d,setCell_eq_setRow _ g (k*3+1) _ _ (0,0) _ (setRow_heap w g b _ _ _ d),setRow_setRow,setCell_eq_setRow _ g (k*3+2) _ _ (0,0) _ (setRow_heap w g b _ _ _ d),setRow_setRow];refine⟨⟨by rw[eL di],.inr ⟨g,c,_,sP,o,setRow_heap w g b _ _ _ d,by simpa using m,r,by simpa using f,?_⟩⟩,rfl,rfl,rfl,sP,λj _ hj=>setRow_other w g j _ (λe=>hj (by rw[e]))⟩;rw[Di a k y p,<-l];simp[List.take_set]
theorem J6{w:World}{base g c n:Nat}{f:List ai}(b:ah w base 72 3 ai.cells (.slice (some ⟨g,0,none⟩) n c) f):∀i,w.frozen? ⟨g,i,none⟩=false:=by
 rcases b.2 with⟨d,_⟩ | ⟨j,q,m,a,o,e,l,p,h,k⟩
 ·cases d
 ·injection a with hA _ hc;injection hA with hA;injection hA with hA;subst hA;intro i;simp[World.frozen?,e]
theorem tW{k:Nat}(a:0<k)(b:k<=1000000000000):IntKind.i64.wrap ((k:Int)-1)=((k-1:Nat):Int):=iW oM
theorem zeroV(w:World):(zeroValue 72).run prog w=.ok (.agg #[.int .u8 0,.int .i64 0,.string ByteArray.empty]) w:=kR
theorem xW{c:Type}:∀(b:List c) (a:Nat) (y:c),a<b.length->(b.set a y).take (a+1)=b.take a++[y]
 | [],a,_,h=>by simp at h
 | x::r,0,y,_=>sP
 | x::r,a+1,y,h=>by
   have:=xW r a y (by simpa using h);simp only[List.set_cons_succ,lX,List.cons_append,this]
theorem grownBy_trans{a b c:World}{g:Nat}(h:a.grownBy b (some g))(k:b.grownBy c (some g)):a.grownBy c (some g) :=
 ⟨k.os.trans h.os,k.tape.trans h.tape,k.output.trans h.output,lk h.size k.size,λi hi hn=>(k.block i (lp hi h.size) hn).trans (h.block i hi hn)⟩
theorem CY{a b:World}{g:Nat}(k:aa a b):a.grownBy b (some g):=⟨k.os,k.tape,k.output,k.size,λi hi _=>k.block i hi⟩
theorem J7{w:World}{base g c n a:Nat}{b:List ai}(p:n=b.length)(u:ah w base 72 3 ai.cells (.slice (some ⟨g,0,none⟩) n c) b)(k:a<n) :
 ∃w',(∀ty,(Builtin.clear_ #[56] ty #[.slice (some ⟨g,a*3,none⟩) (n-a) (c-a)]).run prog w=.ok (.tuple #[]) w')/\ah w' base 72 3 ai.cells (.slice (some ⟨g,0,none⟩) a c) (b.take a)/\w.grownBy w' (some g):=by
 subst p
 rcases u.2 with⟨A,_⟩ | ⟨C,D,f,d,z,r,p,B,l,x⟩
 ·cases A
 ·injection d with hA _ hc;injection hA with hA;injection hA with hA;subst hA;subst hc;have o:(Builtin.zeroCells #[.int .u8 0,.int .i64 0,.string ⟨#[]⟩] (b.length-a)).toList.length=(b.length-a)*3:=by simp[Builtin.zeroCells]
  have s:∀v∈(Builtin.zeroCells #[.int .u8 0,.int .i64 0,.string ⟨#[]⟩] (b.length-a)).toList,v.oneCell'=true:=by
   intro v d;simp only[Builtin.zeroCells,Array.toList_map,lW]at d;obtain⟨i,_,rfl⟩:=d;have:i%3<3:=Nat.mod_lt _ dC;show(#[Value.int .u8 0,.int .i64 0,.string ⟨#[]⟩][i%3]!).oneCell'=true;generalize i%3=m at this
   match m,this with
   | 0,_=>rfl
   | 1,_=>rfl
   | 2,_=>rfl
  have h:=run_storeCells_at (P:=prog) g (a*3) 72 _ 0 f w r (by rw[o,l];omega) s;simp only[lE]at h;generalize q:(List.take (a*3) f.toList++(Builtin.zeroCells #[.int .u8 0,.int .i64 0,.string ⟨#[]⟩] (b.length-a)).toList++List.drop (a*3+(Builtin.zeroCells #[.int .u8 0,.int .i64 0,.string ⟨#[]⟩] (b.length-a)).toList.length) f.toList).toArray=X at h;refine⟨w.setRow g X,λty=>?_,⟨?_,.inr ⟨g,c,X,?_,z,setRow_heap w g f _ _ _ r,?_,B,?_,?_⟩⟩,rfl,rfl,rfl,sP,λj _ hj=>setRow_other w g j _ (λe=>hj (by rw[e]))⟩
  ·obtain⟨m,t⟩:∃m,b.length-a=m+1:=⟨b.length-a-1,oM⟩;rw[t]at h|-;simp only[Builtin.clear_];simp[run_underlying underlying56,zeroV,Value.cells,h]
  ·rw[eL di]
  ·simp[Nat.le_of_lt k]
  ·simp;omega
  ·rw[<-q];simp[o,l];omega
  ·rw[<-q];simp only[lD,Nat.min_eq_left (Nat.le_of_lt k)];have y:(b.take a).flatMap ai.cells=(b.flatMap ai.cells).take (a*3):=by
    have:=eL di (b.take a)
    conv=>rhs;rw[<-Ls a b,lF]
    rw[List.take_left'];rw[this];simp[Nat.min_eq_left (Nat.le_of_lt k)]
   rw[y,<-x,List.take_take,Nat.min_eq_left oM];simp only[lr];rw[List.take_left'];simp;omega
theorem PC(A:Option Addr)(c:Nat)(xs:List ai)(base:Nat)(w:World)(H:ah w base 72 3 ai.cells (.slice A xs.length c) xs)(aL:xs.length<=1000000000) :
 Calls prog 118 #[.slice A xs.length c] w λe w'=>∃A' c',e=.returned (.slice A' (iD xs).length c')/\ah w' base 72 3 ai.cells (.slice A' (iD xs).length c') (iD xs)/\w.grownBy w' (Value.slice A xs.length c).ownBlock:=by
 by_cases aF:xs.length<2
 ·have x:Hid (iD xs=xs):=by
   show _=_;unfold iD;rw[tu xs xs.length (lc _) (λj l hj=>oM),lC]
  go_enter func118,ntmps118;go_wp2;go_ret;exact⟨A,c,by rw[x.o];rfl,by rw[x.o];exact H,rfl,rfl,rfl,lc _,λ_ _ _=>rfl⟩
 ·rcases H.2 with⟨_,l⟩ | ⟨g,aP,ar,ao,ag,aw,aE,aA,al,af⟩
  ·omega
  ·injection ao with v _ hc;subst v;subst hc;clear ag aw al af ar;unfold maxLen at aA;have ae:=lh H;clear H;go_enter func118,ntmps118;go_wp2;go_loopw [3] (λvk wr=>∃(k:Nat),0<k/\k<=xs.length/\vk=.int .i64 k/\Hid (aa w wr)/\Hid (∀j,0<j->j<k->eM (xs.getD j default) (xs.getD (j-1) default)=false)) (λvk _=>xs.length-(intOf vk).toNat)
   case atStart=>exact⟨1,oM,oM,rfl,aa.refl _,λj l hj=>oM⟩
   case round =>
    obtain⟨k,U,aN,rfl,d,F⟩:=hrel;have R:=lh (ae.o.keep d.o)
    by_cases Q:k<xs.length
    ·obtain⟨a8,n,o,m⟩:=R.o.sl di oM;injection o with o _ hv2;subst o;subst hv2;obtain⟨b,ak,v,aW,r,n,t⟩:=dL m k Q;obtain⟨ad,ay,O,aD,u,d1,d2⟩:=dL m (k-1) oM
     cases v;cases O
     clear m;simp only[lS]at r n t u d1 d2
     cases he:eM xs[k] xs[k-1]
     ·unfold eM at he;have s:=tW U oM;have T:k-1<xs.length:=oM;go_wp2;refine zR kR ?_
      repeat
       refine aR (λK hK=>?_);go_simp
       first
       | (refine hK _ _ ?_;clear hK K)
       | (apply Exists.intro
          refine⟨λp=>?_,hK _ _ ?_⟩
          (fail)
          clear hK K)
      refine bG ?_;intro p;simp only[aj];have G:=lh he;clear s he;go_wp2;go_roundw
      case rel=>exact⟨k+1,oM,oM,by go_num,d.o.gro _,λj l hj=>by
       by_cases e:j=k
       ·subst e;have:=G.o
        simpa[eM,Q,T]using this
       ·exact F.o j l oM⟩
      case measure=>simp[intOf];omega
     ·unfold eM at he;have s:=tW U oM;have T:k-1<xs.length:=oM;have aI:k<c:=oM;go_wp2;refine zR kR ?_
      repeat
       refine aR (λK hK=>?_);go_simp
       first
       | (refine hK _ _ ?_;clear hK K)
       | (apply Exists.intro
          refine⟨λp=>?_,hK _ _ ?_⟩
          (fail)
          clear hK K)
      refine bG ?_;intro p;simp only[aj];have G:=lh he;clear s he;have av:Hid (xs.take k=fB xs (k+1)):=by
       show _=_;have l:=tu xs k oM F.o;rw[fB,if_neg,l];intro z
       rcases z with z|z
       ·omega
       ·have a0:=G.o;simp only[eM,L9,lu Q,lu T,Option.getD_some]at z;rw[z]at a0
        cases a0
      clear G F r n t u d1 d2;go_wp2;go_loopw [3,5] (λvk vi wq=>∃(a i:Nat) (f:List ai),0<i/\i<=xs.length-k/\a<k+i/\vk=.int .i64 a/\vi=.int .i64 i/\Hid (f.length=xs.length)/\Hid (ah wq base 72 3 ai.cells (.slice (some ⟨g,0,none⟩) xs.length c) f)/\Hid (w.grownBy wq (some g)) /\
       Hid (f.take a=fB xs (k+i))/\Hid (∀j,k+i-1<=j->f.getD j default=xs.getD j default)) (λ_ vi _=>xs.length-(intOf vi).toNat)
      case atStart=>exact⟨k,1,xs,oM,oM,oM,rfl,rfl,rfl,R.o.keep (ce _ _),⟨d.o.os,d.o.tape,d.o.output,by simp[az];have:=d.o.size;omega,λj hj _=>(ce wr p).block j (lp hj d.o.size) |>.trans (d.o.block j hj)⟩,av.o,λj _=>rfl⟩
      case round =>
       obtain⟨a,i,f,ac,hi,aK,rfl,rfl,h,C,S,M,B⟩:=hrel
       by_cases aU:i<xs.length-k
       ·have a6:k+i<f.length:=(by have:=h.o;omega);have a3:k+i-1<f.length:=oM;have L:a<f.length:=oM;have D:=C.o;rw[<-h.o]at D;obtain⟨a8,n,o,m⟩:=D.sl di (by have:=h.o;omega);injection o with o _ hv2;subst o;subst hv2;obtain⟨b,ak,v,aH,r,n,t⟩:=dL m (k+i) a6;obtain⟨ad,ay,O,_,u,d1,d2⟩:=dL m (k+i-1) a3;obtain⟨aS,aT,ax,_,ap,aq,ab⟩:=dL m a L
        cases v;cases O;cases ax
        have E:=J6 D;have V:f[k+i]=xs[k+i]'oM:=by
         have:=B.o (k+i) oM
         simpa[a6,show k+i<xs.length from oM]using this
        have a4:f[k+i-1]=xs[k+i-1]'oM:=by
         have:=B.o (k+i-1) oM
         simpa[a3,show k+i-1<xs.length from oM]using this
        rw[V]at r n t;rw[a4]at u d1 d2;have aJ:=E (a*3);have aG:=E (a*3+1);have aM:=E (a*3+2);have J:fB xs (k+i+1)=if k+i=0\/eM (xs[k+i]'oM) (xs[k+i-1]'oM)=false then fB xs (k+i)++[xs[k+i]'oM] else fB xs (k+i):=by
         rw[fB];simp[show k+i<xs.length from oM,show k+i-1<xs.length from oM]
        clear m E V a4 D;rw[show 0+(k+i)*3=k*3+i*3 from oM]at r n t;rw[show 0+(k+i-1)*3=k*3+(i-1)*3 from oM]at u d1 d2;simp only[lS]at ap aq ab;have s:=tW ac oM;have aC:i-1<xs.length-k:=oM;have Y:a<xs.length:=oM
        cases he:eM (xs[k+i]'oM) (xs[k+i-1]'oM)
        ·have q:=J;rw[if_pos (.inr he)]at q;have I:=lh q;clear J q;unfold eM at he;generalize xs[k+i]'oM=y at r n t he I;go_wp2;refine zR kR ?_
         repeat
                  refine aR (λK hK=>?_);go_simp
                  first
                  | (refine hK _ _ ?_;clear hK K)
                  | (apply Exists.intro
                     refine⟨λp=>?_,hK _ _ ?_⟩
                     (fail)
                     clear hK K)
         refine bG ?_;intro p2;simp only[aj];clear s he;have N:=C.o.keep (ce wr p2);rw[<-h.o]at N;obtain⟨P,X⟩:=J1 N L y;rw[h.o]at P;have au:=lh P;have a7:=lh X;clear N P X;go_wp2;go_roundw
         case rel=>exact⟨a+1,i+1,f.set a y,oM,oM,oM,by go_num,by go_num,(by show _=_;simp[h.o]),au.o,grownBy_trans (grownBy_trans S.o (CY (ce wr p2))) a7.o,
                  (by show _=_;rw[xW _ _ _ L,M.o,<-Nat.add_assoc,I.o]),λj hj=>by
                have:=B.o j oM;rw[<-this];simp only[L9];rw[List.getElem?_set_ne oM]⟩
         case measure=>simp[intOf];omega
        ·have q:=J;rw[if_neg (by simp[he];omega)]at q;have I:=lh q;clear J q;unfold eM at he;go_wp2;refine zR kR ?_
         repeat
                  refine aR (λK hK=>?_);go_simp
                  first
                  | (refine hK _ _ ?_;clear hK K)
                  | (apply Exists.intro
                     refine⟨λp=>?_,hK _ _ ?_⟩
                     (fail)
                     clear hK K)
         refine bG ?_;intro p2;simp only[aj];clear s he;go_wp2;go_roundw
         case rel=>exact⟨a,i+1,f,oM,oM,oM,rfl,by go_num,h.o,C.o.keep (ce wr p2),grownBy_trans S.o (CY (ce wr p2)),
                  (by show _=_;rw[M.o,<-Nat.add_assoc,I.o]),λj hj=>B.o j oM⟩
         case measure=>simp[intOf];omega
       ·have W:k+i=xs.length:=oM;have Y:a<xs.length:=oM;have aO:a<c:=oM;have a2:Hid (f.take a=iD xs):=by
         show _=_;rw[M.o,W];rfl
        obtain⟨aV,aQ,a5,a1⟩:=J7 h.o.symm C.o Y;have aB:=lh a5;have a9:=lh a1;have Z:Hid (a=(iD xs).length):=by
         show _=_;rw[<-a2.o,lD,h.o];omega
        clear W a5 a1;go_wp2;go_ret;refine⟨some ⟨g,0,none⟩,c,by rw[<-Z.o];rfl,?_,grownBy_trans S.o a9.o⟩;rw[<-Z.o,<-a2.o];exact aB.o
    ·go_wp2;go_ret;have x:iD xs=xs:=by
      unfold iD;rw[tu xs xs.length (lc _) (λj l hj=>F.o j l oM),lC]
     exact⟨some ⟨g,0,none⟩,c,by rw[x];rfl,by rw[x];exact R.o,d.o.os,d.o.tape,d.o.output,d.o.size,λj hj _=>d.o.block j hj⟩
end Go.Proofs.YtpkocnpamcchcaaGreatDoor
namespace Go.Zone
open Go.RowKit
theorem bZ{ops:Array Oper}{b:Oper}{fs:dR}(a:((fs.map (·.1)).filter λt=>(b.looksAt ops).contains t)=[]):aC ops b fs=[]:=by
 unfold aC;rw[List.filter_eq_nil_iff]at a|-;intro x c;exact a x.1 (Le c)
theorem EK{P:Program}{ops:Array Oper}{w:World}{b:Oper}{a:Act}{fs:dR}{K:Act->dR->Prop}{d:Tmp}{c:dQ}(u:Value)(f:aC ops b fs=[(d,c)])
 (e:∀p v,c v (w.gro p)->if Region.wanted b (yielded ops (a.put (some d) v).tmps) then av P b (a.put (some d) v) (w.gro p) (λv _=>v=u) else undef=u) (k:K (a.put b.dst u) (aF b.dst fs)):aw P ops w b a fs K :=
 ⟨u,λp=>by rw[f];exact λv hv=>e p v hv,k⟩
theorem uW{a:Type}(w:World)(base:Nat)(e:TypeId)(k:Nat)(enc:a->List Value)(g:Nat)(b:base<=g)(c:w.heap[g]? =some (.cells #[] e (0,0))):ah w base e k enc (.slice (some ⟨g,0,none⟩) 0 0) ([]:List a) :=
 ⟨sP,.inr ⟨g,0,#[],rfl,b,c,lc _,lj _,sP,sP⟩⟩
theorem aZ{a b:Nat}(d c:Nat)(e:a<b):(a<b+d+c)=True:=eq_true oM
theorem aY{a b:Nat}(e d c:Nat)(f:a<b):(a<b+e+d+c)=True:=eq_true oM
theorem aX{a b:Nat}(f d c e:Nat)(g:a<b):(a<b+f+d+c+e)=True:=eq_true oM
theorem aW{a b:Nat}(g e c f d:Nat)(h:a<b):(a<b+g+e+c+f+d)=True:=eq_true oM
theorem aV{a b:Nat}(h e c g d f:Nat)(i:a<b):(a<b+h+e+c+g+d+f)=True:=eq_true oM
theorem aU{a b:Nat}(i e c h d f g:Nat)(j:a<b):(a<b+i+e+c+h+d+f+g)=True:=eq_true oM
theorem aT{a b:Nat}(j e c i d f h g:Nat)(k:a<b):(a<b+j+e+c+i+d+f+h+g)=True:=eq_true oM
theorem aS{a b:Nat}(k e c j d f h g i:Nat)(l:a<b):(a<b+k+e+c+j+d+f+h+g+i)=True:=eq_true oM
theorem bo{a b:Nat}(l e c j d f h g i k:Nat)(m:a<b):(a<b+l+e+c+j+d+f+h+g+i+k)=True:=eq_true oM
theorem bh{a b:Nat}(m f d k e g i h j l c:Nat)(n:a<b):(a<b+m+f+d+k+e+g+i+h+j+l+c)=True:=eq_true oM
theorem QT{a b:Nat}(n f d k e g i h j m c l:Nat)(o:a<b):(a<b+n+f+d+k+e+g+i+h+j+m+c+l)=True:=eq_true oM
end Go.Zone
namespace Go.Zone
attribute [go_sem] aZ aY aX aW aV aU aT aS bo bh QT
end Go.Zone
