/- Parts. -/
import Derived.Deep.DeepCutAuto
import Derived.Test.YtpkocnpamcchcaaGreatDoorL38
set_option maxRecDepth 100000
set_option maxHeartbeats 40000000
set_option linter.all false
namespace Go.Zone
open Go.RowKit
section
variable {P:Program} {ops:Array Oper} {md:Region.Mode} {Q:Exit->Act->World->Prop}
def po(md:Region.Mode)(ops:Array Oper):Bool :=
 (List.range ops.size).all λi=>((ops[i]?).map λo=>o.after.all λe=>!Region.binds md e||decide (e.on<i)).getD true
theorem OJ{a:Array Bool}{i:Nat}(hi:i<a.size)(b:a.getD i false≠true):a.getD i true=false:=by
 simp only[LD,LC hi,Option.getD_some]at b|-
 simpa using b
theorem pf{a:Array Bool}{i:Nat}(b:a.getD i true=false):a.getD i false=false:=by
 rcases L8 i a.size with hi|hi
 ·simpa only[LD,LC hi,Option.getD_some]using b
 ·simp only[LD,Array.getElem?_eq_none hi,Option.getD_none]at b
  cases b
theorem Da{a:Array Bool}{i j:Nat}(hi:i<a.size):(a.setIfInBounds i true).getD j false=if i=j then true else a.getD j false:=by
 simp only[LD,Array.getElem?_setIfInBounds]
 by_cases b:i=j
 ·subst b;simp[hi]
 ·simp[b]
theorem zL(h:po md ops=true){a:Array Bool}(k:a.size=ops.size)(g:Region.ready md ops a=[]):∀i,i<ops.size->a.getD i false=true:=by
 intro i
 induction i using Nat.strongRecOn with
 | _ i ih =>
   intro hi
   by_cases c:a.getD i false=true
   ·exact c
   ·have f:i∈Region.ready md ops a:=mem_ready.2 ⟨OJ oM c,ops[i],LC hi,λe he hbd=>by
       have b:=List.all_eq_true.1 h i (List.mem_range.2 hi);rw[LC hi]at b;simp only[Option.map_some,Option.getD_some]at b;have d:=Array.all_eq_true_iff_forall_mem.1 b e he;rw[hbd]at d;have j:e.on<i:=(by simpa using d);exact ih e.on j oM⟩
    rw[g]at f
    cases f
theorem EZ(B:po md ops=true)(m:Array Bool->Act->World->Prop)
 (A:∀b a w,m b a w->b.size=ops.size->∀i c,ops[i]? =some c->b.getD i false=false->(∀e∈c.after,Region.binds md e=true->b.getD e.on false=true) ->
   Region.wanted c (yielded ops a.tmps)=true/\((∃v g,(execOp a.eval c).run P w=.ok (.value v) g/\m (b.setIfInBounds i true) (a.put c.dst v) g)\/∃g,(execOp a.eval c).run P w=.ok .skip g/\m (b.setIfInBounds i true) (a.put c.dst undef) g))
 (u:∀b a w,m b a w->b.size=ops.size->(∀i,i<ops.size->b.getD i false=true)->Q .normal a w) :
 ∀(f:Nat) (b:Array Bool) (a:Act) (w:World),b.toList.count false=f->b.size=ops.size->m b a w->wpAny P md ops Q f b a w:=by
 intro f
 induction f with
 | zero =>
   intro b a w r d p;have n:∀i,i<ops.size->b.getD i false=true:=λi hi=>by
    have D:i<b.size:=oM;have C:¬(false∈b.toList):=List.count_eq_zero.1 r
    by_cases s:b.getD i false=true
    ·exact s
    ·refine absurd ?_ C;have:b[i]=false:=(by simpa only[LD,LC D,Option.getD_some,Bool.not_eq_true]using s);rw[<-this];simp
   refine⟨?_,u b a w p d n⟩;refine List.eq_nil_iff_forall_not_mem.2 λj hj=>?_;obtain⟨o,c,l,_⟩:=mem_ready.1 hj;have:=n j (La.1 l).1;rw[pf o]at this
   cases this
 | succ f ih =>
   intro b a w r d p;refine⟨λh=>u b a w p d (zL B d h),λi hi=>?_⟩;obtain⟨o,c,l,n⟩:=mem_ready.1 hi;have F:i<ops.size:=(La.1 l).1;have E:i<b.toList.length:=sO;obtain⟨z,x⟩:=A b a w p d i c l (pf o) n;have t:(b.setIfInBounds i true).toList.count false=f:=by
    rw[Array.toList_setIfInBounds,List.count_set E];have k:=pf o;simp only[LD,LC (show i<b.size from oM),Option.getD_some]at k;simp[k,r]
   unfold wpOp;simp only[l,z,if_true];refine .inl ?_;unfold Oper.wp
   rcases x with⟨v,g,k,q⟩ | ⟨g,k,q⟩
   ·rw[k];exact ih _ _ _ t (by simpa using d) q
   ·rw[k];exact ih _ _ _ t (by simpa using d) q
theorem ET{f:Nat}{a:Act}{w:World}(d:P.follows .mixedOrders=true)(g:po .any ops=true)(b:Array Bool->Act->World->Prop)
 (c:b (Array.replicate ops.size false) a { w with drawn:=w.drawn+1 })
 (hstep:∀listed a w,b listed a w->listed.size=ops.size->∀i o,ops[i]? =some o->listed.getD i false=false->(∀e∈o.after,Region.binds .any e=true->listed.getD e.on false=true) ->
   Region.wanted o (yielded ops a.tmps)=true/\((∃v w',(execOp a.eval o).run P w=.ok (.value v) w'/\b (listed.setIfInBounds i true) (a.put o.dst v) w')\/∃w',(execOp a.eval o).run P w=.ok .skip w'/\b (listed.setIfInBounds i true) (a.put o.dst undef) w'))
 (hend:∀listed a w,b listed a w->listed.size=ops.size->(∀i,i<ops.size->listed.getD i false=true)->Q .normal a w):(Code.region f ops true).wp P Q a w :=
 wp_region_any d (EZ g b hstep hend ops.size _ a _ sP sP c)
end
theorem nF(b:Act)(d:Nat)(u:Value)(h:d<b.tmps.size):(b.put (some d) u).tmps.getD d undef=u:=by rw[qw b _ u d h,if_pos rfl]
theorem dx(b:Act)(d:Nat)(u:Value)(t:Nat)(h:d≠t):(b.put (some d) u).tmps.getD t undef=b.tmps.getD t undef:=by
 simp[Act.put,Array.getElem?_setIfInBounds_ne h]
theorem OK(n k:Nat):(Array.replicate n false).getD k false=false:=by
 simp only[LD,Array.getElem?_replicate]
 split<;>rfl
end Go.Zone
namespace Go.Proofs.YtpkocnpamcchcaaGreatDoor
open Go.RowKit Go.Zone Go.Shelf Tryz
structure gg{α:Type}(w:World)(T e:TypeId)(enc:α->List Value)(base bs:Nat)(old:Value)(xs:List α)(y:α)(l8 l9 l20:Bool)(v13 v14:Value)(W:World):Prop where
 row:l20=false->ak W bs T [old]
 a8:l8=true->∃q,v13=.slice (some ⟨q,0,none⟩) 1 1/\w.heap.size<=q/\ak W q e (enc y)
 a9F:l9=false->ah W base e 1 enc old xs
 a9T:l9=true->∃A' c',v14=.slice A' (xs.length+1) c'/\ah W base e 1 enc v14 (xs++[y])/\(l20=true->ak W bs T [v14])
section
variable {α:Type} {w W W':World} {T e:TypeId} {enc:α->List Value} {base bs:Nat} {old:Value} {xs:List α} {y:α} {l8 l9 l20:Bool} {v13 v14:Value}
theorem gg.turn(a:gg w T e enc base bs old xs y l8 l9 l20 v13 v14 W){S:List Nat}(b:ag W W' S)(h:bs∉S)(m:∀i∈S,i<w.heap.size)(g:∀v ys,ah W base e 1 enc v ys->∀i∈S,v.ownBlock≠some i):gg w T e enc base bs old xs y l8 l9 l20 v13 v14 W' :=
 ⟨λhl=>b.row (a.row hl) h,λhl=>by
  obtain⟨j,f,c,d⟩:=a.a8 hl;exact⟨j,f,c,b.row d λhm=>by have:=m j hm;omega⟩,λhl=>(a.a9F hl).turn b (g _ _ (a.a9F hl)),λhl=>by
  obtain⟨l,k,f,c,d⟩:=a.a9T hl;exact⟨l,k,f,c.turn b (g _ _ c),λhl=>b.row (d hl) h⟩⟩
theorem gg.keep(a:gg w T e enc base bs old xs y l8 l9 l20 v13 v14 W)(b:aa W W'):gg w T e enc base bs old xs y l8 l9 l20 v13 v14 W' :=
 a.turn (ag.keep b []) sP sP sP
theorem gg.made(a:gg w T e enc base bs old xs y l8 l9 l20 v13 v14 W)(b:w.heap.size<=W.heap.size):gg w T e enc base bs old xs y true l9 l20 (.slice (some ⟨W.heap.size,0,none⟩) 1 1) v14 (W.alloc (.cells (enc y).toArray e)):=by
 have k:=a.keep (W':=W.alloc (.cells (enc y).toArray e)) ((aa.refl W).alloc _);exact⟨k.row,λ_=>⟨_,rfl,b,bH _ _ _⟩,k.a9F,k.a9T⟩
theorem gg.app(b:gg w T e enc base bs old xs y true false false v13 v14 W){P:Program}{t:TypeId}{k:Nat}(D:dX P t e 1 k)(m:∀x,(enc x).length=1)(E:∀x,∀u∈enc x,u.oneCell'=true)(ty:TypeId)(v:(xs.length+1)*k<=140737488355328)(o:xs.length+1<=140737488355328)(s:base<=W.heap.size)(G:bs<base)(A:∀j,old.ownBlock=some j->j<w.heap.size) :
 ∃a W',(Builtin.append_ #[t,t] ty #[old,v13]).run P W=.ok a W'/\W.grownBy W' old.ownBlock/\gg w T e enc base bs old xs y true true false v13 a W':=by
 obtain⟨f,r,B,l⟩:=b.a8 rfl;have n:=b.a9F rfl;obtain⟨a,W',p,i,d,F⟩:=pZ (ty:=ty) D m E n (ys:=[y]) (br (g:=f) (c:=1) y dC dC λj u hu=>l.cell j u hu) (by simpa using v) s;rw[r];refine⟨a,W',p,d,λ_=>(ag.of_grown d).row (b.row rfl) ?_,λ_=>⟨f,rfl,B,(ag.of_grown d).row l ?_⟩,λhx=>(by cases hx),λ_=>?_⟩
 ·intro h;have:=(n.lt bs (by simpa using h)).1;omega
 ·intro h;have:=A f (by simpa using h);omega
 ·obtain⟨C,q,z,_⟩:=i.sl m (by simpa using o);refine⟨C,q,by simpa using z,i,λhx=>(by cases hx)⟩
theorem gg.store(b:gg w T e enc base bs old xs y l8 true false v13 v14 W)(k:bs<base)(l:bs<w.heap.size):gg w T e enc base bs old xs y l8 true true v13 v14 (W.setCell ⟨bs,0,none⟩ v14):=by
 have d:=ag.set W ⟨bs,0,none⟩ v14;refine⟨λhx=>(by cases hx),λhl=>?_,λhx=>(by cases hx),λ_=>?_⟩
 ·obtain⟨j,c,a,g⟩:=b.a8 hl;exact⟨j,c,a,d.row g λhm=>by simp at hm;omega⟩
 ·obtain⟨h,f,c,a,_⟩:=b.a9T rfl;refine⟨h,f,c,a.turn d λi hi he=>?_,λ_=>?_⟩
  ·have:=(a.lt i he).1;simp at hi;omega
  ·have:=(b.row rfl).set 0 v14
   simpa using this
end
end Go.Proofs.YtpkocnpamcchcaaGreatDoor
namespace Go.Proofs.YtpkocnpamcchcaaGreatDoor
open Go.RowKit Go.Zone Go.Shelf Tryz Go.Roa Go.Sym
theorem Dx:dX prog 49 24 1 24:=by
 obtain⟨i,hi,e,a,d⟩:=info_parts (show(prog.info? 24).map (λi=>(i.zero,i.size,i.bytes))=some (some (.slice none 0 0),1,24) from kR);exact⟨i,_,underlying49,hi,e,a,d,rfl,dC,dC⟩
abbrev pz(w:World)(base:Nat)(v:Value)(L:List Ir):Prop:=ah w base 24 1 Ir.cells v L
abbrev qM(w:World)(base:Nat)(v:Value)(L:List Int):Prop:=ah w base 3 1 bM v L
def qv(b gi gq pl ni nq:Nat)(As Am:Option Addr)(d a cs cm:Nat)(ri:Ir)(mi:Int):Nat->Option Value
 | 0=>some (.slice As d cs)
 | 1=>some (.pointer (some ⟨b,0,none⟩))
 | 2=>some (.pointer (some ⟨b,0,none⟩))
 | 3=>some (.pointer (some ⟨b,8,none⟩))
 | 4=>some (.slice (some ⟨gi,0,none⟩) ni ni)
 | 5=>some (.int .i64 pl)
 | 6=>some (.pointer (some ⟨gi,pl,none⟩))
 | 7=>some (.slice ri.A ri.xs.length ri.c)
 | 10=>some (.slice Am a cm)
 | 11=>some (.pointer (some ⟨b,0,none⟩))
 | 12=>some (.pointer (some ⟨b,0,none⟩))
 | 13=>some (.pointer (some ⟨b,9,none⟩))
 | 14=>some (.slice (some ⟨gq,0,none⟩) nq nq)
 | 15=>some (.int .i64 pl)
 | 16=>some (.pointer (some ⟨gq,pl,none⟩))
 | 17=>some (.int .i64 mi)
 | _=>none
theorem Bm{P:Program}(ρ:Operand->Value)(a:Oper)(W W':World)(d x:Operand)(t:TypeId)(e:Value)(f:a.op=.call { callee:=.builtin .append,args:=#[d,x],argTypes:=#[t,t] })(hr:(Builtin.append_ #[t,t] a.type #[ρ d,ρ x]).run P W=.ok e W'):(execOp ρ a).run P W=.ok (.value e) W':=by
 unfold execOp;simp only[f,resolve,invoke,builtin,Sem.run_bind,Sem.run_pure,Result.andThen_ok,List.map_toArray,lG,L3,hr]
theorem KG(ρ:Operand->Value)(a:Oper)(W:World)(x:Operand)(r:Ir)(d:a.op=.buildSlice 49 1 #[(0,x)])(e:ρ x=.slice r.A r.xs.length r.c):(execOp ρ a).run prog W=.ok (.value (.slice (some ⟨W.heap.size,0,none⟩) 1 1)) (W.alloc (.cells r.cells.toArray 24)):=by
 unfold execOp;simp only[d,List.map_toArray,lG,L3,e];go_simp;rfl
theorem KF(ρ:Operand->Value)(a:Oper)(W:World)(x:Operand)(n:Int)(d:a.op=.buildSlice 24 1 #[(0,x)])(e:ρ x=.int .i64 n):(execOp ρ a).run prog W=.ok (.value (.slice (some ⟨W.heap.size,0,none⟩) 1 1)) (W.alloc (.cells (bM n).toArray 3)):=by
 unfold execOp;simp only[d,List.map_toArray,lG,L3,e];go_simp;rfl
structure fg(w:World)(b bx bs bm gi gq base pl ni nq:Nat)(SP:List Ir)(MY:List Int)(As Am:Option Addr)(cs cm:Nat)(ri:Ir)(mi:Int)(L:Nat->Bool)(c:Act)(W:World):Prop where
 df:c.defers=[]
 sz:c.tmps.size=25
 lo0:c.tmps.getD 0 undef=.int .i64 pl
 lo1:c.tmps.getD 1 undef=.pointer (some ⟨bs,0,none⟩)
 lo2:c.tmps.getD 2 undef=.pointer (some ⟨bx,0,none⟩)
 lo3:c.tmps.getD 3 undef=.pointer (some ⟨bm,0,none⟩)
 q:∀i:Nat,L i=true->∀v,qv b gi gq pl ni nq As Am SP.length MY.length cs cm ri mi i=some v->c.tmps.getD (i+5) undef=v
 tn:ag w W (bs::bm::((Value.slice As SP.length cs).ownBlock.toList++(Value.slice Am MY.length cm).ownBlock.toList))
 x20:L 20=true->L 19=true
 x21:L 21=true->L 20=true
 x19:L 19=true->L 9=true/\L 18=true
 x9:L 9=true->L 8=true
 y9:L 9=true->L 0=true
 y19:L 19=true->L 10=true
 ha:gg w 49 24 Ir.cells base bs (.slice As SP.length cs) SP ri (L 8) (L 9) (L 20) (c.tmps.getD 13 undef) (c.tmps.getD 14 undef) W
 hb:gg w 24 3 bM base bm (.slice Am MY.length cm) MY mi (L 18) (L 19) (L 21) (c.tmps.getD 23 undef) (c.tmps.getD 24 undef) W
section
variable {w W:World} {b bx bs bm gi gq base pl ni nq:Nat} {SP:List Ir} {MY:List Int} {As Am:Option Addr} {cs cm:Nat} {ri:Ir} {mi:Int} {Lk:Nat->Bool} {c:Act}
theorem kM(c:Act)(i:Nat)(v:Value)(t:Nat)(h:t≠i+5):(c.put (some (i+5)) v).tmps.getD t undef=c.tmps.getD t undef:=dx c (i+5) v t (Ne.symm h)
theorem fg.quiet(a:fg w b bx bs bm gi gq base pl ni nq SP MY As Am cs cm ri mi Lk c W){i:Nat}{v:Value}(g:qv b gi gq pl ni nq As Am SP.length MY.length cs cm ri mi i=some v)(hi:i<18)(h:i≠8)(f:i≠9):fg w b bx bs bm gi gq base pl ni nq SP MY As Am cs cm ri mi (λk=>if i=k then true else Lk k) (c.put (some (i+5)) v) W:=by
 have e:∀k:Nat,i≠k->(if i=k then true else Lk k)=Lk k:=λk hk=>if_neg hk;refine⟨(jc _ _ _).trans a.df,(fN _ _ _).trans a.sz,(kM _ _ _ _ oM).trans a.lo0,(kM _ _ _ _ oM).trans a.lo1,(kM _ _ _ _ oM).trans a.lo2,(kM _ _ _ _ oM).trans a.lo3,λk hk u hu=>?_,a.tn,?_,?_,?_,?_,?_,?_,?_,?_⟩
 ·by_cases d:i=k
  ·subst d;rw[nF _ _ _ (by rw[a.sz];omega)];exact ls (g.symm.trans hu)
  ·rw[kM _ _ _ _ oM];exact a.q k (by rw[e k d]at hk;exact hk) u hu
 all_goals simp only[e 8 h,e 9 f,e 18 oM,e 19 oM,e 20 oM,e 21 oM]
 ·exact a.x20
 ·exact a.x21
 ·exact a.x19
 ·exact a.x9
 ·exact λhk=>by split;rfl;exact a.y9 hk
 ·exact λhk=>by split;rfl;exact a.y19 hk
 ·rw[kM _ _ _ 13 oM,kM _ _ _ 14 oM];exact a.ha
 ·rw[kM _ _ _ 23 oM,kM _ _ _ 24 oM];exact a.hb
theorem fg.made8(a:fg w b bx bs bm gi gq base pl ni nq SP MY As Am cs cm ri mi Lk c W):fg w b bx bs bm gi gq base pl ni nq SP MY As Am cs cm ri mi (λk=>if 8=k then true else Lk k) (c.put (some 13) (.slice (some ⟨W.heap.size,0,none⟩) 1 1)) (W.alloc (.cells ri.cells.toArray 24)):=by
 refine⟨(jc _ _ _).trans a.df,(fN _ _ _).trans a.sz,(dx _ _ _ _ dC).trans a.lo0,(dx _ _ _ _ dC).trans a.lo1,(dx _ _ _ _ dC).trans a.lo2,(dx _ _ _ _ dC).trans a.lo3,λk hk u hu=>?_,a.tn.trans (ag.keep ((aa.refl W).alloc _) _),a.x20,a.x21,a.x19,λ_=>rfl,a.y9,a.y19,?_,?_⟩
 ·by_cases d:8=k
  ·subst d;cases hu
  ·rw[if_neg d]at hk;rw[dx _ _ _ _ oM];exact a.q k hk u hu
 ·rw[nF _ _ _ (by rw[a.sz];decide),dx _ _ _ _ dC];exact a.ha.made a.tn.size
 ·rw[dx _ _ _ _ dC,dx _ _ _ _ dC];exact a.hb.keep ((aa.refl W).alloc _)
theorem fg.made18(a:fg w b bx bs bm gi gq base pl ni nq SP MY As Am cs cm ri mi Lk c W):fg w b bx bs bm gi gq base pl ni nq SP MY As Am cs cm ri mi (λk=>if 18=k then true else Lk k) (c.put (some 23) (.slice (some ⟨W.heap.size,0,none⟩) 1 1)) (W.alloc (.cells (bM mi).toArray 3)):=by
 refine⟨(jc _ _ _).trans a.df,(fN _ _ _).trans a.sz,(dx _ _ _ _ dC).trans a.lo0,(dx _ _ _ _ dC).trans a.lo1,(dx _ _ _ _ dC).trans a.lo2,(dx _ _ _ _ dC).trans a.lo3,λk hk u hu=>?_,a.tn.trans (ag.keep ((aa.refl W).alloc _) _),a.x20,a.x21,λhk=>⟨(a.x19 hk).1,rfl⟩,a.x9,a.y9,a.y19,?_,?_⟩
 ·by_cases d:18=k
  ·subst d;cases hu
  ·rw[if_neg d]at hk;rw[dx _ _ _ _ oM];exact a.q k hk u hu
 ·rw[dx _ _ _ _ dC,dx _ _ _ _ dC];exact a.ha.keep ((aa.refl W).alloc _)
 ·rw[nF _ _ _ (by rw[a.sz];decide),dx _ _ _ _ dC];exact a.hb.made a.tn.size
theorem fg.app9(a:fg w b bx bs bm gi gq base pl ni nq SP MY As Am cs cm ri mi Lk c W)(m:Lk 0=true)(h:Lk 8=true)(g:Lk 9=false)(s:bs<base/\bm<base)(z:base<=w.heap.size)(y:SP.length<=100)(n:∀j,(Value.slice As SP.length cs).ownBlock=some j->j<w.heap.size)(ty:TypeId) :
 ∃e W',(Builtin.append_ #[49,49] ty #[c.tmps.getD 5 undef,c.tmps.getD 13 undef]).run prog W=.ok e W'/\fg w b bx bs bm gi gq base pl ni nq SP MY As Am cs cm ri mi (λk=>if 9=k then true else Lk k) (c.put (some 14) e) W':=by
 have o:Lk 19=false:=by
  cases hx:Lk 19 with
  | false=>rfl
  | true=>rw[(a.x19 hx).1]at g;cases g
 have f:Lk 20=false:=by
  cases hx:Lk 20 with
  | false=>rfl
  | true=>rw[a.x20 hx]at o;cases o
 have A:Lk 21=false:=by
  cases hx:Lk 21 with
  | false=>rfl
  | true=>rw[a.x21 hx]at f;cases f
 have d:=a.ha;rw[h,g,f]at d;have x:=a.tn.size;rw[a.q 0 m _ rfl];obtain⟨e,W',r,p,t⟩:=d.app Dx mI sH ty oM oM oM s.1 n;refine⟨e,W',r,(jc _ _ _).trans a.df,(fN _ _ _).trans a.sz,(dx _ _ _ _ dC).trans a.lo0,(dx _ _ _ _ dC).trans a.lo1,(dx _ _ _ _ dC).trans a.lo2,(dx _ _ _ _ dC).trans a.lo3,λk hk u hu=>?_,a.tn.trans ((ag.of_grown p).mono λi hi=>.inl (by simp only[ln,lx];exact .inr (.inr (.inl hi)))),a.x20,a.x21,λhk=>⟨rfl,(a.x19 hk).2⟩,λ_=>h,λ_=>m,a.y19,?_,?_⟩
 ·by_cases l:9=k
  ·subst l;cases hu
  ·rw[if_neg l]at hk;rw[dx _ _ _ _ oM];exact a.q k hk u hu
 ·rw[nF _ _ _ (by rw[a.sz];decide),dx _ _ _ _ dC]
  simpa[h,f]using t
 ·rw[dx _ _ _ _ dC,dx _ _ _ _ dC];refine a.hb.turn (ag.of_grown p) (λhm=>?_) (λi hi=>n i (by simpa using hi)) λv ys hv i hi=>cN (d.a9F rfl) hv dC i (by simpa using hi);have:=((d.a9F rfl).lt bm (by simpa using hm)).1;omega
theorem fg.app19(a:fg w b bx bs bm gi gq base pl ni nq SP MY As Am cs cm ri mi Lk c W)(m:Lk 10=true)(f:Lk 18=true)(s:Lk 9=true)(g:Lk 19=false)(t:bs<base/\bm<base)(A:base<=w.heap.size)(z:MY.length<=100)(o:∀j,(Value.slice Am MY.length cm).ownBlock=some j->j<w.heap.size)(ty:TypeId) :
 ∃e W',(Builtin.append_ #[24,24] ty #[c.tmps.getD 15 undef,c.tmps.getD 23 undef]).run prog W=.ok e W'/\fg w b bx bs bm gi gq base pl ni nq SP MY As Am cs cm ri mi (λk=>if 19=k then true else Lk k) (c.put (some 24) e) W':=by
 have l:Lk 20=false:=by
  cases hx:Lk 20 with
  | false=>rfl
  | true=>rw[a.x20 hx]at g;cases g
 have n:Lk 21=false:=by
  cases hx:Lk 21 with
  | false=>rfl
  | true=>rw[a.x21 hx]at l;cases l
 have d:=a.hb;rw[f,g,n]at d;have y:=a.tn.size;rw[a.q 10 m _ rfl];obtain⟨e,W',r,p,x⟩:=d.app nP ea vY ty oM oM oM t.2 o;refine⟨e,W',r,(jc _ _ _).trans a.df,(fN _ _ _).trans a.sz,(dx _ _ _ _ dC).trans a.lo0,(dx _ _ _ _ dC).trans a.lo1,(dx _ _ _ _ dC).trans a.lo2,(dx _ _ _ _ dC).trans a.lo3,λk hk u hu=>?_,a.tn.trans ((ag.of_grown p).mono λi hi=>.inl (by simp only[ln,lx];exact .inr (.inr (.inr hi)))),λ_=>rfl,a.x21,λ_=>⟨s,f⟩,a.x9,a.y9,λ_=>m,?_,?_⟩
 ·by_cases h:19=k
  ·subst h;cases hu
  ·rw[if_neg h]at hk;rw[dx _ _ _ _ oM];exact a.q k hk u hu
 ·rw[dx _ _ _ _ dC,dx _ _ _ _ dC];refine a.ha.turn (ag.of_grown p) (λhm=>?_) (λi hi=>o i (by simpa using hi)) λv ys hv i hi=>cN (d.a9F rfl) hv dC i (by simpa using hi);have:=((d.a9F rfl).lt bs (by simpa using hm)).1;omega
 ·rw[nF _ _ _ (by rw[a.sz];decide),dx _ _ _ _ dC]
  simpa[f,n]using x
theorem fg.store20(a:fg w b bx bs bm gi gq base pl ni nq SP MY As Am cs cm ri mi Lk c W)(f:Lk 19=true)(h:Lk 20=false)(j:bs<base/\bm<base)(m:base<=w.heap.size)(l:bs≠bm):fg w b bx bs bm gi gq base pl ni nq SP MY As Am cs cm ri mi (λk=>if 20=k then true else Lk k) c (W.setCell ⟨bs,0,none⟩ (c.tmps.getD 14 undef)):=by
 have e:=(a.x19 f).1;have g:=a.ha;rw[e,h]at g;refine⟨a.df,a.sz,a.lo0,a.lo1,a.lo2,a.lo3,λk hk u hu=>?_,a.tn.trans ((ag.set W _ _).mono λi hi=>.inl (by simp only[lm]at hi;simp[hi])),λ_=>f,λ_=>rfl,a.x19,a.x9,a.y9,a.y19,?_,?_⟩
 ·by_cases d:20=k
  ·subst d;cases hu
  ·rw[if_neg d]at hk;exact a.q k hk u hu
 ·have:=g.store j.1 oM
  simpa[e]using this
 ·refine a.hb.turn (ag.set W _ _) (by simpa using Ne.symm l) (λi hi=>by simp only[lm]at hi;omega) λv ys hv i hi he=>?_;have:=(hv.lt i he).1;simp only[lm]at hi;omega
theorem fg.store21(a:fg w b bx bs bm gi gq base pl ni nq SP MY As Am cs cm ri mi Lk c W)(d:Lk 20=true)(h:Lk 21=false)(j:bs<base/\bm<base)(m:base<=w.heap.size)(l:bs≠bm):fg w b bx bs bm gi gq base pl ni nq SP MY As Am cs cm ri mi (λk=>if 21=k then true else Lk k) c (W.setCell ⟨bm,0,none⟩ (c.tmps.getD 24 undef)):=by
 have f:=a.x20 d;have g:=a.hb;rw[f,h]at g;refine⟨a.df,a.sz,a.lo0,a.lo1,a.lo2,a.lo3,λk hk u hu=>?_,a.tn.trans ((ag.set W _ _).mono λi hi=>.inl (by simp only[lm]at hi;simp[hi])),a.x20,λ_=>d,a.x19,a.x9,a.y9,a.y19,?_,?_⟩
 ·by_cases e:21=k
  ·subst e;cases hu
  ·rw[if_neg e]at hk;exact a.q k hk u hu
 ·refine a.ha.turn (ag.set W _ _) (by simpa using l) (λi hi=>by simp only[lm]at hi;omega) λv ys hv i hi he=>?_;have:=(hv.lt i he).1;simp only[lm]at hi;omega
 ·have:=g.store j.2 oM
  simpa[f]using this
end
theorem add_any{aL s0 v r p f R h aK:Value}(b bx bs bm gi gq base pl ni nq:Nat)(SP:List Ir)(MY:List Int)(As Am:Option Addr)(cs cm:Nat)(ri:Ir)(mi:Int)(vi a3:List Value)(w:World)
 (G:ak w b 77 (fG aL s0 v r p f R h (.slice (some ⟨gi,0,none⟩) ni ni) (.slice (some ⟨gq,0,none⟩) nq nq) aK)) (C:w.cell? ⟨bx,0,none⟩=some (.pointer (some ⟨b,0,none⟩)))
 (x:ak w bs 49 [.slice As SP.length cs]) (y:ak w bm 24 [.slice Am MY.length cm]) (O:ak w gi 24 vi) (I:ak w gq 3 a3) (b8:pl<ni) (b0:pl<nq) (al:vi[pl]? =some (.slice ri.A ri.xs.length ri.c)) (ab:a3[pl]? =some (.int .i64 mi))
 (K:pz w base (.slice As SP.length cs) SP) (M:qM w base (.slice Am MY.length cm) MY) (s:bs<base/\bm<base/\bx<base/\b<base/\gi<base/\gq<base) (L:base<=w.heap.size) (aG:SP.length<=100) (aM:MY.length<=100) (aj:bs≠bm) (aJ:gi≠bm) :
 Calls prog 35 #[.int .i64 pl,.pointer (some ⟨bs,0,none⟩),.pointer (some ⟨bx,0,none⟩),.pointer (some ⟨bm,0,none⟩)] w λe w'=>e=.returned (.tuple #[])/\∃F D N Q,ak w' bs 49 [.slice F (SP.length+1) D]/\ak w' bm 24 [.slice N (MY.length+1) Q]/\pz w' base (.slice F (SP.length+1) D) (SP++[ri])/\qM w' base (.slice N (MY.length+1) Q) (MY++[mi])/\ag w w' (bs::bm::((Value.slice As SP.length cs).ownBlock.toList++(Value.slice Am MY.length cm).ownBlock.toList)):=by
 have a7:=G.cell 8 _ rfl;have a2:=G.cell 9 _ rfl;have z0:=x.cell 0 _ rfl;have aq:=y.cell 0 _ rfl;have ap:=O.cell pl _ al;have a9:=I.cell pl _ ab;have U:=x.soft 0;have aI:=y.soft 0;have b1:=G.lt;have b3:=x.lt;have b5:=y.lt;have b4:=O.lt;have aV:=I.lt;have aS:=block_lt_of_cell C;simp only at aS;go_enter func35,ntmps35;go_upto_region 0 with fail;refine ET kR kR (λu c W=>fg w b bx bs bm gi gq base pl ni nq SP MY As Am cs cm ri mi (λk=>u.getD k false) c W) ?h0 ?hstep ?hend
 case h0 =>
  have z:∀k,(Array.replicate (22:Nat) false).getD k false=false:=λk=>OK _ k;refine⟨rfl,rfl,rfl,rfl,rfl,rfl,λk hk=>?_,⟨rfl,rfl,rfl,lc _,λ_ _ _=>rfl⟩,λhk=>?_,λhk=>?_,λhk=>?_,λhk=>?_,λhk=>?_,λhk=>?_,⟨λ_=>x,λhk=>?_,λ_=>K,λhk=>?_⟩,⟨λ_=>y,λhk=>?_,λ_=>M,λhk=>?_⟩⟩
  all_goals (exfalso;exact Bool.noConfusion ((z _).symm.trans hk))
 case hend =>
  intro u c W m V aE;have P:∀k,k<22->(λk=>u.getD k false) k=true:=λk hk=>aE k hk;obtain⟨F,D,B,a0,aA⟩:=m.ha.a9T (P 9 dC);obtain⟨N,Q,ay,ad,av⟩:=m.hb.a9T (P 19 dC);have ah:=aA (P 20 dC);have a1:=av (P 21 dC);rw[B]at a0 ah;rw[ay]at ad a1;have ae:=m.df;obtain⟨aW,aY⟩:=c;simp only at ae;subst ae;exact bodyPost_end (v:=.tuple #[]) (by simp[results,results35,go_sem]) rfl ⟨rfl,F,D,N,Q,ah,a1,a0,ad,m.tn⟩
 case hstep =>
  intro u c W m V i h l ac d;have aa:(λk=>(u.setIfInBounds i true).getD k false)=λk=>if i=k then true else u.getD k false:=funext λk=>Da (by rw[V];exact(La.1 l).1)
  simp only[aa];have hi:i<22:=(La.1 l).1;generalize X:(λk=>u.getD k false)=Lk at m;have t:Lk i=false:=by rw[<-X];exact ac
  have ao:∀k,u.getD k false=Lk k:=λk=>by rw[<-X]
  simp only[ao]at d|-;clear X aa ac ao V;have a:=lh m;have o:=m.q;have a6:=m.lo0;have af:=m.lo1;have ai:=m.lo2;have a4:=m.lo3;have aQ:∀j,(Value.slice As SP.length cs).ownBlock=some j->j<w.heap.size:=λj hj=>(K.lt j hj).2;have az:∀j,(Value.slice Am MY.length cm).ownBlock=some j->j<w.heap.size:=λj hj=>(M.lt j hj).2;have aw:∀{g:Nat} {T:TypeId} {vs:List Value},ak w g T vs->g<base->g≠bs->g≠bm->ak W g T vs:=λ{g T vs} z hg h1 h2=>m.tn.row z λhm=>by
   simp only[ln,lx]at hm
   rcases hm with e|e|e|e
   ·exact h1 e
   ·exact h2 e
   ·have:=(K.lt g (by simpa using e)).1;omega
   ·have:=(M.lt g (by simpa using e)).1;omega
  have E:∀{g:Nat} (j:Nat),g<base->g≠bs->g≠bm->W.cell? ⟨g,j,none⟩=w.cell? ⟨g,j,none⟩:=λ{g} j hg h1 h2=>by
   have au:=m.tn.block g oM λhm=>by
    simp only[ln,lx]at hm
    rcases hm with e|e|e|e
    ·exact h1 e
    ·exact h2 e
    ·have:=(K.lt g (by simpa using e)).1;omega
    ·have:=(M.lt g (by simpa using e)).1;omega
   unfold World.cell?;simp only[au]
  have a5:b≠bs:=row_ne G x dC;have Z:b≠bm:=row_ne G y dC;have ax:gi≠bs:=row_ne O x dC;have aB:gq≠bs:=row_ne I x dC;have aC:gq≠bm:=row_ne I y dC;have aP:bx≠bs:=λe=>by subst e;rw[z0]at C;cases C
  have aR:bx≠bm:=λe=>by subst e;rw[aq]at C;cases C
  have b2:W.cell? ⟨bx,0,none⟩=_:=(E 0 s.2.2.1 aP aR).trans C;have b7:W.cell? ⟨b,8,none⟩=_:=(E 8 s.2.2.2.1 a5 Z).trans a7;have aZ:W.cell? ⟨b,9,none⟩=_:=(E 9 s.2.2.2.1 a5 Z).trans a2;have b6:W.cell? ⟨gi,pl,none⟩=_:=(E pl s.2.2.2.2.1 ax aJ).trans ap;have aX:W.cell? ⟨gq,pl,none⟩=_:=(E pl s.2.2.2.2.2 aB aC).trans a9;have a8:Lk 20=false->W.cell? ⟨bs,0,none⟩=some (.slice As SP.length cs):=λhk=>(m.ha.row hk).cell 0 _ rfl;have ar:Lk 21=false->W.cell? ⟨bm,0,none⟩=some (.slice Am MY.length cm):=λhk=>(m.hb.row hk).cell 0 _ rfl;have aU:=m.tn.size;clear G C x y O I al ab aw E a7 a2 z0 aq ap a9 U aI
  match i,hi with
  | 0,_ =>
    obtain rfl:=ls (show some _=some h from l);have aT:Lk 20=false:=by
     cases hx:Lk 20 with
     | false=>rfl
     | true=>exact absurd (a.o.y9 (a.o.x19 (a.o.x20 hx)).1) (by rw[t];decide)
    have S:=a8 aT;refine⟨by rfl,.inl ⟨_,W,?_,a.o.quiet (i:=0) rfl dC dC dC⟩⟩;unfold execOp;simp only[Act.eval,af];go_simp
  | 1,_ =>
    obtain rfl:=ls (show some _=some h from l);refine⟨by rfl,.inl ⟨_,W,?_,a.o.quiet (i:=1) rfl dC dC dC⟩⟩;unfold execOp;simp only[Act.eval,ai];go_simp
  | 2,_ =>
    obtain rfl:=ls (show some _=some h from l);have s1:=o 1 (d ⟨1,.data⟩ sP rfl) _ rfl;refine⟨by rfl,.inl ⟨_,W,?_,a.o.quiet (i:=2) rfl dC dC dC⟩⟩;unfold execOp;simp only[Act.eval,s1];go_simp
  | 3,_ =>
    obtain rfl:=ls (show some _=some h from l);have s2:=o 2 (d ⟨2,.data⟩ sP rfl) _ rfl;refine⟨by rfl,.inl ⟨_,W,?_,a.o.quiet (i:=3) rfl dC dC dC⟩⟩;unfold execOp;simp only[Act.eval,s2];go_simp
  | 4,_ =>
    obtain rfl:=ls (show some _=some h from l);have s3:=o 3 (d ⟨3,.data⟩ sP rfl) _ rfl;refine⟨by rfl,.inl ⟨_,W,?_,a.o.quiet (i:=4) rfl dC dC dC⟩⟩;unfold execOp;simp only[Act.eval,s3];go_simp
  | 5,_ =>
    obtain rfl:=ls (show some _=some h from l);refine⟨by rfl,.inl ⟨_,W,?_,a.o.quiet (i:=5) rfl dC dC dC⟩⟩;unfold execOp;simp only[Act.eval,a6];go_simp
  | 6,_ =>
    obtain rfl:=ls (show some _=some h from l);have s4:=o 4 (d ⟨4,.data⟩ sP rfl) _ rfl;have s5:=o 5 (d ⟨5,.data⟩ sP rfl) _ rfl;refine⟨by rfl,.inl ⟨_,W,?_,a.o.quiet (i:=6) rfl dC dC dC⟩⟩;unfold execOp;simp only[Act.eval,s4,s5];go_simp
  | 7,_ =>
    obtain rfl:=ls (show some _=some h from l);have aH:=o 6 (d ⟨6,.data⟩ sP rfl) _ rfl;refine⟨by rfl,.inl ⟨_,W,?_,a.o.quiet (i:=7) rfl dC dC dC⟩⟩;unfold execOp;simp only[Act.eval,aH];go_simp
  | 8,_ =>
    obtain rfl:=ls (show some _=some h from l);have s7:=o 7 (d ⟨7,.data⟩ sP rfl) _ rfl;exact⟨by rfl,.inl ⟨_,_,KG _ _ W (.tmp 12) ri rfl s7,a.o.made8⟩⟩
  | 9,_ =>
    obtain rfl:=ls (show some _=some h from l);obtain⟨J,W',z,Y⟩:=a.o.app9 (d ⟨0,.data⟩ sP rfl) (d ⟨8,.data⟩ sP rfl) t ⟨s.1,s.2.1⟩ L aG aQ 49;exact⟨by rfl,.inl ⟨J,W',Bm _ _ W W' (.tmp 5) (.tmp 13) _ J rfl z,Y⟩⟩
  | 10,_ =>
    obtain rfl:=ls (show some _=some h from l);have aD:Lk 21=false:=by
     cases hx:Lk 21 with
     | false=>rfl
     | true=>exact absurd (a.o.y19 (a.o.x20 (a.o.x21 hx))) (by rw[t];decide)
    have S:=ar aD;refine⟨by rfl,.inl ⟨_,W,?_,a.o.quiet (i:=10) rfl dC dC dC⟩⟩;unfold execOp;simp only[Act.eval,a4];go_simp
  | 11,_ =>
    obtain rfl:=ls (show some _=some h from l);refine⟨by rfl,.inl ⟨_,W,?_,a.o.quiet (i:=11) rfl dC dC dC⟩⟩;unfold execOp;simp only[Act.eval,ai];go_simp
  | 12,_ =>
    obtain rfl:=ls (show some _=some h from l);have s11:=o 11 (d ⟨11,.data⟩ sP rfl) _ rfl;refine⟨by rfl,.inl ⟨_,W,?_,a.o.quiet (i:=12) rfl dC dC dC⟩⟩;unfold execOp;simp only[Act.eval,s11];go_simp
  | 13,_ =>
    obtain rfl:=ls (show some _=some h from l);have s12:=o 12 (d ⟨12,.data⟩ sP rfl) _ rfl;refine⟨by rfl,.inl ⟨_,W,?_,a.o.quiet (i:=13) rfl dC dC dC⟩⟩;unfold execOp;simp only[Act.eval,s12];go_simp
  | 14,_ =>
    obtain rfl:=ls (show some _=some h from l);have aF:=o 13 (d ⟨13,.data⟩ sP rfl) _ rfl;refine⟨by rfl,.inl ⟨_,W,?_,a.o.quiet (i:=14) rfl dC dC dC⟩⟩;unfold execOp;simp only[Act.eval,aF];go_simp
  | 15,_ =>
    obtain rfl:=ls (show some _=some h from l);refine⟨by rfl,.inl ⟨_,W,?_,a.o.quiet (i:=15) rfl dC dC dC⟩⟩;unfold execOp;simp only[Act.eval,a6];go_simp
  | 16,_ =>
    obtain rfl:=ls (show some _=some h from l);have s14:=o 14 (d ⟨14,.data⟩ sP rfl) _ rfl;have s15:=o 15 (d ⟨15,.data⟩ sP rfl) _ rfl;refine⟨by rfl,.inl ⟨_,W,?_,a.o.quiet (i:=16) rfl dC dC dC⟩⟩;unfold execOp;simp only[Act.eval,s14,s15];go_simp
  | 17,_ =>
    obtain rfl:=ls (show some _=some h from l);have aN:=o 16 (d ⟨16,.data⟩ sP rfl) _ rfl;refine⟨by rfl,.inl ⟨_,W,?_,a.o.quiet (i:=17) rfl dC dC dC⟩⟩;unfold execOp;simp only[Act.eval,aN];go_simp
  | 18,_ =>
    obtain rfl:=ls (show some _=some h from l);have aO:=o 17 (d ⟨17,.data⟩ sP rfl) _ rfl;exact⟨by rfl,.inl ⟨_,_,KF _ _ W (.tmp 22) mi rfl aO,a.o.made18⟩⟩
  | 19,_ =>
    obtain rfl:=ls (show some _=some h from l);obtain⟨J,W',z,Y⟩:=a.o.app19 (d ⟨10,.data⟩ sP rfl) (d ⟨18,.data⟩ sP rfl) (d ⟨9,.chain⟩ sP rfl) t ⟨s.1,s.2.1⟩ L aM az 24;exact⟨by rfl,.inl ⟨J,W',Bm _ _ W W' (.tmp 15) (.tmp 23) _ J rfl z,Y⟩⟩
  | 20,_ =>
    obtain rfl:=ls (show some _=some h from l);have S:=a8 t;have U:W.frozen? ⟨bs,0,none⟩=false:=(a.o.ha.row t).soft 0;obtain⟨F,D,B,_⟩:=a.o.ha.a9T (d ⟨9,.data⟩ sP rfl);have H:=a.o.store20 (d ⟨19,.chain⟩ sP rfl) t ⟨s.1,s.2.1⟩ L aj;rw[B]at H;refine⟨by rfl,.inr ⟨_,?_,H⟩⟩;unfold execOp;simp only[Act.eval,af,B];go_simp
  | 21,_ =>
    obtain rfl:=ls (show some _=some h from l);have S:=ar t;have U:W.frozen? ⟨bm,0,none⟩=false:=(a.o.hb.row t).soft 0;obtain⟨F,D,B,_⟩:=a.o.hb.a9T (d ⟨19,.data⟩ sP rfl);have H:=a.o.store21 (d ⟨20,.chain⟩ sP rfl) t ⟨s.1,s.2.1⟩ L aj;rw[B]at H;refine⟨by rfl,.inr ⟨_,?_,H⟩⟩;unfold execOp;simp only[Act.eval,a4,B];go_simp
  | n+22,hn=>exact absurd hn oM
open Go.Star
def kS(xs:List Int):Ir:=⟨none,0,xs⟩
def iu(c:bw)(rows:List (List ai)):List (List Int):=c.split.map λp=>(bF (bD rows p.toNat)).map λx:Nat=>(x:Int)
def f5(c:bw)(rows:List (List ai)):List Int:=c.split.map λp=>((aQ (bD rows p.toNat)).length:Int)
def iJ(cs:List aG)(c:bw)(rows:List (List ai)):List UInt8 :=
 let rs:=bN (bV ((iu c rows).map kS) ((fa cs rows cs.length).map kS) rows.length)
 ju c.split.length (fa cs rows cs.length).length (bC c.leaf.toNat c.split.length 0 0 rs.length false rs 0).1 (bC c.leaf.toNat c.split.length 0 0 rs.length false rs 0).2
def dq(cs:List aG)(c:bw)(rows:List (List ai)):List (ByteArray×List UInt8) :=
 [(⟨#[115,99,104,101,109,97]⟩,gV cs c),(⟨#[114,111,119,115]⟩,le rows.length 4)]++(List.range cs.length).flatMap (fD cs c rows)++(if c.split=[] then [] else [(⟨#[115,116,97,114]⟩,iJ cs c rows)])
theorem CC(l:List (List Int)):(l.map kS).map (λr=>r.xs)=l:=by
 rw[List.map_map];exact List.map_id'' (λ_=>rfl) l
theorem G6{sp a mt d:List Ir}(f:sp.map (λr=>r.xs)=a.map λr=>r.xs)(g:mt.map (λr=>r.xs)=d.map λr=>r.xs)(R:Nat):bV sp mt R=bV a d R:=by
 have j:sp.length=a.length:=by simpa using congrArg List.length f
 have e:∀i:Nat,eH sp mt i=eH a d i:=λi=>by
  have h:(sp.take sp.length).map (λr=>r.xs.getD i 0)=(a.take a.length).map λr=>r.xs.getD i 0:=by
   have:=congrArg (List.map λx:List Int=>x.getD i 0) f
   simpa[List.map_map,Function.comp_def]using this
  have k:mt.map (λr=>((r.xs.getD i 0,r.xs.getD i 0,r.xs.getD i 0):Int×Int×Int))=d.map λr=>(r.xs.getD i 0,r.xs.getD i 0,r.xs.getD i 0):=by
   have:=congrArg (List.map λx:List Int=>((x.getD i 0,x.getD i 0,x.getD i 0):Int×Int×Int)) g
   simpa only[List.map_map,Function.comp_def]using this
  unfold eH fk eC;rw[h,j]
  congr 1
 unfold bV;exact List.map_congr_left λi _=>e i
theorem uU{f g:Type}(P:f->g->Prop):∀(l:List f),(∀x∈l,∃y,P x y)->∃e:List g,e.length=l.length/\∀j (d:j<l.length) (m:j<e.length),P l[j] e[j]
 | [],_=>⟨[],rfl,λj d=>absurd d (lI _)⟩
 | a::l,d=>by
   obtain⟨y,i⟩:=d a sP;obtain⟨e,k,h⟩:=uU P l λx hx=>d x (by simp[hx]);refine⟨y::e,by simp[k],λj hj hj'=>?_⟩
   cases j with
   | zero=>exact i
   | succ j=>exact h j (by simpa using hj) (by simpa using hj')
theorem Cf(x:Star.SN):∀ns:List Star.SN,x∈ns->8*x.kids.length<=Star.wN ns
 | y::r,h=>by
   rw[pG]
   rcases ln.1 h with e|e
   ·subst e;omega
   ·have:=Cf x r e;omega
theorem C4(leaf k:Nat)(e:1<=leaf)(j:k<=8)(a:List Star.SR)(l:a.length<=64):∀x∈(bC leaf k 0 0 a.length false a 0).2,x.kids.length<=100000:=λx hx=>by
 have d:=sS leaf 0 0 e k 0 0 a.length a 0 (lj _) (lc _);have h:=d.wt;have f:=rm k;have g:(k+1)*(k+1)<=9*9:=Ln oM oM;have i:(a.length-0)*iZ k<=64*81:=Ln oM oM;have:=Cf x _ hx;omega
theorem LN{w:World}{c:Nat}{A:Option Addr}{xs:List Nat}(a:Sl w 1 dD A c xs):Sl w 1 bM A c (xs.map λx:Nat=>(x:Int)) :=
 ⟨by simpa using a.cap,a.big,by simpa using a.len,λi hi=>by
  obtain⟨b,d,e,f⟩:=a.at_ i (by simpa using hi);refine⟨b,d,e,λj u hu=>f j u ?_⟩;rw[Lj]at hu;exact hu⟩
section
variable {W:World} {base b gi gq nc:Nat} {mk:Value->Value->List Value} {cs:List aG} {c:bw} {rows:List (List ai)} {S0:List (ByteArray×List UInt8)} {o M:Value} {S:List bI} {MT:List Ir} {vi vq:List Value}
theorem gh.split(v:gh W base b gi gq nc mk cs c rows S0 nc o M S MT vi vq)(P:nc=cs.length)(z:Fits cs c)(i:rows.length<=64)(F:c.split≠[]) :
 ∃d:List Ir,d.length=c.split.length/\(∀j (v:j<c.split.length) (Q:j<d.length),∃p:Nat,c.split[j]=(p:Int)/\p<nc/\vi[p]? =some (.slice d[j].A d[j].xs.length d[j].c)/\vq[p]? =some (.int .i64 ((aQ (bD rows p)).length:Int))/\(f5 c rows)[j]? =some ((aQ (bD rows p)).length:Int)) /\
   ge W d/\d.map (λr=>r.xs)=iu c rows/\tM d (f5 c rows) rows.length:=by
 have t:∀p:Nat,(bD rows p).length=rows.length:=λp=>by simp[bD]
 obtain⟨d,n,h⟩:=uU (λ(x:Int) (r:Ir)=>∃p:Nat,x=(p:Int)/\p<nc/\vi[p]? =some (.slice r.A r.xs.length r.c)/\vq[p]? =some (.int .i64 ((aQ (bD rows p)).length:Int))/\Sl W 1 bM r.A r.c r.xs/\r.xs=(bF (bD rows p)).map λx:Nat=>(x:Int)) c.split λx hx=>by
  obtain⟨j,a,rfl⟩:=lU hx;have s:=z.split j a;obtain⟨I,l⟩:=nR s;obtain⟨p,w⟩:=Int.eq_ofNat_of_zero_le I;rw[w]at s;have B:p<nc:=oM;obtain⟨g,G,f,q,m⟩:=v.dims p B s;have K:(bF (bD rows p)).length=rows.length:=by rw[<-t p];simp[bF]
  obtain⟨R,O,e,D⟩:=q.sl mE oM;injection e with e1 k e3;subst e1;subst e3;exact⟨⟨some ⟨g,0,none⟩,G,(bF (bD rows p)).map λx:Nat=>(x:Int)⟩,p,w,B,by rw[f];simp[K],m,LN D,rfl⟩
 have u:∀j (a:j<c.split.length),(f5 c rows)[j]? =some ((aQ (bD rows (c.split[j]).toNat)).length:Int):=λj a=>by
  unfold f5;rw[lP,lu a];rfl
 have E:d.map (λr=>r.xs)=iu c rows:=by
  apply List.ext_getElem
  ·simp[iu,n]
  ·intro j l f;have a:j<d.length:=(by simpa using l);obtain⟨p,e,_,_,_,_,k⟩:=h j oM a;simp only[Lj,iu,k,e,Lz]
 refine⟨d,n,λj a hj'=>?_,λr i=>?_,E,?_⟩
 ·obtain⟨p,e,l,f,q,_,_⟩:=h j a hj';exact⟨p,e,l,f,q,by rw[u j a,e];rfl⟩
 ·obtain⟨j,a,rfl⟩:=lU i;obtain⟨p,_,_,_,_,m,_⟩:=h j oM a;exact m
 ·have L:=LJ.2 F;have N:=z.few;refine⟨oM,oM,by simp[f5,n],λr i=>?_,λj a f=>?_⟩
  ·obtain⟨j,a,rfl⟩:=lU i;obtain⟨p,_,_,_,_,_,e⟩:=h j oM a;rw[e,ld,bF,ld,t p]
  ·obtain⟨p,e,_,_,_,_,k⟩:=h j oM a;have C:=u j oM;rw[lu f,e,Lz]at C;rw[ls C,k];have H:=jF (bD rows p);rw[t p]at H;refine⟨oM,oM,λx hx=>?_⟩;obtain⟨y,J,rfl⟩:=lW.1 hx;have:=sN _ y J;omega
theorem jZ{a:Type}{w:World}{g n c:Nat}{e:TypeId}{enc:a->List Value}{A:Option Addr}{xs:List a}(d:ah w g e 1 enc (.slice A n c) xs)(i:∀x,(enc x).length=1)(h:xs.length<=140737488355328):Sl w 1 enc A c xs:=by
 obtain⟨k,j,e,f⟩:=d.sl i h;injection e with e1 e2 e3;rw[e1,e3];exact f
theorem BG{cs:List aG}{rows:List (List ai)}{i:Nat}{x:List Int}(h:x∈fa cs rows i):x.length=rows.length:=by
 obtain⟨q,_,e⟩:=lW.1 h;rw[<-e];simp[cC,bD]
theorem gh.sof(f:gh W base b gi gq nc mk cs c rows S0 nc o M S MT vi vq){a:List Ir}{s k j i m leaf:Nat}{l h C:Option Addr}{wr:World}(K:a.length=c.split.length)(G:ge W a)(x:tM a (f5 c rows) rows.length)(O:nc<=256)(d:rows.length<=64)(B:k=c.split.length)
 (g:aa W wr) (D:pz wr s (.slice l k j) a) (H:qM wr s (.slice h k i) (f5 c rows)) (L:c.split.length<=8) (E:1<=leaf) (w:leaf<=1000000) (y:M=.slice C MT.length m) :
 Calls prog 36 #[.slice l k j,.slice h k i,.slice C MT.length m,.int .i64 leaf] wr λe w'=>∃gt vr vn P N,e=.returned (.tuple #[.pointer (some ⟨gt,0,none⟩),.int .i64 0])/\dN w' gt wr.heap.size k MT.length leaf vr vn P N /\
  (P.map λp=>p.2)=(bC leaf k 0 0 (bN (bV a MT rows.length)).length false (bN (bV a MT rows.length)) 0).1/\(N.map λp=>p.2)=(bC leaf k 0 0 (bN (bV a MT rows.length)).length false (bN (bV a MT rows.length)) 0).2/\aa wr w':=by
 have F:(f5 c rows).length=k:=by rw[B];simp[f5]
 have J:a.length=k:=oM;have Q:=f.few.2;have q:∀r∈MT,r.xs.length=rows.length:=λr d=>by
  have I:r.xs∈fa cs rows nc:=by rw[<-f.mx];exact Le d
  exact BG I
 have z:=jZ D mI oM;have A:=jZ H ea oM;have v:=jZ (n:=MT.length) (by rw[<-y];exact f.mt.keep g) mI oM;have u:ge wr MT:=λr d=>jZ (n:=r.xs.length) ((f.mr r d).keep g) ea (by have R:=q r d;omega);have t:=Hn l h C j i m leaf rows.length a MT (f5 c rows) wr z (G.keep g) A v u x oM E w oM q;rw[J,F]at t;exact t
end
theorem pY{P:Program}{ops:Array Oper}{w:World}{o:Oper}{a:Act}{fs:dR}{e:dQ}{d:Tmp}{f:dQ}(h:aC ops o fs=[(d,f)])
 (g:∀p v,f v (w.gro p)->if Region.wanted o (yielded ops (a.put (some d) v).tmps) then av P o (a.put (some d) v) (w.gro p) e else e undef (w.gro p)):au P ops w o a fs e:=λp=>by
 rw[h];exact λv hv=>g p v hv
def qJ(k m leaf:Nat)(ps:List Star.SR)(d:List Star.SN)(a:Nat)(W:World):Prop:=∃lo vr vn P N,dN W a lo k m leaf vr vn P N/\(P.map λp=>p.2)=ps/\(N.map λp=>p.2)=d
theorem qJ.keep{k m leaf:Nat}{ps:List Star.SR}{d:List Star.SN}{a:Nat}{W W':World}(e:qJ k m leaf ps d a W)(i:aa W W'):qJ k m leaf ps d a W':=by
 obtain⟨lo,h,l,P,N,j,f,g⟩:=e;exact⟨lo,h,l,P,N,j.keep i,f,g⟩
def QV(k m leaf:Nat)(ps:List Star.SR)(a:List Star.SN)(u:Value)(W:World):Prop:=∃gt,u=.tuple #[.pointer (some ⟨gt,0,none⟩),.int .i64 0]/\qJ k m leaf ps a gt W
def nV(k m leaf:Nat)(ps:List Star.SR)(a:List Star.SN)(u:Value)(W:World):Prop:=∃gt,u=.pointer (some ⟨gt,0,none⟩)/\qJ k m leaf ps a gt W
theorem QV.mono{k m leaf:Nat}{ps:List Star.SR}{a:List Star.SN}:ku (QV k m leaf ps a):=λ_ _ _ hk ⟨g,h1,h2⟩=>⟨g,h1,h2.keep hk⟩
theorem nV.mono{k m leaf:Nat}{ps:List Star.SR}{a:List Star.SN}:ku (nV k m leaf ps a):=λ_ _ _ hk ⟨g,h1,h2⟩=>⟨g,h1,h2.keep hk⟩
theorem yo{cs:List aG}{c:bw}{rows:List (List ai)}{a MT:List Ir}{leaf R k:Nat}(l:a.map (λr=>r.xs)=iu c rows)(d:MT.map (λr=>r.xs)=fa cs rows cs.length)(f:c.leaf=(leaf:Int))(i:rows.length=R)(j:c.split.length=k) :
 ju k MT.length (bC leaf k 0 0 (bN (bV a MT R)).length false (bN (bV a MT R)) 0).1 (bC leaf k 0 0 (bN (bV a MT R)).length false (bN (bV a MT R)) 0).2=iJ cs c rows:=by
 have e:bV a MT R=bV ((iu c rows).map kS) ((fa cs rows cs.length).map kS) rows.length:=by
  rw[i];exact G6 (by rw[CC];exact l) (by rw[CC];exact d) R
 have g:MT.length=(fa cs rows cs.length).length:=by rw[<-d,ld]
 have h:c.leaf.toNat=leaf:=by rw[f,Lz]
 unfold iJ;rw[e,g,h,j]
theorem qX{a MT:List Ir}{R:Nat}(d:R<=64):(bN (bV a MT R)).length<=64:=by
 have:=ma (bV a MT R);rw[show(bV a MT R).length=R by simp[bV]]at this;omega
end Go.Proofs.YtpkocnpamcchcaaGreatDoor
