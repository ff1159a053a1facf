/- Parts. -/
import Derived.Test.YtpkocnpamcchcaaGreatDoorL41
set_option maxRecDepth 100000
set_option maxHeartbeats 40000000
set_option linter.all false
namespace Go.Zone
open Go.RowKit
section
variable {P:Program} {ops:Array Oper} {md:Region.Mode} {Q:Exit->Act->World->Prop}
theorem EY(t:po md ops=true)(g:Array Bool->Act->World->Prop)
 (E:∀b a w,g b a w->b.size=ops.size->∀i o,ops[i]? =some o->b.getD i false=false->(∀e∈o.after,Region.binds md e=true->b.getD e.on false=true) ->
   Region.wanted o (yielded ops a.tmps)=true/\∀K:Act->World->Prop,(∀u w',g (b.setIfInBounds i true) (a.put o.dst u) w'->K (a.put o.dst u) w')->Oper.wp P o a w K Q)
 (q:∀b a w,g b a w->b.size=ops.size->(∀i,i<ops.size->b.getD i false=true)->Q .normal a w) :
 ∀(f:Nat) (b:Array Bool) (a:Act) (w:World),b.toList.count false=f->b.size=ops.size->g b a w->wpAny P md ops Q f b a w:=by
 intro f
 induction f with
 | zero =>
   intro b a w n c l;have m:∀i,i<ops.size->b.getD i false=true:=λi hi=>by
    have B:i<b.size:=oM;have s:¬(false∈b.toList):=List.count_eq_zero.1 n
    by_cases r:b.getD i false=true
    ·exact r
    ·refine absurd ?_ s;have:b[i]=false:=(by simpa only[LD,LC B,Option.getD_some,Bool.not_eq_true]using r);rw[<-this];simp
   refine⟨?_,q b a w l c m⟩;refine List.eq_nil_iff_forall_not_mem.2 λj hj=>?_;obtain⟨k,o,d,_⟩:=mem_ready.1 hj;have:=m j (La.1 d).1;rw[pf k]at this
   cases this
 | succ f ih =>
   intro b a w n c l;refine⟨λh=>q b a w l c (zL t c h),λi hi=>?_⟩;obtain⟨k,o,d,m⟩:=mem_ready.1 hi;have G:i<ops.size:=(La.1 d).1;have C:i<b.toList.length:=sO;obtain⟨F,D⟩:=E b a w l c i o d (pf k) m;have A:(b.setIfInBounds i true).toList.count false=f:=by
    rw[Array.toList_setIfInBounds,List.count_set C];have p:=pf k;simp only[LD,LC (show i<b.size from oM),Option.getD_some]at p;simp[p,n]
   unfold wpOp;simp only[d,F,if_true];exact .inl (D _ λu w' hI'=>ih _ _ _ A (by simpa using c) hI')
theorem jf{o:Oper}{a:Act}{w b:World}{K:Act->World->Prop}{v:Value}(c:(execOp a.eval o).run P w=.ok (.value v) b)(k:K (a.put o.dst v) b):Oper.wp P o a w K Q:=by
 unfold Oper.wp;rw[c];exact k
theorem Bf{o:Oper}{a:Act}{w b:World}{K:Act->World->Prop}(c:(execOp a.eval o).run P w=.ok .skip b)(k:K (a.put o.dst undef) b):Oper.wp P o a w K Q:=by
 unfold Oper.wp;rw[c];exact k
theorem Bg{o:Oper}{a:Act}{w b:World}{K:Act->World->Prop}{f:FuncId}{args:Array Value}(d:(execOp a.eval o).run P w=.ok (.enter f args) b)(k:Calls P f args b λe c=>∃u,e=.returned u/\K (a.put o.dst u) c):Oper.wp P o a w K Q:=by
 unfold Oper.wp;rw[d];refine k.mono ?_;rintro e c ⟨u,rfl,g⟩;exact g
def rX(a:Act):List (Nat×Value)->Act
 | []=>a
 | p::r=>rX (a.put (some p.1) p.2) r
theorem Aq{b:Act}:∀(l:List (Nat×Value)) (a:Act),b.defers=a.defers->b.tmps.size=a.tmps.size->(∀p∈l,p.1<a.tmps.size)->(∀p∈l,b.tmps.getD p.1 undef=p.2)->(∀t,t∉l.map (·.1)->b.tmps.getD t undef=a.tmps.getD t undef)->b=rX a l
 | [],a,hd,hs,_,_,hr=>wT hd hs.symm λt _=>hr t sP
 | p::r,a,hd,hs,hl,hv,hr=>by
   refine Aq r _ (by rw[jc,hd]) (by rw[fN,hs]) (λq hq=>by rw[fN];exact hl q (Lm _ hq)) (λq hq=>hv q (Lm _ hq)) λt ht=>?_
   by_cases e:p.1=t
   ·subst e;rw[nF _ _ _ (hl p Lt)];exact hv p Lt
   ·rw[dx _ _ _ _ e];exact hr t (by simp only[lG,ln,not_or];exact⟨λh=>e h.symm,ht⟩)
theorem hJ{ops:Array Oper}{l:List (Nat×Nat)}(c:(l.all λp=>((ops[p.1]?).map λo=>o.after.any λe=>Region.binds .any e&&e.on==p.2).getD false)=true)(p:Nat×Nat)(g:p∈l):∀o,ops[p.1]? =some o->∃e∈o.after,Region.binds .any e=true/\e.on=p.2:=λo ho=>by
 have b:=List.all_eq_true.1 c p g;rw[ho]at b;have d:(o.after.any λe=>Region.binds .any e&&e.on==p.2)=true:=by simpa using b
 obtain⟨k,f,a⟩:=Array.any_eq_true.1 d;simp only[L6,beq_iff_eq]at a;exact⟨_,Array.getElem_mem f,a.1,a.2⟩
theorem OL(n k:Nat):(Array.replicate n false).getD k false=false:=by
 simp only[LD,Array.getElem?_replicate]
 split<;>rfl
def ua(f:Nat->Value)(d:Option Nat)(u:Value):Nat->Value:=match d with
 | none=>f
 | some d=>λt=>if d=t then u else f t
theorem ER{M:Nat}{a:Act}{w:World}(G:P.follows .mixedOrders=true)(C:po .any ops=true)(E:(ops.all λo=>o.guard.isNone)=true)
 (J:(ops.all λo=>match o.dst with|some d=>decide (d<a.tmps.size)|none=>true)=true)
 (j:(Nat->Bool)->(Nat->Value)->World->Prop) (s:j (λ_=>false) (λt=>a.tmps.getD t undef) { w with drawn:=w.drawn+1 })
 (hstep:∀L f W i o,j L f W->ops[i]? =some o->L i=false->(∀e∈o.after,Region.binds .any e=true->L e.on=true)->∀b:Act,(∀t,b.tmps.getD t undef=f t) ->
   ∀K:Act->World->Prop,(∀u W',j (λk=>if i=k then true else L k) (ua f o.dst u) W'->K (b.put o.dst u) W')->Oper.wp P o b W K Q)
 (hend:∀L f W b,j L f W->(∀i,i<ops.size->L i=true)->b.defers=a.defers->b.tmps.size=a.tmps.size->(∀t,b.tmps.getD t undef=f t)->Q .normal b W) :
 (Code.region M ops true).wp P Q a w:=by
 refine wp_region_any G (EY C (λh b W=>∃f,j (λk=>h.getD k false) f W/\b.defers=a.defers/\b.tmps.size=a.tmps.size/\∀t,b.tmps.getD t undef=f t) ?_ ?_ ops.size _ a _ sP sP ?_)
 ·rintro h b W ⟨f,q,r,m,l⟩ H i o g I D;have hi:i<ops.size:=(La.1 g).1;have F:i<h.size:=oM;refine⟨by
   have c:=Array.all_eq_true.1 E i hi;have n:ops[i]=o:=(by rw[LC hi]at g;exact ls g);rw[n]at c;have p:o.guard=none:=(by simpa using c);unfold Region.wanted;rw[p],λK hK=>hstep _ f W i o q g I D b l K λu W' hI'=>hK u W' ⟨ua f o.dst u,?_,by rw[jc,r],by rw[fN,m],λt=>?_⟩⟩
  ·have A:(λk=>(h.setIfInBounds i true).getD k false)=λk=>if i=k then true else h.getD k false:=funext λk=>Da F
   rw[A];exact hI'
  ·have c:=Array.all_eq_true.1 J i hi;have n:ops[i]=o:=(by rw[LC hi]at g;exact ls g);rw[n]at c
   cases hdd:o.dst with
   | none=>exact l t
   | some d =>
     rw[hdd]at c;have p:d<b.tmps.size:=(by rw[m];simpa using c);unfold ua
     by_cases e:d=t
     ·subst e;simp only[if_true];exact nF b d u p
     ·simp only[if_neg e];exact(dx b d u t e).trans (l t)
 ·rintro h b W ⟨f,q,r,m,l⟩ H B;exact hend _ f W b q B r m l
 ·refine⟨λt=>a.tmps.getD t undef,?_,rfl,rfl,λ_=>rfl⟩;have:(λk=>(Array.replicate ops.size false).getD k false)=λ_=>false:=funext λk=>OL _ _;rw[this];exact s
end
end Go.Zone
namespace Go.Proofs.YtpkocnpamcchcaaGreatDoor
open Go.RowKit Go.Zone Go.Shelf Tryz Go.Roa
def o8:ByteArray:=⟨#[115,99,104,101,109,97]⟩
def o9:ByteArray:=⟨#[114,111,119,115]⟩
def f14(c t2:ByteArray)(b a:Bool):ByteArray->Option ByteArray:=λx=>if x=o8 then (if b then some c else none) else if x=o9 then (if a then some t2 else none) else none
theorem Nw:o8≠o9:=dC
theorem Dq(a t2:ByteArray)(c b:Bool):jV (f14 a t2 c b) o8 a=f14 a t2 true b:=by
 funext x
 unfold jV f14
 split<;>simp
theorem Ds(b t2:ByteArray)(a c:Bool):jV (f14 b t2 a c) o9 t2=f14 b t2 a true:=by
 funext x
 unfold jV f14
 split
 ·rename_i h;subst h;rw[if_neg (Ne.symm Nw)];rfl
 ·rfl
theorem dW.map{W:World}{b n:Nat}{f:ByteArray->Option ByteArray}(d:dW W b n f):∃a clock,W.heap[b]? =some (.map a clock):=by
 obtain⟨g,⟨a,c,e,_⟩,_⟩:=d.ex;exact⟨a,c,e⟩
theorem PX{W:World}{b c i:Nat}{u:Value}{f:Array MapEntry}{d:Nat}(a:W.cell? ⟨b,i,none⟩=some u)(g:W.heap[c]? =some (.map f d)):b≠c:=λe=>by
 subst e;unfold World.cell? at a;simp only[g]at a
 cases a
theorem cH.mp{W W':World}{A:Option Addr}{c d n:Nat}{l:List UInt8}{f:ByteArray->Option ByteArray}(a:cH W A c l)(h:dW W d n f)(j:ag W W' [d]):cH W' A c l:=by
 rcases l with _ | ⟨x,r⟩
 ·exact Sl.nil_ A a.big
 ·obtain⟨p,m,i⟩:=h.map;obtain⟨b,q,rfl,k⟩:=a.at_ 0 sP;refine a.turn j λb' off' e=>?_
  cases e
  have g:=PX (k 0 _ rfl) i
  simpa using g
theorem ip{f g:Nat->Value}{d:Nat}{u:Value}{C:Nat->Prop}(a:∀t,C t->f t=g t)(b:¬ C d):∀t,C t->(if d=t then u else f t)=g t:=λt ht=>by
 rw[if_neg (λe=>b (by rw[e];exact ht))];exact a t ht
theorem tc{W W':World}{f:Value}{l:List UInt8}(a:∃A c,f=.slice A l.length c/\cH W A c l)(e:aa W W'):∃A c,f=.slice A l.length c/\cH W' A c l:=by
 obtain⟨A,c,b,d⟩:=a;exact⟨A,c,b,d.keep e⟩
theorem sZ{W W':World}{f:Value}{l:List UInt8}{a n:Nat}{g:ByteArray->Option ByteArray}(b:∃A c,f=.slice A l.length c/\cH W A c l)(h:dW W a n g)(i:ag W W' [a]):∃A c,f=.slice A l.length c/\cH W' A c l:=by
 obtain⟨A,c,d,e⟩:=b;exact⟨A,c,d,cH.mp e h i⟩
theorem LQ{W:World}{b n a:Nat}{g:ByteArray->Option ByteArray}(e:n=a)(c:dW W b n g):dW W b a g:=e▸c
theorem Db{b:Bool}(h:b=false)(k:b=true):False:=by rw[h]at k;cases k
structure QL(a:Act)(w:World)(va vc vo vl vu:Value)(p1 p2:List UInt8)(L:Nat->Bool)(f:Nat->Value)(W:World)(q:Nat):Prop where
 keep:aa w W
 rest:∀t:Nat,(t<84/\t≠15\/96<t)->f t=a.tmps.getD t undef
 s0:L 0=true->f 84=.map (some q)/\w.heap.size<=q/\dW W q ((L 6).toNat+(L 13).toNat) (f14 ⟨p1.toArray⟩ ⟨p2.toArray⟩ (L 6) (L 13))
 s1:L 1=true->f 85=va
 s2:L 2=true->f 86=vc
 s3:L 3=true->∃A c,f 87=.slice A p1.length c/\cH W A c p1
 s4:L 4=true->f 88=.string ⟨p1.toArray⟩
 s5:L 5=true->f 89=dY ⟨p1.toArray⟩
 s7:L 7=true->f 90=vo
 s8:L 8=true->f 91=vl
 s9:L 9=true->f 92=vu
 s10:L 10=true->∃A c,f 93=.slice A p2.length c/\cH W A c p2
 s11:L 11=true->f 94=.string ⟨p2.toArray⟩
 s12:L 12=true->f 95=dY ⟨p2.toArray⟩
 s14:L 14=true->f 96=.map (some q)
 s15:L 15=true->f 15=.map (some q)
 z6:L 6=true->L 0=true
 z13:L 13=true->L 0=true
 z14:L 14=true->L 0=true
 z15:L 15=true->L 14=true
section
variable {ρ:Operand->Value} {o:Oper} {W:World} {v:Value} {x y z:Operand}
theorem u9(b:o.op=.move x)(a:ρ x=v):(execOp ρ o).run prog W=.ok (.value v) W:=by
 unfold execOp;simp only[b,a];rfl
theorem KH(b:o.op=.assign x)(a:ρ x=v):(execOp ρ o).run prog W=.ok (.value v) W:=by
 unfold execOp;simp only[b,a];rfl
theorem Bl{A:Option Addr}{c:Nat}{l:List UInt8}(b:o.op=.convert 31 9 x)(a:ρ x=.slice A l.length c)(d:cH W A c l):(execOp ρ o).run prog W=.ok (.value (.string ⟨l.toArray⟩)) W:=by
 have e:=ii d;unfold execOp;simp only[b,a];go_simp
theorem Bi{a:ByteArray}(c:o.op=.build 45 #[(0,x)])(b:ρ x=.string a):(execOp ρ o).run prog W=.ok (.value (dY a)) W:=by
 unfold execOp;simp only[c,List.map_toArray,lG,L3,b]
 kernel_rfl
theorem Bj{W':World}{a:Nat}{b t:ByteArray}(f:o.op=.insert 48 x y z)(c:ρ x=.map (some a))(d:ρ y=.string b)(e:ρ z=dY t)(g:(Instr.mapUpdate 48 (.map (some a)) (.string b) (dY t)).run prog W=.ok () W'):(execOp ρ o).run prog W=.ok .skip W':=by
 unfold execOp;simp only[f,c,d,e,Sem.run_bind,g,Result.andThen_ok,Sem.run_pure]
theorem KE{g:Nat}{f c:Int}{a d h:Option Addr}{i b r e sp j:Nat}(l:o.op=.load 26 x)(k:ρ x=.pointer (some ⟨g,0,none⟩))(m:W.cell? ⟨g,0,none⟩=some (.int .i64 f))(p:W.cell? ⟨g,1,none⟩=some (.slice a i b))(q:W.cell? ⟨g,2,none⟩=some (.slice d r e))(s:W.cell? ⟨g,3,none⟩=some (.slice h sp j))(t:W.cell? ⟨g,4,none⟩=some (.int .i64 c)) :
 (execOp ρ o).run prog W=.ok (.value (.agg #[.int .i64 f,.slice a i b,.slice d r e,.slice h sp j,.int .i64 c])) W:=by
 have n:=World.block_lt_of_cell? _ _ m;unfold execOp;simp only[l,k];go_simp
theorem KD{A:Option Addr}{n c:Nat}(b:o.op=.call ⟨.builtin .len,#[x],#[27]⟩)(a:ρ x=.slice A n c):(execOp ρ o).run prog W=.ok (.value (.int .i64 n)) W:=by
 unfold execOp;simp only[b,List.map_toArray,lG,L3,a];go_simp
theorem KB{n:Nat}(c:n<18446744073709551616)(b:o.op=.convert 3 47 x)(a:ρ x=.int .i64 n):(execOp ρ o).run prog W=.ok (.value (.int .u64 n)) W:=by
 have d:IntKind.u64.wrap (n:Int)=(n:Int):=by simp[IntKind.wrap,IntKind.signed,IntKind.bits];omega
 unfold execOp;simp only[b,a];go_simp
end
structure QM(ops:Array Oper)(a:Act)(w:World)(va vc vo vl vu:Value)(p1 p2:List UInt8):Prop where
 size:ops.size=16
 dst:ops.toList.map (·.dst)=[some 84,some 85,some 86,some 87,some 88,some 89,none,some 90,some 91,some 92,some 93,some 94,some 95,none,some 96,some 15]
 edges:([(3,1),(3,2),(4,3),(5,4),(6,0),(6,5),(8,7),(9,8),(10,9),(11,10),(12,11),(13,0),(13,12),(14,0),(15,14)].all λp=>((ops[p.1]?).map λo=>o.after.any λe=>Region.binds .any e&&e.on==p.2).getD false)=true
 r0:∀o,ops[0]? =some o->∀(b:Act) W,(execOp b.eval o).run prog W=.ok (.value (.map (some W.heap.size))) (W.alloc (.map #[] 0))
 r1:∀o,ops[1]? =some o->∀(b:Act) W,b.eval (.tmp 0)=a.tmps.getD 0 undef->(execOp b.eval o).run prog W=.ok (.value va) W
 r2:∀o,ops[2]? =some o->∀(b:Act) W,b.eval (.tmp 4)=a.tmps.getD 4 undef->aa w W->(execOp b.eval o).run prog W=.ok (.value vc) W
 r3:∀o,ops[3]? =some o->∀(b:Act) W,b.eval (.tmp 85)=va->b.eval (.tmp 86)=vc->aa w W->∃fn args,(execOp b.eval o).run prog W=.ok (.enter fn args) W/\Calls prog fn args W λe W'=>∃A c,e=.returned (.slice A p1.length c)/\cH W' A c p1/\aa W W'
 r4:∀o,ops[4]? =some o->∀(b:Act) W A c,b.eval (.tmp 87)=.slice A p1.length c->cH W A c p1->(execOp b.eval o).run prog W=.ok (.value (.string ⟨p1.toArray⟩)) W
 r5:∀o,ops[5]? =some o->∀(b:Act) W,b.eval (.tmp 88)=.string ⟨p1.toArray⟩->(execOp b.eval o).run prog W=.ok (.value (dY ⟨p1.toArray⟩)) W
 r6:∀o,ops[6]? =some o->∀(b:Act) W W' q,b.eval (.tmp 84)=.map (some q)->b.eval (.tmp 89)=dY ⟨p1.toArray⟩->(Instr.mapUpdate 48 (.map (some q)) (.string o8) (dY ⟨p1.toArray⟩)).run prog W=.ok () W'->(execOp b.eval o).run prog W=.ok .skip W'
 r7:∀o,ops[7]? =some o->∀(b:Act) W,b.eval (.tmp 10)=a.tmps.getD 10 undef->(execOp b.eval o).run prog W=.ok (.value vo) W
 r8:∀o,ops[8]? =some o->∀(b:Act) W,b.eval (.tmp 90)=vo->(execOp b.eval o).run prog W=.ok (.value vl) W
 r9:∀o,ops[9]? =some o->∀(b:Act) W,b.eval (.tmp 91)=vl->(execOp b.eval o).run prog W=.ok (.value vu) W
 r10:∀o,ops[10]? =some o->∀(b:Act) W,b.eval (.tmp 92)=vu->aa w W->∃fn args,(execOp b.eval o).run prog W=.ok (.enter fn args) W/\Calls prog fn args W λe W'=>∃A c,e=.returned (.slice A p2.length c)/\cH W' A c p2/\aa W W'
 r11:∀o,ops[11]? =some o->∀(b:Act) W A c,b.eval (.tmp 93)=.slice A p2.length c->cH W A c p2->(execOp b.eval o).run prog W=.ok (.value (.string ⟨p2.toArray⟩)) W
 r12:∀o,ops[12]? =some o->∀(b:Act) W,b.eval (.tmp 94)=.string ⟨p2.toArray⟩->(execOp b.eval o).run prog W=.ok (.value (dY ⟨p2.toArray⟩)) W
 r13:∀o,ops[13]? =some o->∀(b:Act) W W' q,b.eval (.tmp 84)=.map (some q)->b.eval (.tmp 95)=dY ⟨p2.toArray⟩->(Instr.mapUpdate 48 (.map (some q)) (.string o9) (dY ⟨p2.toArray⟩)).run prog W=.ok () W'->(execOp b.eval o).run prog W=.ok .skip W'
 r14:∀o,ops[14]? =some o->∀(b:Act) W q,b.eval (.tmp 84)=.map (some q)->(execOp b.eval o).run prog W=.ok (.value (.map (some q))) W
 r15:∀o,ops[15]? =some o->∀(b:Act) W q,b.eval (.tmp 96)=.map (some q)->(execOp b.eval o).run prog W=.ok (.value (.map (some q))) W
theorem Ci{w W W':World}{a n:Nat}{f:ByteArray->Option ByteArray}(b:aa w W)(d:w.heap.size<=a)(_hm:dW W a n f)(c:ag W W' [a]):aa w W':=c.after b λi hi=>by simp only[ln,lL,or_false]at hi;omega
theorem Jb{ops:Array Oper}{Q:Exit->Act->World->Prop}{ab:Nat}{a:Act}{w:World}{va vc vo vl vu:Value}{p1 p2:List UInt8}(a8:prog.follows .mixedOrders=true)(a3:po .any ops=true)(a5:(ops.all λo=>o.guard.isNone)=true)(Y:a.tmps.size=242)
 (m:QM ops a w va vc vo vl vu p1 p2)
 (a1:∀W B A c S T,aa w W->w.heap.size<=B->dW W B 2 (f14 ⟨p1.toArray⟩ ⟨p2.toArray⟩ true true) ->
   Q .normal (rX a [(84,.map (some B)),(85,va),(86,vc),(87,.slice A p1.length c),(88,.string ⟨p1.toArray⟩),(89,dY ⟨p1.toArray⟩),(90,vo),(91,vl),(92,vu),(93,.slice S p2.length T),(94,.string ⟨p2.toArray⟩),(95,dY ⟨p2.toArray⟩),(96,.map (some B)),(15,.map (some B))]) W) :
 (Code.region ab ops true).wp prog Q a w:=by
 have a4:∀(i:Nat) (o:Oper),ops[i]? =some o->∀d,o.dst=some d->d<242:=λi o j d q=>by
  have h:=congrArg (λl=>l[i]?) m.dst;simp only[lP,Ll,j,Option.map_some,q]at h;have C:=List.mem_of_getElem? h.symm;simp only[ln,lL,or_false,reduceCtorEq,lQ,false_or]at C
  rcases C with rfl|rfl|rfl|rfl|rfl|rfl|rfl|rfl|rfl|rfl|rfl|rfl|rfl|rfl<;>decide
 refine ER a8 a3 a5 ?_ (λr f W=>∃B,QL a w va vc vo vl vu p1 p2 r f W B) ⟨0,?_⟩ ?_ ?_
 ·refine Array.all_eq_true.2 λi hi=>?_;have j:=LC hi
  cases q:ops[i].dst with
  | none=>rfl
  | some d=>simpa[Y]using a4 i _ j d q
 ·constructor<;>first|exact λ_ _=>rfl|(intro g;cases g)|exact⟨rfl,rfl,rfl,lc _,λ_ _=>rfl⟩
 ·rintro r f W i o ⟨B,g⟩ j L G b R K E;have hi:i<16:=by have:=(La.1 j).1;have:=m.size;omega
  have D:∀t,b.eval (.tmp t)=f t:=R;have a7:=g.keep.size
  match i,hi with
  | 0,_ =>
    have ao:r 6=false:=(by cases hx:r 6 with|false=>rfl|true=>rw[g.z6 hx]at L;cases L);have ag:r 13=false:=(by cases hx:r 13 with|false=>rfl|true=>rw[g.z13 hx]at L;cases L);have N:r 14=false:=(by cases hx:r 14 with|false=>rfl|true=>rw[g.z14 hx]at L;cases L);have ah:r 15=false:=(by cases hx:r 15 with|false=>rfl|true=>rw[g.z15 hx]at N;cases N);have q:o.dst=some 84:=by
     have h:=congrArg (λl=>l[0]?) m.dst;simp only[lP,Ll,j]at h;exact ls h
    refine jf (m.r0 o j _ W) (E _ _ ⟨W.heap.size,?_⟩);rw[q];have U:aa W (W.alloc (.map #[] 0)):=(aa.refl W).alloc _;refine { keep:=g.keep.trans U,rest:=(ip g.rest oM),s0:=λ_=>⟨rfl,a7,?_⟩,s1:=g.s1,s2:=g.s2,s3:=λhl=>tc (g.s3 hl) U,s4:=g.s4,s5:=g.s5,s7:=g.s7,s8:=g.s8,s9:=g.s9,s10:=λhl=>tc (g.s10 hl) U,s11:=g.s11,s12:=g.s12,s14:=λ(hl:r 14=true)=>(Db N hl).elim,s15:=λ(hl:r 15=true)=>(Db ah hl).elim,z6:=λ_=>rfl,z13:=λ_=>rfl,z14:=λ_=>rfl,z15:=g.z15 };simp only[show(0=6)=False from dC,show(0=13)=False from dC,if_false,ao,ag];have:=LO W
    rwa [show(λ_=>none)=f14 ⟨p1.toArray⟩ ⟨p2.toArray⟩ false false from funext λx=>by unfold f14;split<;>simp]at this
  | 1,_ =>
    have q:o.dst=some 85:=by
     have h:=congrArg (λl=>l[1]?) m.dst;simp only[lP,Ll,j]at h;exact ls h
    refine jf (m.r1 o j _ W ((D 0).trans (g.rest 0 oM))) (E _ _ ⟨B,?_⟩);rw[q];exact { g with rest:=(ip g.rest oM),s1:=λ_=>rfl }
  | 2,_ =>
    have q:o.dst=some 86:=by
     have h:=congrArg (λl=>l[2]?) m.dst;simp only[lP,Ll,j]at h;exact ls h
    refine jf (m.r2 o j _ W ((D 4).trans (g.rest 4 oM)) g.keep) (E _ _ ⟨B,?_⟩);rw[q];exact { g with rest:=(ip g.rest oM),s2:=λ_=>rfl }
  | 3,_ =>
    have ac:r 1=true:=by
     obtain⟨e,he,s,u⟩:=hJ m.edges (3,1) dC o j;have:=G e he s
     rwa [u]at this
    have ai:r 2=true:=by
     obtain⟨e,he,s,u⟩:=hJ m.edges (3,2) dC o j;have:=G e he s
     rwa [u]at this
    obtain⟨fn,args,h,C⟩:=m.r3 o j b W ((D 85).trans (g.s1 ac)) ((D 86).trans (g.s2 ai)) g.keep;have q:o.dst=some 87:=by
     have h:=congrArg (λl=>l[3]?) m.dst;simp only[lP,Ll,j]at h;exact ls h
    refine Bg h (C.mono ?_);rintro e W' ⟨A,c,rfl,X,J⟩;refine⟨_,rfl,E _ _ ⟨B,?_⟩⟩;rw[q];exact { g with keep:=g.keep.trans J,rest:=(ip g.rest oM),s0:=λhl=>⟨(g.s0 hl).1,(g.s0 hl).2.1,(g.s0 hl).2.2.keep J⟩,s3:=λ_=>⟨A,c,rfl,X⟩,s10:=λhl=>tc (g.s10 hl) J }
  | 4,_ =>
    have aj:r 3=true:=by
     obtain⟨e,he,s,u⟩:=hJ m.edges (4,3) dC o j;have:=G e he s
     rwa [u]at this
    obtain⟨A,c,h,C⟩:=g.s3 aj;have q:o.dst=some 88:=by
     have h:=congrArg (λl=>l[4]?) m.dst;simp only[lP,Ll,j]at h;exact ls h
    refine jf (m.r4 o j _ W A c ((D 87).trans h) C) (E _ _ ⟨B,?_⟩);rw[q];exact { g with rest:=(ip g.rest oM),s4:=λ_=>rfl }
  | 5,_ =>
    have ak:r 4=true:=by
     obtain⟨e,he,s,u⟩:=hJ m.edges (5,4) dC o j;have:=G e he s
     rwa [u]at this
    have q:o.dst=some 89:=by
     have h:=congrArg (λl=>l[5]?) m.dst;simp only[lP,Ll,j]at h;exact ls h
    refine jf (m.r5 o j _ W ((D 88).trans (g.s4 ak))) (E _ _ ⟨B,?_⟩);rw[q];exact { g with rest:=(ip g.rest oM),s5:=λ_=>rfl }
  | 6,_ =>
    have M:r 0=true:=by
     obtain⟨e,he,s,u⟩:=hJ m.edges (6,0) dC o j;have:=G e he s
     rwa [u]at this
    have al:r 5=true:=by
     obtain⟨e,he,s,u⟩:=hJ m.edges (6,5) dC o j;have:=G e he s
     rwa [u]at this
    obtain⟨h,C,H⟩:=g.s0 M;rw[L]at H;obtain⟨W',V,O,I⟩:=mF H (by cases r 13<;>decide) o8 ⟨p1.toArray⟩ dC;have q:o.dst=none:=by
     have h:=congrArg (λl=>l[6]?) m.dst;simp only[lP,Ll,j]at h;exact ls h
    refine Bf (m.r6 o j _ W W' B ((D 84).trans h) ((D 89).trans (g.s5 al)) V) (E _ _ ⟨B,?_⟩);rw[q];rw[Dq]at O;exact { g with keep:=Ci g.keep C H I,s0:=λ_=>⟨h,C,LQ (by show _=1+(r 13).toNat;simp;omega) O⟩,s3:=λhl=>sZ (g.s3 hl) H I,s10:=λhl=>sZ (g.s10 hl) H I,z6:=λ_=>M }
  | 7,_ =>
    have q:o.dst=some 90:=by
     have h:=congrArg (λl=>l[7]?) m.dst;simp only[lP,Ll,j]at h;exact ls h
    refine jf (m.r7 o j _ W ((D 10).trans (g.rest 10 oM))) (E _ _ ⟨B,?_⟩);rw[q];exact { g with rest:=(ip g.rest oM),s7:=λ_=>rfl }
  | 8,_ =>
    have ap:r 7=true:=by
     obtain⟨e,he,s,u⟩:=hJ m.edges (8,7) dC o j;have:=G e he s
     rwa [u]at this
    have q:o.dst=some 91:=by
     have h:=congrArg (λl=>l[8]?) m.dst;simp only[lP,Ll,j]at h;exact ls h
    refine jf (m.r8 o j _ W ((D 90).trans (g.s7 ap))) (E _ _ ⟨B,?_⟩);rw[q];exact { g with rest:=(ip g.rest oM),s8:=λ_=>rfl }
  | 9,_ =>
    have aq:r 8=true:=by
     obtain⟨e,he,s,u⟩:=hJ m.edges (9,8) dC o j;have:=G e he s
     rwa [u]at this
    have q:o.dst=some 92:=by
     have h:=congrArg (λl=>l[9]?) m.dst;simp only[lP,Ll,j]at h;exact ls h
    refine jf (m.r9 o j _ W ((D 91).trans (g.s8 aq))) (E _ _ ⟨B,?_⟩);rw[q];exact { g with rest:=(ip g.rest oM),s9:=λ_=>rfl }
  | 10,_ =>
    have ar:r 9=true:=by
     obtain⟨e,he,s,u⟩:=hJ m.edges (10,9) dC o j;have:=G e he s
     rwa [u]at this
    obtain⟨fn,args,h,C⟩:=m.r10 o j b W ((D 92).trans (g.s9 ar)) g.keep;have q:o.dst=some 93:=by
     have h:=congrArg (λl=>l[10]?) m.dst;simp only[lP,Ll,j]at h;exact ls h
    refine Bg h (C.mono ?_);rintro e W' ⟨A,c,rfl,X,J⟩;refine⟨_,rfl,E _ _ ⟨B,?_⟩⟩;rw[q];exact { g with keep:=g.keep.trans J,rest:=(ip g.rest oM),s0:=λhl=>⟨(g.s0 hl).1,(g.s0 hl).2.1,(g.s0 hl).2.2.keep J⟩,s10:=λ_=>⟨A,c,rfl,X⟩,s3:=λhl=>tc (g.s3 hl) J }
  | 11,_ =>
    have ad:r 10=true:=by
     obtain⟨e,he,s,u⟩:=hJ m.edges (11,10) dC o j;have:=G e he s
     rwa [u]at this
    obtain⟨A,c,h,C⟩:=g.s10 ad;have q:o.dst=some 94:=by
     have h:=congrArg (λl=>l[11]?) m.dst;simp only[lP,Ll,j]at h;exact ls h
    refine jf (m.r11 o j _ W A c ((D 93).trans h) C) (E _ _ ⟨B,?_⟩);rw[q];exact { g with rest:=(ip g.rest oM),s11:=λ_=>rfl }
  | 12,_ =>
    have ae:r 11=true:=by
     obtain⟨e,he,s,u⟩:=hJ m.edges (12,11) dC o j;have:=G e he s
     rwa [u]at this
    have q:o.dst=some 95:=by
     have h:=congrArg (λl=>l[12]?) m.dst;simp only[lP,Ll,j]at h;exact ls h
    refine jf (m.r12 o j _ W ((D 94).trans (g.s11 ae))) (E _ _ ⟨B,?_⟩);rw[q];exact { g with rest:=(ip g.rest oM),s12:=λ_=>rfl }
  | 13,_ =>
    have M:r 0=true:=by
     obtain⟨e,he,s,u⟩:=hJ m.edges (13,0) dC o j;have:=G e he s
     rwa [u]at this
    have af:r 12=true:=by
     obtain⟨e,he,s,u⟩:=hJ m.edges (13,12) dC o j;have:=G e he s
     rwa [u]at this
    obtain⟨h,C,H⟩:=g.s0 M;rw[L]at H;obtain⟨W',V,O,I⟩:=mF H (by cases r 6<;>decide) o9 ⟨p2.toArray⟩ dC;have q:o.dst=none:=by
     have h:=congrArg (λl=>l[13]?) m.dst;simp only[lP,Ll,j]at h;exact ls h
    refine Bf (m.r13 o j _ W W' B ((D 84).trans h) ((D 95).trans (g.s12 af)) V) (E _ _ ⟨B,?_⟩);rw[q];rw[Ds]at O;exact { g with keep:=Ci g.keep C H I,s0:=λ_=>⟨h,C,O⟩,s3:=λhl=>sZ (g.s3 hl) H I,s10:=λhl=>sZ (g.s10 hl) H I,z13:=λ_=>M }
  | 14,_ =>
    have M:r 0=true:=by
     obtain⟨e,he,s,u⟩:=hJ m.edges (14,0) dC o j;have:=G e he s
     rwa [u]at this
    obtain⟨h,_,_⟩:=g.s0 M;have q:o.dst=some 96:=by
     have h:=congrArg (λl=>l[14]?) m.dst;simp only[lP,Ll,j]at h;exact ls h
    refine jf (m.r14 o j _ W B ((D 84).trans h)) (E _ _ ⟨B,?_⟩);rw[q];exact { g with rest:=(ip g.rest oM),s14:=λ_=>rfl,z14:=λ_=>M,z15:=λ_=>rfl }
  | 15,_ =>
    have N:r 14=true:=by
     obtain⟨e,he,s,u⟩:=hJ m.edges (15,14) dC o j;have:=G e he s
     rwa [u]at this
    have q:o.dst=some 15:=by
     have h:=congrArg (λl=>l[15]?) m.dst;simp only[lP,Ll,j]at h;exact ls h
    refine jf (m.r15 o j _ W B ((D 96).trans (g.s14 N))) (E _ _ ⟨B,?_⟩);rw[q];exact { g with rest:=(ip g.rest oM),s15:=λ_=>rfl,z15:=λ_=>N }
  | n+16,hn=>exact absurd hn oM
 ·rintro r f W b ⟨B,g⟩ a2 q a9 R;have F:∀k,k<16->r k=true:=λk J=>a2 k (by have:=m.size;omega);obtain⟨h,C,H⟩:=g.s0 (F 0 oM);rw[F 6 oM,F 13 oM]at H;obtain⟨A,c,Z,_⟩:=g.s3 (F 3 oM);obtain⟨S,T,a0,_⟩:=g.s10 (F 10 oM);have a6:=a1 W B A c S T g.keep C H
  rwa [<-Aq (b:=b) _ a q a9 (λp hp=>by
   simp only[ln,lL,or_false]at hp;rw[Y]
   rcases hp with rfl|rfl|rfl|rfl|rfl|rfl|rfl|rfl|rfl|rfl|rfl|rfl|rfl|rfl<;>simp) (λp hp=>by
   simp only[ln,lL,or_false]at hp;rw[R]
   rcases hp with rfl|rfl|rfl|rfl|rfl|rfl|rfl|rfl|rfl|rfl|rfl|rfl|rfl|rfl
   ·exact h
   ·exact g.s1 (F 1 oM)
   ·exact g.s2 (F 2 oM)
   ·exact Z
   ·exact g.s4 (F 4 oM)
   ·exact g.s5 (F 5 oM)
   ·exact g.s7 (F 7 oM)
   ·exact g.s8 (F 8 oM)
   ·exact g.s9 (F 9 oM)
   ·exact a0
   ·exact g.s11 (F 11 oM)
   ·exact g.s12 (F 12 oM)
   ·exact g.s14 (F 14 oM)
   ·exact g.s15 (F 15 oM)) (λt I=>by
   rw[R];refine g.rest t ?_;simp only[lG,L3,ln,lL,or_false,not_or]at I;omega)]at a6
end Go.Proofs.YtpkocnpamcchcaaGreatDoor
