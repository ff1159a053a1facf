/- Parts. -/
import Derived.WalkMore
import Derived.Test.YtpkocnpamcchcaaGreatDoorL15
set_option maxRecDepth 100000
set_option maxHeartbeats 40000000
set_option linter.all false
namespace Go.Zone
theorem ag.cell{w b:World}{S:List Nat}{p:Addr}{u:Value}(d:ag w b S)(a:w.cell? p=some u)(e:p.block∉S):b.cell? p=some u:=by
 have c:=d.block p.block (World.block_lt_of_cell? w _ a) e;unfold World.cell? at a|-;rw[c];exact a
theorem Sl.turn{e:Type}{w f:World}{k c:Nat}{enc:e->List Value}{A:Option Addr}{xs:List e}{S:List Nat}(a:Sl w k enc A c xs)(l:ag w f S)(h:∀b d,A=some ⟨b,d,none⟩->b∉S):Sl f k enc A c xs :=
 ⟨a.cap,a.big,a.len,λi hi=>by
  obtain⟨b,d,g,m⟩:=a.at_ i hi;exact⟨b,d,g,λj u hu=>l.cell (m j u hu) (h b d g)⟩⟩
end Go.Zone
namespace Go.Proofs.YtpkocnpamcchcaaGreatDoor
open Go.RowKit Go.Zone Go.Shelf Tryz
theorem Ql(c:aG)(w:World):Rt 71 #[c.v] w (.int .u8 (if c.kind=2 then 2 else 1)):=by
 obtain⟨k,n⟩:=c;simp only[aG.v];go_enter func71,ntmps71;go_wp2
 all_goals go_ret
 all_goals exact⟨by simp_all,kP⟩
def fG(L s0 v r p f R o I Q M:Value):List Value:=[L,s0,v,r,p,f,R,o,I,Q,M]
def eU(w:World)(l:List bI):Prop:=∀s∈l,aE w 0 (.slice s.A s.bs.length s.c) s.bs
theorem eU.keep{w a:World}{l:List bI}(b:eU w l)(c:aa w a):eU a l:=λs hs=>(b s hs).keep c
theorem eU.at_{w:World}{l:List bI}(b:eU w l)(d:∀s∈l,s.bs.length<=140737488355328):pr w l:=λs hs=>by
 obtain⟨A,c,a,e⟩:=(b s hs).sl aO (d s hs);injection a with a _ hc;subst a;subst hc;exact e
def tR(w:World)(i:Nat):Prop:=∀cs r,w.heap[i]? ≠some (.cells cs 5 r)
theorem eU.turn{w c:World}{l:List bI}{S:List Nat}(d:eU w l)(j:ag w c S)(k:∀i∈S,i<w.heap.size->tR w i):eU c l:=λs hs=>by
 have b:=d s hs;refine ah.turn b j λi hi e=>?_;have f:=(b.lt i e).2
 rcases b.2 with⟨a,_⟩ | ⟨g,m,n,a,_,h,_⟩
 ·rw[a]at e;cases e
 ·rw[a]at e;simp only[Value.ownBlock,Option.map_some,lQ]at e;subst e;exact k _ hi f _ _ h
theorem ak.noU8{w:World}{g:Nat}{b:TypeId}{d:List Value}(a:ak w g b d)(c:b≠5):tR w g:=λcs r e=>by
 unfold ak at a;rw[a]at e;simp at e;exact c e.2.1
theorem eB.noU8{w:World}{base:Nat}{b:Value}{l:List bI}(c:eB w base b l):∀i,i∈b.ownBlock.toList->tR w i:=λi hi cs r e=>by
 rcases c.2 with⟨a,_⟩ | ⟨g,f,h,a,_,d,_⟩
 ·rw[a]at hi;simp[Value.ownBlock]at hi
 ·rw[a]at hi;simp only[Value.ownBlock,Option.map_some,Option.toList_some,lm]at hi;subst hi;rw[d]at e;injection e with e;injection e with _ e _;exact absurd e dC
theorem LX{z s0 v r p f R a x Q t:Value}(b base:Nat)(S:List bI)(l:ByteArray)(A:Option Addr)(c:Nat)(bs:List UInt8)(w:World)(n:ak w b 77 (fG z s0 v r p f R a x Q t))(D:eB w base a S)(W:b<base)(T:base<=w.heap.size)(Y:S.length<=100000) :
 Calls prog 30 #[.pointer (some ⟨b,0,none⟩),.string l,.slice A bs.length c] w λe w'=>e=.returned (.tuple #[])/\∃o',ak w' b 77 (fG z s0 v r p f R o' x Q t)/\eB w' base o' (S++[⟨l,A,c,bs⟩])/\ag w w' (b::a.ownBlock.toList)/\(o'.ownBlock=a.ownBlock\/∃g,o'.ownBlock=some g/\w.heap.size<=g):=by
 have H:=lh n;have F:=lh D;have J:=n.cell 7 _ rfl;have V:=n.lt;clear n D;go_enter func30,ntmps30;go_wp2_with (at_builtin;refine ae ?_);refine ar ?_;have d:aa w (w.alloc (.cells #[.string l,.slice A bs.length c] 68)):=kP;have C:eB (w.alloc (.cells #[.string l,.slice A bs.length c] 68)) base a S:=F.o.keep d;refine aD DC nB zd rfl (.tmp 10) (.tmp 14) rfl (ys:=[⟨l,A,c,bs⟩]) C rfl rfl (br _ oM oM (λj u hu=>by
  match j,hu with
  | 0,hu=>cases hu;simp[go_sem]
  | 1,hu=>cases hu;simp[go_sem])) sO sO ?_
 intro X m B h y;obtain⟨o,q,E,_⟩:=B.sl nB sO;rw[lg,lJ]at E;subst E;have s:a.ownBlock≠some b:=λe=>by have:=(F.o.lt _ e).1;omega
 have G:(Value.slice o (S.length+1) q).ownBlock≠some b:=by
  rcases y with e|e
  ·rw[e];exact s
  ·rw[e];simp;omega
 have I:=lh (show(Value.slice o (S.length+1) q).ownBlock=a.ownBlock\/∃g,(Value.slice o (S.length+1) q).ownBlock=some g/\w.heap.size<=g by
  rcases y with e|e
  ·exact .inl e
  ·exact .inr ⟨_,e,sP⟩)
 have k:ak m b 77 (fG z s0 v r p f R a x Q t):=(h.block b sO (λe=>s e.symm)).trans (H.o.keep d);have M:=lh k;have N:=lh B;have K:=lh (show ag w m (b::a.ownBlock.toList) from⟨h.os.trans d.os,h.tape.trans d.tape,h.output.trans d.output,lk d.size h.size,λi hi hn=>(h.block i sO (λe=>hn (by rw[<-e];simp))).trans (d.block i hi)⟩);have P:=k.cell 7 _ rfl;have U:=k.soft 7;have O:=k.lt;have L:=lh G;clear J k B h y C d s G;go_wp2;exact bodyPost_end (v:=.tuple #[]) (by simp[results,results30,go_sem]) rfl ⟨rfl,_,M.o.set 7 _,(N.o.turn (ag.set m ⟨b,7,none⟩ _) (λi hi=>by
  simp only[lm]at hi;subst hi;exact L.o)),K.o.trans ((ag.set m ⟨b,7,none⟩ _).mono λi hi=>.inl (by simp only[lm]at hi;subst hi;simp)),I.o⟩
end Go.Proofs.YtpkocnpamcchcaaGreatDoor
namespace Go.Proofs.YtpkocnpamcchcaaGreatDoor
open Go.RowKit Go.Zone Go.Shelf Tryz Go.Roa Go.Sym
theorem de{w b:World}{g:Nat}{a:TypeId}{d:List Value}{c:Option Nat}(r:ak w g a d)(f:w.grownBy b c)(h:c≠some g):ak b g a d:=(f.block g r.lt (λe=>h e.symm)).trans r
def dJ(n:Int):List UInt8:=le (n%18446744073709551616).toNat 8
theorem sD(n:Int):(dJ n).length=8:=ay _ _
theorem sW:∀l:List Int,(l.flatMap dJ).length=l.length*8
 | []=>rfl
 | x::r=>by simp only[lN,lg,sW r,sD,lw];omega
theorem sw(a:World)(b n d:Nat)(v:Value)(bs:List UInt8)(w:World)(C:n<18446744073709551616)(L:d<=8)(q:aa a w)(J:a.heap.size<=b)(s:ak w b 31 [v])(y:aE w a.heap.size v bs)(M:bs.length<=1000000000000) :
 Calls prog 112 #[.int .u64 n,.int .i64 d,.pointer (some ⟨b,0,none⟩)] w λe w'=>e=.returned (.tuple #[])/\∃v',ak w' b 31 [v']/\aE w' a.heap.size v' (bs++le n d)/\aa a w':=by
 have c:=lh s;have j:=lh y;have h:=lh q;clear s y q;go_enter func112,ntmps112;go_wp2;go_loopw [0,6] (λvn vi wr=>∃(k m:Nat) (f:Value),k<=d/\m<18446744073709551616/\vn=.int .u64 m/\vi=.int .i64 k/\Hid (m=n/256^k)/\Hid (ak wr b 31 [f])/\Hid (aE wr a.heap.size f (bs++le n k))/\Hid (aa a wr)) (λ_ vi _=>d-(intOf vi).toNat)
 case atStart=>exact⟨0,n,v,lj _,C,rfl,rfl,(by show _=_;simp),c.o,(by show aE _ _ _ _;simp only[le,lT];exact j.o),h.o⟩
 case round =>
  clear c j h;obtain⟨k,m,f,q,R,rfl,rfl,x,c,j,h⟩:=hrel
  by_cases Q:k<d
  ·have H:=c.o.cell 0 _ rfl;have E:=c.o.lt;go_wp2_with (at_builtin;refine ae ?_);refine ar ?_;have o:aE (wr.alloc (.cells #[.int .u8 ((m:Int)%256)] 5)) a.heap.size f (bs++le n k):=j.o.keep (aa.alloc (aa.refl _) _);have p:ak (wr.alloc (.cells #[.int .u8 ((m:Int)%256)] 5)) b 31 [f]:=c.o.keep (aa.alloc (aa.refl _) _);refine aD bQ aO bT rfl (.tmp 8) (.tmp 11) rfl (ys:=[UInt8.ofNat m]) o rfl rfl (br _ oM oM (ed _ (by rw[dH];simp[go_sem]))) (by simp[ay];omega) (by have:=h.o.size;simp;omega) ?_;intro O u l r _;obtain⟨B,A,rfl⟩:=bp l;generalize (bs++le n k++[UInt8.ofNat m]).length=L1 at l;have ⟨a1,a2,a3⟩:=o.after r (h.o.trans kP) (lc _);have g:ak u b 31 [f]:=de p r (bu o p dC);have K:=lh l;have I:=lh a1;have D:=lh g;have N:=g.cell 0 _ rfl;have P:=g.lt;have S:=g.soft 0;have F:m/256<18446744073709551616:=oM;have G:=lh (bu l g dC);clear l r o p a1 a2 a3 g H E;go_wp2;go_roundw
   case rel=>exact⟨k+1,m/256,_,oM,F,by go_num,by go_num,(by show _=_;rw[x.o,Nat.div_div_eq_div_mul,Nat.pow_succ]),D.o.set 0 _,(by
    show aE _ _ _ _;have t:=ah.turn K.o (ag.set u ⟨b,0,none⟩ (.slice B L1 A)) (λi hi=>by simp only[lm]at hi;subst hi;exact G.o);rw[x.o,lr]at t;exact t),I.o.setCell J _⟩
   case measure=>simp[intOf];omega
  ·have z:k=d:=oM;subst z;go_wp2;go_end0;exact⟨rfl,f,c.o,j.o,h.o⟩
structure pD(w:World)(b:Nat)(A:Option Addr)(c:Nat)(xs:List Int)(lo hi:Int):Prop where
 l:w.cell? ⟨b,0,none⟩=some (.slice A xs.length c)
 lo_:w.cell? ⟨b,1,none⟩=some (.int .i64 lo)
 hi_:w.cell? ⟨b,2,none⟩=some (.int .i64 hi)
 m:w.cell? ⟨b,3,none⟩=some (.bool true)
 sl:Sl w 1 bM A c xs
theorem pD.keep{w e:World}{b c:Nat}{A:Option Addr}{xs:List Int}{lo hi:Int}(a:pD w b A c xs lo hi)(d:aa w e):pD e b A c xs lo hi :=
 ⟨(d.cell (p:=⟨b,0,none⟩) (block_lt_of_cell a.l)).trans a.l,(d.cell (p:=⟨b,1,none⟩) (block_lt_of_cell a.lo_)).trans a.lo_,(d.cell (p:=⟨b,2,none⟩) (block_lt_of_cell a.hi_)).trans a.hi_,(d.cell (p:=⟨b,3,none⟩) (block_lt_of_cell a.m)).trans a.m,a.sl.keep d⟩
def j7(xs:List Int):Int:=xs.foldl min 9223372036854775807
def ke(xs:List Int):Int:=xs.foldl max (-9223372036854775808)
def fZ(xs:List Int):List UInt8:=le xs.length 4++dJ (j7 xs)++dJ (ke xs)++xs.flatMap dJ
theorem uE(w:World)(g i j:Nat)(u v:Value):ag w ((w.setCell ⟨g,i,none⟩ u).setCell ⟨g,j,none⟩ v) [g]:=(ag.set w ⟨g,i,none⟩ u).trans (ag.set _ ⟨g,j,none⟩ v)
theorem xh{j:Type}{P:Program}{ops:Array Oper}{b:Oper}{rest:List Oper}{a:Act}{w:World}{Q:Exit->Act->World->Prop}(f:b.guard=none)(d e:Operand)(c l i:TypeId)
 (m:b.op=.call { callee:=.builtin .copy,args:=#[d,e],argTypes:=#[c,l] }) {k:Nat} (hu:P.underlying c=some (.slice i)) (hs:(P.info? i).map (·.size)=some k)
 {enc:j->List Value} (hk:∀x,(enc x).length=k) (h1:∀x,∀u∈enc x,u.oneCell'=true) {g dCap sCap n:Nat} {A:Option Addr} {xs:List j} {t:TypeId} {cur:List Value} (hd:a.eval d=.slice (some ⟨g,0,none⟩) n dCap) (hsv:a.eval e=.slice A n sCap) (hn:n=xs.length)
 (hx:Sl w k enc A sCap xs) (hg:ak w g t cur) (hc:cur.length=n*k)
 (h:∀w',ak w' g t (xs.flatMap enc)->ag w w' [g]->wpList P ops Q rest (a.put b.dst (goInt n)) w'):wpList P ops Q (b::rest) a w :=
 wpList_plain f λK hK=>by
  have:=yl (ops:=ops) (K:=K) (Q:=Q) (N:=True) f d e c l i m hu hs hk h1 hd hsv hn hx hg hc (λw' a1 a2=>hK _ _ (h w' a1 a2))
  rwa [if_pos (by simp[Region.wanted,f])]at this
theorem CL(x:Int):bM x=[.int .i64 x]:=rfl
theorem ea(x:Int):(bM x).length=1:=rfl
theorem vY(x:Int):∀u∈bM x,u.oneCell'=true:=λu hu=>by simp[bM]at hu;subst hu;rfl
theorem N3:(prog.info? 2).map (λi=>(i.zero,i.size,i.bytes))=some (some (.int .i64 0),1,8):=kR
theorem NN:(prog.info? 2).map (·.size)=some 1:=kR
theorem MS(n:Nat)(a:World)(g:n<=1000000000) :
 ∃W',(Instr.makeSlice 54 (.int .i64 (n:Int)) (.int .i64 (n:Int))).run prog a=.ok (.slice (some ⟨a.heap.size,0,none⟩) n n) W'/\ak W' a.heap.size 2 (List.replicate n (.int .i64 0))/\aa a W':=by
 obtain⟨i,hi,c,b,f⟩:=info_parts N3;have d:=run_make (P:=prog) a 54 2 i _ underlying54 hi c .i64 .i64 (n:Int) (n:Int) oM oM (by rw[f];omega) oM;rw[Lz,b]at d;refine⟨_,d,?_,aa.alloc (aa.refl _) _⟩;have e:(madeCells (Value.int .i64 0).cells (n*1))=(List.replicate n (Value.int .i64 0)).toArray:=by
  apply Array.ext
  ·simp[madeCells]
  ·intro i c b;simp[madeCells,Value.cells,Nat.mod_one]
 rw[e];exact bH _ _ _
theorem sU{a:Type}(f:a->Int->a)(z:a)(xs:List Int)(k:Nat)(b:k<xs.length):(xs.take (k+1)).foldl f z=f ((xs.take k).foldl f z) xs[k]:=by
 rw[ly b,List.foldl_append];rfl
theorem LV(A:Option Addr)(c:Nat)(xs:List Int)(w:World)(p:Sl w 1 bM A c xs)(L:xs.length<=16777216) :
 Calls prog 67 #[.slice A xs.length c] w λe w'=>∃b A' c',e=.returned (.tuple #[.pointer (some ⟨b,0,none⟩),.int .i64 0])/\pD w' b A' c' xs (j7 xs) (ke xs)/\aa w w':=by
 have I:=lh p;have X:=p.cap;generalize F:xs.length=n at L X;have d:=lh F;obtain⟨W',B,r,u⟩:=MS n w oM;have z:=lh r;have t:=lh u;have f:=lh (show w.heap.size<W'.heap.size from r.lt);have a4:decide ((16777216:Int)<(n:Int))=false:=sO;clear p r u F;generalize J:w.heap.size=g at z B f;have P:=lh J;clear J;go_enter func67,ntmps67;go_wp2_with (with_reducible refine qu 20 ?_);refine ar ?_;clear B;have h:ak (W'.alloc (.cells #[.slice (some ⟨g,0,none⟩) n n,.int .i64 9223372036854775807,.int .i64 (-9223372036854775808),.bool true] 180)) W'.heap.size 180 [.slice (some ⟨g,0,none⟩) n n,.int .i64 9223372036854775807,.int .i64 (-9223372036854775808),.bool true]:=bH _ _ _;have m:aa W' (W'.alloc (.cells #[.slice (some ⟨g,0,none⟩) n n,.int .i64 9223372036854775807,.int .i64 (-9223372036854775808),.bool true] 180)):=aa.alloc (aa.refl _) _;generalize W'.alloc (.cells #[.slice (some ⟨g,0,none⟩) n n,.int .i64 9223372036854775807,.int .i64 (-9223372036854775808),.bool true] 180)=a6 at h m|-;have G:=lh (show w.heap.size<=W'.heap.size from t.o.size);generalize W'.heap.size=b at h f G|-;have Y:=lh h;have l:=lh m;clear h m;refine xh rfl (.tmp 18) (.tmp 19) 54 54 2 rfl underlying54 NN ea vY rfl rfl d.o.symm (I.o.keep (t.v l)) (z.o.keep l.o) sP ?_;intro Q C y;have T:=lh C;have O:=lh (y.row Y.o (by have:=f.o;simp;omega))
 have N:=lh (ag.after (t.v l) y (λi hi=>by simp only[lm]at hi;rw[hi];exact lV P.o));clear C y;go_wp2;go_loopw [23] (λvi wr=>∃k:Nat,k<=n/\vi=.int .i64 k/\Hid (ak wr b 180 [.slice (some ⟨g,0,none⟩) n n,.int .i64 (j7 (xs.take k)),.int .i64 (ke (xs.take k)),.bool true])/\Hid (ag Q wr [b])) (λvi _=>n-(intOf vi).toNat)
 case atStart=>exact⟨0,lj _,rfl,O.o,ag.refl _ _⟩
 case round =>
  obtain⟨k,u,rfl,a,o⟩:=hrel;have H:=lh (ag.after N.o o.o (λi hi=>by simp only[lm]at hi;rw[hi];exact G.o))
  by_cases U:k<n
  ·have q:k<xs.length:=(by rw[d.o];exact U);obtain⟨a0,a3,S,a2,V⟩:=eZ (I.o.keep H.o) k q;subst S;have M:=a.o.cell 1 _ rfl;have W:=a.o.cell 2 _ rfl;have a1:=a.o.lt;have Z:=a.o.soft 1;have a5:=a.o.soft 2;have s:=lh (show j7 (xs.take (k+1))=min (j7 (xs.take k)) xs[k]from sU _ _ _ _ q);have j:=lh (show ke (xs.take (k+1))=max (ke (xs.take k)) xs[k]from sU _ _ _ _ q);generalize j7 (xs.take k)=lo at a s M;generalize ke (xs.take k)=hi at a j W;generalize xs[k]=x at V s j;have E:=lh ((a.o.set 1 (.int .i64 (min lo x))).set 2 (.int .i64 (max hi x)));have D:=lh (uE wr b 1 2 (.int .i64 (min lo x)) (.int .i64 (max hi x)));go_wp2;go_region;generalize R:(wr.setCell ⟨b,1,none⟩ (.int .i64 (min lo x))).setCell ⟨b,2,none⟩ (.int .i64 (max hi x))=a7 at E D|-;clear R;go_wp2;go_roundw
   case rel=>exact⟨k+1,oM,by go_num,(by show ak _ _ _ _;rw[s.o,j.o];exact E.o.keep kP),o.o.trans (D.o.trans (ag.keep kP _))⟩
   case measure=>simp[intOf];omega
  ·have K:k=n:=oM;subst K;rw[<-d.o,lC]at a;go_wp2;exact bodyPost_ret (v:=.tuple #[.pointer (some ⟨b,0,none⟩),.int .i64 0]) (by simp[results,results67,go_sem]) rfl
    ⟨b,some ⟨g,0,none⟩,xs.length,rfl,⟨a.o.cell 0 _ rfl,a.o.cell 1 _ rfl,a.o.cell 2 _ rfl,a.o.cell 3 _ rfl,(o.o.row T.o (by have:=f.o;simp;omega)).sl_blk ea (by have:=d.o;omega) (lc _) (by have:=d.o;omega)⟩,H.o⟩
theorem LW{b c:Nat}{A:Option Addr}{xs:List Int}{lo hi:Int}(w:World)(a:pD w b A c xs lo hi):Rt 111 #[.pointer (some ⟨b,0,none⟩)] w (.bool false):=by
 have d:=a.m;have e:=block_lt_of_cell d;clear a;go_enter func111,ntmps111;go_wp2;go_ret;exact⟨rfl,kP⟩
theorem MI{b c:Nat}{A:Option Addr}{xs:List Int}{lo hi:Int}(w:World)(J:pD w b A c xs lo hi)(aW:xs.length<=16777216) :
 Rb 69 #[.pointer (some ⟨b,0,none⟩)] w (le xs.length 4++dJ lo++dJ hi++xs.flatMap dJ):=by
 have av:=lh (LW w J);have X:=lh J;generalize V:xs.length=n at aW;have j:=lh V;clear J V;obtain⟨t,aQ⟩:∃t,t=8*n:=⟨_,rfl⟩;obtain⟨a,aU⟩:∃a,a=20+t:=⟨_,rfl⟩;have ag:IntKind.i64.wrap (8*(n:Int))=(t:Int):=iW oM;have aI:IntKind.i64.wrap (20+(t:Int))=(a:Int):=iW oM;have aJ:a<=200000000:=oM;clear aQ aU;go_enter func69,ntmps69;go_wp2_with (go_at_call 111;refine ae ?_);refine uM av.o ?_;rintro e y ⟨rfl,r⟩;have F:=lh r;have a0:=lh (X.o.keep r);have d:=a0.o.l;have f:=block_lt_of_cell d;rw[j.o]at d;obtain⟨i0,Y,a7,i2,i3⟩:=info_parts pd;obtain⟨W',aq,a8,o⟩:=run_make_own (P:=prog) y w.heap.size 31 5 i0 _ 1 underlying31 Y a7 i2 .i64 .i64 a (by rw[i3];omega) (by unfold maxLen;omega) r.size;have R:=lh (show aE W' w.heap.size (.slice (some ⟨y.heap.size,0,none⟩) 0 a) []from a8);have Q:=lh (show aa y W' from⟨o.os,o.tape,o.output,o.size,λi hi=>o.block i hi sP⟩);have aN:=r.size;clear a8 o r i0 Y a7 i2 i3 av;generalize y.heap.size=h at R aq aN;go_wp2_with (with_reducible refine qu 17 ?_);refine ar ?_;clear aq;have u:ak (W'.alloc (.cells #[.slice (some ⟨h,0,none⟩) 0 a] 31)) W'.heap.size 31 [.slice (some ⟨h,0,none⟩) 0 a]:=bH _ _ _;have O:aE (W'.alloc (.cells #[.slice (some ⟨h,0,none⟩) 0 a] 31)) w.heap.size (.slice (some ⟨h,0,none⟩) 0 a) []:=R.o.keep (aa.alloc (aa.refl _) _)
 have D:aa w (W'.alloc (.cells #[.slice (some ⟨h,0,none⟩) 0 a] 31)):=(F.v Q).alloc _;have aD:w.heap.size<=W'.heap.size:=(F.v Q).size;generalize W'.alloc (.cells #[.slice (some ⟨h,0,none⟩) 0 a] 31)=aT at u O D|-;generalize W'.heap.size=q at u aD|-;have aB:=lh u;have ao:=lh O;have I:=lh D;have p:=lh (λW (hW:aa w W)=>X.o.keep hW);have z:=lh aD;clear u O D R Q F a0 d f ag aI aJ;have d:=(p.o _ I.o).l;rw[j.o]at d;have f:=block_lt_of_cell d;have ag:IntKind.u64.wrap (n:Int)=(n:Int):=by rw[IntKind.wrap_u64]<;>omega
 go_wp2_with (go_at_call 112;refine ae ?_);refine uM (sw w q n 4 _ [] aT oM oM I.o z.o aB.o ao.o sP) ?_;rintro e aO ⟨rfl,v2,S,ai,al⟩;have az:=lh S;have T:=lh ai;have M:=lh al;clear S ai al aB ao I d f;have a2:=(p.o _ M.o).lo_;have f:=block_lt_of_cell a2;obtain⟨m,g⟩:∃m,m=(lo%18446744073709551616).toNat:=⟨_,rfl⟩;have af:m<18446744073709551616:=oM;have a1:IntKind.u64.wrap lo=(m:Int):=by simp[IntKind.wrap,IntKind.signed,IntKind.bits];omega
 have ah:=lh (show le m 8=dJ lo by rw[g];rfl);clear g;go_wp2_with (go_at_call 112;refine ae ?_);refine uM (sw w q m 8 _ _ aO af oM M.o z.o az.o T.o (by simp[ay])) ?_;rintro e aM ⟨rfl,v3,ax,H,U⟩;have a5:=lh ax;rw[ah.o]at H;have a4:=lh H;have C:=lh U;clear ax H U az T M a2 f a1 ah af;have aj:=(p.o _ C.o).hi_;have f:=block_lt_of_cell aj;obtain⟨m,g⟩:∃m,m=(hi%18446744073709551616).toNat:=⟨_,rfl⟩;have ac:m<18446744073709551616:=oM;have aZ:IntKind.u64.wrap hi=(m:Int):=by simp[IntKind.wrap,IntKind.signed,IntKind.bits];omega
 have au:=lh (show le m 8=dJ hi by rw[g];rfl);clear g;go_wp2_with (go_at_call 112;refine ae ?_);refine uM (sw w q m 8 _ _ aM ac oM C.o z.o a5.o a4.o (by simp[ay,sD])) ?_;rintro e b5 ⟨rfl,v4,a9,N,ad⟩;have a6:=lh a9;rw[au.o]at N;have ab:=lh N;have E:=lh ad;clear a9 N ad a5 a4 C aj f aZ au ac;have d:=(p.o _ E.o).l;rw[j.o]at d;have f:=block_lt_of_cell d;go_wp2;go_loopw [45] (λvi wr=>∃(k:Nat) (L:Value),k<=n/\vi=.int .i64 k/\Hid (ak wr q 31 [L])/\Hid (aE wr w.heap.size L (le n 4++dJ lo++dJ hi++(xs.take k).flatMap dJ))/\Hid (aa w wr)) (λvi _=>n-(intOf vi).toNat)
 case atStart=>exact⟨0,v4,lj _,rfl,a6.o,(by show aE _ _ _ _;simpa using ab.o),E.o⟩
 case round =>
  clear a6 ab E d f;obtain⟨k,L,b4,rfl,B,s,G⟩:=hrel
  by_cases aX:k<n
  ·have aw:k<xs.length:=(by rw[j.o];exact aX);obtain⟨b2,b3,aR,f,aH⟩:=eZ (p.o _ G.o).sl k aw;have ap:=lh (show(xs.take (k+1)).flatMap dJ=(xs.take k).flatMap dJ++dJ xs[k] by rw[ly aw,lF];simp);have aS:((xs.take k).flatMap dJ).length<=k*8:=(by rw[sW,lD];omega);subst aR;generalize xs[k]=x at aH ap;obtain⟨m,g⟩:∃m,m=(x%18446744073709551616).toNat:=⟨_,rfl⟩;have aG:m<18446744073709551616:=oM;have a1:IntKind.u64.wrap x=(m:Int):=(by simp[IntKind.wrap,IntKind.signed,IntKind.bits];omega);have b0:=lh (show le m 8=dJ x by rw[g];rfl);clear g;have aC:=lh (sw w q m 8 _ _ wr aG oM G.o z.o B.o s.o (by simp only[lg,ay,sD];omega));clear aS;go_wp2_with (go_at_call 112;refine ae ?_);refine uM aC.o ?_;rintro e b6 ⟨rfl,v5,aA,K,a3⟩;have aK:=lh aA;rw[b0.o]at K;have aY:=lh K;have aF:=lh a3;clear aA K a3 aC;go_wp2;go_roundw
   case rel=>exact⟨k+1,v5,oM,by go_num,aK.o,(by show aE _ _ _ _;rw[ap.o];have:=aY.o;rw[lr]at this;exact this),aF.o⟩
   case measure=>simp[intOf];omega
  ·have aL:k=n:=oM;subst aL;rw[<-j.o,lC,j.o]at s;obtain⟨aP,aV,Z⟩:=bp s.o;generalize (le k 4++dJ lo++dJ hi++List.flatMap dJ xs).length=b1 at Z;subst Z;have d:=B.o.cell 0 _ rfl;have f:=B.o.lt;go_wp2;exact bodyPost_ret (v:=.slice aP b1 aV) (by simp[results,results69,go_sem]) rfl ⟨_,rfl,s.o,G.o⟩
theorem nP:dX prog 24 3 1 8:=by
 obtain⟨i,hi,c,a,b⟩:=info_parts (show(prog.info? 3).map (λi=>(i.zero,i.size,i.bytes))=some (some (.int .i64 0),1,8) from kR);exact⟨i,_,underlying24,hi,c,a,b,rfl,dC,dC⟩
theorem mE(x:Nat):(dD x).length=1:=rfl
theorem vv(x:Nat):∀u∈dD x,u.oneCell'=true:=λu hu=>by simp[dD]at hu;subst hu;rfl
abbrev pw(w:World)(base:Nat)(v:Value)(xs:List Nat):Prop:=ah w base 3 1 dD v xs
def stepS(many b a:Nat):Option (List Nat)->Option (List Nat)
 | none=>none
 | some l=>if a=l.length/\a<many then some (l++[b+1]) else if a+1=l.length then some (l.set a (b+1)) else none
def eY(many:Nat)(a:List Nat):Nat->Option (List Nat)
 | 0=>some []
 | k+1=>stepS many k (a.getD k 0) (eY many a k)
theorem yu(many:Nat)(a:List Nat)(k:Nat)(b:eY many a k=none):∀d,eY many a (k+d)=none
 | 0=>b
 | d+1=>by
   show stepS many (k+d) _ (eY many a (k+d))=none;rw[yu many a k b d];rfl
theorem uw(many:Nat)(a:List Nat):∀k l,eY many a k=some l->l.length<=k
 | 0,l,h=>by simp[eY]at h;subst h;exact lj _
 | k+1,l,h=>by
   have b:=uw many a k;simp only[eY]at h
   cases hq:eY many a k with
   | none=>rw[hq]at h;cases h
   | some m =>
     rw[hq]at h;have:=b m hq;simp only[stepS]at h
     split at h
     ·injection h with h;subst h;simp;omega
     ·split at h
      ·injection h with h;subst h;simp;omega
      ·cases h
theorem yw(many:Nat)(b:List Nat):∀k l,eY many b k=some l->∀x∈l,x<=k
 | 0,l,h,x,a=>by simp[eY]at h;subst h;cases a
 | k+1,l,h,x,a=>by
   have c:=yw many b k;simp only[eY]at h
   cases hq:eY many b k with
   | none=>rw[hq]at h;cases h
   | some m =>
     rw[hq]at h;have:=c m hq;simp only[stepS]at h
     split at h
     ·injection h with h;subst h
      rcases lx.1 a with a|a
      ·exact Lv (this x a)
      ·simp at a;omega
     ·split at h
      ·injection h with h;subst h
       rcases List.mem_or_eq_of_mem_set a with a|a
       ·exact Lv (this x a)
       ·omega
      ·cases h
def fV(many:Nat)(a:List Nat):Option (List Nat) :=
 match eY many a a.length with
 | none=>none
 | some l=>if l.length=many then some l else none
inductive qK (w:World):Option (List Nat)->Value->Prop
 | nil_:qK w none (.pointer none)
 | at_ (b c:Nat) (A:Option Addr) (l:List Nat) (h:w.cell? ⟨b,0,none⟩=some (.slice A l.length c)) (hs:Sl w 1 dD A c l) (hb:∀x∈l,x<=16777216):qK w (some l) (.pointer (some ⟨b,0,none⟩))
theorem qK.keep{w d:World}{f:Option (List Nat)}{v:Value}(a:qK w f v)(e:aa w d):qK d f v:=by
 cases a with
 | nil_=>exact .nil_
 | at_ b c A l a hs hb=>exact .at_ b c A l ((e.cell (p:=⟨b,0,none⟩) (block_lt_of_cell a)).trans a) (hs.keep e) hb
theorem G0{many:Nat}{a:List Nat}{k:Nat}(d:k<a.length)(c:eY many a (k+1)=none):fV many a=none:=by
 have b:=yu many a (k+1) c (a.length-(k+1));rw[show k+1+(a.length-(k+1))=a.length from oM]at b;unfold fV;rw[b]
theorem AW{a:Type}{w:World}{base k n c:Nat}{e:TypeId}{enc:a->List Value}{A:Option Addr}{xs:List a}(b:ah w base e k enc (.slice A n c) xs)(j:0<xs.length):∃g,A=some ⟨g,0,none⟩/\n=xs.length:=by
 rcases b.2 with⟨_,f⟩ | ⟨g,h,i,d,_⟩
 ·omega
 ·injection d with hA hn _;exact⟨g,hA,hn⟩
theorem GW(A:Option Addr)(c many:Nat)(g:List Nat)(w:World)(L:Sl w 1 dD A c g)(ab:g.length<=16777216)(bb:many<=16777216) :
 Calls prog 81 #[.slice A g.length c,.int .i64 many] w λe w'=>∃p er,e=.returned (.tuple #[p,.int .i64 er])/\qK w' (fV many g) p/\aa w w':=by
 have ay:=lh L;generalize R:g.length=n at ab;have aO:=lh R;have b4:decide ((16777216:Int)<(n:Int))=false:=sO;have aV:decide ((16777216:Int)<(many:Int))=false:=sO;have aP:=lh (show fV many g=(match eY many g n with|none=>none|some l=>if l.length=many then some l else none) by unfold fV;rw[R]);clear L R;go_enter func81,ntmps81;go_wp2;go_step3;go_wp2;have I:ak (w.alloc (.cells #[.slice none 0 0] 205)) w.heap.size 205 [.slice none 0 0]:=bH _ _ _;have T:aa w (w.alloc (.cells #[.slice none 0 0] 205)):=aa.alloc (aa.refl _) _;have aS:w.heap.size<=w.heap.size:=lc _;generalize aN:w.alloc (.cells #[.slice none 0 0] 205)=b3 at I T|-;clear aN;generalize C:w.heap.size=b at I|-;have Y:=lh C;have aq:=lh I;have a9:=lh T;clear I T aS C;go_step3;go_wp2;go_loopw [24] (λvi wr=>∃(k:Nat) (l:List Nat) (v:Value),k<=n/\vi=.int .i64 k/\Hid (eY many g k=some l)/\Hid (ak wr b 205 [v])/\Hid (pw wr b v l)/\Hid (aa w wr)) (λvi _=>n-(intOf vi).toNat)
 case atStart=>exact⟨0,[],.slice none 0 0,lj _,rfl,rfl,aq.o,ah.nil_ _ _ _ _ _,a9.o⟩
 case round =>
  clear aq a9;obtain⟨k,l,v,b6,rfl,P,m,q,r⟩:=hrel;obtain⟨Q,a3,K⟩:=bp q.o;have ap:=uw many g k l P.o
  by_cases aH:k<n
  ·have a2:k<g.length:=(by rw[aO.o];exact aH);obtain⟨b1,b2,aC,b0,ax⟩:=jS (ay.o.keep r.o) k a2;have o:=lh (show eY many g (k+1)=stepS many k g[k] (some l) by
    show stepS many k (g.getD k 0) (eY many g k)=_;rw[P.o];congr 1;simp[a2])
   have B:=lh (λL=>G0 (many:=many) a2 L);subst aC;generalize g[k]=d at ax o;have J:=m.o.cell 0 _ rfl;have C:=m.o.lt;have az:=m.o.soft 0;have b5:IntKind.i64.wrap ((k:Int)+1)=((k+1:Nat):Int):=iW oM;generalize E:l.length=f at ap K;have h:=lh E;clear E;subst K
   by_cases F:d=f
   ·by_cases S:d<many
    ·have s:=lh (show eY many g (k+1)=some (l++[k+1]) by rw[o.o,stepS,if_pos ⟨by rw[h.o];exact F,S⟩]);have G:((d:Int)==(f:Int))=true:=sO;have U:decide ((d:Int)<(many:Int))=true:=sO;have aj:(d:Int)=(f:Int):=oM;have aI:(d:Int)<(many:Int):=oM;clear o B F S;go_wp2_with (at_builtin;refine ae ?_);refine ar ?_;have H:pw (wr.alloc (.cells #[.int .i64 ((k+1:Nat):Int)] 3)) b (.slice Q f a3) l:=q.o.keep (aa.alloc (aa.refl _) _);have X:ak (wr.alloc (.cells #[.int .i64 ((k+1:Nat):Int)] 3)) b 205 [.slice Q f a3]:=m.o.keep (aa.alloc (aa.refl _) _);refine aD nP mE vv rfl (.tmp 46) (.tmp 49) rfl (ys:=[k+1]) H rfl rfl (br _ oM oM (λj u hu=>by match j,hu with|0,hu=>cases hu;simp[go_sem])) (by have:=h.o;simp;omega) sO ?_;intro b8 V D a4 _;obtain⟨a6,a1,rfl⟩:=bp D;generalize (l++[k+1]).length=L1 at D;have aM:=lh (show aa w V from ah.kept H a4 ((r.o).alloc _) (lV Y.o));have t:ak V b 205 [.slice Q f a3]:=de X a4 (bu H X dC);have aG:=lh D;have aE:=lh t;have aJ:=lh (bu D t dC);have aX:=t.cell 0 _ rfl;have b9:=t.lt;have aW:=t.soft 0;clear D a4 H X t J C az q m r;go_wp2;go_roundw
     case rel=>exact⟨k+1,l++[k+1],.slice a6 L1 a1,oM,by go_num,s.o,aE.o.set 0 _,ah.turn aG.o (ag.set V ⟨b,0,none⟩ (.slice a6 L1 a1)) (λi hi=>by simp only[lm]at hi;subst hi;exact aJ.o),aM.o.setCell (lV Y.o) _⟩
     case measure=>simp[intOf];omega
    ·have s:=lh (B.o (by rw[o.o,stepS,if_neg oM,if_neg (by have:=h.o;omega)]));have G:((d:Int)==(f:Int))=true:=sO;have U:decide ((d:Int)<(many:Int))=false:=sO;have aj:(d:Int)=(f:Int):=oM;have aI:¬(d:Int)<(many:Int):=oM;obtain⟨z,O⟩:∃z:Int,z=(f:Int)-1:=⟨_,rfl⟩;have W:IntKind.i64.wrap ((f:Int)-1)=z:=iW oM;have ai:((d:Int)==z)=false:=sO;have aB:¬(d:Int)=z:=oM;clear o B F S O;go_wp2
     (try rw[Exit.noGoto_ret])
     exact bodyPost_ret (v:=.tuple #[.pointer none,.int .i64 2]) (by simp[results,results81,go_sem]) rfl ⟨_,_,rfl,by rw[s.o];exact .nil_,r.o⟩
   ·have G:((d:Int)==(f:Int))=false:=sO;have aj:¬(d:Int)=(f:Int):=oM;obtain⟨z,O⟩:∃z:Int,z=(f:Int)-1:=⟨_,rfl⟩;have W:IntKind.i64.wrap ((f:Int)-1)=z:=iW oM
    by_cases a8:d+1=f
    ·have s:=lh (show eY many g (k+1)=some (l.set d (k+1)) by rw[o.o,stepS,if_neg (by have:=h.o;omega),if_pos (by have:=h.o;omega)]);have aY:IntKind.i64.wrap ((f:Int)-1)=(d:Int):=(by rw[W];omega);have ai:((d:Int)==(d:Int))=true:=sP;clear W;have aT:decide ((0:Int)<=(d:Int))=true:=sP;have aZ:d<f:=oM;obtain⟨al,aR,aF⟩:=AW q.o (by have:=h.o;omega);clear aF;subst aR;obtain⟨av,a1,b7,ac⟩:=q.o.cell1 qp h.o.symm d (by have:=h.o;omega);have ad:=q.o.set1 qp h.o.symm d (k+1) rfl;have a5:=bu q.o m.o dC;have aw:al≠b:=λe=>a5 (by rw[e];rfl);have aQ:=lh (m.o.other d (.int .i64 ((k+1:Nat):Int)) aw);have au:=lh ad;have aK:=lh (r.o.setCell (a:=⟨al,d,none⟩) (by rw[Y.o];exact ac) (.int .i64 ((k+1:Nat):Int)));generalize l[d]'(by have:=h.o;omega)=y at av;clear o B F a8 O ad a5 ac;go_wp2;go_roundw
     case rel=>exact⟨k+1,_,_,oM,by go_num,s.o,aQ.o,au.o,aK.o⟩
     case measure=>simp[intOf];omega
    ·have s:=lh (B.o (by rw[o.o,stepS,if_neg (by have:=h.o;omega),if_neg (by have:=h.o;omega)]));have ai:((d:Int)==z)=false:=sO;have aB:¬(d:Int)=z:=oM;clear o B F a8 O;go_wp2
     (try rw[Exit.noGoto_ret])
     exact bodyPost_ret (v:=.tuple #[.pointer none,.int .i64 2]) (by simp[results,results81,go_sem]) rfl ⟨_,_,rfl,by rw[s.o];exact .nil_,r.o⟩
  ·have aA:k=n:=oM;subst aA;have J:=m.o.cell 0 _ rfl;have C:=m.o.lt;have aL:k<=16777216:=ab;have a0:=lh (show fV many g=if l.length=many then some l else none by rw[aP.o,P.o]);have ao:=lh J;obtain⟨aU,ba,M,af⟩:=q.o.sl (λ_=>rfl) oM;have a7:=lh af;clear af;generalize E:l.length=f at ap K M J a0 ao a7;have h:=lh E;clear E;subst K;injection M with M _ hc8;subst M;subst hc8
   by_cases N:f=many
   ·have G:((f:Int)==(many:Int))=true:=sO;have U:(f:Int)=(many:Int):=oM;have Z:=lh (a0.o.trans (if_pos N));clear N;go_wp2
    (try rw[Exit.noGoto_ret])
    exact bodyPost_ret (v:=.tuple #[.pointer (some ⟨b,0,none⟩),.int .i64 0]) (by simp[results,results81,go_sem]) rfl ⟨_,_,rfl,by rw[Z.o];exact .at_ b _ _ l (by rw[h.o];exact ao.o) a7.o (λx hx=>lk (yw many g k l P.o x hx) aL),r.o⟩
   ·have G:((f:Int)==(many:Int))=false:=sO;have U:¬(f:Int)=(many:Int):=oM;have Z:=lh (a0.o.trans (if_neg N));clear N;go_wp2
    (try rw[Exit.noGoto_ret])
    exact bodyPost_ret (v:=.tuple #[.pointer none,.int .i64 2]) (by simp[results,results81,go_sem]) rfl ⟨_,_,rfl,by rw[Z.o];exact .nil_,r.o⟩
def ik:Option (List Nat)->List Nat
 | none=>[]
 | some l=>l
def ky(o:Option (List Nat)):List UInt8:=(ik o).flatMap (le · 4)
theorem GX{d:Option (List Nat)}{p:Value}(w:World)(a:qK w d p):Rt 133 #[p] w (.int .i64 ((ik d).length:Nat)):=by
 cases a with
 | nil_ =>
   go_enter func133,ntmps133;go_wp2;go_ret;exact⟨rfl,kP⟩
 | at_ b c A l a hs hb =>
   have e:=block_lt_of_cell a;simp only[ik];generalize l.length=f at a|-;clear hs hb;go_enter func133,ntmps133;go_wp2;go_ret;exact⟨rfl,kP⟩
theorem wB:∀l:List Nat,(l.flatMap (le · 4)).length=l.length*4
 | []=>rfl
 | x::r=>by simp only[lN,lg,wB r,ay,lw];omega
theorem GY{n:Option (List Nat)}{p:Value}(w:World)(a:qK w n p)(r:(ik n).length<=16777216):Rb 82 #[p] w (ky n):=by
 have d:=lh (GX w a)
 cases a with
 | nil_ =>
   simp only[ik]at d;go_enter func82,ntmps82;go_wp2_with (go_at_call 133;refine ae ?_);refine uM d.o ?_;rintro e S ⟨rfl,g⟩;have h:=lh g;clear g;go_wp2;refine wp_loop_rounds 1 ?_;rw[rounds_succ];go_wp2;exact bodyPost_ret (v:=.slice none 0 0) (by simp[results,results82,go_sem]) rfl ⟨_,rfl,ah.nil_ _ _ _ _ _,h.o⟩
 | at_ b c A l a hs hb =>
   have o:=lh a;have N:=lh hs;have H:=lh hb;simp only[ik]at d r;generalize t:l.length=i at o a d r;have s:=lh t;clear a hs hb t;go_enter func82,ntmps82;go_wp2_with (go_at_call 133;refine ae ?_);refine uM d.o ?_;rintro e S ⟨rfl,g⟩;have h:=lh g;clear g;go_wp2;go_loopw [3,7] (λvb vi wr=>∃(k:Nat) (v:Value),k<=i/\vi=.int .i64 k/\v=vb/\Hid (aE wr w.heap.size v ((l.take k).flatMap (le · 4)))/\Hid (aa w wr)) (λ_ vi _=>i-(intOf vi).toNat)
   case atStart=>exact⟨0,.slice none 0 0,lj _,rfl,rfl,ah.nil_ _ _ _ _ _,h.o⟩
   case round =>
    clear h;obtain⟨k,v,Z,rfl,rfl,j,f⟩:=hrel
    by_cases M:k<i
    ·have m:k<l.length:=(by rw[s.o];exact M);have P:=(f.o.cell (p:=⟨b,0,none⟩) (block_lt_of_cell o.o)).trans o.o;have T:=block_lt_of_cell P;obtain⟨X,Y,L,V,O⟩:=jS (N.o.keep f.o) k m;have K:=H.o l[k] (ll m);have D:=lh (show(l.take (k+1)).flatMap (le · 4)=(l.take k).flatMap (le · 4)++le l[k] 4 by rw[ly m,lF];simp);have R:((l.take k).flatMap (le · 4)).length<=k*4:=(by rw[wB,lD];omega);subst L;generalize l[k]=x at O K D;obtain⟨G,J,y,B⟩:=j.o.sl aO oM;have q:=lh (iQ G J _ x oM wr B oM);generalize Q:((l.take k).flatMap (le · 4)).length=a0 at y q;subst y;have U:IntKind.u32.wrap (x:Int)=(x:Int):=(by simp[IntKind.wrap,IntKind.signed,IntKind.bits];omega);clear R B Q;go_wp2_with (go_at_call 31;refine ae ?_);refine uM q.o ?_;rintro e W ⟨v2,rfl,z,C⟩;have I:=lh (z.base_mono f.o.size);have E:=f.u C;clear z C q;go_wp2;go_roundw
     case rel=>exact⟨k+1,v2,oM,by go_num,rfl,(by show aE _ _ _ _;rw[D.o];exact I.o),E.o⟩
     case measure=>simp[intOf];omega
    ·have F:k=i:=oM;subst F;rw[<-s.o,lC]at j;go_wp2;exact bodyPost_ret (v:=v) (by simp[results,results82,go_sem]) rfl ⟨_,rfl,j.o,f.o⟩
theorem ag.set2(w:World)(g i j:Nat)(u v:Value):ag w ((w.setCell ⟨g,i,none⟩ u).setCell ⟨g,j,none⟩ v) [g]:=(ag.set w ⟨g,i,none⟩ u).trans (ag.set _ ⟨g,j,none⟩ v)
theorem um(g c base a b n N:Nat)(xs:List Rw)(B:xs.length=N)(z:Value)(w:World)(s:cw w base (.slice (some ⟨g,0,none⟩) N c) xs)(K:a+n<=b)(L:b+n<=N)(O:N<=1000000000) :
 Calls prog 223 #[.slice (some ⟨g,0,none⟩) N c,.int .i64 a,.int .i64 b,.int .i64 n,z] w λe w'=>e=.returned (.tuple #[])/\cw w' base (.slice (some ⟨g,0,none⟩) N c) (fM xs a b n)/\ag w w' [g]:=by
 have p:=lh s;clear s;go_enter func223,ntmps223;go_wp2;go_loopw [10] (λi wr=>∃k:Nat,k<=n/\i=.int .i64 k/\Hid (cw wr base (.slice (some ⟨g,0,none⟩) N c) (fM xs a b k))/\Hid (ag w wr [g])) (λi _=>n-(intOf i).toNat)
 case atStart=>exact⟨0,lj _,rfl,p.o,ag.refl _ _⟩
 case round =>
  clear p;obtain⟨k,M,rfl,d,r⟩:=hrel
  by_cases P:k<n
  ·have f:=(nj xs a b k).trans B;obtain⟨ys,o⟩:∃ys,fM xs a b k=ys:=⟨_,rfl⟩;have m:fM xs a b (k+1)=Sym.swp ys (a+k) (b+k):=(by rw[fM,o]);rw[o]at d f;have t:a+k<ys.length:=oM;have u:b+k<ys.length:=oM;rw[oo t u]at m;obtain⟨a0,E,a2,a3⟩:=d.o.cell1 gW f.symm (a+k) t;obtain⟨v,F,G,H⟩:=d.o.cell1 gW f.symm (b+k) u;have l:=d.o.set1 gW f.symm (a+k) ys[b+k] rfl;have h:=l.set1 gW (by rw[Li];exact f.symm) (b+k) ys[a+k] rfl;rw[<-m]at h;have j:=lh h;have Q:a+k≠b+k:=oM;have I:IntKind.i64.wrap ((a:Int)+(k:Int))=((a+k:Nat):Int):=iW oM;have J:IntKind.i64.wrap ((b:Int)+(k:Int))=((b+k:Nat):Int):=iW oM;generalize ys[a+k]=x at a0 l h j;generalize ys[b+k]=y at v l h j;clear l h m o;have q:=lh (ag.set2 wr g (a+k) (b+k) (.slice y.A y.vs.length y.c) (.slice x.A x.vs.length x.c));go_wp2;go_region;generalize C:(wr.setCell ⟨g,a+k,none⟩ (.slice y.A y.vs.length y.c)).setCell ⟨g,b+k,none⟩ (.slice x.A x.vs.length x.c)=R at j q|-;clear C;go_wp2;go_roundw
   case rel=>exact⟨k+1,oM,by go_num,j.o.keep kP,r.o.trans (q.o.trans (ag.keep kP _))⟩
   case measure=>simp[intOf];omega
  ·have D:k=n:=oM;subst D;go_wp2;go_end0;exact⟨rfl,d.o,r.o⟩
theorem IU(g c base a m b N:Nat)(xs:List Rw)(a6:xs.length=N)(C:Value)(w:World)(V:cw w base (.slice (some ⟨g,0,none⟩) N c) xs)(ah:a<m)(al:m<b)(ai:b<=N)(L:N<=1000000000) :
 Calls prog 187 #[.slice (some ⟨g,0,none⟩) N c,.int .i64 a,.int .i64 m,.int .i64 b,C] w λe B=>e=.returned (.tuple #[])/\cw B base (.slice (some ⟨g,0,none⟩) N c) (bv xs a m b)/\ag w B [g]:=by
 have R:=lh V;have T:IntKind.i64.wrap ((m:Int)-(a:Int))=((m-a:Nat):Int):=iW oM;have U:IntKind.i64.wrap ((b:Int)-(m:Int))=((b-m:Nat):Int):=iW oM;have S:=lh (Sym.parts xs a m b oM oM);have Y:(xs.take a).length=a:=sO;have Z:(aB xs a m).length=m-a:=im xs a m oM oM;have a0:(aB xs m b).length=b-m:=im xs m b oM oM;have E:=lh (And.intro Y (And.intro Z a0));clear V Y Z a0;go_enter func187,ntmps187;go_wp2;go_loopw [10,11] (λvi vj wr=>∃(i j:Nat) (P X n Q:List Rw),vi=.int .i64 i/\vj=.int .i64 j/\1<=i/\1<=j/\Hid (X.length=i)/\Hid (n.length=j)/\Hid (P.length+i=m)/\Hid ((P++(X++(n++Q))).length=N)/\Hid (P++(n++(X++Q))=bv xs a m b)/\Hid (cw wr base (.slice (some ⟨g,0,none⟩) N c) (P++(X++(n++Q))))/\Hid (ag w wr [g])) (λvi vj _=>(intOf vi).toNat+(intOf vj).toNat)
 case atStart=>exact⟨m-a,b-m,xs.take a,aB xs a m,aB xs m b,xs.drop b,rfl,rfl,oM,oM,E.o.2.1,E.o.2.2,by show _=_;rw[E.o.1];omega,by show _=_;rw[<-S.o];exact a6,rfl,by rw[<-S.o];exact R.o,ag.refl _ _⟩
 case round =>
  clear R T U;obtain⟨i,j,P,X,n,Q,rfl,rfl,a9,aa,x,y,t,l,F,p,q⟩:=hrel;have aj:i+j<=N:=by
   have:=l.o;simp only[lg,x.o,y.o]at this;omega
  have ap:P.length+i=m:=t.o;have ak:P.length+i+j+Q.length=N:=by
   have:=l.o;simp only[lg,x.o,y.o]at this;omega
  have T:IntKind.i64.wrap ((m:Int)-(i:Int))=((P.length:Nat):Int):=iW oM
  rcases Nat.lt_trichotomy i j with ab|a7|a8
  ·have ac:¬((i:Int)=(j:Int)):=oM;have ao:¬((j:Int)<(i:Int)):=oM;obtain⟨O,a1⟩:∃O,O=m+j-i:=⟨_,rfl⟩;obtain⟨r,M⟩:∃r,r=j-i:=⟨_,rfl⟩;have U:IntKind.i64.wrap ((m:Int)+(j:Int))=(m:Int)+(j:Int):=(by rw[IntWalk.i64_in _ ⟨oM,oM⟩]);have af:IntKind.i64.wrap ((m:Int)+(j:Int)-(i:Int))=(O:Int):=iW oM;have a5:IntKind.i64.wrap ((j:Int)-(i:Int))=(r:Int):=iW oM;obtain⟨J,K,Q',A,s,h,z⟩:=zr (Q:=Q) x.o y.o t.o ab;have d:=lh (um g c base P.length (m+j-i) i N _ l.o C wr p.o oM oM L);have o:=(nj (P++(X++(n++Q))) P.length (m+j-i) i).trans l.o;rw[h]at d o;rw[<-a1]at d;rw[<-M]at s;have ad:1<=r:=oM;have a3:=lh M;have D:=lh o;have H:=lh A;have I:=lh s;have G:=lh z;clear o A s z h a1 M;go_wp2_with (go_at_call 223;refine ae ?_);refine uM d.o ?_;rintro e B ⟨rfl,f,k⟩;have u:=lh f;have v:=lh (q.o.trans k);clear f k d p q;go_wp2;go_roundw
   case rel=>exact⟨i,r,P,J,K,Q',rfl,rfl,a9,ad,H.o,I.o,t.o,D.o,G.o.trans F.o,u.o,v.o⟩
   case measure=>have:=a3.o;simp[intOf];omega
  ·subst a7;have h:=zu (Q:=Q) x.o y.o t.o;have d:=lh (um g c base P.length m i N _ l.o C wr p.o oM oM L);rw[h,F.o]at d;clear h;go_wp2_with (go_at_call 223;refine ae ?_);refine uM d.o ?_;rintro e B ⟨rfl,f,k⟩;have u:=lh f;have v:=lh (q.o.trans k);clear f k d p q;go_wp2;go_end0;exact⟨rfl,u.o,v.o⟩
  ·have ac:¬((i:Int)=(j:Int)):=oM;have a5:IntKind.i64.wrap ((i:Int)-(j:Int))=((i-j:Nat):Int):=iW oM;obtain⟨a4,J,K,A,s,W,h,z⟩:=zt (Q:=Q) x.o y.o t.o a8;have d:=lh (um g c base P.length m j N _ l.o C wr p.o oM oM L);have o:=(nj (P++(X++(n++Q))) P.length m j).trans l.o;rw[h]at d o;have D:=lh o;have H:=lh A;have I:=lh s;have a2:=lh W;have G:=lh z;clear o A s W z h;go_wp2_with (go_at_call 223;refine ae ?_);refine uM d.o ?_;rintro e B ⟨rfl,f,k⟩;have u:=lh f;have v:=lh (q.o.trans k);clear f k d p q;go_wp2;go_roundw
   case rel=>exact⟨i-j,j,a4,J,K,Q,by go_num,rfl,oM,aa,H.o,I.o,a2.o,D.o,G.o.trans F.o,u.o,v.o⟩
   case measure=>simp[intOf];omega
end Go.Proofs.YtpkocnpamcchcaaGreatDoor
namespace Go.Zone
theorem ag.setc{w b:World}{S:List Nat}(c:ag w b S){a:Addr}(d:a.block∈S)(u:Value):ag w (b.setCell a u) S :=
 c.trans ((ag.set b a u).mono λi hi=>.inl (by simp only[lm]at hi;subst hi;exact d))
theorem ag.drew{w W:World}{S:List Nat}(h:ag w W S):ag w W.drew S:=h.trans (ag.keep (aa.drew (aa.refl W)) S)
theorem ag.drewN{w W:World}{S:List Nat}(h:ag w W S)(n:Nat):ag w (W.drewN n) S:=h.trans (ag.keep (aa.drewN (aa.refl W) n) S)
theorem ag.alloc{w W:World}{S:List Nat}(h:ag w W S)(o:Obj):ag w (W.alloc o) S:=h.trans (ag.keep (aa.alloc (aa.refl W) o) S)
theorem ag.gro{w W:World}{S:List Nat}(h:ag w W S)(p:_):ag w (W.gro p) S:=h.trans (ag.keep (aa.gro (aa.refl W) p) S)
theorem ag.trans2{b f d:World}{S c:List Nat}(a:ag b f S)(k:ag f d c)(g:∀i∈c,i∈S\/b.heap.size<=i):ag b d S :=
 ⟨k.os.trans a.os,k.tape.trans a.tape,k.output.trans a.output,lk a.size k.size,λi hi hn=>(k.block i (lp hi a.size) (λhm=>by rcases g i hm with e|e;exact hn e;omega)).trans (a.block i hi hn)⟩
theorem ag.keep_{w a W':World}{S:List Nat}(b:ag w a S)(c:aa a W'):ag w W' S:=b.trans (ag.keep c S)
end Go.Zone
namespace Go.Proofs.YtpkocnpamcchcaaGreatDoor
open Go.RowKit Go.Zone Go.Shelf Tryz
theorem fS.turn{w f:World}{b:Nat}{g:Int}{A:Option Addr}{c:Nat}{xs:List ai}{S:List Nat}(a:fS w b g A c xs)(d:ag w f S)(e:b∉S)(h:∀b off,A=some ⟨b,off,none⟩->b∉S):fS f b g A c xs :=
 ⟨d.cell a.k e,d.cell a.l e,a.sl.turn d h⟩
theorem kZ.turn{w g:World}{b rows many f c:Nat}{A:Option Addr}{bs:List UInt8}{S:List Nat}(a:kZ w b rows many f A c bs)(d:ag w g S)(e:b∉S)(h:∀b off,A=some ⟨b,off,none⟩->b∉S):kZ g b rows many f A c bs :=
 ⟨d.cell a.r e,d.cell a.m e,d.cell a.w_ e,d.cell a.b_ e,a.sl.turn d h⟩
theorem kL{t s0 v r p f R k o Q n:Value}(b base:Nat)(S:List bI)(d:ByteArray)(A:Option Addr)(c:Nat)(bs:List UInt8)(w:World)(q:ak w b 77 (fG t s0 v r p f R k o Q n))(l:eB w base k S)(D:b<base)(B:base<=w.heap.size)(u:S.length<=100000)
 (E:eU w S) (x:aE w 0 (.slice A bs.length c) bs) :
 Calls prog 30 #[.pointer (some ⟨b,0,none⟩),.string d,.slice A bs.length c] w λe h=>e=.returned (.tuple #[])/\∃a,ak h b 77 (fG t s0 v r p f R a o Q n)/\eB h base a (S++[⟨d,A,c,bs⟩])/\eU h (S++[⟨d,A,c,bs⟩])/\ag w h (b::k.ownBlock.toList)/\(a.ownBlock=k.ownBlock\/∃g,a.ownBlock=some g/\w.heap.size<=g):=by
 refine(LX b base S d A c bs w q l D B u).mono ?_;rintro e h ⟨rfl,a,F,C,m,y⟩;refine⟨rfl,a,F,C,?_,m,y⟩;have z:eU w (S++[⟨d,A,c,bs⟩]):=λs j=>by
  rw[lx,lm]at j
  rcases j with j|rfl
  ·exact E s j
  ·exact x
 refine z.turn m λi hi _=>?_;rw[ln]at hi
 rcases hi with rfl|hi
 ·exact ak.noU8 q dC
 ·exact eB.noU8 l i hi
end Go.Proofs.YtpkocnpamcchcaaGreatDoor
namespace Go.Proofs.YtpkocnpamcchcaaGreatDoor
open Go.RowKit Go.Zone Go.Shelf Tryz
theorem N4:(prog.info? 3).map (λi=>(i.zero,i.size,i.bytes))=some (some (.int .i64 0),1,8):=kR
def mB:ByteArray:=⟨#[100,105,99,116]⟩
def mA:ByteArray:=⟨#[102,111,114,119,97,114,100]⟩
theorem OW{a:Int}{xs:List ai}{v:ai}(b:a≠0)(c:v∈xs):nM a (aQ xs) v=((dE (aQ xs) v:Int),true):=by
 simp[nM,b,(qh c).1]
theorem fS.turn1{w g:World}{b:Nat}{h:Int}{A:Option Addr}{c:Nat}{xs:List ai}{S:List Nat}(a:fS w b h A c xs)(d:ag w g S)(f:b∉S)(i:∀b off,A=some ⟨b,off,none⟩->0<xs.length->b∉S):fS g b h A c xs:=by
 rcases xs with _ | ⟨x,r⟩
 ·exact⟨d.cell a.k f,d.cell a.l f,Sl.nil_ _ a.sl.big⟩
 ·exact⟨d.cell a.k f,d.cell a.l f,a.sl.turn d λb off e=>i b off e sP⟩
end Go.Proofs.YtpkocnpamcchcaaGreatDoor
