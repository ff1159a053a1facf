/- Parts. -/
import Derived.Laws.RangeAny
import Derived.LoopTactic
import Derived.Deep.Grids
import Derived.Test.YtpkocnpamcchcaaGreatDoorL04
import Derived.Test.YtpkocnpamcchcaaGreatDoorL05
set_option maxRecDepth 100000
set_option maxHeartbeats 40000000
set_option linter.all false
namespace Go.Proofs.YtpkocnpamcchcaaGreatDoor
open Go.RowKit Go.Zone Go.Shelf Tryz
structure aG where
 name:ByteArray
 kind:Int
def aG.cells(c:aG):List Value:=[.string c.name,.int .u8 c.kind]
@[reducible] def aG.v(c:aG):Value:=.agg #[.string c.name,.int .u8 c.kind]
instance:Inhabited aG:=⟨⟨ByteArray.empty,0⟩⟩
def j9(n:ByteArray)(c:aG):Bool:=c.name.toList==n.toList
theorem il{w:World}{c:Nat}{A:Option Addr}{xs:List aG}(f:Sl w 2 aG.cells A c xs)(i:Nat)(hi:i<xs.length):∃b a,A=some ⟨b,a,none⟩/\b<w.heap.size/\w.cell? ⟨b,a+i*2,none⟩=some (.string xs[i].name) /\
 w.cell? ⟨b,a+i*2+1,none⟩=some (.int .u8 xs[i].kind):=by
 obtain⟨b,a,g,e⟩:=f.at_ i hi;have d:=e 0 _ rfl;exact⟨b,a,g,World.block_lt_of_cell? w _ d,d,e 1 _ rfl⟩
theorem N8(A:Option Addr)(c:Nat)(xs:List aG)(g:Nat)(s:Array Value)(p:aG->Bool)(w:World)(B:∀args w,(callFunc g args).run prog w=.ok (.enter g args) w)
 (h:Sl w 2 aG.cells A c xs) (r:jJ prog g s aG.v p w) :
 Rt 185 #[.slice A xs.length c,.func (.func g) #[] s] w (.int .i64 (dz p xs 0)):=by
 have y:=cE h;have u:=lh r;clear r;go_enter func185,ntmps185;go_wp2;go_loopw [5,8] (λ_ i wr=>∃k:Nat,k<=xs.length/\i=.int .i64 k/\Hid (aa w wr)/\Hid (∀j,(h:j<xs.length)->j<k->p xs[j]=false)) (λ_ i _=>xs.length-(intOf i).toNat)
 case atStart=>exact⟨0,lj _,rfl,aa.refl _,λj _ hj=>absurd hj (lI _)⟩
 case round =>
  obtain⟨k,D,rfl,d,l⟩:=hrel
  by_cases t:k<xs.length
  ·have a:=u.o wr xs[k] d.o;obtain⟨b,C,rfl,z,E,F⟩:=il (h.keep d.o) k t;clear h
   by_cases f:p xs[k]=true
   ·rw[f]at a;have q:=lh a;have o:=lh f;clear a f;go_wp2_with (go_at_fn g;refine q.o.mono ?_;rintro e x ⟨rfl,m⟩);go_ret;exact⟨dc (by rw[jk p xs 0 k l.o,Lh t];simp[dz,o.o]),d.o.trans m⟩
   ·have n:p xs[k]=false:=(by simpa using f);rw[n]at a;have q:=lh a;have o:=lh n;clear a f n;go_wp2_with (go_at_fn g;refine q.o.mono ?_;rintro e x ⟨rfl,m⟩);go_roundw
    case rel=>exact⟨k+1,oM,by go_num,d.o.trans m,λj hj hjk=>by
     by_cases e:j=k
     ·subst e;exact o.o
     ·exact l.o j hj oM⟩
    case measure=>simp[intOf];omega
  ·go_wp2;go_ret;exact⟨dc (by rw[jk p xs 0 xs.length λj hj _=>l.o j hj oM];simp[dz]),d.o⟩
def okB(b:Nat):Bool:=!((decide (b<97)||decide (122<b))&&(decide (b<48)||decide (57<b)) && !(decide (b=95)))
structure kY(s:ByteArray):Prop where
 ok:∀i,(h:i<s.size)->okB (s[i]'h).toNat=true
 lo:1<=s.size
 hi:s.size<=64
structure iT(l:List aG):Prop where
 name:∀i,(h:i<l.length)->kY l[i].name
 kind:∀i,(h:i<l.length)->1<=l[i].kind/\l[i].kind<=3
 one:∀i k,(h:i<l.length)->(hk:k<i)->(l[k]'oM).name.toList≠l[i].name.toList
 lo:1<=l.length
 hi:l.length<=256
def bR(l:List aG)(i:Int):Bool:=match i with
 | .ofNat k=>match l[k]? with|some c=>c.kind==1||c.kind==2|none=>false
 | .negSucc _=>false
structure k6(l:List aG)(f:List Bool):Prop where
 len:f.length=0\/f.length=l.length
 ok:∀i,f.getD i false=true->bR l (i:Int)=true
structure QN(l:List aG)(s:Int)(v r:List Bool)(sp:List Int)(leaf:Int):Prop where
 may:iT l
 sort:s= -1\/bR l s=true
 inv:k6 l v
 rng:k6 l r
 split:∀i,(h:i<sp.length)->bR l sp[i]=true
 one:∀i k,(h:i<sp.length)->(hk:k<i)->sp[k]'oM≠sp[i]
 few:sp.length<=8
 lo:1<=leaf
 hi:leaf<=1000000
theorem vV{c:Type}(p:c->Bool):∀(xs:List c) (i k:Nat) (a:k<xs.length),p xs[k]=true->(∀j,(d:j<k)->p (xs[j]'oM)=false)->dz p xs i=((i+k:Nat):Int)
 | x::r,i,0,_,a,_=>by simp[dz]at a|-;simp[a]
 | x::r,i,k+1,hk,a,hf=>by
   have b:=hf 0 oM;simp only[Ld]at b;have:=vV p r (i+1) k (by simpa using hk) (by simpa using a) λj d=>(by simpa using hf (j+1) oM);simp only[dz,b,lY,if_false,this]
   congr 1;omega
theorem vU{b:Type}(p:b->Bool):∀(xs:List b) (i k:Nat) (a:k<xs.length),p xs[k]=true->dz p xs i<=((i+k:Nat):Int)
 | x::r,i,0,_,a=>by simp[dz]at a|-;simp[a]
 | x::r,i,k+1,hk,a=>by
   have:=vU p r (i+1) k (by simpa using hk) (by simpa using a);simp only[dz]
   split<;>omega
theorem Do(l:List aG)(i:Nat)(b:i<l.length):dz (j9 l[i].name) l 0=(i:Int)<->∀k,(c:k<i)->(l[k]'oM).name.toList≠l[i].name.toList:=by
 constructor
 ·intro he k c a;have:=vU (j9 l[i].name) l 0 k oM (by simp[j9,a]);omega
 ·intro d;have:=vV (j9 l[i].name) l 0 i b (by simp[j9]) λj hj=>by simpa[j9]using d j hj
  simpa using this
def kO(l:List aG):Nat->Nat
 | 0=>0
 | k+1=>kO l k+if bR l (k:Int) then 0 else 1
noncomputable def pB(p:Prop):Bool:=@decide p (Classical.propDecidable p)
theorem ew{p:Prop}(h:p):pB p=true:=by unfold pB;exact @decide_eq_true _ (Classical.propDecidable p) h
theorem dd{p:Prop}(h:¬ p):pB p=false:=by unfold pB;exact @decide_eq_false _ (Classical.propDecidable p) h
theorem je{p:Prop}:pB p=true<->p:=by unfold pB;exact @decide_eq_true_iff _ (Classical.propDecidable p)
theorem Bo{n:Nat}(h:128<=n):okB n=false:=by unfold okB;simp;omega
theorem KJ(b:ByteArray)(a:Nat)(c:a<b.size):okB (Utf8.decode b a).1=okB (b[a]'c).toNat/\(okB (Utf8.decode b a).1=true->(Utf8.decode b a).2=1)/\1<=(Utf8.decode b a).2:=by
 by_cases f:(b[a]'c).toNat<128
 ·rw[decode_ascii b a c f];exact⟨rfl,λ_=>rfl,lc _⟩
 ·have d:=decode_high b a c oM;have e:=Bo d.1;refine⟨by rw[e,Bo oM],λc=>?_,d.2⟩;rw[e]at c
  cases c
theorem Qr{a:ByteArray}{c r k:Nat}(_:∀i,(b:i<a.size)->i<c->okB (a[i]'b).toNat=true)(b:c<a.size)(e:okB r=okB (a[c]'b).toNat/\(okB r=true->k=1)/\1<=k)(d:okB r=false):¬ kY a:=λhn=>by
 have:=hn.ok c b;rw[<-e.1,d]at this
 cases this
theorem vg(r:Nat):okB r=true<->(97<=r/\r<=122)\/(48<=r/\r<=57)\/r=95:=by
 unfold okB;simp;omega
theorem OG{a:ByteArray}{c r k:Nat}(g:∀i,(b:i<a.size)->i<c->okB (a[i]'b).toNat=true)(b:c<a.size)(f:okB r=okB (a[c]'b).toNat/\(okB r=true->k=1)/\1<=k)(d:okB r=true):∀i,(b:i<a.size)->i<c+k->okB (a[i]'b).toNat=true:=λi hi hk=>by
 rw[f.2.1 d]at hk
 by_cases e:i=c
 ·subst e;rw[<-f.1,d]
 ·exact g i hi oM
theorem NE(a:ByteArray)(w:World)(m:a.size<=140737488355328):Rt 148 #[.string a] w (.bool (pB (kY a))):=by
 go_enter func148,ntmps148;go_wp2;go_loopw [4] (λ_ wr=>∃b:Nat,wr=w.iter a b/\Hid (∀i,(h:i<a.size)->i<b->okB (a[i]'h).toNat=true)) (λ_ wr=>a.size-wr.iterPos w.heap.size)
 case atStart=>exact⟨0,rfl,λi h hi=>absurd hi (lI _)⟩
 case round =>
  obtain⟨b,rfl,j⟩:=hrel
  by_cases e:b<a.size
  ·have l:=λty=>run_next_any (P:=prog) w a b ty e;have c:=lh (KJ a b e);generalize Utf8.decode a b=d at l c|-;obtain⟨r,k⟩:=d;simp only at l c;go_wp2
   all_goals first
   | (have f:okB r=false:=by
       rw[Bool.eq_false_iff,ne_eq,vg]
       try simp only[bne_iff_ne,ne_eq]at *
       omega
      go_ret;exact⟨cY (dd (Qr j.o e c.o f)).symm,kP⟩)
   | (have f:okB r=true:=by
       rw[vg]
       try simp only[bne_eq_false_iff_eq]at *
       omega
      go_roundw
      case rel=>exact⟨b+k,rfl,OG j.o e c.o f⟩
      case measure =>
        have:=c.o.2.2;simp;omega)
  ·have l:=λty=>run_next_end (P:=prog) w a b ty e;go_wp2
   ·go_ret;exact⟨by
     by_cases g:(a.size:Int)<=64
     ·rw[ew ⟨λi h=>j.o i h oM,oM,oM⟩];simp[g]
     ·rw[dd λhn=>g (by have:=hn.hi;omega)];simp[g],kP⟩
   ·go_ret;exact⟨cY (dd λhn=>by have:=hn.lo;omega).symm,kP⟩
def bM(x:Int):List Value:=[.int .i64 x]
def kT(x:Bool):List Value:=[.bool x]
theorem eZ{w:World}{c:Nat}{A:Option Addr}{xs:List Int}(e:Sl w 1 bM A c xs)(i:Nat)(hi:i<xs.length):∃b a,A=some ⟨b,a,none⟩/\b<w.heap.size/\w.cell? ⟨b,a+i,none⟩=some (.int .i64 xs[i]):=by
 obtain⟨b,a,f,g⟩:=e.at_ i hi;have d:=g 0 _ rfl;exact⟨b,a,f,World.block_lt_of_cell? w _ d,by simpa using d⟩
theorem uy{w:World}{c:Nat}{A:Option Addr}{xs:List Bool}(e:Sl w 1 kT A c xs)(i:Nat)(hi:i<xs.length):∃b a,A=some ⟨b,a,none⟩/\b<w.heap.size/\w.cell? ⟨b,a+i,none⟩=some (.bool xs[i]):=by
 obtain⟨b,a,f,g⟩:=e.at_ i hi;have d:=g 0 _ rfl;exact⟨b,a,f,World.block_lt_of_cell? w _ d,by simpa using d⟩
theorem Ia(c:aG)(n:ByteArray)(b:Nat)(w:World)(a:w.cell? ⟨b,0,none⟩=some (.string n))(e:b<w.heap.size):Rt 186 #[c.v,.pointer (some ⟨b,0,none⟩)] w (.bool (j9 n c)):=by
 obtain⟨d,f⟩:=c;simp only[aG.v];go_enter func186,ntmps186;go_wp2;go_ret;exact⟨rfl,kP⟩
theorem H9(A:Option Addr)(c:Nat)(cs:List aG)(n:ByteArray)(w:World)(a:Sl w 2 aG.cells A c cs) :
 Rt 149 #[.slice A cs.length c,.string n] w (.int .i64 (dz (j9 n) cs 0)):=by
 have d:=lh a;clear a;go_enter func149,ntmps149;go_wp2_with (go_at_call 185;refine ae ?_);refine uM (N8 A c cs 186 #[.pointer (some ⟨w.heap.size,0,none⟩)] (j9 n) _ (enters_of func186 kR rfl) (d.o.keep kP) (λW x hW=>Ia x n _ W ((hW.cell (p:=⟨w.heap.size,0,none⟩) sG).trans sG) (lp sG hW.size))) ?_;rintro e f ⟨rfl,b⟩;obtain⟨p,rfl⟩:=dt _ b;clear d b;go_wp2;go_ret;exact⟨rfl,kP⟩
theorem wI(A:Option Addr)(c:Nat)(cs:List aG)(i:Int)(w:World)(d:Sl w 2 aG.cells A c cs) :
 Rt 32 #[.slice A cs.length c,.int .i64 i] w (.bool (bR cs i)):=by
 have h:=cE d
 cases i with
 | ofNat k =>
   by_cases e:k<cs.length
   ·obtain⟨b,l,rfl,j,g,m⟩:=il d k e;have f:bR cs (Int.ofNat k)=(cs[k].kind==1||cs[k].kind==2):=(by simp[bR,e]);have a:=lh f;clear d f;go_enter func32,ntmps32;go_wp2
    all_goals go_ret
    all_goals exact⟨by rw[a.o];simp_all,kP⟩
   ·have a:=lh (show bR cs (Int.ofNat k)=false by simp[bR,e]);clear d;go_enter func32,ntmps32;go_wp2;go_ret;exact⟨by rw[a.o];rfl,kP⟩
 | negSucc k =>
   have a:=lh (show bR cs (Int.negSucc k)=false by simp[bR]);clear d;go_enter func32,ntmps32;go_wp2;go_ret;exact⟨by rw[a.o];rfl,kP⟩
def cD(f:List Bool)(i:Int):Bool:=match i with
 | .ofNat k=>f.getD k false
 | .negSucc _=>false
theorem sQ(A:Option Addr)(c:Nat)(fs:List Bool)(i:Int)(w:World)(d:Sl w 1 kT A c fs) :
 Rt 56 #[.slice A fs.length c,.int .i64 i] w (.bool (cD fs i)):=by
 have g:=cE d
 cases i with
 | ofNat k =>
   by_cases e:k<fs.length
   ·obtain⟨b,j,rfl,h,f⟩:=uy d k e;have a:=lh (show cD fs (Int.ofNat k)=fs[k] by simp[cD,e]);clear d;go_enter func56,ntmps56;go_wp2;go_ret;exact⟨by rw[a.o];rfl,kP⟩
   ·have a:=lh (show cD fs (Int.ofNat k)=false by simp[cD,Nat.le_of_not_lt e]);clear d;go_enter func56,ntmps56;go_wp2;go_ret;exact⟨by rw[a.o];rfl,kP⟩
 | negSucc k =>
   have a:=lh (show cD fs (Int.negSucc k)=false by simp[cD]);clear d;go_enter func56,ntmps56;go_wp2;go_ret;exact⟨by rw[a.o];rfl,kP⟩
theorem yF(A:Option Addr)(c:Nat)(cs:List aG)(w:World)(g:Sl w 2 aG.cells A c cs)(u:∀x∈cs,x.name.size<=140737488355328) :
 Rt 99 #[.slice A cs.length c] w (.bool (pB (iT cs))):=by
 have v:=cE g;have q:=lh g;clear g;go_enter func99,ntmps99;go_wp2;go_loopw [7] (λi wr=>∃k:Nat,k<=cs.length/\i=.int .i64 k/\Hid (aa w wr)/\Hid (∀j,(g:j<cs.length)->j<k->kY cs[j].name/\(1<=cs[j].kind/\cs[j].kind<=3)/\dz (j9 cs[j].name) cs 0=(j:Int))) (λi _=>cs.length-(intOf i).toNat)
 case atStart=>exact⟨0,lj _,rfl,aa.refl _,λj _ hj=>absurd hj (lI _)⟩
 case round =>
  obtain⟨k,C,rfl,d,f⟩:=hrel
  by_cases a:k<cs.length
  ·obtain⟨b,B,s,z,D,E⟩:=il (q.o.keep d.o) k a;have n:=lh (NE cs[k].name);have o:=lh (u cs[k] (ll a));have r:=lh (H9 A c cs cs[k].name);subst s
   cases hq:pB (kY cs[k].name)
   ·have l:=lh hq;go_wp2_with (go_at_call 148;refine uC (n.o _ o.o) λp=>?_);go_ret;exact⟨cY (dd λm=>by have:=l.o;rw[ew (m.name k a)]at this;cases this).symm,d.o.trans kP⟩
   ·have l:=lh hq;go_wp2_with (first|(go_at_call 148;refine uC (n.o _ o.o) λp=>?_)|(go_at_call 149;refine uC (r.o _ (q.o.keep (d.o.trans kP))) λp=>?_))
    all_goals first
    | (go_ret
       exact⟨cY (dd λm=>by
         have y:=m.kind k a;have t:=(Do cs k a).2 λj hj=>m.one k j a hj
         first|omega|(simp only[t,bne_self_eq_false,lY,or_false]at *;omega)).symm,d.o.trans kP⟩)
    | (go_roundw
       case rel=>exact⟨k+1,oM,by go_num,d.o.trans kP,λj hj hjk=>by
         by_cases e:j=k
         ·subst e;refine⟨je.1 l.o,oM,?_⟩;simp only[bne_eq_false_iff_eq]at *;omega
         ·exact f.o j hj oM⟩
       case measure=>simp[intOf];omega)
  ·go_wp2
   all_goals go_ret
   all_goals refine⟨?_,d.o⟩
   ·by_cases h:(cs.length:Int)<=256
    ·rw[ew ⟨λi hi=>(f.o i hi oM).1,λi hi=>(f.o i hi oM).2.1,λi j hi hj=>(Do cs i hi).1 (f.o i hi oM).2.2 j hj,oM,oM⟩];simp[h]
    ·rw[dd λm=>h (by have:=m.hi;omega)];simp[h]
   ·exact cY (dd λm=>by have:=m.lo;omega).symm
theorem N6(A:Option Addr)(c:Nat)(xs:List Int)(n:Int)(w:World)(a:Sl w 1 bM A c xs) :
 Rt 150 #[.slice A xs.length c,.int .i64 n] w (.int .i64 (dz (λx=>n==x) xs 0)):=by
 have l:=cE a;go_enter func150,ntmps150;go_wp2;go_loop [5,8] (λ_ i=>∃k:Nat,k<=xs.length/\i=.int .i64 k/\Hid (∀j,(a:j<xs.length)->j<k->(n==xs[j])=false)) (λ_ i=>xs.length-(intOf i).toNat)
 case atStart=>exact⟨0,lj _,rfl,λj _ hj=>absurd hj (lI _)⟩
 case round =>
  obtain⟨k,p,rfl,d⟩:=hrel
  by_cases g:k<xs.length
  ·obtain⟨b,o,rfl,m,q⟩:=eZ a k g;clear a
   cases hq:(n==xs[k])
   ·have h:=hq;have f:=lh hq;clear hq;go_wp2;go_round
    case rel=>exact⟨k+1,oM,by go_num,λj hj hjk=>by
     by_cases e:j=k
     ·subst e;exact f.o
     ·exact d.o j hj oM⟩
    case measure=>simp[intOf];omega
   ·have h:=hq;have f:=lh hq;clear hq;go_wp2;go_ret;exact⟨dc (by rw[jk _ xs 0 k d.o,Lh g];simp only[dz,f.o,if_true];omega),kP⟩
  ·go_wp2;go_ret;exact⟨dc (by rw[jk _ xs 0 xs.length λj hj _=>d.o j hj oM];simp[dz]),kP⟩
theorem Py(A:Option Addr)(c:Nat)(xs:List Int)(n:Int)(w:World)(a:Sl w 1 bM A c xs) :
 Rt 101 #[.slice A xs.length c,.int .i64 n] w (.bool (xs.any λx=>n==x)):=by
 have b:=lh a;clear a;rw[<-vW _ xs 0];go_enter func101,ntmps101;go_wp2_with (go_at_call 150;refine uC (N6 A c xs n _ b.o) λp=>?_);go_ret;exact⟨rfl,kP⟩
theorem Dk(A B:Option Addr)(c d:Nat)(cs:List aG)(fs:List Bool)(w:World)(f:Sl w 2 aG.cells A c cs)(l:Sl w 1 kT B d fs) :
 Rt 100 #[.slice A cs.length c,.slice B fs.length d] w (.bool (pB (k6 cs fs))):=by
 have z:=cE f;have C:=cE l;have y:=lh f;have v:=lh l;clear f l;go_enter func100,ntmps100;go_wp2;go_loopw [9] (λi wr=>∃k:Nat,k<=fs.length/\i=.int .i64 k/\Hid (aa w wr)/\Hid (∀j,(f:j<fs.length)->j<k->fs[j]=true->bR cs (j:Int)=true)) (λi _=>fs.length-(intOf i).toNat)
 case atStart=>exact⟨0,lj _,rfl,aa.refl _,λj _ hj=>absurd hj (lI _)⟩
 case round =>
  obtain⟨k,F,rfl,a,g⟩:=hrel
  by_cases s:k<fs.length
  ·obtain⟨b,E,x,D,t⟩:=uy (v.o.keep a.o) k s;have r:=lh (λW (hW:aa w W)=>wI A c cs (k:Int) W (y.o.keep hW));subst x
   cases hq:fs[k]
   ·have n:=lh hq;rw[hq]at t;clear hq;go_wp2;go_roundw
    case rel=>exact⟨k+1,oM,by go_num,a.o,λj hj hjk hx=>by
     by_cases e:j=k
     ·subst e;have:=n.o;rw[hx]at this
      cases this
     ·exact g.o j hj oM hx⟩
    case measure=>simp[intOf];omega
   ·have n:=lh hq;rw[hq]at t;clear hq
    cases hd:bR cs (k:Int)
    ·have h:=lh hd;go_wp2_with (go_at_call 32;refine uC (r.o _ (a.o.trans kP)) λp=>?_);go_ret;exact⟨cY (dd λm=>by
      have:=h.o;rw[m.ok k (by simp[s,n.o])]at this
      cases this).symm,a.o.trans kP⟩
    ·have h:=lh hd;go_wp2_with (go_at_call 32;refine uC (r.o _ (a.o.trans kP)) λp=>?_);go_roundw
     case rel=>exact⟨k+1,oM,by go_num,a.o.trans kP,λj hj hjk hx=>by
      by_cases e:j=k
      ·subst e;exact h.o
      ·exact g.o j hj oM hx⟩
     case measure=>simp[intOf];omega
  ·have u:Hid (∀i:Nat,fs.getD i false=true->bR cs (i:Int)=true):=λi hi=>by
    by_cases o:i<fs.length
    ·exact g.o i o oM (by simpa[o]using hi)
    ·simp[Nat.le_of_not_lt o]at hi
   have q:Hid (k6 cs fs<->(fs.length=0\/fs.length=cs.length)):=⟨λm=>m.len,λm=>⟨m,u.o⟩⟩;go_wp2
   all_goals go_ret
   all_goals refine⟨?_,a.o⟩
   ·exact cY (ew (q.o.2 (.inl (by simp_all)))).symm
   ·exact cY (by rw[Bool.eq_iff_iff,je,q.o];simp only[Bool.or_eq_true,beq_iff_eq];omega)
structure bw where
 sort:Int
 iA:Option Addr
 ic:Nat
 inv:List Bool
 rA:Option Addr
 rc:Nat
 rng:List Bool
 sA:Option Addr
 sc:Nat
 split:List Int
 leaf:Int
def bw.cells(c:bw):List Value:=[.int .i64 c.sort,.slice c.iA c.inv.length c.ic,.slice c.rA c.rng.length c.rc,.slice c.sA c.split.length c.sc,.int .i64 c.leaf]
@[reducible] def bw.v(c:bw):Value:=.agg #[.int .i64 c.sort,.slice c.iA c.inv.length c.ic,.slice c.rA c.rng.length c.rc,.slice c.sA c.split.length c.sc,.int .i64 c.leaf]
structure ff(w:World)(c:bw):Prop where
 i:Sl w 1 kT c.iA c.ic c.inv
 r:Sl w 1 kT c.rA c.rc c.rng
 s:Sl w 1 bM c.sA c.sc c.split
theorem ff.keep{w d:World}{c:bw}(a:ff w c)(b:aa w d):ff d c:=⟨a.i.keep b,a.r.keep b,a.s.keep b⟩
def Fits(l:List aG)(c:bw):Prop:=QN l c.sort c.inv c.rng c.split c.leaf
theorem OV(l:List aG)(c:bw):Fits l c<->iT l/\(c.sort= -1\/bR l c.sort=true)/\k6 l c.inv/\k6 l c.rng/\(∀j,(a:j<c.split.length)->bR l c.split[j]=true/\(c.split.take j).any (λx=>c.split[j]==x)=false)/\c.split.length<=8/\1<=c.leaf/\c.leaf<=1000000:=by
 constructor
 ·intro f;refine⟨f.may,f.sort,f.inv,f.rng,λj a=>⟨f.split j a,?_⟩,f.few,f.lo,f.hi⟩;rw[List.any_eq_false];intro x o;obtain⟨k,d,rfl⟩:=lU o;simp only[lD]at d;have:=f.one j k a oM;simp only[List.getElem_take,beq_iff_eq];exact λe=>this e.symm
 ·rintro⟨q,h,n,m,b,i,p,r⟩;refine⟨q,h,n,m,λj a=>(b j a).1,λj k a d e=>?_,i,p,r⟩;have:=(b j a).2;rw[List.any_eq_false]at this;have g:c.split[k]'oM∈c.split.take j:=by
   rw[List.mem_take_iff_getElem];exact⟨k,oM,rfl⟩
  have:=this _ g;simp[e]at this
structure oc(w W:World)(d e:Value):Prop where
 keep:aa w W
 lt:w.heap.size<W.heap.size
 c3:W.cell? ⟨w.heap.size,3,none⟩=some d
 c4:W.cell? ⟨w.heap.size,4,none⟩=some e
theorem oc.start{w g:World}{a b c d e:Value}{t:TypeId}(f:aa (w.alloc (.cells #[a,b,c,d,e] t)) g):oc w g d e :=
 ⟨(aa.alloc (aa.refl w) _).trans f,lp sP f.size,(f.cell (p:=⟨w.heap.size,3,none⟩) sG).trans sG,(f.cell (p:=⟨w.heap.size,4,none⟩) sG).trans sG⟩
theorem oc.next{w c W':World}{d e:Value}(a:oc w c d e)(b:aa c W'):oc w W' d e :=
 ⟨a.keep.trans b,lp a.lt b.size,(b.cell (p:=⟨w.heap.size,3,none⟩) a.lt).trans a.c3,(b.cell (p:=⟨w.heap.size,4,none⟩) a.lt).trans a.c4⟩
theorem fits_any(A:Option Addr)(n:Nat)(cs:List aG)(c:bw)(w:World)(l:Sl w 2 aG.cells A n cs)(a3:∀x∈cs,x.name.size<=140737488355328)(a:ff w c) :
 Rt 55 #[.slice A cs.length n,c.v] w (.bool (pB (Fits cs c))):=by
 obtain⟨s0,M,S,D,K,P,G,E,F,sp,B⟩:=c;have a4:=cE l;have a7:=cE a.s;have a8:=cE a.i;have a9:=cE a.r;have d:=lh (OV cs ⟨s0,M,S,D,K,P,G,E,F,sp,B⟩);have o:=lh (λW (hW:aa w W)=>yF A n cs W (l.keep hW) a3);have m:=lh (λW (hW:aa w W) (i:Int)=>wI A n cs i W (l.keep hW));have q:=lh (λW (hW:aa w W)=>Dk A M n S cs D W (l.keep hW) (a.i.keep hW));have Q:=lh (λW (hW:aa w W)=>Dk A K n P cs G W (l.keep hW) (a.r.keep hW));have Y:=lh a.s;have af:=a.s.cap;have ag:=a.s.big;simp only[bw.v];clear l a
 cases hq1:pB (iT cs)
 ·have R:=lh hq1;go_enter func55,ntmps55;go_wp2_with (go_at_call 99;refine uC (o.o _ (by repeat first|exact Nk|apply Nj|apply Ni|apply Nh|apply Nb)) λp=>?_);go_ret;exact⟨cY (dd λf=>by have:=R.o;rw[ew (d.o.1 f).1]at this;cases this).symm,(by repeat first|exact Nk|apply Nj|apply Ni|apply Nh|apply Nb)⟩
 ·have R:=lh hq1
  by_cases g:s0= -1\/bR cs s0=true
  ·have Z:=lh g;have N:s0= -1\/(¬ s0= -1/\bR cs s0=true):=by
    by_cases e:s0= -1
    ·exact .inl e
    ·exact .inr ⟨e,g.resolve_left e⟩
   clear g
   cases hq2:pB (k6 cs D)
   ·have C:=lh hq2
    rcases N with g | ⟨y,O⟩
    ·go_enter func55,ntmps55;go_wp2_with (first|(go_at_call 99;refine uC (o.o _ (by repeat first|exact Nk|apply Nj|apply Ni|apply Nh|apply Nb)) λp=>?_)|(go_at_call 100;with_reducible refine uC (q.o _ (by repeat first|exact Nk|apply Nj|apply Ni|apply Nh|apply Nb)) λp=>?_));go_ret;exact⟨cY (dd λf=>by have:=C.o;rw[ew (d.o.1 f).2.2.1]at this;cases this).symm,(by repeat first|exact Nk|apply Nj|apply Ni|apply Nh|apply Nb)⟩
    ·go_enter func55,ntmps55;go_wp2_with (first|(go_at_call 99;refine uC (o.o _ (by repeat first|exact Nk|apply Nj|apply Ni|apply Nh|apply Nb)) λp=>?_)|(go_at_call 32;refine uC (m.o _ (by repeat first|exact Nk|apply Nj|apply Ni|apply Nh|apply Nb) _) λp=>?_)|(go_at_call 100;with_reducible refine uC (q.o _ (by repeat first|exact Nk|apply Nj|apply Ni|apply Nh|apply Nb)) λp=>?_));go_ret;exact⟨cY (dd λf=>by have:=C.o;rw[ew (d.o.1 f).2.2.1]at this;cases this).symm,(by repeat first|exact Nk|apply Nj|apply Ni|apply Nh|apply Nb)⟩
   ·have C:=lh hq2
    cases hq3:pB (k6 cs G)
    ·have H:=lh hq3
     rcases N with g | ⟨y,O⟩
     ·go_enter func55,ntmps55;go_wp2_with (first|(go_at_call 99;refine uC (o.o _ (by repeat first|exact Nk|apply Nj|apply Ni|apply Nh|apply Nb)) λp=>?_)|(go_at_call 100;with_reducible refine uC (q.o _ (by repeat first|exact Nk|apply Nj|apply Ni|apply Nh|apply Nb)) λp=>?_)|(go_at_call 100;with_reducible refine uC (Q.o _ (by repeat first|exact Nk|apply Nj|apply Ni|apply Nh|apply Nb)) λp=>?_));go_ret;exact⟨cY (dd λf=>by have:=H.o;rw[ew (d.o.1 f).2.2.2.1]at this;cases this).symm,(by repeat first|exact Nk|apply Nj|apply Ni|apply Nh|apply Nb)⟩
     ·go_enter func55,ntmps55;go_wp2_with (first|(go_at_call 99;refine uC (o.o _ (by repeat first|exact Nk|apply Nj|apply Ni|apply Nh|apply Nb)) λp=>?_)|(go_at_call 32;refine uC (m.o _ (by repeat first|exact Nk|apply Nj|apply Ni|apply Nh|apply Nb) _) λp=>?_)|(go_at_call 100;with_reducible refine uC (q.o _ (by repeat first|exact Nk|apply Nj|apply Ni|apply Nh|apply Nb)) λp=>?_)|(go_at_call 100;with_reducible refine uC (Q.o _ (by repeat first|exact Nk|apply Nj|apply Ni|apply Nh|apply Nb)) λp=>?_));go_ret;exact⟨cY (dd λf=>by have:=H.o;rw[ew (d.o.1 f).2.2.2.1]at this;cases this).symm,(by repeat first|exact Nk|apply Nj|apply Ni|apply Nh|apply Nb)⟩
    ·have H:=lh hq3
     rcases N with y | ⟨y,O⟩
     all_goals
         go_enter func55,ntmps55;go_wp2_with (first|(go_at_call 99;refine uC (o.o _ (by repeat first|exact Nk|apply Nj|apply Ni|apply Nh|apply Nb)) λp=>?_)|(go_at_call 32;refine uC (m.o _ (by repeat first|exact Nk|apply Nj|apply Ni|apply Nh|apply Nb) _) λp=>?_)|(go_at_call 100;with_reducible refine uC (q.o _ (by repeat first|exact Nk|apply Nj|apply Ni|apply Nh|apply Nb)) λp=>?_)|(go_at_call 100;with_reducible refine uC (Q.o _ (by repeat first|exact Nk|apply Nj|apply Ni|apply Nh|apply Nb)) λp=>?_));go_loopw [39] (λi wr=>∃k:Nat,k<=sp.length/\i=.int .i64 k/\Hid (oc w wr (.slice E sp.length F) (.int .i64 B))/\Hid (∀j,(l:j<sp.length)->j<k->bR cs sp[j]=true/\(sp.take j).any (λx=>sp[j]==x)=false)) (λi _=>sp.length-(intOf i).toNat)
         case atStart =>
          refine⟨0,lj _,rfl,oc.start (t:=26) (by repeat first|exact Nk|apply Nj|apply Ni|apply Nh|apply Nb),λj _ hj=>absurd hj (lI _)⟩
         case round =>
          obtain⟨k,a2,rfl,X,T⟩:=hrel;obtain⟨U,a6,a5,ac⟩:=X.o;have h:=lh U;clear U
          by_cases L:k<sp.length
          ·obtain⟨b,ad,a0,ab,ae⟩:=eZ (Y.o.keep h.o) k L;have z:=lh (λW (hW:aa w W)=>Py E F (sp.take k) sp[k] W ((Y.o.keep hW).cut_front k a2));have a1:(sp.take k).length=k:=sO;rw[a1]at z;subst a0
           cases hd:bR cs sp[k]
           ·have u:=lh hd;go_wp2_with (first|(go_at_call 32;refine uC (m.o _ (h.o.trans (by repeat first|exact Nk|apply Nj|apply Ni|apply Nh|apply Nb)) _) λp=>?_));go_ret;exact⟨cY (dd λf=>by have:=u.o;rw[((d.o.1 f).2.2.2.2.1 k L).1]at this;cases this).symm,h.o.trans (by repeat first|exact Nk|apply Nj|apply Ni|apply Nh|apply Nb)⟩
           ·have u:=lh hd
            cases a:(sp.take k).any λx=>sp[k]==x
            ·have I:=lh a;rw[a]at z;go_wp2_with (first|(go_at_call 32;refine uC (m.o _ (h.o.trans (by repeat first|exact Nk|apply Nj|apply Ni|apply Nh|apply Nb)) _) λp=>?_)|(go_at_call 101;refine uC (z.o _ (h.o.trans (by repeat first|exact Nk|apply Nj|apply Ni|apply Nh|apply Nb))) λp=>?_));go_roundw
             case rel=>exact⟨k+1,oM,by go_num,X.o.next (by repeat first|exact Nk|apply Nj|apply Ni|apply Nh|apply Nb),λj hj hjk=>by
               by_cases e:j=k
               ·subst e;exact⟨u.o,I.o⟩
               ·exact T.o j hj oM⟩
             case measure=>simp[intOf];omega
            ·have I:=lh a;rw[a]at z;go_wp2_with (first|(go_at_call 32;refine uC (m.o _ (h.o.trans (by repeat first|exact Nk|apply Nj|apply Ni|apply Nh|apply Nb)) _) λp=>?_)|(go_at_call 101;refine uC (z.o _ (h.o.trans (by repeat first|exact Nk|apply Nj|apply Ni|apply Nh|apply Nb))) λp=>?_));go_ret;exact⟨cY (dd λf=>by have:=I.o;rw[((d.o.1 f).2.2.2.2.1 k L).2]at this;cases this).symm,h.o.trans (by repeat first|exact Nk|apply Nj|apply Ni|apply Nh|apply Nb)⟩
          ·have V:=lh (show Fits cs ⟨s0,M,S,D,K,P,G,E,F,sp,B⟩<->sp.length<=8/\1<=B/\B<=1000000 from
             ⟨λf=>(d.o.1 f).2.2.2.2.2,λl=>d.o.2 ⟨je.1 R.o,Z.o,je.1 C.o,je.1 H.o,λj hj=>T.o j hj oM,l⟩⟩)
           go_wp2
           all_goals go_ret
           all_goals refine⟨?_,h.o⟩
           all_goals (have J:=V.o;simp only[y]at J|-;clear V d)
           all_goals first
           | exact cY (dd λf=>by have:=J.1 f;omega).symm
           | (refine cY ?_
              rw[Bool.eq_iff_iff,je,J,decide_eq_true_iff];omega)
  ·have y:s0≠ -1:=λe=>g (.inl e);have O:bR cs s0=false:=(by simpa using λe=>g (.inr e));have u:=lh g;clear g;go_enter func55,ntmps55;go_wp2_with (first|(go_at_call 99;refine uC (o.o _ (by repeat first|exact Nk|apply Nj|apply Ni|apply Nh|apply Nb)) λp=>?_)|(go_at_call 32;refine uC (m.o _ (by repeat first|exact Nk|apply Nj|apply Ni|apply Nh|apply Nb) _) λp=>?_));go_ret;exact⟨cY (dd λf=>u.o (d.o.1 f).2.1).symm,(by repeat first|exact Nk|apply Nj|apply Ni|apply Nh|apply Nb)⟩
theorem Je(A:Option Addr)(c:Nat)(cs:List aG)(i:Int)(w:World)(d:Sl w 2 aG.cells A c cs) :
 Rt 91 #[.slice A cs.length c,.int .i64 i] w (.bool (bR cs i)):=by
 have h:=cE d
 cases i with
 | ofNat k =>
   by_cases e:k<cs.length
   ·obtain⟨b,l,rfl,j,g,m⟩:=il d k e;have f:bR cs (Int.ofNat k)=(cs[k].kind==1||cs[k].kind==2):=(by simp[bR,e]);have a:=lh f;clear d f;go_enter func91,ntmps91;go_wp2
    all_goals go_ret
    all_goals exact⟨by rw[a.o];simp_all,kP⟩
   ·have a:=lh (show bR cs (Int.ofNat k)=false by simp[bR,e]);clear d;go_enter func91,ntmps91;go_wp2;go_ret;exact⟨by rw[a.o];rfl,kP⟩
 | negSucc k =>
   have a:=lh (show bR cs (Int.negSucc k)=false by simp[bR]);clear d;go_enter func91,ntmps91;go_wp2;go_ret;exact⟨by rw[a.o];rfl,kP⟩
theorem oJ(A:Option Addr)(c:Nat)(fs:List Bool)(i:Int)(w:World)(d:Sl w 1 kT A c fs) :
 Rt 46 #[.slice A fs.length c,.int .i64 i] w (.bool (cD fs i)):=by
 have g:=cE d
 cases i with
 | ofNat k =>
   by_cases e:k<fs.length
   ·obtain⟨b,j,rfl,h,f⟩:=uy d k e;have a:=lh (show cD fs (Int.ofNat k)=fs[k] by simp[cD,e]);clear d;go_enter func46,ntmps46;go_wp2;go_ret;exact⟨by rw[a.o];rfl,kP⟩
   ·have a:=lh (show cD fs (Int.ofNat k)=false by simp[cD,Nat.le_of_not_lt e]);clear d;go_enter func46,ntmps46;go_wp2;go_ret;exact⟨by rw[a.o];rfl,kP⟩
 | negSucc k =>
   have a:=lh (show cD fs (Int.negSucc k)=false by simp[cD]);clear d;go_enter func46,ntmps46;go_wp2;go_ret;exact⟨by rw[a.o];rfl,kP⟩
theorem I0(a:ByteArray)(w:World)(l:a.size<=140737488355328):Rt 146 #[.string a] w (.bool (pB (kY a))):=by
 go_enter func146,ntmps146;go_wp2;go_loopw [3] (λi wr=>∃k:Nat,k<=a.size/\i=.int .i64 k/\wr=w/\Hid (∀i,(h:i<a.size)->i<k->okB (a[i]'h).toNat=true)) (λi _=>a.size-(intOf i).toNat)
 case atStart=>exact⟨0,lj _,rfl,rfl,λi h hi=>absurd hi (lI _)⟩
 case round =>
  obtain⟨k,j,rfl,rfl,g⟩:=hrel
  by_cases b:k<a.size
  ·have f:=lh (vg (a[k]'b).toNat);go_wp2
   all_goals first
   | (have c:okB (a[k]'b).toNat=false:=by
       rw[Bool.eq_false_iff,ne_eq,f.o]
       try simp only[bne_iff_ne,ne_eq]at *
       omega
      go_ret;exact⟨cY (dd λm=>by rw[m.ok k b]at c;cases c).symm,kP⟩)
   | (have c:okB (a[k]'b).toNat=true:=by
       rw[f.o]
       try simp only[bne_eq_false_iff_eq]at *
       omega
      go_roundw
      case rel=>exact⟨k+1,oM,by go_num,trivial,λi hi hik=>by
        by_cases e:i=k
        ·subst e;exact c
        ·exact g.o i hi oM⟩
      case measure=>simp[intOf];omega)
  ·go_wp2
   ·go_ret;exact⟨by
     by_cases d:(a.size:Int)<=64
     ·rw[ew ⟨λi h=>g.o i h oM,oM,oM⟩];simp[d]
     ·rw[dd λhn=>d (by have:=hn.hi;omega)];simp[d],kP⟩
   ·go_ret;exact⟨cY (dd λhn=>by have:=hn.lo;omega).symm,kP⟩
theorem Ah(A:Option Addr)(c:Nat)(cs:List aG)(w:World)(h:Sl w 2 aG.cells A c cs)(H:∀x∈cs,x.name.size<=140737488355328) :
 Rt 90 #[.slice A cs.length c] w (.bool (pB (iT cs))):=by
 have O:=cE h;have B:=lh h;clear h;go_enter func90,ntmps90;go_wp2;go_loopw [3] (λi wr=>∃k:Nat,k<=cs.length/\i=.int .i64 k/\Hid (aa w wr)/\Hid (∀j,(h:j<cs.length)->j<k->kY cs[j].name/\(1<=cs[j].kind/\cs[j].kind<=3)/\∀m,(I:m<j)->(cs[m]'oM).name.toList≠cs[j].name.toList)) (λi _=>cs.length-(intOf i).toNat)
 case atStart=>exact⟨0,lj _,rfl,aa.refl _,λj _ hj=>absurd hj (lI _)⟩
 case round =>
  obtain⟨k,U,rfl,a,n⟩:=hrel
  by_cases l:k<cs.length
  ·obtain⟨b,G,F,y,z,N⟩:=il (B.o.keep a.o) k l;have q:=lh (I0 cs[k].name);have s:=lh (H cs[k] (ll l));subst F
   cases hq:pB (kY cs[k].name)
   ·have t:=lh hq;go_wp2_with (go_at_call 146;refine uC (q.o _ s.o) λp=>?_);go_ret;exact⟨cY (dd λm=>by have:=t.o;rw[ew (m.name k l)]at this;cases this).symm,a.o.trans kP⟩
   ·have t:=lh hq
    by_cases g:1<=cs[k].kind/\cs[k].kind<=3
    ·obtain⟨K,J⟩:=g;go_wp2_with (go_at_call 146;refine uC (q.o _ s.o) λp=>?_);go_loopw [4] (λi w2=>∃m:Nat,m<=k/\i=.int .i64 m/\Hid (aa wr w2)/\Hid (∀j,(h:j<m)->(hj:j<cs.length)->cs[j].name.toList≠cs[k].name.toList)) (λi _=>k-(intOf i).toNat)
     case atStart=>exact⟨0,lj _,rfl,kP,λj hj=>absurd hj (lI _)⟩
     case round =>
      obtain⟨m,I,rfl,d,u⟩:=hrel
      by_cases E:m<k
      ·obtain⟨R,S,o,P,Q,L⟩:=il (B.o.keep (a.v d)) m oM;injection o with o;injection o with hA3 hA4;subst hA3;subst hA4;have T:=(d.o.cell (p:=⟨b,G+k*2,none⟩) y).trans z;clear z N y L
       cases hc:(cs[m].name.toList==cs[k].name.toList)
       all_goals
           have C:=lh hc;go_wp2;go_region;go_wp2
       ·go_roundw
        case rel=>exact⟨m+1,oM,by go_num,d.o.trans kP,λj hj hj2=>by
         by_cases e:j=m
         ·subst e;have:=C.o
          simpa using this
         ·exact u.o j oM hj2⟩
        case measure=>simp[intOf];omega
       ·go_ret;exact⟨cY (dd λf=>by
         have:=C.o;exact f.one k m l E (by simpa using this)).symm,a.o.trans (d.o.trans kP)⟩
      ·go_wp2;go_roundw
       case rel=>exact⟨k+1,oM,by go_num,a.o.trans d.o,λj hj hj2=>by
           by_cases e:j=k
           ·subst e;exact⟨je.1 t.o,⟨K,J⟩,λm' hm'=>u.o m' oM _⟩
           ·exact n.o j hj oM⟩
       case measure=>simp[intOf];omega
    ·have M:=lh g;have D:cs[k].kind<1\/3<cs[k].kind:=oM;clear g
     rcases D with g|g
     all_goals
      go_wp2_with (go_at_call 146;refine uC (q.o _ s.o) λp=>?_);go_ret;exact⟨cY (dd λm=>M.o (m.kind k l)).symm,a.o.trans kP⟩
  ·go_wp2
   all_goals go_ret
   all_goals refine⟨?_,a.o⟩
   ·by_cases r:(cs.length:Int)<=256
    ·rw[ew ⟨λi hi=>(n.o i hi oM).1,λi hi=>(n.o i hi oM).2.1,λi j hi hj=>(n.o i hi oM).2.2 j hj,oM,oM⟩];simp[r]
    ·rw[dd λm=>r (by have:=m.hi;omega)];simp[r]
   ·exact cY (dd λm=>by have:=m.lo;omega).symm
open Go.ChangeMaps Go.ChangeShapes Go.Deep Go.Joins Go.WideShapes
section
variable {H:Type} {enc:TypeId×Value->H} {w:World} {held:Bool}
theorem tY{P:Program}{e:TypeId}{n:Nat}:∀{l:List (DataW H)} {d:DataW H},d∈l->n∈d.weights P e->n∈DataW.weightsAll P e l
 | x::r,d,a,hn=>by
   simp only[DataW.weightsAll,lx]
   rcases ln.1 a with rfl|a
   ·exact .inl hn
   ·exact .inr (tY a hn)
def D2(P:Program)(t:TypeId):Bool:=match P.underlying t with
 | some (.struct ⟨[f0,f1]⟩)=>oneCellFields P #[f0,f1]&&(match P.underlying f0.type,P.underlying f1.type with|some .string,some (.int .u8)=>true|_,_=>false)
 | _=>false
theorem FW:∃f0 f1,prog.underlying 53=some (.struct #[f0,f1])/\oneCellFields prog #[f0,f1]=true/\prog.underlying f0.type=some .string/\prog.underlying f1.type=some (.int .u8):=by
 have c:D2 prog 53=true:=kR;unfold D2 at c
 split at c
 ·rename_i f0 f1 hs;rw[L6]at c;obtain⟨e,d⟩:=c
  split at d
  ·rename_i a b;exact⟨f0,f1,hs,e,a,b⟩
  ·cases d
 ·cases c
theorem pI:prog.underlying 22=some (.slice 53):=kR
theorem P1:prog.cellsOf 53=2:=kR
theorem xE:prog.underlying 24=some (.slice 3):=kR
theorem qV:prog.underlying 23=some (.slice 4):=kR
theorem P0:prog.cellsOf 3=1:=kR
theorem P4:prog.cellsOf 4=1:=kR
theorem Kz{a4:Nat}{r:Reach}{v:Value}{d:DataW H}{ps:List MemPlace}(L:Value.okWide prog w r a4 22 v)(b:DataW.Trod enc prog w 0 (λ_=>true) held 22 v d ps)
 (E:∀n∈d.weights prog 22,n<=reachBytes) :
 ∃A c xs,v=.slice A xs.length c/\Sl w 2 aG.cells A c xs/\∀x∈xs,x.name.size<=140737488355328:=by
 obtain⟨a0,X,B,Y,t0,Z⟩:=FW;have aa:=reachBytes_lt;obtain⟨fuel,T⟩:=b;have C:v.cells.toList=[v]:=by
  simp only[Value.okWide,pI]at L
  cases v<;>simp_all [Cell.okWide,Cell.ok,pI,Value.cells]
 rcases Bh pI B Y P1 T with⟨h,_⟩ | ⟨a,f,V,m,N,a8,h,ae,I,U,K,g,hi⟩
 ·simp only[C,Lu,and_true]at h;exact⟨none,0,[],h,Sl.nil_ _ oM,λ_ b=>by cases b⟩
 ·simp only[C,Lu,and_true]at h;simp only[Prod.mk.injEq]at g;have a3:∀i,i<f->∀n∈(N i).weights prog 53,n<=reachBytes:=λi hi n hn=>E n (by
   rw[g.1];simp only[DataW.weights,pI,ln,lx];exact .inr (.inl (tY (lW.2 ⟨i,List.mem_range.2 hi,rfl⟩) hn)))
  have a5:f*prog.bytesOf 53<=reachBytes:=by
   have:=E ((f+(m-f))*prog.bytesOf 53) (by rw[g.1];simp[DataW.weights,pI]);exact lk (L7 _ oM) this
  rw[show prog.bytesOf 53=24 from kR]at a5;obtain⟨xs,a2,y⟩:=wK (Q:=λi (x:aG)=>x.name.size<=140737488355328/\w.cell? (a.add (i*2))=some (.string x.name)/\w.cell? (a.add (i*2+1))=some (.int .u8 x.kind)) f λi l=>by
   obtain⟨ys,n,F,_,M,D⟩:=hi i (by rw[K];split<;>omega);obtain⟨v0,a6,o,t,O⟩:=D 0 a0 rfl;obtain⟨a7,a9,q,z,R⟩:=D 1 X rfl;obtain⟨p,P,S,ac⟩:=DataW.trod_string t0 O;obtain⟨k,a1,_,ag⟩:=DataW.trod_int Z R
   cases P;cases a1
   refine⟨⟨p,k⟩,?_,o,q⟩
   match ys,M,t,z with
   | [z0,z1],_,t,z =>
     cases t;cases z
     have ad:=a3 i l p.data.toList.length (by
      rw[F,S];simp[DataW.weights,B,DataW.weightsEach])
     have af:p.data.toList.length=p.size:=(by rw[Lib.size_eq]);simp only;omega
  subst a2;refine⟨some a,V,xs,h,⟨I,by unfold maxLen at U;omega,oM,λi l=>?_⟩,λx g=>?_⟩
  ·obtain⟨_,o,q⟩:=y i l;have s:a.spot=none:=by
    obtain⟨_,e,_⟩:=y 0 oM;simp only[Lf,Addr.add,if_true]at e;unfold World.cell? at e
    split at e
    ·split at e
     ·cases e
     ·rename_i b;simpa using b
    ·cases e
   have W:∀n,a.add n=⟨a.block,a.off+n,none⟩:=λn=>by
    obtain⟨ab,J,G⟩:=a;simp only at s;subst s;unfold Addr.add
    split
    ·rename_i b;subst b;rfl
    ·rfl
   rw[W]at o q;refine⟨a.block,a.off,by obtain⟨ab,J,G⟩:=a;simp only at s;subst s;rfl,λj u hu=>?_⟩
   match j,hu with
   | 0,hu=>cases hu;exact o
   | 1,hu=>cases hu;exact q
  ·obtain⟨i,l,rfl⟩:=lU g;exact(y i l).1
theorem H3{v:Value}{fuel:Nat}{x:DataW H×List MemPlace}(r:DataW.trod enc prog w 0 (λ_=>true) held fuel 24 [v]=some x)(q:∀n∈x.1.weights prog 24,n<=reachBytes) :
 ∃A c xs,v=.slice A xs.length c/\Sl w 1 bM A c xs:=by
 have B:=reachBytes_lt
 rcases open_ints xE FV P0 r with⟨b,_⟩ | ⟨a,e,t,zs,b,_,k,s,l,o,h,z⟩
 ·simp only[Lu,and_true]at b;exact⟨none,0,[],b,Sl.nil_ _ oM⟩
 ·simp only[Lu,and_true]at b;simp only[if_true]at l;subst o;have g:=q _ (by simp only[DataW.weights,xE];exact Lt);rw[show prog.bytesOf 3=8 from kR]at g;simp only[lits,ld,lD,LF]at g;have d:(zs.take e).length=e:=sO;refine⟨some a,t,zs.take e,by rw[d];exact b,⟨by rw[d];exact k,by unfold maxLen at s;omega,by rw[d];omega,λi hi=>?_⟩⟩;rw[d]at hi;have f:=h i oM;obtain⟨ab,m,p⟩:=a;have y:p=none:=by simpa[Addr.add]using World.cell?_spot (h 0 oM)
  subst y;refine⟨ab,m,rfl,λj u hu=>?_⟩
  match j,hu with
  | 0,hu =>
    cases hu
    rw[Addr.add_lit]at f;rw[Lb,lE,f];simp[List.getD,show i<zs.length from oM]
theorem yI{v:Value}{fuel:Nat}{x:DataW H×List MemPlace}(r:DataW.trod enc prog w 0 (λ_=>true) held fuel 23 [v]=some x)(q:∀n∈x.1.weights prog 23,n<=reachBytes) :
 ∃A c xs,v=.slice A xs.length c/\Sl w 1 kT A c xs:=by
 have y:=reachBytes_lt
 rcases open_bools qV uc P4 r with⟨b,_⟩ | ⟨a,d,h,B,b,_,k,s,o,g⟩
 ·simp only[Lu,and_true]at b;exact⟨none,0,[],b,Sl.nil_ _ oM⟩
 ·simp only[Lu,and_true]at b;subst o;have m:=q ((d+(h-d))*prog.bytesOf 4) (by simp[DataW.weights,qV,boolRow]);rw[show prog.bytesOf 4=1 from kR]at m;have e:((List.range d).map B).length=d:=sP;refine⟨some a,h,(List.range d).map B,by rw[e];exact b,⟨by rw[e];exact k,by unfold maxLen at s;omega,by rw[e];omega,λi hi=>?_⟩⟩;rw[e]at hi;have f:=g i oM;obtain⟨ab,l,p⟩:=a;have t:p=none:=by simpa[Addr.add]using World.cell?_spot (g 0 oM)
  subst t;refine⟨ab,l,rfl,λj u hu=>?_⟩
  match j,hu with
  | 0,hu =>
    cases hu
    rw[Addr.add_lit]at f;rw[Lb,lE,f];simp
def D6(P:Program)(t b a:TypeId):Bool:=match P.underlying t with
 | some (.struct ⟨[f0,f1,f2,f3,f4]⟩)=>oneCellFields P #[f0,f1,f2,f3,f4]&&(f1.type==a&&(f2.type==a&&(f3.type==b&&(match P.underlying f0.type,P.underlying f4.type with|some (.int .i64),some (.int .i64)=>true|_,_=>false))))
 | _=>false
theorem xF:∃f0 f1 f2 f3 f4,prog.underlying 26=some (.struct #[f0,f1,f2,f3,f4])/\oneCellFields prog #[f0,f1,f2,f3,f4]=true/\f1.type=23/\f2.type=23/\f3.type=24/\prog.underlying f0.type=some (.int .i64)/\prog.underlying f4.type=some (.int .i64):=by
 have c:D6 prog 26 24 23=true:=kR;unfold D6 at c
 split at c
 ·rename_i f0 f1 f2 f3 f4 hs;rw[L6,L6,L6,L6,beq_iff_eq,beq_iff_eq,beq_iff_eq]at c;obtain⟨h,e,f,g,d⟩:=c
  split at d
  ·rename_i a b;exact⟨f0,f1,f2,f3,f4,hs,h,e,f,g,a,b⟩
  ·cases d
 ·cases c
theorem P3:prog.cellsOf 26=5:=kR
theorem Dm{g:Type}{l:List g}(f:l.length=5):∃a b c d e,l=[a,b,c,d,e]:=by
 match l,f with
 | [a,b,c,d,e],_=>exact⟨a,b,c,d,e,rfl⟩
theorem KA{X:Nat}{r:Reach}{v:Value}{d:DataW H}{ps:List MemPlace}(D:Value.okWide prog w r X 26 v)(b:DataW.Trod enc prog w 0 (λ_=>true) held 26 v d ps)
 (R:∀n∈d.weights prog 26,n<=reachBytes):∃c:bw,v=c.v/\ff w c:=by
 obtain⟨t,q,m,h,g,f,a,C,z,B,t0,t4⟩:=xF;obtain⟨cs,rfl,a4⟩:=okWide_struct f D;obtain⟨fuel,T⟩:=b;obtain⟨xs,Z,a2,y,A,W,e⟩:=DataW.trod_struct f T;rw[P3]at A;obtain⟨l⟩:=cs;obtain⟨v0,a1,v2,v3,v4,rfl⟩:=Dm (l:=l) A;obtain⟨a0,J,O,K,a3,rfl⟩:=Dm W;simp only[Prod.mk.injEq,lG,L3]at y;obtain⟨rfl,_⟩:=y;have k:=e 0 t rfl;have s:=e 1 q rfl;have j:=e 2 m rfl;have p:=e 3 h rfl;have o:=e 4 g rfl;rw[(hone_of a 0 t rfl).1,(hone_of a 0 t rfl).2]at k;rw[(hone_of a 1 q rfl).1,(hone_of a 1 q rfl).2,C]at s;rw[(hone_of a 2 m rfl).1,(hone_of a 2 m rfl).2,z]at j;rw[(hone_of a 3 h rfl).1,(hone_of a 3 h rfl).2,B]at p;rw[(hone_of a 4 g rfl).1,(hone_of a 4 g rfl).2]at o;simp only[Value.cells,lZ,L4,lX,lR,List.getElem?_cons_zero,List.getElem?_cons_succ]at k s j p o;obtain⟨G,u,_,_⟩:=DataW.trod_int t0 k;obtain⟨Y,x,_,_⟩:=DataW.trod_int t4 o;simp only[Lu,and_true]at u x;subst u;subst x;have i:∀n,n∈J.1.weights prog 23\/n∈O.1.weights prog 23\/n∈K.1.weights prog 24->n<=reachBytes:=λn hn=>R n (by
  simp only[DataW.weights,f,lG,L3,DataW.weightsEach,lx,C,z,B]
  rcases hn with b|b|b<;>simp[b])
 obtain⟨M,U,E,rfl,hi⟩:=yI s λn hn=>i n (.inl hn);obtain⟨L,Q,N,rfl,F⟩:=yI j λn hn=>i n (.inr (.inl hn));obtain⟨S,V,I,rfl,P⟩:=H3 p λn hn=>i n (.inr (.inr hn));exact⟨⟨G,M,U,E,L,Q,N,S,V,I,Y⟩,rfl,⟨hi,F,P⟩⟩
end
end Go.Proofs.YtpkocnpamcchcaaGreatDoor
