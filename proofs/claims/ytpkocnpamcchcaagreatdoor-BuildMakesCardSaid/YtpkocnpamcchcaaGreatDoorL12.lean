/- Parts. -/
import Derived.Lib.ConvBytes
import Derived.Maps.OwnSet
import Derived.Test.YtpkocnpamcchcaaGreatDoorL06
import Derived.Test.YtpkocnpamcchcaaGreatDoorL08
import Derived.Test.YtpkocnpamcchcaaGreatDoorL09
set_option maxRecDepth 100000
set_option maxHeartbeats 40000000
set_option linter.all false
namespace Go.Proofs.YtpkocnpamcchcaaGreatDoor
open Go.RowKit Go.Zone Go.Shelf Tryz Go.Roa Go.Sym
structure cV(w W:World)(vs:List Value):Prop where
 keep:aa w W
 lt:w.heap.size<W.heap.size
 at_:∀j u,vs[j]? =some u->W.cell? ⟨w.heap.size,j,none⟩=some u
theorem cV.start{w b:World}{c:List Value}{t:TypeId}(a:aa (w.alloc (.cells c.toArray t)) b):cV w b c :=
 ⟨(aa.alloc (aa.refl w) _).trans a,lp sP a.size,λj u h=>(a.cell (p:=⟨w.heap.size,j,none⟩) sG).trans (by rw[<-h];simp[go_sem])⟩
theorem cV.next{w c W':World}{d:List Value}(a:cV w c d)(b:aa c W'):cV w W' d :=
 ⟨a.keep.trans b,lp a.lt b.size,λj u hu=>(b.cell (p:=⟨w.heap.size,j,none⟩) a.lt).trans (a.at_ j u hu)⟩
theorem Dj(l:List aG)(f:List Bool)(a:f.length=0\/f.length=l.length):k6 l f<->∀i,i<l.length->cD f (i:Int)=true->bR l (i:Int)=true :=
 ⟨λm i _ hi=>m.ok i hi,λm=>⟨a,λi hi=>by
  by_cases b:i<l.length
  ·exact m i b hi
  ·have:f.length<=i:=oM;simp[this]at hi⟩⟩
theorem OU(l:List aG)(c:bw):Fits l c<->(iT l/\(c.sort= -1\/bR l c.sort=true))/\((c.inv.length=0\/c.inv.length=l.length)/\(c.rng.length=0\/c.rng.length=l.length)) /\
 (∀i,i<l.length->(cD c.inv (i:Int)=true\/cD c.rng (i:Int)=true)->bR l (i:Int)=true)/\(∀j,(a:j<c.split.length)->bR l c.split[j]=true/\∀k,(b:k<j)->c.split[k]'oM≠c.split[j])/\c.split.length<=8/\1<=c.leaf/\c.leaf<=1000000:=by
 constructor
 ·intro f;exact⟨⟨f.may,f.sort⟩,⟨f.inv.len,f.rng.len⟩,λi _ hi=>hi.elim (f.inv.ok i) (f.rng.ok i),λj a=>⟨f.split j a,λk b=>f.one j k a b⟩,f.few,f.lo,f.hi⟩
 ·rintro⟨⟨p,g⟩,⟨m,h⟩,e,d,o,q,n⟩;exact⟨p,g,(Dj l _ m).2 λi hi hx=>e i hi (.inl hx),(Dj l _ h).2 λi hi hx=>e i hi (.inr hx),λj a=>(d j a).1,λj k a b=>(d j a).2 k b,o,q,n⟩
theorem zF(A:Option Addr)(n:Nat)(cs:List aG)(c:bw)(w:World)(l:Sl w 2 aG.cells A n cs)(aw:∀x∈cs,x.name.size<=140737488355328)(o:ff w c) :
 Rt 39 #[.slice A cs.length n,c.v] w (.bool (pB (Fits cs c))):=by
 have u:=lh (OU cs c);obtain⟨s0,H,G,g,I,J,h,R,K,sp,E⟩:=c;have aE:=cE l;have aL:=cE o.s;have aF:=cE o.i;have aN:=cE o.r;have T:=lh (λW (hW:aa w W)=>Ah A n cs W (l.keep hW) aw);have C:=lh (λW (hW:aa w W) (i:Int)=>Je A n cs i W (l.keep hW));have a0:=lh (λW (hW:aa w W) (i:Int)=>oJ H G g i W (o.i.keep hW));have a1:=lh (λW (hW:aa w W) (i:Int)=>oJ I J h i W (o.r.keep hW));have a4:=lh o.s;have aQ:=o.s.cap;have aB:=o.s.big;simp only[bw.v];clear l o;go_enter func39,ntmps39;go_upto_region 1 with fail;go_cut [22]from 8 to 22 (λs22 wx=>s22=.bool (!pB (iT cs/\(s0= -1\/bR cs s0=true)))/\Hid (cV w wx [.int .i64 s0,.slice H g.length G,.slice I h.length J,.slice R sp.length K,.int .i64 E]))
 case first =>
  cases hq1:pB (iT cs)
  ·have D:=lh hq1;go_wp2_with (go_at_call 90;refine uC (T.o _ kP) λp=>?_);go_meet;exact⟨by rw[dd λf=>by have:=D.o;rw[ew f.1]at this;cases this];rfl,cV.start (t:=26) kP⟩
  ·have D:=lh hq1
   by_cases U:s0= -1
   ·have X:=lh U;have aJ:(s0 != -1)=false:=(by simp[U]);clear U;go_wp2_with (go_at_call 90;refine uC (T.o _ kP) λp=>?_);go_meet;exact⟨by rw[ew ⟨je.1 D.o,.inl X.o⟩];rfl,cV.start (t:=26) kP⟩
   ·have X:=lh U
    cases hd:bR cs s0
    ·have Z:=lh hd;go_wp2_with (first|(go_at_call 90;refine uC (T.o _ kP) λp=>?_)|(go_at_call 91;refine uC (C.o _ kP _) λp=>?_));go_meet;exact⟨by
      rw[dd λf=>f.2.elim X.o λl=>by have:=Z.o;rw[l]at this;cases this];simp[X.o],cV.start (t:=26) kP⟩
    ·have Z:=lh hd;go_wp2_with (first|(go_at_call 90;refine uC (T.o _ kP) λp=>?_)|(go_at_call 91;refine uC (C.o _ kP _) λp=>?_));go_meet;exact⟨by rw[ew ⟨je.1 D.o,.inr Z.o⟩];rfl,cV.start (t:=26) kP⟩
 case rest =>
  obtain⟨rfl,z⟩:=hcut;rename World=>w1;have a9:=lh z.o.keep
  cases hq:pB (iT cs/\(s0= -1\/bR cs s0=true))
  ·have D:=lh hq;go_wp2;go_ret;exact⟨cY (dd λf=>by have:=D.o;rw[ew (u.o.1 f).1]at this;cases this).symm,a9.o⟩
  ·have D:=lh hq;go_upto_region 3 with fail;go_cut [48]from 23 to 48 (λs48 wx=>s48=.bool (!decide ((g.length=0\/g.length=cs.length)/\(h.length=0\/h.length=cs.length)))/\Hid (cV w wx [.int .i64 s0,.slice H g.length G,.slice I h.length J,.slice R sp.length K,.int .i64 E]))
   case first =>
    have O:=z.o.at_ 0 _ rfl;have N:=z.o.at_ 1 _ rfl;have S:=z.o.at_ 2 _ rfl;have Q:=z.o.at_ 3 _ rfl;have P:=z.o.at_ 4 _ rfl;have M:=z.o.lt
    cases av:((g.length:Int) != 0)
    all_goals cases ah:((h.length:Int) != 0)
    all_goals cases ak:((g.length:Int) != (cs.length:Int))
    all_goals cases az:((h.length:Int) != (cs.length:Int))
    all_goals
     have ar:=lh (And.intro av (And.intro ah (And.intro ak az)));go_wp2;go_meet
    all_goals
     obtain⟨ai,au,ae,al⟩:=ar.o;simp only[bne_eq_false_iff_eq,bne_iff_ne,ne_eq]at ai au ae al;refine⟨congrArg Value.bool (Eq.symm ?_),z.o⟩;simp only[Bool.not_eq_false',Bool.not_eq_true',decide_eq_true_iff,decide_eq_false_iff_not];omega
   case rest =>
    obtain⟨rfl,a7⟩:=hcut;rename World=>w2;have ax:=lh a7.o.keep;clear z a9
    cases hq2:decide ((g.length=0\/g.length=cs.length)/\(h.length=0\/h.length=cs.length))
    ·have a2:=lh hq2;go_wp2;go_ret;exact⟨cY (dd λf=>(of_decide_eq_false a2.o) (u.o.1 f).2.1).symm,ax.o⟩
    ·have a2:=lh hq2;go_wp2;go_loopw [5] (λi wr=>∃k:Nat,k<=cs.length/\i=.int .i64 k/\Hid (cV w wr [.int .i64 s0,.slice H g.length G,.slice I h.length J,.slice R sp.length K,.int .i64 E])/\Hid (∀j:Nat,j<k->(cD g (j:Int)=true\/cD h (j:Int)=true)->bR cs (j:Int)=true)) (λi _=>cs.length-(intOf i).toNat)
     case atStart=>exact⟨0,lj _,rfl,a7.o,λj hj=>absurd hj (lI _)⟩
     case round =>
           obtain⟨k,L,rfl,a,F⟩:=hrel;have d:=lh a.o.keep;have O:=a.o.at_ 0 _ rfl;have N:=a.o.at_ 1 _ rfl;have S:=a.o.at_ 2 _ rfl;have Q:=a.o.at_ 3 _ rfl;have P:=a.o.at_ 4 _ rfl;have M:=a.o.lt
           by_cases ac:k<cs.length
           ·cases hd:bR cs (k:Int)
            ·have B:=lh hd
             cases hi:cD g (k:Int)
             ·have a6:=lh hi
              cases hr:cD h (k:Int)
              ·have a3:=lh hr;go_wp2_with (first|(go_at_call 91;refine uC (C.o _ (d.o.trans kP) _) λp=>?_)|(go_at_call 46;with_reducible refine uC (a0.o _ (d.o.trans kP) _) λp=>?_)|(go_at_call 46;with_reducible refine uC (a1.o _ (d.o.trans kP) _) λp=>?_));go_roundw
               case rel=>exact⟨k+1,oM,by go_num,a.o.next kP,λj hj l=>by
               by_cases e:j=k
               ·subst e;rw[a6.o,a3.o]at l;simp at l
               ·exact F.o j oM l⟩
               case measure=>simp[intOf];omega
              ·have a3:=lh hr;go_wp2_with (first|(go_at_call 91;refine uC (C.o _ (d.o.trans kP) _) λp=>?_)|(go_at_call 46;with_reducible refine uC (a0.o _ (d.o.trans kP) _) λp=>?_)|(go_at_call 46;with_reducible refine uC (a1.o _ (d.o.trans kP) _) λp=>?_));go_ret;exact⟨cY (dd λf=>by have:=(u.o.1 f).2.2.1 k ac (.inr a3.o);rw[B.o]at this;cases this).symm,d.o.trans kP⟩
             ·have a6:=lh hi;go_wp2_with (first|(go_at_call 91;refine uC (C.o _ (d.o.trans kP) _) λp=>?_)|(go_at_call 46;with_reducible refine uC (a0.o _ (d.o.trans kP) _) λp=>?_)|(go_at_call 46;with_reducible refine uC (a1.o _ (d.o.trans kP) _) λp=>?_));go_ret;exact⟨cY (dd λf=>by have:=(u.o.1 f).2.2.1 k ac (.inl a6.o);rw[B.o]at this;cases this).symm,d.o.trans kP⟩
            ·have B:=lh hd;go_wp2_with (go_at_call 91;refine uC (C.o _ (d.o.trans kP) _) λp=>?_);go_roundw
             case rel=>exact⟨k+1,oM,by go_num,a.o.next kP,λj hj l=>by
              by_cases e:j=k
              ·subst e;exact B.o
              ·exact F.o j oM l⟩
             case measure=>simp[intOf];omega
           ·have aj:=lh (show ∀i,i<cs.length->(cD g (i:Int)=true\/cD h (i:Int)=true)->bR cs (i:Int)=true from λi hi=>F.o i oM);clear F;go_wp2;go_loopw [6] (λi wr=>∃m:Nat,m<=sp.length/\i=.int .i64 m/\Hid (cV w wr [.int .i64 s0,.slice H g.length G,.slice I h.length J,.slice R sp.length K,.int .i64 E])/\Hid (∀j,(l:j<sp.length)->j<m->bR cs sp[j]=true/\∀k,(L:k<j)->sp[k]'oM≠sp[j])) (λi _=>sp.length-(intOf i).toNat)
            case atStart=>exact⟨0,lj _,rfl,a.o,λj _ hj=>absurd hj (lI _)⟩
            case round =>
             clear O N S Q P M a d;obtain⟨m,aP,rfl,a,F⟩:=hrel;have d:=lh a.o.keep;have O:=a.o.at_ 0 _ rfl;have N:=a.o.at_ 1 _ rfl;have S:=a.o.at_ 2 _ rfl;have Q:=a.o.at_ 3 _ rfl;have P:=a.o.at_ 4 _ rfl;have M:=a.o.lt
             by_cases V:m<sp.length
             ·obtain⟨b,ap,ao,aO,ag⟩:=eZ (a4.o.keep d.o) m V;subst ao
              cases hd:bR cs sp[m]
              ·have B:=lh hd;go_wp2_with (go_at_call 91;refine uC (C.o _ (d.o.trans kP) _) λp=>?_);go_ret;exact⟨cY (dd λf=>by have:=((u.o.1 f).2.2.2.1 m V).1;rw[B.o]at this;cases this).symm,d.o.trans kP⟩
              ·have B:=lh hd;go_wp2_with (go_at_call 91;refine uC (C.o _ (d.o.trans kP) _) λp=>?_);go_loopw [7] (λi wr=>∃q:Nat,q<=m/\i=.int .i64 q/\Hid (cV w wr [.int .i64 s0,.slice H g.length G,.slice I h.length J,.slice (some ⟨b,ap,none⟩) sp.length K,.int .i64 E])/\Hid (∀k,(L:k<q)->(hk2:k<sp.length)->sp[k]≠sp[m])) (λi _=>m-(intOf i).toNat)
               case atStart=>exact⟨0,lj _,rfl,a.o.next kP,λk L=>absurd L (lI _)⟩
               case round =>
               clear O N S Q P M ag;obtain⟨q,aH,rfl,y,a8⟩:=hrel;have Y:=lh y.o.keep;have O:=y.o.at_ 0 _ rfl;have N:=y.o.at_ 1 _ rfl;have S:=y.o.at_ 2 _ rfl;have Q:=y.o.at_ 3 _ rfl;have P:=y.o.at_ 4 _ rfl;have M:=y.o.lt
               by_cases af:q<m
               ·obtain⟨aC,aM,aq,_,aA⟩:=eZ (a4.o.keep Y.o) m V;obtain⟨aD,aI,ay,_,aK⟩:=eZ (a4.o.keep Y.o) q oM
                cases aq
                cases ay
                cases o:(sp[q]==sp[m])
                ·have a5:=lh o;go_wp2;go_region;go_wp2;go_roundw
                 case rel=>exact⟨q+1,oM,by go_num,y.o.next kP,λk L hk2=>by
                  by_cases e:k=q
                  ·subst e;have:=a5.o
                   simpa using this
                  ·exact a8.o k oM hk2⟩
                 case measure=>simp[intOf];omega
                ·have a5:=lh o;go_wp2;go_region;go_wp2;go_ret;exact⟨cY (dd λf=>by
                  have:=a5.o;exact((u.o.1 f).2.2.2.1 m V).2 q af (by simpa using this)).symm,Y.o.trans kP⟩
               ·go_wp2;go_roundw
                case rel=>exact⟨m+1,oM,by go_num,y.o,λj hj hjm=>by
                      by_cases e:j=m
                      ·subst e;exact⟨B.o,λk L=>a8.o k oM _⟩
                      ·exact F.o j hj oM⟩
                case measure=>simp[intOf];omega
             ·have ab:=lh (show Fits cs ⟨s0,H,G,g,I,J,h,R,K,sp,E⟩<->sp.length<=8/\1<=E/\E<=1000000 from
               ⟨λf=>(u.o.1 f).2.2.2.2,λl=>u.o.2 ⟨je.1 D.o,of_decide_eq_true a2.o,aj.o,λj hj=>F.o j hj oM,l⟩⟩)
              go_wp2
              all_goals go_ret
              all_goals refine⟨?_,d.o⟩
              all_goals (have ad:=ab.o;clear ab u)
              all_goals first
              | exact cY (dd λf=>by have:=ad.1 f;omega).symm
              | (refine cY ?_
                 rw[Bool.eq_iff_iff,je,ad,decide_eq_true_iff];omega)
def QK(e:Ending):Prop:=∃g,e=.returned (.bool g)
theorem I7(A:Option Addr)(n:Nat)(cs:List aG)(c:bw)(w:World)(f:Sl w 2 aG.cells A n cs)(p:∀x∈cs,x.name.size<=140737488355328)(d:ff w c) :
 Calls prog 57 #[.slice A cs.length n,c.v] w λe w'=>QK e/\aa w w':=by
 obtain⟨s0,o,y,j,m,q,C,u,z,sp,D⟩:=c;have E:=cE f;have I:=cE d.s;have K:=cE d.i;have L:=cE d.r;have B:=lh f;simp only[bw.v];clear f d;go_enter func57,ntmps57;go_wp2;go_loopw [5] (λi wr=>∃k:Nat,k<=cs.length/\i=.int .i64 k/\Hid (cV w wr [.int .i64 s0,.slice o j.length y,.slice m C.length q,.slice u sp.length z,.int .i64 D])) (λi _=>cs.length-(intOf i).toNat)
 case atStart=>exact⟨0,lj _,rfl,cV.start (t:=26) kP⟩
 case round =>
  obtain⟨k,O,rfl,a⟩:=hrel;have g:=lh a.o.keep;have Q:=a.o.at_ 0 _ rfl;have F:=a.o.at_ 1 _ rfl;have R:=a.o.at_ 2 _ rfl;have P:=a.o.at_ 3 _ rfl;have G:=a.o.at_ 4 _ rfl;have H:=a.o.lt
  by_cases h:k<cs.length
  ·obtain⟨b,N,l,M,S,T⟩:=il (B.o.keep g.o) k h;have J:=p cs[k] (ll h);subst l
   cases hg:decide (200<(cs[k].name.size:Int))
   ·go_wp2;go_roundw
    case rel=>exact⟨k+1,oM,by go_num,a.o⟩
    case measure=>simp[intOf];omega
   ·go_wp2;go_ret;exact⟨⟨_,rfl⟩,g.o⟩
  ·go_wp2
   all_goals go_ret
   all_goals exact⟨⟨_,rfl⟩,g.o⟩
open Go.Star
theorem Ey(A B:Option Addr)(c d:Nat)(xs ys:List Int)(w:World)(g:Sl w 1 bM A c xs)(k:Sl w 1 bM B d ys)(f:xs.length=ys.length) :
 Rt 96 #[.slice A xs.length c,.slice B ys.length d] w (.bool (decide (xs=ys))):=by
 have H:=lh g;have D:=lh k;have G:=cE g;have m:=cE k;rw[<-f]at m|-;have s:=lh f;generalize p:xs.length=n at G m;have h:=lh p;clear g k f p;go_enter func96,ntmps96;go_wp2;go_loopw [5] (λvi wr=>∃(i:Nat),i<=n/\vi=.int .i64 i/\Hid (xs.take i=ys.take i)/\Hid (aa w wr)) (λvi _=>n-(intOf vi).toNat)
 case atStart=>exact⟨0,lj _,rfl,rfl,kP⟩
 case round =>
  obtain⟨i,hi,rfl,o,a⟩:=hrel
  by_cases C:i<n
  ·have l:i<xs.length:=(by rw[h.o];exact C);have q:i<ys.length:=(by rw[<-s.o];exact l);obtain⟨b,M,z,L,r⟩:=eZ (H.o.keep a.o) i l;obtain⟨K,N,t,J,j⟩:=eZ (D.o.keep a.o) i q;subst z;subst t
   by_cases he:xs[i]=ys[i]
   ·have v:=lh (show xs.take (i+1)=ys.take (i+1) by rw[ly l,ly q,o.o,he]);rw[<-he]at j;generalize xs[i]=x at r j;go_upto_region 4 with fail;go_quiet (fail);go_wp2;go_roundw
    case rel=>exact⟨i+1,oM,by go_num,v.o,a.o.trans kP⟩
    case measure=>simp[intOf];omega
   ·have F:=lh (show decide (xs=ys)=false from decide_eq_false λe=>he (by subst e;rfl));generalize xs[i]=x at r he;generalize ys[i]=y at j he;have O:(x != y)=true:=(by simpa using he);have I:(x==y)=false:=(by simpa using he);go_upto_region 4 with fail;go_quiet (fail);go_wp2;go_ret;exact⟨by rw[F.o];rfl,a.o.trans kP⟩
  ·have E:i=n:=oM;have u:=lh (show decide (xs=ys)=true from decide_eq_true (by
    have:=o.o
    rwa [lM (by have:=h.o;omega),lM (by have:=h.o;have:=s.o;omega)]at this))
   subst E;go_wp2;go_ret;exact⟨by rw[u.o];rfl,a.o.trans kP⟩
theorem B6:∀(i:Nat) (xs ys:List Int) (f:i<xs.length) (e:i<ys.length),xs.take i=ys.take i->xs[i]≠ys[i]->eK xs ys=decide (xs[i]<ys[i])
 | 0,a::_,b::_,_,_,_,c=>by
   have c:a≠b:=c;simp[eK,c]
 | i+1,a::r,b::s,f,e,d,c=>by
   simp only[lX,Lu]at d;obtain⟨rfl,d⟩:=d;have:=B6 i r s (by simpa using f) (by simpa using e) d c;simp[eK,this]
theorem B8(A B:Option Addr)(c d:Nat)(xs ys:List Int)(w:World)(h:Sl w 1 bM A c xs)(k:Sl w 1 bM B d ys)(f:xs.length=ys.length) :
 Rt 98 #[.slice A xs.length c,.slice B ys.length d] w (.bool (eK xs ys)):=by
 have G:=lh h;have D:=lh k;have F:=cE h;have p:=cE k;rw[<-f]at p|-;have s:=lh f;generalize q:xs.length=n at F p;have l:=lh q;clear h k f q;go_enter func98,ntmps98;go_wp2;go_loopw [5] (λvi wr=>∃(i:Nat),i<=n/\vi=.int .i64 i/\Hid (xs.take i=ys.take i)/\Hid (aa w wr)) (λvi _=>n-(intOf vi).toNat)
 case atStart=>exact⟨0,lj _,rfl,rfl,kP⟩
 case round =>
  obtain⟨i,hi,rfl,g,a⟩:=hrel
  by_cases C:i<n
  ·have e:i<xs.length:=(by rw[l.o];exact C);have m:i<ys.length:=(by rw[<-s.o];exact e);obtain⟨b,L,z,K,r⟩:=eZ (G.o.keep a.o) i e;obtain⟨J,M,t,I,o⟩:=eZ (D.o.keep a.o) i m;subst z;subst t
   by_cases he:xs[i]=ys[i]
   ·have v:=lh (show xs.take (i+1)=ys.take (i+1) by rw[ly e,ly m,g.o,he]);rw[<-he]at o;generalize xs[i]=x at r o;go_upto_region 4 with fail;go_quiet (fail);go_wp2;go_roundw
    case rel=>exact⟨i+1,oM,by go_num,v.o,a.o.trans kP⟩
    case measure=>simp[intOf];omega
   ·have j:=lh (B6 i xs ys e m g.o he);generalize xs[i]=x at r he j;generalize ys[i]=y at o he j;have N:(x != y)=true:=(by simpa using he);have H:(x==y)=false:=(by simpa using he);go_upto_region 4 with fail;go_quiet (fail);go_upto_region 5 with fail;go_quiet (fail);go_wp2;go_ret;exact⟨by rw[j.o];rfl,a.o.trans kP⟩
  ·have E:i=n:=oM;have u:=lh (show eK xs ys=false by
    have:=g.o;rw[lM (by have:=l.o;omega),lM (by have:=l.o;have:=s.o;omega)]at this;rw[this,qq])
   subst E;go_wp2;go_ret;exact⟨by rw[u.o];rfl,a.o.trans kP⟩
theorem BI(l:List aG):∀k,kO l k<=k
 | 0=>lc _
 | k+1=>by
   have:=BI l k;simp only[kO]
   split<;>omega
open Go.Sort
theorem yC:∀(l m:List ai),l.Pairwise cz->m.Pairwise cz->(∀x,x∈l<->x∈m)->l=m
 | [],[],_,_,_=>rfl
 | [],y::m,_,_,h=>by have:=(h y).2 sP;cases this
 | x::l,[],_,_,h=>by have:=(h x).1 sP;cases this
 | x::l,y::m,hl,hm,h=>by
   have d:=Lo.1 hl;have a:=Lo.1 hm;have i:x=y:=by
     rcases ln.1 ((h x).1 sP) with e|e
     ·exact e
     ·rcases ln.1 ((h y).2 sP) with b|b
      ·exact b.symm
      ·exact absurd ((a.1 x e).trans (d.1 y b)) (cz.irrefl y)
   subst i
   congr 1
   refine yC l m d.2 a.2 λz=>?_;have c:=h z;simp only[ln]at c;constructor
   ·intro g
    rcases c.1 (.inr g) with e|e
    ·subst e;exact absurd (d.1 z g) (cz.irrefl z)
    ·exact e
   ·intro f
    rcases c.2 (.inr f) with e|e
    ·subst e;exact absurd (a.1 z f) (cz.irrefl z)
    ·exact e
theorem AB(v:ai):∀(xs:List ai) (a:List ai),(∀x∈xs,¬ cz v x)->xs.foldl (gu v) (a,false)=(a++xs,false)
 | [],a,_=>sP
 | x::r,a,h=>by
   have b:gB v x=false:=by
     cases hl:gB v x
     ·rfl
     ·exact absurd ((vM v x).1 hl) (h x sP)
   rw[List.foldl_cons];simp only[gu,b,Bool.and_false,lY,if_false];rw[AB v r _ λx hx=>h x (by simp[hx])];simp
theorem AA(v:ai):∀(xs:List ai) (a:List ai),xs.foldl (gu v) (a,true)=(a++xs,true)
 | [],a=>sP
 | x::r,a=>by
   rw[List.foldl_cons];simp only[gu,Bool.not_true,Bool.false_and,lY,if_false];rw[AA v r];simp
theorem Et(xs:List ai)(v:ai):(xs.any λx=>eM x v)=true<->v∈xs:=by
 rw[List.any_eq_true];constructor
 ·rintro⟨x,a,he⟩;rw[(pj x v).1 he]at a;exact a
 ·intro b;exact⟨v,b,(pj v v).2 rfl⟩
theorem yB(v:ai):∀(xs:List ai),xs.Pairwise cz->v∉xs->∃a b,xs=a++b/\(∀x∈a,cz x v)/\(∀x∈b,cz v x)
 | [],_,_=>⟨[],[],rfl,sP,sP⟩
 | x::r,h,hv=>by
   have d:=Lo.1 h
   rcases cz.tri x v with t|t|t
   ·obtain⟨a,b,e,g,f⟩:=yB v r d.2 (λhm=>hv (by simp[hm]));exact⟨x::a,b,by simp[e],λy c=>by
     rcases ln.1 c with rfl|c
     ·exact t
     ·exact g y c,f⟩
   ·subst t;exact absurd sP hv
   ·exact⟨[],x::r,rfl,sP,λy c=>by
     rcases ln.1 c with rfl|c
     ·exact t
     ·exact t.trans (d.1 y c)⟩
theorem Jw(v:ai)(a b:List ai)(e:∀x∈a,cz x v)(d:∀x∈b,cz v x):dS (a++b) v=a++v::b:=by
 have h:v∉a++b:=λc=>by
  rcases lx.1 c with c|c
  ·exact cz.irrefl v (e v c)
  ·exact cz.irrefl v (d v c)
 have i:=AB v a [] λx hx c=>cz.irrefl v (c.trans (e x hx));have f:jd v (a++b)=b.foldl (gu v) (a,false):=by
  unfold jd;rw[List.foldl_append,i];simp
 unfold dS;rw[if_neg (λc=>h ((Et _ _).1 c)),f]
 cases b with
 | nil=>simp
 | cons y r =>
   have g:gB v y=true:=(vM v y).2 (d y sP);rw[List.foldl_cons];simp only[gu,g,Bool.not_false,Bool.and_true,if_true];rw[AA v r];simp
theorem Jx(xs:List ai)(v:ai)(c:xs.Pairwise cz):(dS xs v).Pairwise cz/\∀x,x∈dS xs v<->x∈xs\/x=v:=by
 by_cases f:v∈xs
 ·have:dS xs v=xs:=by unfold dS;rw[if_pos ((Et _ _).2 f)]
  rw[this];refine⟨c,λx=>⟨.inl,λd=>?_⟩⟩
  rcases d with d|rfl
  ·exact d
  ·exact f
 ·obtain⟨a,b,rfl,h,g⟩:=yB v xs c f;rw[Jw v a b h g];refine⟨?_,λx=>?_⟩
  ·rw[List.pairwise_append]at c|-;refine⟨c.1,Lo.2 ⟨g,c.2.1⟩,λx d y e=>?_⟩
   rcases ln.1 e with rfl|e
   ·exact h x d
   ·exact c.2.2 x d y e
  ·simp only[lx,ln];constructor
   ·rintro (c|rfl|c)
    ·exact .inl (.inl c)
    ·exact .inr rfl
    ·exact .inl (.inr c)
   ·rintro ((c|c)|rfl)
    ·exact .inl c
    ·exact .inr (.inr c)
    ·exact .inr (.inl rfl)
theorem AC(xs:List ai):(putAll xs).Pairwise cz/\∀x,x∈putAll xs<->x∈xs:=by
 suffices b:∀(xs a:List ai),a.Pairwise cz->(xs.foldl dS a).Pairwise cz/\∀x,x∈xs.foldl dS a<->x∈xs\/x∈a by
  have:=b xs [] List.Pairwise.nil;exact⟨this.1,λx=>by have:=this.2 x;simpa[putAll]using this⟩
 intro xs
 induction xs with
 | nil=>intro a c;exact⟨c,λx=>sP⟩
 | cons y r ih =>
   intro a c;have e:=Jx a y c;have d:=ih (dS a y) e.1;refine⟨d.1,λx=>?_⟩;rw[List.foldl_cons,d.2 x,e.2 x,ln];constructor
   ·rintro (b|b|b)
    ·exact .inl (.inr b)
    ·exact .inr b
    ·exact .inl (.inl b)
   ·rintro ((b|b)|b)
    ·exact .inr (.inr b)
    ·exact .inl b
    ·exact .inr (.inl b)
def EI(x y:ai):Prop:=¬ cz y x
theorem Hi(xs:List ai):(sortV xs).Pairwise EI:=by
 have h:=List.pairwise_mergeSort (le:=λx y=>!(ltOf dA) y x) (λa b c h1 h2=>by
  simp only[Bool.not_eq_true']at *;exact rk.ntrans c b a h2 h1) (λa b=>by
  cases h1:ltOf dA b a
  ·rfl
  ·cases h2:ltOf dA a b
   ·simp
   ·exact absurd (rk.trans a b a h2 h1) (by rw[rk.irrefl];simp)) xs
 refine h.imp λ{a b} hab=>?_;simp only[Bool.not_eq_true',ltOf,decide_eq_false_iff_not,jG]at hab;exact hab
theorem Hj(xs:List ai)(x:ai):x∈sortV xs<->x∈xs:=List.mem_mergeSort
theorem DR(xs:List ai)(g:xs.Pairwise EI):∀m,m<=xs.length->(fB xs m).Pairwise cz/\(∀x,x∈fB xs m<->x∈xs.take m)
 | 0,_=>⟨by simp[fB],λx=>by simp[fB]⟩
 | m+1,hm=>by
   have b:=DR xs g m oM;have f:m<xs.length:=oM;have q:xs.getD m default=xs[m]:=(by simp[f]);have k:∀x,x∈xs.take (m+1)<->x∈xs.take m\/x=xs[m]:=λx=>by
    rw[ly f,lx,lm]
   unfold fB;rw[q]
   split
   ·rename_i a;refine⟨?_,λx=>by rw[lx,b.2 x,lm,k x]⟩;rw[List.pairwise_append];refine⟨b.1,List.pairwise_singleton _ _,λx c y hy=>?_⟩;rw[lm]at hy;subst hy;rw[b.2 x]at c;obtain⟨i,hi,rfl⟩:=lU c;have r:i<m:=(by simp at hi;omega);rw[List.getElem_take]
    rcases a with a|a
    ·omega
    ·have p:xs.getD (m-1) default=xs[m-1]:=(by simp[show m-1<xs.length from oM]);rw[p]at a;have l:xs[m]≠xs[m-1]:=λe=>(by rw[(pj _ _).2 e]at a;cases a);have j:=List.pairwise_iff_getElem.1 g;have d:cz xs[m-1] xs[m]:=by
      rcases cz.tri xs[m-1] xs[m]with t|t|t
      ·exact t
      ·exact absurd t.symm l
      ·exact absurd t (j (m-1) m oM f oM)
     rcases L8 i (m-1) with h|h
     ·have n:=j i (m-1) oM oM h
      rcases cz.tri xs[i] xs[m-1]with t|t|t
      ·exact t.trans d
      ·rw[t];exact d
      ·exact absurd t n
     ·have:i=m-1:=oM;subst this;exact d
   ·rename_i a;have o:m≠0/\eM xs[m] (xs.getD (m-1) default)=true:=by
     constructor
     ·intro e;exact a (.inl e)
     ·cases he:eM xs[m] (xs.getD (m-1) default)
      ·exact absurd (.inr he) a
      ·rfl
    refine⟨b.1,λx=>?_⟩;rw[b.2 x,k x];constructor
    ·exact .inl
    ·rintro (c|rfl)
     ·exact c
     ·have e:=(pj _ _).1 o.2;rw[e,L9,lu oM,Option.getD_some];exact List.mem_take_iff_getElem.2 ⟨m-1,oM,rfl⟩
theorem kW(xs:List ai):(aQ xs).Pairwise cz/\∀x,x∈aQ xs<->x∈xs:=by
 have h:=DR (sortV xs) (Hi xs) (sortV xs).length (lc _);refine⟨h.1,λx=>?_⟩;have:=h.2 x;rw[lC,Hj]at this;exact this
theorem Ph(xs:List ai):aQ xs=putAll xs :=
 yC _ _ (kW xs).1 (AC xs).1 λx=>by rw[(kW xs).2 x,(AC xs).2 x]
theorem Jq(a:Int)(xs:List ai):iq a xs=if fC a xs=0 then (aQ xs,0) else ([],fC a xs):=by
 unfold iq fC qG;have e:(!(a==1||a==2))=(a != 1&&a != 2):=by simp[bne]
 rw[e];have c:(aQ xs).any (λx=>x.k != a)=xs.any (λx=>x.k != a):=by
  rw[Bool.eq_iff_iff,List.any_eq_true,List.any_eq_true];constructor<;>rintro⟨x,d,b⟩<;>exact⟨x,by simpa[(kW xs).2 x]using d,b⟩
 rw[c,<-Ph]
 (repeat' split)<;>simp_all
theorem xY{b:Type}(p:b->Bool):∀(l:List b) (i:Nat) (a:i<(l.takeWhile p).length),(c:i<l.length)->p l[i]=true
 | [],i,a,_=>by simp at a
 | x::r,i,a,c=>by
   rw[List.takeWhile_cons]at a
   split at a
   ·rename_i hx
    cases i with
    | zero=>exact hx
    | succ i=>exact xY p r i (by simpa using a) (by simpa using c)
   ·simp at a
theorem xX{c:Type}(p:c->Bool):∀(l:List c) (a:(l.takeWhile p).length<l.length),p l[(l.takeWhile p).length]=false
 | [],a=>by simp at a
 | x::r,a=>by
   by_cases b:p x=true
   ·have:=xX p r (by rw[List.takeWhile_cons,if_pos b]at a;simpa using a);simp only[List.takeWhile_cons,b,if_true,lw,List.getElem_cons_succ];exact this
   ·simp only[List.takeWhile_cons,b,if_false,lB,Ld]
    simpa using b
theorem MV(xs:List ai)(v:ai)(i:Nat)(a:i<dE xs v)(b:i<xs.length):cz xs[i] v:=by
 have:=xY _ xs i a b
 simpa[jG]using this
theorem BS(xs:List ai)(v:ai)(c:dE xs v<xs.length):¬ cz xs[dE xs v] v:=by
 intro b;rw[<-jG]at b;have a:decide (dA xs[dE xs v] v<0)=false:=xX _ xs c;simp only[decide_eq_false_iff_not]at a;exact a b
theorem CM(xs:List ai)(v:ai):jm xs v=true<->∃a:dE xs v<xs.length,xs[dE xs v]=v:=by
 unfold jm
 rcases L8 (dE xs v) xs.length with a|a
 ·rw[lu a];simp only[beq_iff_eq,PK];exact⟨λe=>⟨a,e⟩,λ⟨_,e⟩=>e⟩
 ·rw[LL a];simp only[lY,false_iff];rintro⟨b,_⟩;omega
section
variable {xs:List ai} {v:ai} (hs:xs.Pairwise cz)
include hs
theorem Ep(i:Nat)(hi:i<xs.length):xs[i]=v<->jm xs v=true/\i=dE xs v:=by
 constructor
 ·intro e;have f:dE xs v<=i:=by
   rcases L8 i (dE xs v) with a|a
   ·have:=MV xs v i a hi;rw[e]at this;exact absurd this (cz.irrefl v)
   ·exact a
  have b:dE xs v<xs.length:=oM;have c:i=dE xs v:=by
   rcases L8 (dE xs v) i with a|a
   ·have d:=List.pairwise_iff_getElem.1 hs _ i b hi a;rw[e]at d;exact absurd d (BS xs v b)
   ·omega
  exact⟨(CM xs v).2 ⟨b,by subst c;exact e⟩,c⟩
 ·rintro⟨a,rfl⟩;exact((CM xs v).1 a).2
end
attribute [local go_sem high] kE kD kF
theorem eE(n a:Nat)(j:n<18446744073709551616)(x:a<=8)(w:World) :
 Rb 15 #[.int .u64 n,.int .i64 a] w (le n a):=by
 go_enter func15,ntmps15;go_wp2;go_loopw [6,0,5] (λvi vn vb wr=>∃(k m:Nat) (b:Value),k<=a/\m<18446744073709551616/\vi=.int .i64 k/\b=vb/\Hid (aE wr w.heap.size b (le n k))/\vn=.int .u64 m/\Hid (m=n/256^k)/\Hid (aa w wr)/\w.heap.size<=wr.heap.size) (λvi _ _ _=>a-(intOf vi).toNat)
 case atStart=>exact⟨0,n,_,oM,j,rfl,rfl,ah.nil_ _ _ _ _ _,rfl,(by show _=_;simp),kP,lc _⟩
 case round =>
  obtain⟨k,m,b,u,y,rfl,rfl,e,rfl,f,d,v⟩:=hrel
  by_cases t:k<a
  ·have l:IntKind.u8.wrap ((m:Int)%256)=(m:Int)%256:=(by simp[IntKind.wrap,IntKind.signed,IntKind.bits]);go_wp2_with (at_builtin;refine ae ?_);refine ar ?_;have c:aE (wr.alloc (.cells #[.int .u8 ((m:Int)%256)] 5)) w.heap.size b (le n k):=e.o.keep (aa.alloc (aa.refl _) _);refine aD bQ aO bT rfl (.tmp 12) (.tmp 16) rfl (ys:=[UInt8.ofNat m]) c rfl rfl (br _ oM oM (ed _ (by rw[dH];simp[go_sem]))) (by simp[ay];omega) sO ?_;intro r s h g _;have ⟨a1,a2,a3⟩:=c.after g (d.o.trans kP) (lc _);have q:=lh h;have p:=lh a1;clear h g c a3 l;have o:m/256<18446744073709551616:=oM;go_wp2;go_roundw
   case rel=>exact⟨k+1,m/256,_,oM,o,by go_num,rfl,(by show aE _ _ _ _;have:=q.o;rw[f.o]at this;exact this),by go_num,(by show _=_;rw[f.o,Nat.div_div_eq_div_mul,Nat.pow_succ]),p.o,by simp at a2;omega⟩
   case measure=>simp[intOf];omega
  ·have i:k=a:=oM;subst i;go_wp2;go_ret;exact⟨_,rfl,e.o,d.o⟩
theorem H6(n:Nat)(t:n<18446744073709551616)(w:World) :
 Rb 54 #[.int .u64 n] w (vu 9 n):=by
 go_enter func54,ntmps54;go_wp2;go_loopw [0,3] (λvn vb wr=>∃(f m:Nat) (c:Value) (p:List UInt8),m<18446744073709551616/\c=vb/\vn=.int .u64 m/\Hid (aE wr w.heap.size c p)/\Hid (p++vu f m=vu 9 n)/\p.length+f=9/\Hid (m<128^(f+1))/\Hid (aa w wr)/\w.heap.size<=wr.heap.size) (λvn _ _=>(intOf vn).toNat)
 case atStart=>exact⟨9,n,_,[],t,rfl,rfl,ah.nil_ _ _ _ _ _,rfl,rfl,(by show _<_;omega),kP,lc _⟩
 case round =>
  obtain⟨f,m,c,p,y,rfl,rfl,k,l,z,q,j,x⟩:=hrel
  by_cases A:128<=(m:Int)
  ·obtain⟨b,rfl⟩:∃b,f=b+1:=⟨f-1,by
    rcases f with _|f
    ·have:=q.o;omega
    ·rfl⟩
   have g:Hid ((p++[UInt8.ofNat (m%128+128)])++vu b (m/128)=vu 9 n):=by
    show _=_;rw[<-l.o,vu,if_pos oM,lr];rfl
   have v:Hid (m/128<128^(b+1)):=by
    show _<_;have:=q.o;rw[Nat.pow_succ]at this;exact Nat.div_lt_of_lt_mul (by rw[Nat.mul_comm];exact this)
   have o:IntKind.u8.wrap ((m:Int)%128+128)=(m:Int)%128+128:=(by simp[IntKind.wrap,IntKind.signed,IntKind.bits];omega);go_wp2_with (at_builtin;refine ae ?_);refine ar ?_;have a:aE (wr.alloc (.cells #[.int .u8 ((m:Int)%128+128)] 5)) w.heap.size c p:=k.o.keep (aa.alloc (aa.refl _) _);refine aD bQ aO bT rfl (.tmp 6) (.tmp 11) rfl (ys:=[UInt8.ofNat (m%128+128)]) a rfl rfl (br _ oM oM (ed _ (by rw[dH,show(((m%128+128:Nat):Int)%256)=(m:Int)%128+128 from oM];simp[go_sem]))) sO sO ?_;intro r s e d _;have ⟨a1,a2,a3⟩:=a.after d (j.o.trans kP) (lc _);have i:=lh e;have h:=lh a1;clear e d a a3 o;have u:m/128<18446744073709551616:=oM;go_wp2;go_roundw
   case rel=>exact⟨b,m/128,_,_,u,rfl,by go_num,i,g,sO,v,h.o,by simp at a2;omega⟩
   case measure=>simp[intOf];omega
  ·have g:Hid (p++[UInt8.ofNat m]=vu 9 n):=by
    show _=_;rw[<-l.o]
    cases f
    ·rfl
    ·rw[vu,if_neg oM]
   have o:IntKind.u8.wrap (m:Int)=(m:Int):=(by simp[IntKind.wrap,IntKind.signed,IntKind.bits];omega);go_wp2_with (at_builtin;refine ae ?_);refine ar ?_;have a:aE (wr.alloc (.cells #[.int .u8 (m:Int)] 5)) w.heap.size c p:=k.o.keep (aa.alloc (aa.refl _) _);refine aD bQ aO bT rfl (.tmp 15) (.tmp 18) rfl (ys:=[UInt8.ofNat m]) a rfl rfl (br _ oM oM (ed _ (by rw[dH,show(m:Int)%256=m from oM];simp[go_sem]))) sO sO ?_;intro r s e d _;have ⟨a1,a2,a3⟩:=a.after d (j.o.trans kP) (lc _);have i:=lh e;have h:=lh a1;clear e d a a3;go_wp2;go_ret;exact⟨_,rfl,(by have:=i.o;rw[g.o]at this;exact this),h.o⟩
theorem D8(a:ByteArray)(w:World)(e:a.size<=140737488355328):∃u W,(convert 9 31 (.string a)).run prog w=.ok u W/\(∃A c,u=.slice A a.data.toList.length c/\cH W A c a.data.toList)/\aa w W:=by
 have b:a.data.toList.length=a.size:=by show a.data.toList.length=a.data.size;simp
 refine⟨_,_,Lib.run_convert_string_bytes w 9 31 5 a underlying9 underlying31 underlying5,⟨some ⟨w.heap.size,0,none⟩,grownCap w a.size 0 5,by rw[b],?_⟩,?_⟩
 ·refine⟨by rw[b];exact grownCap_ge _ _ _ _,?_,by rw[b];omega,λi hi=>⟨w.heap.size,0,rfl,λj u hu=>?_⟩⟩
  ·have:=grownCap_le_maxLen w a.size 0 5 (by unfold maxLen;omega);unfold maxLen at this;omega
  ·match j,hu with
   | 0,hu =>
     cases hu
     have:=Lib.bytesWorld_cell w 5 a i oM;rw[show 0+i*1+0=i from oM,this];have d:a.data.toList.getD i 0=a.data.toList[i]:=(by rw[L9,lu hi];rfl);rw[d]
 ·exact⟨rfl,rfl,rfl,by rw[Lib.bytesWorld_size];omega,λk hk=>Lib.bytesWorld_at_old w _ a k hk⟩
theorem Iu(v:ai)(w:World)(t:(v.s.size:Int)<=1000000000000):Rb 25 #[v.v] w (vB v):=by
 obtain⟨d,b,s0⟩:=v;simp only at t
 cases h1:(d==1)
 ·cases h2:(d==2)
  ·have g:Hid (vB ⟨d,b,s0⟩=[]):=(by show _=_;simp[vB,h1,h2]);go_enter func25,ntmps25;go_wp2;go_ret;exact⟨_,rfl,by rw[g.o];exact ah.nil_ _ _ _ _ _,kP⟩
  ·have g:Hid (vB ⟨d,b,s0⟩=vu 9 s0.size++s0.data.toList):=(by show _=_;simp[vB,h1,h2]);have H:IntKind.u64.wrap (s0.size:Int)=(s0.size:Int):=(by rw[eO];unfold u64;omega);have q:=λp:GB=>D8 s0 ((w.alloc (.cells #[.int .u8 d,.int .i64 b,.string s0] 72)).gro p) oM;have E:=lh q;have L:=qS 9 s0.size;have m:s0.data.toList.length=s0.size:=(by show s0.data.toList.length=s0.data.size;simp);have x:=lh m;clear q m;go_enter func25,ntmps25;go_wp2;refine zN 8 kR ?_;simp only[lX,lR,lZ,L4]
   iterate 4
    refine aR (λK hK=>?_);go_simp
    (refine hK _ _ ?_;clear hK K)
   refine bW 17 (λu i=>aE i (w.heap.size+1) u (vu 9 s0.size)) rfl (λ_ _ _ a h=>ah.keep h a) ?_ ?_
   ·intro p;rw[bZ (by rfl)];simp only[aj];go_simp;go_at_call 54;refine(H6 s0.size oM _).mono ?_;rintro e D ⟨u,rfl,j,a⟩;exact⟨u,rfl,j.base_mono (by simp[az]),a⟩
   refine aR (λK hK=>?_);unfold aw au;rw[bZ (by rfl)];go_simp
   (refine hK _ _ ?_;clear hK K)
   refine aR (λK hK=>?_);unfold aw au;rw[bZ (by rfl)];go_simp
   (refine hK _ _ ?_;clear hK K)
   refine bW 20 (λu i=>∃A c,u=.slice A s0.data.toList.length c/\cH i A c s0.data.toList) rfl (λ_ _ _ a ⟨A,c,h1,h2⟩=>⟨A,c,h1,h2.keep a⟩) ?_ ?_
   ·intro p;rw[bZ (by rfl)];simp only[aj];obtain⟨u,i,P,k,a⟩:=E.o p;have f:=lh k;have y:=lh a;clear k a;go_simp;exact⟨f.o,y.o⟩
   refine bG ?_;intro p;simp only[aj];rintro N ⟨O,G,rfl,n⟩ M l;have z:=lh n;have f:=lh l;clear n l;refine aD bQ aO bT rfl (.tmp 17) (.tmp 20) rfl (ys:=s0.data.toList) f.o rfl rfl z.o (by have:=x.o;omega) (by simp[az]) ?_;intro I J r o _;have ⟨a1,a2,a3⟩:=f.o.after (w:=w) o kP (Nat.le_succ _);have F:=lh r;have B:=lh a1;clear r o a3 a2;go_wp2;go_ret;exact⟨_,rfl,(by have:=F.o;rw[<-g.o]at this;exact ah.base_mono this oM),B.o⟩
 ·have g:Hid (vB ⟨d,b,s0⟩=le (u64 b) 8):=by show _=_;simp[vB,h1]
  have f:=eO b;have C:=gP b;go_enter func25,ntmps25;go_wp2_with (go_at_call 15;refine ae ?_);refine uM (eE (u64 b) 8 C oM _) ?_;rintro e D ⟨u,rfl,j,a⟩;go_wp2;go_ret;exact⟨_,rfl,by rw[g.o];exact j.base_mono sP,aa.trans (aa.alloc (aa.refl _) _) a⟩
theorem zM(a:Int)(A:Option Addr)(c:Nat)(xs:List ai)(w:World)(r:Sl w 3 ai.cells A c xs)(R:0<a)(ac:a<256)(Q:xs.length<=1000000)(o:∀x∈xs,x.s.size<=1000000) :
 Rb 21 #[.int .u8 a,.slice A xs.length c] w (iP a xs):=by
 have H:=lh r;have t:=lh o;have W:IntKind.u64.wrap (xs.length:Int)=(xs.length:Int):=by rw[eO];unfold u64;omega
 clear r o;go_enter func21,ntmps21;go_wp2_with (go_at_call 15;refine ae ?_);refine uM (eE xs.length 4 oM oM _) ?_;rintro e N ⟨u,rfl,b,f⟩;obtain⟨J,E,rfl,d⟩:=b.sl aO (by rw[ay];omega);rw[ay]at b|-;have g:=lh d;have z:=lh f;have n:=lh (show aE N w.heap.size (.slice (some ⟨w.heap.size,0,none⟩) 1 1) [UInt8.ofNat a.toNat]from by
  refine⟨rfl,.inr ⟨w.heap.size,1,#[.int .u8 a],rfl,lc _,(f.block _ sP).trans (heap_alloc_new w _),lc _,by unfold maxLen;omega,rfl,?_⟩⟩;have:a=((UInt8.ofNat a.toNat).toNat:Int):=by rw[dH];omega
  simp only[lN,List.flatMap_nil,b8,<-this];rfl)
 clear b f d;go_wp2_with (at_builtin;refine ae ?_);refine ar ?_;refine aD bQ aO bT rfl (.tmp 8) (.tmp 12) rfl (ys:=le xs.length 4) n.o rfl (by rw[ay];rfl) g.o (by simp[ay]) (by have:=z.o.size;simp at this;omega) ?_;intro U V D C _;have ⟨a1,a2,a3⟩:=n.o.after (w:=w) C (aa.trans kP z.o) (lc _);have G:=lh D;have I:=lh a1;have K:=a1.size;clear D C a1 a2 a3 n g;go_wp2;go_loopw [6,5] (λvi vb wr=>∃(k:Nat) (j:Value),k<=xs.length/\vi=.int .i64 k/\j=vb/\Hid (aE wr w.heap.size j ([UInt8.ofNat a.toNat]++le xs.length 4++(xs.take k).flatMap vB))/\Hid (aa w wr)/\w.heap.size<=wr.heap.size) (λvi _ _=>xs.length-(intOf vi).toNat)
 case atStart=>exact⟨0,_,oM,rfl,rfl,(by show aE _ _ _ _;simp only[lR,List.flatMap_nil,lT];exact G.o),I.o,K⟩
 case round =>
  obtain⟨k,j,f,rfl,rfl,p,h,a0⟩:=hrel
  by_cases m:k<xs.length
  ·obtain⟨Z,a4,rfl,a9,S,a8,Y⟩:=dL (H.o.keep h.o) k m;have a7:=t.o xs[k] (ll m);have X:=qT xs[k];have ab:=wv (xs.take k) 1000000 (λx hx=>t.o x (Lx hx));have P:(xs.take k).length*(1000000+10)<=1000000*1000010:=Ln sO (lc _);have M:=lh (show(xs.take (k+1)).flatMap vB=(xs.take k).flatMap vB++vB xs[k] by rw[ly m,lF];simp);go_wp2_with (go_at_call 25;refine ae ?_);refine uM (Iu xs[k] _ oM) ?_;rintro e T ⟨u,rfl,b,i⟩;obtain⟨J,E,rfl,d⟩:=b.sl aO oM;have g:=lh d;have a6:=i.size;have q:=lh i;clear b i d;go_wp2_with (at_builtin;refine ae ?_);refine ar ?_;have l:=p.o.keep q.o;refine aD bQ aO bT rfl (.tmp 20) (.tmp 25) rfl (ys:=vB xs[k]) l rfl rfl g.o (by simp only[lg,ay,lw,lB];omega) oM ?_;intro v5 a5 y B _;have ⟨a1,a2,a3⟩:=l.after B (h.v q) (lc _);have O:=lh y;have L:=lh a1;clear y B l a3;go_wp2;go_roundw
   case rel=>exact⟨k+1,_,oM,by go_num,rfl,(by show aE _ _ _ _;have:=O.o;rw[lr,<-M.o]at this;exact this),L.o,oM⟩
   case measure=>simp[intOf];omega
  ·have F:k=xs.length:=oM;subst F;go_wp2;go_ret;refine⟨_,rfl,?_,h.o⟩;have:=p.o;rw[lC]at this;exact this
def dY(s:ByteArray):Value:=.agg #[.string s]
def oO(v:Value):Option (DataW Unit×List MemPlace):=match v with
 | .agg cs=>match cs.toList with
   | [.string s]=>some (.lit (.string s.data.toList),[])
   | _=>none
 | _=>none
theorem zO(s:ByteArray):oO (dY s)=some (.lit (.string s.data.toList),[]):=rfl
theorem zP{v:Value}{l:List UInt8}{ps:List MemPlace}(h:oO v=some (.lit (.string l),ps)):v=dY ⟨l.toArray⟩:=by
 unfold oO at h
 split at h
 ·rename_i cs
  split at h
  ·rename_i s hs;simp only[lQ,Prod.mk.injEq,DataW.lit.injEq,Lit.string.injEq]at h;have e:cs=#[.string s]:=(by rw[<-hs]);rw[e,<-h.1];rfl
  ·cases h
 ·cases h
structure dW(W:World)(b n:Nat)(f:ByteArray->Option ByteArray):Prop where
 ex:∃D:DataW Unit,W.ownsMap prog 9 oO b n D/\∀s:ByteArray,s.size<=maxLen->Maps.has D (.string s.data.toList)=(f s).isSome/\∀t,f s=some t->D.atKey (.string s.data.toList) (.lit (.string []))=.lit (.string t.data.toList)
def jV(f:ByteArray->Option ByteArray)(s t:ByteArray):ByteArray->Option ByteArray:=λx=>if x=s then some t else f x
theorem Oy{W W':World}(h:aa W W'):W.grownBy W' none:=⟨h.os,h.tape,h.output,h.size,λk hk _=>h.block k hk⟩
theorem dW.keep{a W':World}{b n:Nat}{f:ByteArray->Option ByteArray}(d:dW a b n f)(g:aa a W'):dW W' b n f:=by
 obtain⟨c,h,e⟩:=d.ex;exact⟨c,h.kept (Oy g) sP,e⟩
theorem dW.lt{a:World}{b n:Nat}{f:ByteArray->Option ByteArray}(c:dW a b n f):b<a.heap.size:=by
 obtain⟨e,d,_⟩:=c.ex;exact d.lt
theorem LO(W:World):dW (W.alloc (.map #[] 0)) W.heap.size 0 λ_=>none :=
 ⟨.map [],World.ownsMap_made W _ _ _,λs _=>⟨rfl,λt h=>by cases h⟩⟩
theorem rb:prog.underlying 9=some .string:=kR
theorem xP:prog.underlying 48=some (.map 9 45):=kR
theorem BY{s x:ByteArray}(h:x≠s):(Lit.string x.data.toList)≠.string s.data.toList:=λe=>h (by
 injection e with e;exact ByteArray.ext (Array.toList_inj.1 e))
theorem mF{d:World}{b n:Nat}{f:ByteArray->Option ByteArray}(k:dW d b n f)(r:n<=1000000)(a t:ByteArray)(p:a.size<=1000000) :
 ∃W',(Instr.mapUpdate 48 (.map (some b)) (.string a) (dY t)).run prog d=.ok () W'/\dW W' b (n+1) (jV f a t)/\ag d W' [b]:=by
 obtain⟨q,g,o⟩:=k.ex;have h:a.size<=maxLen:=by unfold maxLen;omega
 obtain⟨W',j,l,m⟩:=g.store (Maps.string_keyed rb) xP (by unfold maxLen;omega) (Go.WideMaps.keyOf_string_mk rb h) (zO t);have c:=m.grown;refine⟨W',j,⟨_,l,λx hx=>?_⟩,⟨c.os,c.tape,c.output,c.size,λi hi hm=>c.block i hi (λe=>hm (by simpa using e))⟩⟩
 by_cases e:x=a
 ·subst e;rw[Maps.has_put_same g.isMap (show WideAt.IsKeyLit (.string x.data.toList) from trivial),Maps.atKey_put_same g.isMap (show WideAt.IsKeyLit (.string x.data.toList) from trivial)];unfold jV;rw[if_pos rfl];exact⟨rfl,λt' ht'=>by cases ht';rfl⟩
 ·rw[Maps.has_put_other (BY e),Maps.atKey_put_other (BY e)];unfold jV;rw[if_neg e];exact o x hx
theorem LP{e:World}{b n:Nat}{f:ByteArray->Option ByteArray}(d:dW e b n f)(a:ByteArray)(r:a.size<=1000000) :
 ∃v:ByteArray,(Instr.lookup 48 (.map (some b)) (.string a) true).run prog e=.ok (.tuple #[dY v,.bool (f a).isSome]) e/\∀t,f a=some t->v=t:=by
 obtain⟨k,q,m⟩:=d.ex;have i:a.size<=maxLen:=by unfold maxLen;omega
 obtain⟨h,l⟩:=m a i;have o:(zeroValue 45).run prog e=.ok (dY ⟨#[]⟩) e:=kR;obtain⟨v,ps,c,j⟩:=q.look_ok (Maps.string_keyed rb) xP o (zO ⟨#[]⟩) (Go.WideMaps.keyOf_string_mk rb i);rw[h]at c
 cases hf:f a with
 | none =>
   have p:k.atKey (.string a.data.toList) (.lit (.string []))=.lit (.string []):=by
    rw[hf]at h;exact Maps.atKey_of_not_has h _
   have g:oO v=some (.lit (.string []),ps):=p▸j;have:=zP g;subst this;rw[hf]at c;exact⟨_,c,λt d=>by cases d⟩
 | some t =>
   have g:oO v=some (.lit (.string t.data.toList),ps):=(l t hf)▸j;have:=zP g;subst this;rw[hf]at c;exact⟨_,c,λt' d=>by cases d;rfl⟩
end Go.Proofs.YtpkocnpamcchcaaGreatDoor
