/- Parts. -/
import Derived.Lib.BitFns
import Derived.Laws.BitsAllLaws
import Derived.Laws.CopyRow
import Derived.Test.YtpkocnpamcchcaaGreatDoorL03
import Derived.Test.YtpkocnpamcchcaaGreatDoorL08
import Derived.Test.YtpkocnpamcchcaaGreatDoorL09
set_option maxRecDepth 100000
set_option maxHeartbeats 40000000
set_option linter.all false
namespace Go.Proofs.YtpkocnpamcchcaaGreatDoor
open Go.RowKit Go.Zone Go.Shelf Tryz Go.Roa Go.Sym
theorem bitLen_le:∀(w n:Nat),n<2^64->(Lib.bitLen n<=w<->n<2^w)
 | 0,n,_=>by
   rcases Nat.eq_zero_or_pos n with h|h
   ·subst h;simp;decide
   ·rw[Lib.bitLen_half n oM (by assumption)];simp;omega
 | w+1,n,hn=>by
   rcases Nat.eq_zero_or_pos n with h|h
   ·subst h;exact⟨λ_=>Nat.two_pow_pos _,λ_=>by rw[show Lib.bitLen 0=0 from dC];exact lj _⟩
   ·rw[Lib.bitLen_half n oM hn,Nat.pow_succ];have:=bitLen_le w (n/2) oM;omega
theorem M7(n:Nat)(a:n<2^64)(w:World):Calls prog 163 #[.int .u64 (n:Int)] w λe w'=>e=.returned (.int .i64 (Lib.bitLen n:Nat))/\w'=w:=by
 have:=Any.bits_Len64 Tryz.lenL (n:Int) w oM oM;rw[Lz]at this;exact this
theorem vP(n:Nat)(a:n<2^64)(w:World):Rt 163 #[.int .u64 (n:Int)] w (.int .i64 (Lib.bitLen n:Nat)) :=
 (M7 n a w).mono λ_ _ ⟨h1,h2⟩=>⟨h1,h2▸aa.refl _⟩
def jN(n:Nat):Nat:=max 1 (Lib.bitLen n)
theorem E9(n:Nat)(b:n<2^64)(w:World):Rt 160 #[.int .u64 (n:Int)] w (.int .i64 (jN n:Nat)):=by
 have a:=lh (vP n b);go_enter func160,ntmps160;go_wp2_with (go_at_call 163;refine uC (a.o _) λp=>?_);go_ret;exact⟨dc (by unfold jN;omega),kP⟩
theorem Dn(n a:Nat)(b:n<=1099511627776)(g:1<=a)(d:a<=64)(w:World):Rt 161 #[.int .i64 n,.int .i64 a] w (.bool true):=by
 have c:decide ((0:Int)<=(n:Int))=true:=sP;have e:decide ((n:Int)<=1099511627776)=true:=sO;have f:decide ((1:Int)<=(a:Int))=true:=sO;have h:decide ((a:Int)<=64)=true:=sO;go_enter func161,ntmps161;go_wp2
 all_goals go_ret
 all_goals exact⟨by simp_all,kP⟩
theorem H5(n a:Nat)(d:n<=1099511627776)(j:1<=a)(c:a<=64)(w:World):Rt 162 #[.int .i64 n,.int .i64 a] w (.int .i64 ((n*a+7)/8:Nat)):=by
 have k:=lh (Dn n a d j c);have g:n*a<=n*64:=Nat.mul_le_mul_left _ c;have h:n*a<=70368744177664:=oM;have b:=lh (show((n*a+7)/8:Nat)=((n:Int)*(a:Int)+7)/8 by
  rw[<-Int.natCast_mul];omega)
 have f:0<=(n:Int)*(a:Int)/\(n:Int)*(a:Int)<=70368744177664:=by rw[<-Int.natCast_mul];omega
 obtain⟨i,e⟩:=f;generalize l:(n:Int)*(a:Int)=x at i e b;clear g h;have m:IntKind.i64.wrap x=x:=by rw[IntKind.wrap_i64];omega
 go_enter func162,ntmps162;go_wp2_with (go_at_call 161;refine uC (k.o _) λp=>?_)
 all_goals go_ret
 all_goals exact⟨dc (by rw[b.o]),kP⟩
def fr(x:Nat):List Value:=[.int .u64 (x:Int)]
theorem yH{w:World}{c:Nat}{A:Option Addr}{xs:List Nat}(e:Sl w 1 fr A c xs)(i:Nat)(hi:i<xs.length):∃b a,A=some ⟨b,a,none⟩/\b<w.heap.size/\w.cell? ⟨b,a+i,none⟩=some (.int .u64 (xs[i]:Int)):=by
 obtain⟨b,a,f,g⟩:=e.at_ i hi;have d:=g 0 _ rfl;rw[Lb,lE]at d;exact⟨b,a,f,World.block_lt_of_cell? w _ d,d⟩
theorem nT(x:UInt8):b8 x=[.int .u8 (x.toNat:Int)]:=rfl
theorem FX(n:Nat)(h:n<256):((UInt8.ofNat n).toNat:Int)=(n:Int):=by rw[dH];omega
theorem JP(x m t:Nat)(y:UInt8)(i:x<2^64)(k:t<8):bits .or .u8 (y.toNat:Int) (bits .and .u64 ((x:Int)/2^m) 1%256*2^t%256)=((UInt8.ofNat (y.toNat ||| (x/2^m%2*2^t))).toNat:Int):=by
 have f:(x:Int)/2^m=((x/2^m:Nat):Int):=sP;have h:x/2^m<2^64:=Nat.lt_of_le_of_lt (Nat.div_le_self _ _) i;have c:=u64_and_nat (x/2^m) 1 h dC;rw[Nat.and_one_is_mod]at c;rw[f,show(1:Int)=((1:Nat):Int) from rfl,c];generalize j:x/2^m%2=b;have d:b<=1:=oM;have l:2^t<=2^7:=Nat.pow_le_pow_right dC oM;have g:(b:Int)%256*2^t%256=((b*2^t:Nat):Int):=by
  have:b*2^t<=1*2^t:=L7 _ d;have e:(b:Int)%256=(b:Int):=oM;rw[e,show(2:Int)^t=((2^t:Nat):Int) from sP,<-Int.natCast_mul];omega
 have a:b*2^t<256:=by
  have:b*2^t<=1*2^t:=L7 _ d;omega
 rw[g,u8_or_nat _ _ y.toNat_lt a,FX];exact Nat.or_lt_two_pow (n:=8) y.toNat_lt a
theorem J0(A:Option Addr)(c a:Nat)(l:List Nat)(w:World)(a7:Sl w 1 fr A c l)(N:1<=a)(q:a<=64)(aq:l.length<=1000000000)(D:∀x∈l,x<2^a) :
 Calls prog 124 #[.slice A l.length c,.int .i64 a] w λe w'=>∃v,e=.returned (.tuple #[v,.int .i64 0])/\aE w' w.heap.size v (fl l a)/\aa w w':=by
 have aB:=lh (Dn l.length a oM N q);have ad:=lh (H5 l.length a oM N q);have G:=lh D;have U:2^a<=2^64:=Nat.pow_le_pow_right dC q;have au:=lh U;have Z:=lh a7;have ae:l.length*a<=1000000000*64:=Ln aq q;have R:=lh ae;clear a7 D U ae;generalize Y:(l.length*a+7)/8=n at ad;have r:=lh Y;clear Y;go_enter func124,ntmps124;go_wp2_with (first|(go_at_call 161;refine uC (aB.o _) λp=>?_)|(go_at_call 162;refine uC (ad.o _) λp=>?_));rename GB=>p;have s:aa w (w.gro p):=ce _ _;generalize w.gro p=L at s|-;obtain⟨i0,a0,a2,i2,i3⟩:=info_parts pd;obtain⟨W',a6,a9,M⟩:=oR (P:=prog) (z:=(0:UInt8)) nT rfl underlying31 a0 a2 i2 n w.heap.size L (by have:=r.o;have:=R.o;rw[i3];omega) (by have:=r.o;have:=R.o;omega) s.size;rw[a6];have d:=lh a9;have h:=lh (s.trans M);clear a9 M a6 i0 a0 a2 i2 i3 s;generalize L.heap.size=g at d|-;clear L;have a5:List.replicate n (0:UInt8)=le (fz a l%2^(0*a)) n:=by
  rw[Lf,Nat.pow_zero,Nat.mod_one];apply List.ext_getElem
  ·simp[ay]
  ·intro j N q;rw[nJ];simp
 rw[a5]at d;clear a5;go_wp2;go_loopw [23] (λi wr=>∃k:Nat,k<=l.length/\i=.int .i64 k/\Hid (aE wr w.heap.size (.slice (some ⟨g,0,none⟩) n n) (le (fz a l%2^(k*a)) n))/\Hid (aa w wr)) (λi _=>l.length-(intOf i).toNat)
 case atStart=>exact⟨0,lj _,rfl,d.o,h.o⟩
 case round =>
  clear d h;obtain⟨k,M,rfl,d,h⟩:=hrel
  by_cases E:k<l.length
  ·obtain⟨b,aK,ak,D,aj⟩:=yH (Z.o.keep h.o) k E;have H:=G.o l[k] (ll E);have C:l[k]<18446744073709551616:=lp H au.o;have aC:(Lib.bitLen l[k]:Int)<=a:=(by have:=(bitLen_le a l[k] C).2 H;omega);have ah:=lh (λW=>vP l[k] C W);subst ak;go_wp2_with (go_at_call 163;refine uC (ah.o _) λp=>?_);have O:=lh (show aa w (wr.gro p) from h.o.trans (ce _ _));have B:=lh (d.o.keep (ce wr p));generalize wr.gro p=aI at O B|-;clear d h Z ah aj D aC;have X:=lh (By l k · E G.o ·);have S:k*a+a<=l.length*a:=(by rw[<-Nat.succ_mul];exact L7 _ E);obtain⟨Q,F⟩:∃Q,Q=k*a:=⟨_,rfl⟩;have a8:=lh F;have aF:(k:Int)*(a:Int)=(Q:Int):=(by rw[F,Int.natCast_mul]);rw[<-F]at B S;have af:=lh S;clear F S;generalize l[k]=x at H C X;go_loopw [33] (λi wr=>∃m:Nat,m<=a/\i=.int .i64 m/\Hid (aE wr w.heap.size (.slice (some ⟨g,0,none⟩) n n) (le (fz a l%2^(Q+m)) n))/\Hid (aa w wr)) (λi _=>a-(intOf i).toNat)
   case atStart=>exact⟨0,lj _,rfl,B.o,O.o⟩
   case round =>
    clear B O;obtain⟨m,aM,rfl,d,h⟩:=hrel
    by_cases al:m<a
    ·obtain⟨f,o⟩:∃f,f=Q+m:=⟨_,rfl⟩;have aJ:(Q:Int)+(m:Int)=(f:Int):=oM;obtain⟨j,T⟩:∃j,j=f/8:=⟨_,rfl⟩;obtain⟨t,a1⟩:∃t,t=f%8:=⟨_,rfl⟩;have aH:(f:Int)/8=(j:Int):=oM;have aL:(f:Int)%8=(t:Int):=oM;have I:j<n:=(by have:=r.o;have:=af.o;omega);have aG:f<=100000000000:=(by have:=R.o;have:=af.o;omega);rw[<-o]at d;have ac:=lh o;have ab:=lh T;have ai:=lh a1;have av:t<8:=oM;obtain⟨V,aA,az,a4⟩:=d.o.cell1 nT (by rw[ay]) j (by rw[ay];exact I);obtain⟨y,J⟩:∃y,y=(le (fz a l%2^f) n)[j]'(by rw[ay];exact I):=⟨_,rfl⟩;rw[<-J]at V;have ax:=lh J;clear J;clear o T a1;go_wp2;go_region;have a3:(le (fz a l%2^f) n).set j (UInt8.ofNat (y.toNat ||| (x/2^m%2*2^t)))=le (fz a l%2^(f+1)) n:=by
      rw[B9 _ _ _ (show f/8<n by rw[<-ab.o];exact I),<-ab.o,<-ai.o]
      congr 2
      have ag:=X.o m al;rw[<-a8.o,<-ac.o]at ag;rw[ag]
      congr 1
      rw[ax.o,nJ];simp
     have K:=d.o.set1 nT (by rw[ay]) j (UInt8.ofNat (y.toNat ||| (x/2^m%2*2^t))) (u:=.int .u8 (bits .or .u8 (y.toNat:Int) (bits .and .u64 ((x:Int)/2^m) 1%256*2^t%256))) (by rw[JP x m t y C av]);rw[a3]at K;have ao:=lh K;have aD:=lh a4;clear K a3 V aA az a4;go_wp2;go_roundw
     case rel=>exact⟨m+1,oM,by go_num,(by have:=ao.o;rw[ac.o]at this;exact this),(h.o.setCell aD.o _).drew⟩
     case measure=>simp[intOf];omega
    ·have ar:m=a:=oM;subst ar;go_wp2;go_roundw
     case rel=>exact⟨k+1,oM,by go_num,(by have:=d.o;rw[a8.o,<-Nat.succ_mul]at this;exact this),h.o⟩
     case measure=>simp[intOf];omega
  ·have ap:k=l.length:=oM;subst ap;have aw:=r.o;have o:fz a l%2^(l.length*a)=fz a l:=Nat.mod_eq_of_lt (vt l G.o);rw[o]at d;clear o aw;go_wp2;exact bodyPost_ret (v:=.tuple #[.slice (some ⟨g,0,none⟩) n n,.int .i64 0]) (by simp[results,results124,go_sem]) rfl ⟨_,rfl,(by have:=d.o;rw[<-r.o]at this|-;exact this),h.o⟩
structure Rw where
 A:Option Addr
 c:Nat
 vs:List ai
def Rw.cells(r:Rw):List Value:=[.slice r.A r.vs.length r.c]
theorem gW(r:Rw):r.cells=[.slice r.A r.vs.length r.c]:=rfl
def dG(w:World)(l:List Rw):Prop:=∀r∈l,Sl w 3 ai.cells r.A r.c r.vs
theorem dG.keep{w a:World}{l:List Rw}(b:dG w l)(c:aa w a):dG a l:=λr hr=>(b r hr).keep c
theorem jv{w:World}{c:Nat}{A:Option Addr}{xs:List Rw}(e:Sl w 1 Rw.cells A c xs)(i:Nat)(hi:i<xs.length):∃b a,A=some ⟨b,a,none⟩/\b<w.heap.size/\w.cell? ⟨b,a+i,none⟩=some (.slice xs[i].A xs[i].vs.length xs[i].c):=by
 obtain⟨b,a,f,g⟩:=e.at_ i hi;have d:=g 0 _ rfl;rw[Lb,lE]at d;exact⟨b,a,f,World.block_lt_of_cell? w _ d,d⟩
theorem getD_lt{a:Type}(l:List a)(i:Nat)(d:a)(b:i<l.length):l.getD i d=l[i]:=by simp[b]
def dp(c:aG):Int:=if c.kind=2 then 2 else 1
def eS(cs:List aG)(r:List ai):Bool:=(r.length != cs.length)||r.any cZ
def ir(cs:List aG)(r:List ai)(k:Nat):Bool:=(List.range k).any λi=>(r.getD i default).k != dp (cs.getD i default)
def j0(cs:List aG)(r:List ai):Bool:=ir cs r r.length
noncomputable def da(cs:List aG)(rows:List (List ai)):Int:=if pB (iT cs)=false then 2 else if rows.any (eS cs) then 2 else if 16777216<rows.length then 3 else if rows.any (j0 cs) then 9 else 0
theorem Gp(c:aG)(w:World):Rt 103 #[c.v] w (.int .u8 (dp c)):=by
 obtain⟨k,n⟩:=c;simp only[aG.v,dp];go_enter func103,ntmps103;go_wp2
 all_goals go_ret
 all_goals exact⟨by simp_all,kP⟩
theorem Bt(cs:List aG)(r:List ai)(k:Nat):ir cs r (k+1)=(ir cs r k||((r.getD k default).k != dp (cs.getD k default))):=by
 simp[ir,List.range_succ]
theorem any_take_succ{a:Type}(p:a->Bool)(l:List a)(k:Nat)(b:k<l.length):(l.take (k+1)).any p=((l.take k).any p||p l[k]):=by
 rw[ly b,List.any_append,List.any_cons,List.any_nil,Bool.or_false]
theorem uh(A B:Option Addr)(n m:Nat)(cs:List aG)(rows:List Rw)(w:World)(c:Sl w 2 aG.cells A n cs)(a5:∀x∈cs,x.name.size<=140737488355328)(E:Sl w 1 Rw.cells B m rows)(L:dG w rows) :
 Rt 59 #[.slice A cs.length n,.slice B rows.length m] w (.int .i64 (da cs (rows.map (·.vs)))):=by
 have C:=lh (yF A n cs w c a5);have ak:=cE c;have aq:=cE E
 cases hq:pB (iT cs)
 ·have d:=lh (show da cs (rows.map (·.vs))=2 by unfold da;rw[if_pos hq]);rw[hq]at C;clear c E L hq;go_enter func59,ntmps59;go_wp2_with (go_at_call 99;refine uC (C.o) λp=>?_);go_ret;exact⟨dc d.o.symm,kP⟩
 ·have d:=lh (show da cs (rows.map (·.vs))=if rows.any (λr=>eS cs r.vs) then 2 else if 16777216<rows.length then 3 else if rows.any (λr=>j0 cs r.vs) then 9 else 0 by
   unfold da;rw[if_neg (by rw[hq];decide),List.any_map,List.any_map,ld];rfl)
  rw[hq]at C;have ab:=lh c;have a0:=lh E;have a6:=lh L;clear c E L hq;go_enter func59,ntmps59;go_wp2_with (go_at_call 99;refine uC (C.o) λp=>?_);go_loopw [5,15] (λo i wr=>∃(k:Nat) (l:Bool),k<=rows.length/\i=.int .i64 k/\o=.bool l/\Hid (l=(rows.take k).any (λr=>j0 cs r.vs))/\Hid ((rows.take k).any (λr=>eS cs r.vs)=false)/\Hid (aa w wr)) (λ_ i _=>rows.length-(intOf i).toNat)
  case atStart=>exact⟨0,false,lj _,rfl,rfl,(by show _=_;simp),(by show _=_;simp),kP⟩
  case round =>
   obtain⟨k,l,ao,rfl,rfl,F,t,g⟩:=hrel
   by_cases s:k<rows.length
   ·obtain⟨b,ah,a2,ag,Q⟩:=jv (a0.o.keep g.o) k s;have I:=lh (a6.o rows[k] (ll s));have H:=lh (any_take_succ (λr:Rw=>j0 cs r.vs) rows k s);have K:=lh (any_take_succ (λr:Rw=>eS cs r.vs) rows k s);have y:=lh (show eS cs rows[k].vs=true->rows.any (λr=>eS cs r.vs)=true from λc=>List.any_eq_true.2 ⟨rows[k],ll s,c⟩);subst a2;generalize rows[k]=r at Q I H K y;obtain⟨au,av,a⟩:=r;simp only at Q I H K y
    by_cases D:a.length=cs.length
    ·have M:((a.length:Int) != (cs.length:Int))=false:=(by simp[D]);have O:=lh D;clear D;go_wp2;go_loopw [5,26] (λo i wr=>∃(j:Nat) (q:Bool),j<=a.length/\i=.int .i64 j/\o=.bool q/\Hid (q=(l||ir cs a j))/\Hid ((a.take j).any cZ=false)/\Hid (aa w wr)) (λ_ i _=>a.length-(intOf i).toNat)
     case atStart=>exact⟨0,l,lj _,rfl,rfl,(by show _=_;simp[ir]),(by show _=_;simp),g.o⟩
     case round =>
         rename Bool=>ob1;obtain⟨j,q,ac,rfl,rfl,G,z,h⟩:=hrel
         by_cases e:j<a.length
         ·obtain⟨af,al,a9,ar,P,Z,X⟩:=dL (I.o.keep h.o) j e;obtain⟨ad,ap,a7,aj,R,d1⟩:=il (ab.o.keep h.o) j (by rw[<-O.o];exact e);have a1:j<cs.length:=(by rw[<-O.o];exact e);have N:=lh (any_take_succ cZ a j e);have S:=lh (show cZ a[j]=true->a.any cZ=true from λc=>List.any_eq_true.2 ⟨a[j],ll e,c⟩);have f:=lh (show ir cs a (j+1)=(ir cs a j||(a[j].k != dp cs[j])) by
           rw[Bt,getD_lt _ _ _ e,getD_lt _ _ _ a1])
          subst a9;subst a7;generalize a[j]=x at P Z X N S f;generalize cs[j]=a4 at R d1 f;obtain⟨T,U,xs⟩:=x;obtain⟨V,Y⟩:=a4;simp only at P Z X R d1 f;have u:=lh (BM ⟨T,U,xs⟩);have W:=lh (Gp ⟨V,Y⟩)
          cases hmv:jB ⟨T,U,xs⟩
          ·rw[hmv]at u;have v:=lh hmv;clear hmv;go_wp2_with (go_at_call 102;refine uC (u.o _) λp=>?_);go_ret;exact⟨dc (by rw[d.o,if_pos (y.o (by simp[eS,S.o (by simp[cZ,v.o])]))]),h.o.trans kP⟩
          ·rw[hmv]at u;have v:=lh hmv;clear hmv;generalize dp ⟨V,Y⟩=ae at W f
           cases q
           ·go_upto_region 14 with(go_at_call 102;refine uC (u.o _) λp=>?_);go_region_with (go_at_call 103;refine uC (W.o _) λp=>?_)
            all_goals
             go_wp2;go_roundw
             case rel=>exact⟨j+1,_,oM,by go_num,rfl,(by show _=_;rw[f.o,<-Bool.or_assoc,<-G.o];simp),(by show _=_;rw[N.o,z.o];simp[cZ,v.o]),h.o.trans kP⟩
             case measure=>simp[intOf];omega
           ·go_upto_region 14 with(go_at_call 102;refine uC (u.o _) λp=>?_);go_region
            all_goals
             go_wp2;go_roundw
             case rel=>exact⟨j+1,_,oM,by go_num,rfl,(by show _=_;rw[f.o,<-Bool.or_assoc,<-G.o];simp),(by show _=_;rw[N.o,z.o];simp[cZ,v.o]),h.o.trans kP⟩
             case measure=>simp[intOf];omega
         ·have a8:j=a.length:=oM;subst a8;rw[lC]at z;go_wp2;go_roundw
          case rel=>exact⟨k+1,q,oM,by go_num,rfl,(by show _=_;rw[H.o,G.o,F.o];rfl),(by show _=_;rw[K.o,t.o];simp[eS,z.o,O.o]),h.o⟩
          case measure=>simp[intOf];omega
    ·have M:((a.length:Int) != (cs.length:Int))=true:=sO;go_wp2;go_ret;exact⟨dc (by rw[d.o,if_pos (y.o (by simp[eS,D]))]),g.o⟩
   ·have a3:k=rows.length:=oM;subst a3;rw[lC]at F t
    by_cases J:16777216<rows.length
    ·have M:decide ((16777216:Int)<(rows.length:Int))=true:=sO;have ai:(16777216:Int)<(rows.length:Int):=oM;go_wp2;go_ret;exact⟨dc (by rw[d.o,t.o,if_neg dC,if_pos J]),g.o⟩
    ·have M:decide ((16777216:Int)<(rows.length:Int))=false:=sO
     cases l
     ·go_wp2;go_ret;exact⟨dc (by rw[d.o,t.o,if_neg dC,if_neg J,<-F.o,if_neg dC]),g.o⟩
     ·go_wp2;go_ret;exact⟨dc (by rw[d.o,t.o,if_neg dC,if_neg J,<-F.o,if_pos rfl]),g.o⟩
end Go.Proofs.YtpkocnpamcchcaaGreatDoor
namespace Go.Zone
open Go.RowKit
theorem IB{P:Program}(w:World)(h z ty f:TypeId)(k g b e o:Nat)(a:Addr)(d p:Nat)(c:Array Value)(t:TypeId)(cs:List Value)
 (u:P.underlying h=some (.slice f)) (l:(P.info? f).map (·.size)=some k)
 (y:w.heap[g]? =some (.cells c t (0,0))) (s:cs.length=Nat.min d e*k)
 (q:∀j v,cs[j]? =some v->w.cell? (a.add j)=some v) (n:b+cs.length<=c.size) (r:∀v∈cs,v.oneCell'=true) :
 (Builtin.copy_ #[h,z] ty #[.slice (some ⟨g,b,none⟩) e o,.slice (some a) d p]).run P w =
   .ok (goInt (Nat.min d e)) (w.setRow g (c.toList.take b++cs++c.toList.drop (b+cs.length)).toArray):=by
 have m:=run_loadCells_list (P:=P) w a cs q;have x:=run_storeCells_at P g b t cs 0 c w y (by simpa using n) r
 cases hq:P.info? f with
 | none=>simp[hq]at l
 | some i =>
   have hi:i.size=k:=(by simpa[hq]using l);simp[Builtin.copy_,run_underlying u,Builtin.lenOf,Builtin.firstCells,sizeOf,typeInfo,hq,hi,<-s,m,x]
theorem yl{q:Type}{P:Program}{ops:Array Oper}{c:Oper}{a:Act}{w:World}{K:Act->World->Prop}{Q:Exit->Act->World->Prop}{N:Prop}(M:c.guard=none)(d E:Operand)(l B o:TypeId)
 (S:c.op=.call { callee:=.builtin .copy,args:=#[d,E],argTypes:=#[l,B] }) {k:Nat} (hu:P.underlying l=some (.slice o)) (hs:(P.info? o).map (·.size)=some k)
 {enc:q->List Value} (hk:∀x,(enc x).length=k) (h1:∀x,∀u∈enc x,u.oneCell'=true) {g dCap sCap n:Nat} {A:Option Addr} {xs:List q} {t:TypeId} {cur:List Value} (hd:a.eval d=.slice (some ⟨g,0,none⟩) n dCap) (hsv:a.eval E=.slice A n sCap) (hn:n=xs.length)
 (hx:Sl w k enc A sCap xs) (hg:ak w g t cur) (hc:cur.length=n*k)
 (h:∀w',ak w' g t (xs.flatMap enc)->ag w w' [g]->K (a.put c.dst (goInt n)) w'):if Region.wanted c (yielded ops a.tmps)=true then Oper.wp P c a w K Q else N:=by
 have I:Region.wanted c (yielded ops a.tmps)=true:=by simp[Region.wanted,M]
 rw[if_pos I];have p:=eL hk xs;have C:Nat.min n n=n:=Nat.min_self n;have T:(Builtin.copy_ #[l,B] c.type #[.slice (some ⟨g,0,none⟩) n dCap,.slice A n sCap]).run P w=.ok (goInt n) (w.setRow g (xs.flatMap enc).toArray):=by
  rcases A with _|R
  ·have z:xs=[]:=by
    rcases xs with _ | ⟨y,r⟩
    ·rfl
    ·obtain⟨_,_,f,_⟩:=hx.at_ 0 sP
     cases f
   subst z;simp only[lB]at hn;subst hn;have O:cur=[]:=Ly oM;subst O;rw[show((([]:List q).flatMap enc).toArray)=([]:List Value).toArray from rfl,setRow_self w g _ t (0,0) hg]
   cases hq:P.info? o with
   | none=>simp[hq]at hs
   | some i=>simp[Builtin.copy_,run_underlying hu,Builtin.lenOf,Builtin.firstCells,sizeOf,typeInfo,hq,storeCells]
  ·have:=IB (P:=P) w l B c.type o k g 0 n dCap R n sCap cur.toArray t (xs.flatMap enc) hu hs hg (by rw[C,p,hn]) (λj v hj=>by
    have H:j<xs.length*k:=(by rw[<-p];exact(Lw.1 hj).1);have D:0<k:=Nat.pos_of_ne_zero λe=>(by subst e;simp at H);have hi:j/k<xs.length:=(by rw[Nat.div_lt_iff_lt_mul D];exact H);obtain⟨b,U,f,J⟩:=hx.at_ (j/k) hi;have G:j/k*k+j%k=j:=(by rw[Nat.mul_comm];exact Nat.div_add_mod j k);have F:j%k<(enc xs[j/k]).length:=(by rw[hk];exact Nat.mod_lt _ D);have m:=flat_get hk xs (j/k) (j%k) hi _ (lu F);rw[G,hj]at m;injection m with m;have s:=J (j%k) _ (lu F);injection f with f;subst f;rw[Nat.add_assoc,G,<-m]at s;unfold Addr.add
    split
    ·rename_i z;subst z;exact s
    ·exact s) (by rw[lS,p,List.size_toArray,hc,hn];exact lc _) (λv hv=>by
    obtain⟨x,_,L⟩:=List.mem_flatMap.1 hv;exact h1 x v L)
   rw[this]
   congr 2
   ·rw[C]
   ·have:cur.drop (xs.flatMap enc).length=[]:=List.drop_eq_nil_of_le (by rw[p,hc,hn];exact lc _);rw[lR,lO,lS,show cur.toArray.toList=cur from rfl,this,lT]
 unfold Oper.wp execOp;simp only[S,resolve,invoke,builtin,Sem.run_bind,Sem.run_pure,Result.andThen_ok,List.map_toArray,lG,L3,hd,hsv,T];exact h _ (setRow_heap w g _ _ _ _ hg) ⟨rfl,rfl,rfl,by simp[World.setRow],λi _ hi=>Go.setRow_other w g i _ (λe=>hi (by simp[e]))⟩
theorem ak.setRow{w:World}{g:Nat}{a:TypeId}{c us:List Value}(b:ak w g a c):ak (w.setRow g us.toArray) g a us:=setRow_heap w g _ _ _ _ b
theorem ak.setRow_other{w:World}{g b:Nat}{a:TypeId}{c:List Value}(d:ak w g a c)(us:Array Value)(f:b≠g):ak (w.setRow b us) g a c:=(Go.setRow_other w b g us (λe=>f e.symm)).trans d
theorem aa.setRow{b w:World}{g:Nat}(a:aa b w)(c:b.heap.size<=g)(cs:Array Value):aa b (w.setRow g cs) :=
 ⟨a.os,a.tape,a.output,lk a.size (by simp[World.setRow]),λk hk=>(setRow_other w g k cs oM).trans (a.block k hk)⟩
end Go.Zone
namespace Go.Proofs.YtpkocnpamcchcaaGreatDoor
open Go.RowKit Go.Zone Go.Shelf Tryz Go.Roa Go.Sym
theorem NW:(prog.info? 72).map (λi=>(i.zero,i.size,i.bytes))=some (some (.agg #[.int .u8 0,.int .i64 0,.string ⟨#[]⟩]),3,32):=kR
theorem N2:(prog.info? 56).map (λi=>(i.zero,i.size,i.bytes))=some (some (.slice none 0 0),1,24):=kR
theorem FH:(prog.info? 72).map (·.size)=some 3:=kR
theorem iN{o:Option TypeInfo}{z:Value}{n m:Nat}(h:o.map (λi=>(i.zero,i.size,i.bytes))=some (some z,n,m)):∃i,o=some i/\i.zero=some z/\i.size=n/\i.bytes=m:=by
 cases o with
 | none=>cases h
 | some i =>
   simp only[Option.map_some,lQ,Prod.mk.injEq]at h;exact⟨i,rfl,h.1,h.2.1,h.2.2⟩
theorem BQ(n base:Nat)(a:World)(o:n<=1000000000)(q:base<=a.heap.size) :
 ∃W',(Instr.makeSlice 56 (.int .i64 (n:Int)) (.int .i64 (n:Int))).run prog a=.ok (.slice (some ⟨a.heap.size,0,none⟩) n n) W'/\ak W' a.heap.size 72 ((List.replicate n ej).flatMap ai.cells)/\aa a W':=by
 obtain⟨i,hi,b,d,j⟩:=iN NW;have c:=run_make (P:=prog) a 56 72 i _ underlying56 hi b .i64 .i64 (n:Int) (n:Int) oM oM (by rw[j];omega) oM;rw[Lz,d]at c;refine⟨_,c,?_,aa.alloc (aa.refl _) _⟩;have e:(madeCells (Value.agg #[.int .u8 0,.int .i64 0,.string ⟨#[]⟩]).cells (n*3))=((List.replicate n ej).flatMap ai.cells).toArray:=by
  apply Array.ext
  ·have h:(madeCells (Value.agg #[.int .u8 0,.int .i64 0,.string ⟨#[]⟩]).cells (n*3)).size=n*3:=(by simp[madeCells]);have m:((List.replicate n ej).flatMap ai.cells).length=n*3:=(by rw[eL di,LH]);exact h.trans m.symm
  ·intro i b d;have hi:i<n*3:=(by simpa[madeCells]using b);have f:=flat_get (k:=3) (enc:=ai.cells) di (List.replicate n ej) (i/3) (i%3) sO;have l:i/3*3+i%3=i:=oM;rw[l]at f;have p:i%3<3:=oM;simp only[madeCells,Array.getElem_map,Array.getElem_range,Value.cells,List.getElem_toArray]
   rcases (show i%3=0\/i%3=1\/i%3=2 from oM) with e|e|e
   all_goals
    have:=f _ (by rw[e];simp[ej,ai.cells];rfl);rw[Lw]at this;obtain⟨_,g⟩:=this;rw[g];simp[e]
 rw[e];exact bH _ _ _
def iS(w:World)(base:Nat)(r:Rw):Prop:=∃b,r.A=some ⟨b,0,none⟩/\base<=b/\ak w b 72 (r.vs.flatMap ai.cells)/\r.c=r.vs.length
theorem iS.keep{w a:World}{base:Nat}{r:Rw}(c:iS w base r)(g:aa w a):iS a base r:=by
 obtain⟨b,h,d,f,e⟩:=c;exact⟨b,h,d,f.keep g,e⟩
theorem iS.sl{w:World}{base:Nat}{r:Rw}(a:iS w base r)(d:r.vs.length<=140737488355328):Sl w 3 ai.cells r.A r.c r.vs:=by
 obtain⟨b,g,h,f,e⟩:=a;rw[g,e];exact f.sl_blk di d (lc _) oM
theorem iS.turn{w c:World}{base:Nat}{r:Rw}{S:List Nat}(d:iS w base r)(h:ag w c S)(e:∀i∈S,i<w.heap.size->∀vs,¬ ak w i 72 vs):iS c base r:=by
 obtain⟨b,j,f,a,g⟩:=d;exact⟨b,j,f,h.row a (λhm=>e b hm a.lt _ a),g⟩
def k7:Rw:=⟨none,0,[]⟩
abbrev cw(w:World)(base:Nat)(v:Value)(l:List Rw):Prop:=ah w base 56 1 Rw.cells v l
theorem xT(A:Option Addr)(c:Nat)(rows:List Rw)(w:World)(B:Sl w 1 Rw.cells A c rows)(a8:dG w rows)(az:rows.length<=1000000000)(l:∀r∈rows,r.vs.length<=1000000000) :
 Calls prog 60 #[.slice A rows.length c] w λe w'=>∃g,e=.returned (.slice (some ⟨g,0,none⟩) rows.length rows.length)/\∃d,cw w' w.heap.size (.slice (some ⟨g,0,none⟩) rows.length rows.length) d/\(∀r∈d,iS w' w.heap.size r)/\d.map (·.vs)=rows.map (·.vs)/\aa w w':=by
 have av:=lh B;have aE:=lh a8;have al:=lh l;generalize W:rows.length=n at az;have ai:=lh W;obtain⟨i0,Z,a4,i2,i3⟩:=iN N2;obtain⟨W',o,ad,N⟩:=oR (P:=prog) (z:=k7) gW rfl underlying27 Z a4 i2 n w.heap.size w (by rw[i3];omega) oM (lc _);have j:=lh ad;have h:=lh N;clear B a8 l ad N i0 Z a4 i2 i3 W;generalize ae:w.heap.size=g at j o;have S:=lh ae;clear ae;go_enter func60,ntmps60;go_wp2;clear o;go_loopw [10] (λi wr=>∃(k:Nat) (d:List Rw),k<=n/\i=.int .i64 k/\Hid (d.length=k)/\Hid (d.map (·.vs)=(rows.take k).map (·.vs))/\Hid (cw wr g (.slice (some ⟨g,0,none⟩) n n) (d++List.replicate (n-k) k7))/\Hid (∀r∈d,iS wr g r)/\Hid (aa w wr)) (λi _=>n-(intOf i).toNat)
 case atStart=>exact⟨0,[],lj _,rfl,rfl,rfl,j.o,(λ_ B=>by cases B),h.o⟩
 case round =>
  clear j h;obtain⟨k,d,N,rfl,m,a9,j,a6,h⟩:=hrel
  by_cases ab:k<n
  ·have E:k<rows.length:=(by rw[ai.o];exact ab);obtain⟨b,a3,aw,x,t⟩:=jv av.o k E;have I:=(h.o.cell (p:=⟨b,a3+k,none⟩) x).trans t;have au:=lp x h.o.size;have H:=lh (aE.o rows[k] (ll E));have J:=al.o rows[k] (ll E);have R:=lh (show(rows.take (k+1)).map (·.vs)=(rows.take k).map (·.vs)++[rows[k].vs] by rw[ly E,lz];rfl);subst aw;generalize rows[k]=r at I t H J R;obtain⟨aP,aQ,a⟩:=r;simp only at I t H J R;obtain⟨O,o,D,Q⟩:=BQ a.length w.heap.size wr J h.o.size;have aj:g<=wr.heap.size:=(by have:=h.o.size;have:=S.o;omega);generalize a2:wr.heap.size=f at o D aj;have ao:=lh a2;clear a2;have af:=lh Q;have ar:=lh D;have s:(d++List.replicate (n-k) k7).length=n:=(by have:=m.o;simp;omega);have C:=j.o.keep Q;have a5:(d++List.replicate (n-k) k7).set k ⟨some ⟨f,0,none⟩,a.length,a⟩=(d++[⟨some ⟨f,0,none⟩,a.length,a⟩])++List.replicate (n-(k+1)) k7:=by
    have aF:=m.o;rw[Lg _ _ oM,aF,Nat.sub_self,show n-k=(n-(k+1))+1 from oM,List.replicate_succ,List.set_cons_zero,lr];rfl
   obtain⟨G,aI,aG,aA⟩:=C.cell1 gW s.symm k oM;have M:=C.set1 gW s.symm k ⟨some ⟨f,0,none⟩,a.length,a⟩ rfl;rw[a5]at M;generalize (d++List.replicate (n-k) k7)[k]'(by rw[s];exact ab)=y at G;obtain⟨aO,aL,aN⟩:=y;simp only at G;have V:f≠g:=λe=>bu C D dC (by rw[e];rfl);have L:=lh M;have ac:=lh V;have X:=lh aj;clear C M a5 D Q V;go_upto_region 6 with fail;have u:Hid (ag O (O.setCell ⟨g,k,none⟩ (.slice (some ⟨f,0,none⟩) a.length a.length)) [g]):=ag.set _ _ _;generalize O.setCell ⟨g,k,none⟩ (.slice (some ⟨f,0,none⟩) a.length a.length)=a0 at L u|-;have a1:=lh (u.o.row ar.o (λe=>ac.o (by simpa using e)));have q:=lh (show aa w a0 from ag.after (h.v af) u.o (λi hi=>by simp only[lm]at hi;rw[hi];exact lV S.o));have U:((d++[(⟨some ⟨f,0,none⟩,a.length,a⟩:Rw)])++List.replicate (n-(k+1)) k7).length=n:=(by have:=m.o;simp;omega);obtain⟨Y,d1,d2,d3⟩:=L.o.cell1 gW U.symm k oM;have he:((d++[(⟨some ⟨f,0,none⟩,a.length,a⟩:Rw)])++List.replicate (n-(k+1)) k7)[k]'oM=⟨some ⟨f,0,none⟩,a.length,a⟩:=by
    rw[List.getElem_append_left (by have:=m.o;simp;omega),List.getElem_append_right (by have:=m.o;omega)];simp
   rw[he]at Y;simp only at Y;have aR:=(q.o.cell (p:=⟨b,a3+k,none⟩) x).trans t;have aJ:=lp x q.o.size;have aK:=a1.o.lt;clear I au G aI aG aA s U he o
   go_region_law (refine yl rfl (.tmp 25) (.tmp 29) 56 56 72 rfl underlying56 FH di jO rfl rfl rfl (H.o.keep (q.o.trans kP)) (a1.o.keep kP) (by rw[eL di,LH]) ?_
                  intro aM a7 ak;have ax:=lh a7;have K:=lh (ag.trans (ag.keep (show aa a0 _ from kP) [f]) ak);clear a7 ak)
   all_goals
    go_wp2;go_roundw
    case rel =>
     have aC:∀i∈[f],g<=i:=λi hi=>(by simp only[lm]at hi;rw[hi];exact X.o);refine⟨k+1,d++[⟨some ⟨f,0,none⟩,a.length,a⟩],oM,by go_num,?_,?_,?_,?_,?_⟩
     ·show _=_;rw[lg,m.o];rfl
     ·show _=_;rw[R.o,lz,a9.o];rfl
     ·exact ah.turn L.o K.o λi hi e=>by
       simp only[lm]at hi;subst hi;exact ac.o (by simpa[Value.ownBlock]using e.symm)
     ·intro r l;rw[lx,lm]at l
      rcases l with l|rfl
      ·obtain⟨F,aD,aq,T,aH⟩:=a6.o r l;have aB:F≠g:=λe=>bu j.o T dC (by rw[e];rfl);have ap:F≠f:=λe=>(by have:=T.lt;have:=ao.o;omega);exact⟨F,aD,aq,K.o.row (u.o.row (T.keep af.o) (by simpa using aB)) (by simpa using ap),aH⟩
      ·exact⟨f,rfl,X.o,ax.o,rfl⟩
     ·exact ag.after q.o K.o (λi hi=>by rw[S.o];exact aC i hi)
    case measure=>simp[intOf];omega
  ·have ay:k=n:=oM;subst ay;rw[Nat.sub_self,List.replicate_zero,lT]at j;go_wp2;exact bodyPost_ret (v:=.slice (some ⟨g,0,none⟩) k k) (by simp[results,results60,go_sem]) rfl ⟨g,rfl,d,j.o,a6.o,by rw[a9.o,<-ai.o,lC],h.o⟩
end Go.Proofs.YtpkocnpamcchcaaGreatDoor
namespace Go.Proofs.YtpkocnpamcchcaaGreatDoor
open Go.RowKit Go.Zone Go.ChangeShapes Go.WideShapes Go.Deep Go.Joins Go.ChangeMaps Tryz
section
variable {H:Type} {enc:TypeId×Value->H} {w:World} {held:Bool}
theorem yz{a:Addr}{v:Value}(h:w.cell? a=some v):a.spot=none:=by
 unfold World.cell? at h
 split at h
 ·split at h
  ·cases h
  ·rename_i hq;simpa using hq
 ·cases h
theorem Ez{a:Addr}(b:a.spot=none)(n:Nat):a.add n=⟨a.block,a.off+n,none⟩:=by
 obtain⟨ab,d,c⟩:=a;simp only at b;subst b;unfold Addr.add
 split
 ·rename_i b;subst b;rfl
 ·rfl
theorem Hu{v:Value}{d:DataW H}{ps:List MemPlace}{fuel:Nat}(O:DataW.trod enc prog w 0 (λ_=>true) held fuel 56 [v]=some (d,ps))(N:∀n∈d.weights prog 56,n<=reachBytes) :
 ∃A c xs,v=.slice A xs.length c/\Sl w 3 ai.cells A c xs/\∀x∈xs,qI x:=by
 obtain⟨W,T,I,y,U,t0,V,t2⟩:=FU;have a7:=reachBytes_lt
 rcases Bh xC y U PY O with⟨b,_⟩ | ⟨a,g,S,m,a2,a4,b,a9,z,R,B,o,hi⟩
 ·simp only[Lu,and_true]at b;exact⟨none,0,[],b,Sl.nil_ _ oM,λ_ h=>by cases h⟩
 ·simp only[Lu,and_true]at b;simp only[Prod.mk.injEq]at o;obtain⟨xs,Y,q⟩:=wK (Q:=λi (x:ai)=>qI x/\w.cell? (a.add (i*3))=some (.int .u8 x.k)/\w.cell? (a.add (i*3+1))=some (.int .i64 x.n)/\w.cell? (a.add (i*3+2))=some (.string x.s)) g λi p=>by
   obtain⟨ys,n,_,_,_,r⟩:=hi i (by rw[B];split<;>omega);obtain⟨v0,a3,f,_,G⟩:=r 0 W rfl;obtain⟨a5,a6,l,_,L⟩:=r 1 T rfl;obtain⟨v2,a8,e,_,P⟩:=r 2 I rfl;obtain⟨k,C,_,M⟩:=DataW.trod_int t0 G;obtain⟨D,K,_,E⟩:=DataW.trod_int V L;obtain⟨F,X,_,J⟩:=DataW.trod_string t2 P
   cases C;cases K;cases X
   exact⟨⟨k,D,F⟩,⟨M,E,J⟩,f,l,e⟩
  have Z:g*prog.bytesOf 72<=reachBytes:=by
   have:=N ((g+(m-g))*prog.bytesOf 72) (by rw[o.1];simp[DataW.weights,xC]);exact lk (L7 _ oM) this
  rw[show prog.bytesOf 72=32 from kR]at Z;subst Y;refine⟨some a,S,xs,b,⟨z,by unfold maxLen at R;omega,oM,λi p=>?_⟩,λx o=>?_⟩
  ·obtain⟨_,f,l,e⟩:=q i p;have s:a.spot=none:=by
    obtain⟨_,t,_,_⟩:=q 0 oM;simp only[Lf,Addr.add,if_true]at t;exact yz t
   rw[Ez s]at f l e;refine⟨a.block,a.off,by obtain⟨ab,a1,a0⟩:=a;simp only at s;subst s;rfl,λj u hu=>?_⟩
   match j,hu with
   | 0,hu=>cases hu;exact f
   | 1,hu=>cases hu;exact l
   | 2,hu=>cases hu;exact e
  ·obtain⟨i,p,rfl⟩:=lU o;exact(q i p).1
theorem pH:prog.underlying 27=some (.slice 56):=kR
theorem PZ:prog.cellsOf 56=1:=kR
theorem Ky{S:Nat}{r:Reach}{v:Value}{d:DataW H}{ps:List MemPlace}(E:Value.okWide prog w r S 27 v)(f:DataW.Trod enc prog w 0 (λ_=>true) held 27 v d ps)
 (p:∀n∈d.weights prog 27,n<=reachBytes) :
 ∃A c rows,v=.slice A rows.length c/\Sl w 1 Rw.cells A c rows/\dG w rows/\∀r∈rows,∀x∈r.vs,qI x:=by
 have W:=reachBytes_lt;obtain⟨fuel,s⟩:=f;have I:v.cells.toList=[v]:=by
  simp only[Value.okWide,pH]at E
  cases v<;>simp_all [Cell.okWide,Cell.ok,pH,Value.cells]
 rw[I]at s
 rcases open_slice pH s with⟨g,_⟩ | ⟨a,b,O,m,n,k,G,g,X,C,N,D,K,hi⟩
 ·simp only[Lu,and_true]at g;exact⟨none,0,[],g,Sl.nil_ _ oM,λ_ f=>(by cases f),λ_ f=>by cases f⟩
 ·simp only[Lu,and_true]at g;have o:d=.slice ((List.range b).map k) ((List.range (m-b)).map λj=>k (b+j)):=(Prod.mk.inj K).1;have J:∀i,i<b->∀n∈(k i).weights prog 56,n<=reachBytes:=λi hi n hn=>p n (by
   rw[o];simp only[DataW.weights,pH,ln,lx];exact .inr (.inl (tY (lW.2 ⟨i,List.mem_range.2 hi,rfl⟩) hn)))
  have T:b*prog.bytesOf 56<=reachBytes:=by
   have:=p ((b+(m-b))*prog.bytesOf 56) (by rw[o];simp[DataW.weights,pH]);exact lk (L7 _ oM) this
  rw[show prog.bytesOf 56=24 from kR]at T;obtain⟨rows,B,h⟩:=wK (Q:=λi (q:Rw)=>w.cell? (a.add i)=some (.slice q.A q.vs.length q.c)/\Sl w 3 ai.cells q.A q.c q.vs/\∀x∈q.vs,qI x) b λi e=>by
   obtain⟨F,t,M⟩:=hi i (by rw[D];split<;>omega);rw[PZ]at t;obtain⟨_,P,R⟩:=World.cells?_some t
   match F,P with
   | [u],_ =>
     obtain⟨A,c,xs,rfl,z,L⟩:=Hu (d:=k i) (ps:=G i) M (J i e);refine⟨⟨A,c,xs⟩,?_,z,L⟩;have y:=R 0 oM;rw[Lb,Go.Deep.add_add,lE]at y;exact y
  subst B;refine⟨some a,O,rows,g,⟨C,by unfold maxLen at N;omega,oM,λi e=>?_⟩,λq hq=>?_,λq hq=>?_⟩
  ·have l:a.spot=none:=by
    have:=(h 0 oM).1;simp only[Addr.add,if_true]at this;exact yz this
   refine⟨a.block,a.off,by obtain⟨ab,V,U⟩:=a;simp only at l;subst l;rfl,λj u hu=>?_⟩;have:=(h i e).1;rw[Ez l]at this
   match j,hu with
   | 0,hu=>cases hu;rw[Lb,lE];exact this
  ·obtain⟨i,e,rfl⟩:=lU hq;exact(h i e).2.1
  ·obtain⟨i,e,rfl⟩:=lU hq;exact(h i e).2.2
end
end Go.Proofs.YtpkocnpamcchcaaGreatDoor
