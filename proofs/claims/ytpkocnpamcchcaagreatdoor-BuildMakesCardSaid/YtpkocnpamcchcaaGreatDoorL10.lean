/- Parts. -/
import Derived.Laws.Rows
import Derived.Laws.Tables
import Derived.Laws.BitsAllLaws
import Derived.Lib.SlBytesConst
import Derived.Laws.IdiomStrings
import Derived.Test.YtpkocnpamcchcaaGreatDoorL08
import Derived.Test.YtpkocnpamcchcaaGreatDoorL09
set_option maxRecDepth 100000
set_option maxHeartbeats 40000000
set_option linter.all false
namespace Go.Proofs.YtpkocnpamcchcaaGreatDoor
open Go.RowKit Go.Zone Go.Shelf Tryz
theorem Oo{P:Program}{ops:Array Oper}{Q:Exit->Act->World->Prop}{rest:List Oper}{a:Act}{w:World}{t:TypeId}{x y:Operand}{ty:TypeId}{d:String}{b:Array Edge}{c:Option (Nat×Bool)}(e:Hid (wpList P ops Q (⟨none,.store t x y,ty,d,b,c⟩::rest) a w)):wpList P ops Q (⟨none,.store t x y,ty,d,b,c⟩::rest) a w:=e
def fE(x:Nat):Nat:=if x%2=1 then x/2 ^^^ 3988292384 else x/2
def eP:Nat->Nat->Nat
 | 0,x=>x
 | k+1,x=>fE (eP k x)
def ng(i:Nat):Nat:=eP 8 i
def eW(k:Nat):List Value:=(List.range 256).map λi=>.int .u32 ((if i<k then ng i else 0:Nat):Int)
theorem mn(k:Nat):(eW k).length=256:=by simp[eW]
theorem rf(k i:Nat)(h:i<256):(eW k)[i]? =some (.int .u32 ((if i<k then ng i else 0:Nat):Int)):=by simp[eW,h]
theorem Gv(k:Nat)(a:k<256):(eW k).set k (.int .u32 (ng k:Int))=eW (k+1):=by
 apply List.ext_getElem?;intro i;rw[List.getElem?_set]
 by_cases hi:i<256
 ·rw[rf _ _ hi,rf _ _ hi,mn]
  by_cases e:k=i
  ·subst e;simp[a]
  ·have:(i<k+1)=(i<k):=sO;simp[e,this]
 ·have c:(eW k)[i]? =none:=by rw[List.getElem?_eq_none_iff,mn];omega
  have b:(eW (k+1))[i]? =none:=by rw[List.getElem?_eq_none_iff,mn];omega
  rw[c,b]
  split<;>simp_all
theorem xd:Tryz.zeroCells251=(eW 0).toArray:=kR
theorem GO{x:Nat}(h:x<4294967296):fE x<4294967296:=by
 unfold fE
 split
 ·exact Nat.xor_lt_two_pow (n:=32) oM dC
 ·omega
theorem pO{x:Nat}(h:x<4294967296):∀k,eP k x<4294967296
 | 0=>h
 | k+1=>GO (pO h k)
theorem GP{x:Nat}(d:x<4294967296):bits .xor .u32 ((x:Int)/2) (bits .and .u32 3988292384 (-bits .and .u32 (x:Int) 1%4294967296))=((fE x:Nat):Int):=by
 have c:=u32_and_nat x 1 d dC;rw[Nat.and_one_is_mod]at c;rw[show(1:Int)=((1:Nat):Int) from rfl,c,show((x:Int)/2)=((x/2:Nat):Int) from oM];unfold fE
 rcases (show x%2=0\/x%2=1 from oM) with e|e
 ·rw[e];have a:=u32_and_nat 3988292384 0 dC dC;have b:=u32_xor_nat (x/2) 0 oM dC;simp only[Nat.and_zero]at a;simp only[Nat.xor_zero]at b;rw[show(-((0:Nat):Int)%4294967296)=((0:Nat):Int) from dC,show(3988292384:Int)=((3988292384:Nat):Int) from rfl,a,b,if_neg dC]
 ·rw[e];have a:=u32_and_nat 3988292384 4294967295 dC dC;have b:=u32_xor_nat (x/2) 3988292384 oM dC;rw[show(3988292384 &&& 4294967295:Nat)=3988292384 from dC]at a;rw[show(-((1:Nat):Int)%4294967296)=((4294967295:Nat):Int) from dC,show(3988292384:Int)=((3988292384:Nat):Int) from rfl,a,b,if_pos rfl]
theorem table_any(w:World):Rt 184 #[] w (.agg (eW 256).toArray):=by
 go_enter func184,ntmps184;go_wp2;rw[xd];go_loopw [3] (λi wr=>∃k:Nat,k<=256/\i=.int .i64 k/\Hid (wr.heap[w.heap.size]? =some (.cells (eW k).toArray 251 (0,0)))/\Hid (aa w wr)) (λi _=>256-(intOf i).toNat)
 case atStart=>exact⟨0,lj _,rfl,heap_alloc_new _ _,kP⟩
 case round =>
  obtain⟨k,q,rfl,a,e⟩:=hrel
  by_cases d:k<256
  ·go_wp2;go_loop [2,8] (λx j=>∃m:Nat,m<=8/\j=.int .i64 m/\x=.int .u32 (eP m k:Nat)) (λ_ j=>8-(intOf j).toNat)
   case atStart=>exact⟨0,lj _,rfl,rfl⟩
   case round =>
    obtain⟨m,s,rfl,rfl⟩:=hrel;have b:=pO (show k<4294967296 from oM) m
    by_cases t:m<8
    ·have c:eP (m+1) k=fE (eP m k):=rfl;have f:=lh c;clear c;generalize eP m k=x at b f|-;go_wp2;go_round
     case rel=>exact⟨m+1,oM,by go_num,by rw[GP b,f.o]⟩
     case measure=>simp[intOf];omega
    ·have n:m=8:=oM;subst n;have g:=cell_of_row _ _ k _ _ _ a.o;have r:=frozen_of_row _ _ k _ _ a.o;rw[List.getElem?_toArray,rf _ _ d]at g;have o:=block_lt_of_cell g;generalize h:eP 8 k=x at b|-;have l:=lh h;clear h;go_wp2;go_roundw
     case rel=>exact⟨k+1,oM,by go_num,(by
      show _=_;rw[heap_setCell_same _ _ _ _ _ _ a.o,<-Gv k d];simp[ng,l.o]),e.o.setCell (lc _) _⟩
     case measure=>simp[intOf];omega
  ·have p:k=256:=oM;subst p;have o:=(La.1 a.o).1;go_wp2_with (with_reducible refine qu 22 ?_);refine ar ?_;refine wpList_load_row rfl 251 _ rfl w.heap.size rfl 251 (eW 256).toArray _ _ a.o underlying251 rfl (by rw[List.size_toArray,mn];kernel_rfl) ?_;refine wpList_store_row rfl 251 _ _ rfl w.heap.size (eW 256).toArray rfl rfl 251 (eW 256).toArray a.o (by rw[List.size_toArray,mn];kernel_rfl) rfl (by simp[eW,Value.oneCell']) ?_;rw[setRow_self _ _ _ _ _ a.o];go_wp2;exact bodyPost_ret (v:=.agg (eW 256).toArray) (results_cell_row rfl _ _ w.heap.size 251 (eW 256).toArray (0,0) _ rfl a.o underlying251 rfl (by rw[List.size_toArray,mn];kernel_rfl)) rfl ⟨rfl,e.o⟩
theorem KY{x:Nat}(a:x<4294967296):bits .xor .u32 IntKind.u32.max (x:Int)=((4294967295-x:Nat):Int):=by
 have c:=u32_xor_nat 4294967295 x dC a;rw[show IntKind.u32.max=((4294967295:Nat):Int) from dC,c]
 congr 1
 apply Nat.eq_of_testBit_eq;intro i;have b:=Nat.testBit_two_pow_sub_succ (n:=32) a i;rw[show 2^32-(x+1)=4294967295-x from oM]at b;rw[b,Nat.testBit_xor,show(4294967295:Nat)=2^32-1 from dC,Nat.testBit_two_pow_sub_one]
 by_cases hi:i<32
 ·simp[hi]
 ·have:x.testBit i=false:=Nat.testBit_lt_two_pow (lp (show x<2^32 from a) (Nat.pow_le_pow_right dC (show 32<=i from oM)));simp[hi,this]
def pn(x:Nat)(b:UInt8):Nat:=x/256 ^^^ ng (x%256 ^^^ b.toNat)
def eX(x:Nat)(bs:List UInt8):Nat:=bs.foldl pn x
theorem xe{a b:Nat}(c:a<256)(d:b<256):a ^^^ b<256:=Nat.xor_lt_two_pow (n:=8) c d
theorem Qb{x:Nat}(h:x<4294967296)(b:UInt8):pn x b<4294967296:=by
 unfold pn;have:=b.toNat_lt;exact Nat.xor_lt_two_pow (n:=32) oM (pO (by have:=xe (show x%256<256 from oM) this;omega) 8)
theorem pN:∀(bs:List UInt8) {x:Nat},x<4294967296->eX x bs<4294967296
 | [],_,h=>h
 | b::r,_,h=>pN r (Qb h b)
theorem ye(x:Nat)(bs:List UInt8)(k:Nat)(h:k<bs.length):eX x (bs.take (k+1))=pn (eX x (bs.take k)) bs[k]:=by
 unfold eX;rw[ly h,List.foldl_append];rfl
theorem jw{w:World}{c:Nat}{A:Option Addr}{xs:List UInt8}(e:cH w A c xs)(i:Nat)(hi:i<xs.length):∃b a,A=some ⟨b,a,none⟩/\b<w.heap.size/\w.cell? ⟨b,a+i,none⟩=some (.int .u8 (xs[i].toNat:Int)):=by
 obtain⟨b,a,f,g⟩:=e.at_ i hi;have d:=g 0 _ rfl;exact⟨b,a,f,World.block_lt_of_cell? w _ d,by simpa using d⟩
theorem Pn(A:Option Addr)(c:Nat)(bs:List UInt8)(w:World)(o:cH w A c bs):Rt 145 #[.slice A bs.length c] w (.int .u32 ((4294967295-eX 4294967295 bs:Nat):Int)):=by
 have D:=lh o;have F:=o.len;clear o;go_enter func145,ntmps145;go_wp2_with (first|(go_at_call 184;refine uC (table_any _) λp=>?_)|(with_reducible refine Oo ?_));refine ar ?_;refine wpList_store_row rfl 251 _ _ rfl _ (eW 256).toArray rfl rfl 251 Tryz.zeroCells251 (by rw[<-az];exact heap_alloc_new _ _) (by rw[List.size_toArray,mn];kernel_rfl) (by rw[xd];simp[mn]) (by simp[eW,Value.oneCell']) ?_;rw[<-az w p];have a:=setRow_heap _ _ _ (eW 256).toArray _ _ (heap_alloc_new (w.gro p) (.cells Tryz.zeroCells251 251));have h:aa w (((w.gro p).alloc (.cells Tryz.zeroCells251 251)).setRow (w.gro p).heap.size (eW 256).toArray):=by
  refine aa.trans (aa.gro (aa.refl w) p) ⟨rfl,rfl,rfl,sP,λi hi=>?_⟩;rw[setRow_other _ _ _ _ oM];exact heap_alloc_old _ _ hi
 generalize World.setRow _ _ (eW 256).toArray=K at a h|-;generalize (w.gro p).heap.size=g at a|-;have z:=lh a;have t:=lh h;have E:=(La.1 a).1;clear a h p;go_wp2;go_loop [4,6,10] (λx _ j=>∃k:Nat,k<=bs.length/\j=.int .i64 k/\x=.int .u32 (eX 4294967295 (bs.take k):Nat)) (λ_ _ j=>bs.length-(intOf j).toNat)
 case atStart=>exact⟨0,lj _,rfl,rfl⟩
 case round =>
  obtain⟨k,h,rfl,rfl⟩:=hrel
  by_cases r:k<bs.length
  ·obtain⟨b,H,rfl,G,J⟩:=jw (D.o.keep t.o) k r;have u:=lh (ye 4294967295 bs k r);have e:=pN (bs.take k) (show 4294967295<4294967296 from dC);have s:=bs[k].toNat_lt;have m:=u8_xor_nat (eX 4294967295 (bs.take k)%256) bs[k].toNat oM s;have d:=lh (cell_of_row _ _ (eX 4294967295 (bs.take k)%256 ^^^ bs[k].toNat) _ _ _ z.o);have l:=xe (show eX 4294967295 (bs.take k)%256<256 from oM) s;have n:=lh (show pn (eX 4294967295 (bs.take k)) bs[k]=eX 4294967295 (bs.take k)/256 ^^^ ng (eX 4294967295 (bs.take k)%256 ^^^ bs[k].toNat) from rfl);rw[List.getElem?_toArray,rf _ _ l,if_pos l]at d;have f:=pO (show eX 4294967295 (bs.take k)%256 ^^^ bs[k].toNat<4294967296 from oM) 8;generalize eX 4294967295 (bs.take k)=x at e m d l u n f|-;rw[show(((x%256:Nat)):Int)=(x:Int)%256 from oM]at m;generalize (x%256 ^^^ bs[k].toNat)=j at m d l n f;have I:=d.o;have v:=u32_xor_nat (x/256) (ng j) oM f;rw[show(((x/256:Nat)):Int)=(x:Int)/256 from oM]at v;clear f;go_wp2;go_round
   case rel=>exact⟨k+1,oM,by go_num,by rw[u.o,n.o]⟩
   case measure=>simp[intOf];omega
  ·have C:k=bs.length:=oM;subst C;rw[lC];have e:=pN bs (show 4294967295<4294967296 from dC);have B:=KY e;obtain⟨x,q⟩:∃x,x=eX 4294967295 bs:=⟨_,rfl⟩;rw[<-q]at e B|-;have y:=lh q;clear q;go_wp2;go_ret;exact⟨by rw[<-y.o];rfl,t.o⟩
theorem Ox(a b:Nat):(a ^^^ b)/2=a/2 ^^^ b/2:=by
 have:=Nat.shiftRight_xor_distrib (a:=a) (b:=b) (i:=1)
 simpa[Nat.shiftRight_eq_div_pow]using this
theorem GN(a b:Nat):fE (a ^^^ b)=fE a ^^^ fE b:=by
 unfold fE;have f:((a ^^^ b)%2=1)<->¬(a%2=1<->b%2=1):=by
  have e:=Nat.testBit_xor (x:=a) (y:=b) (i:=0);simp only[Nat.testBit_zero]at e
  rcases (show a%2=0\/a%2=1 from oM) with d|d<;>rcases (show b%2=0\/b%2=1 from oM) with c|c<;>simp_all
 rw[Ox]
 rcases (show a%2=0\/a%2=1 from oM) with d|d<;>rcases (show b%2=0\/b%2=1 from oM) with c|c
 ·rw[if_neg oM,if_neg oM,if_neg oM]
 ·rw[if_pos oM,if_neg oM,if_pos oM,Nat.xor_assoc]
 ·rw[if_pos oM,if_pos oM,if_neg oM,Nat.xor_assoc,Nat.xor_assoc,Nat.xor_comm (b/2)]
 ·rw[if_neg oM,if_pos oM,if_pos oM,Nat.xor_assoc,Nat.xor_comm 3988292384 (b/2 ^^^ 3988292384),Nat.xor_assoc,Nat.xor_self,Nat.xor_zero]
theorem yh(a b:Nat):∀k,eP k (a ^^^ b)=eP k a ^^^ eP k b
 | 0=>rfl
 | k+1=>by simp only[eP];rw[yh a b k,GN]
theorem yi(z:Nat):∀k,eP k (z*2^k)=z
 | 0=>by simp[eP]
 | k+1=>by
   have a:∀k x,eP (k+1) x=eP k (fE x):=λk=>by
    induction k with
    | zero=>intro x;rfl
    | succ k ih=>intro x;show fE (eP (k+1) x)=fE (eP k (fE x));rw[ih]
   rw[a];have b:fE (z*2^(k+1))=z*2^k:=by
    unfold fE;rw[Nat.pow_succ,<-Nat.mul_assoc,if_neg oM,Nat.mul_div_cancel _ dC]
   rw[b,yi z k]
theorem MW(x:Nat):x=(x/256*2^8) ^^^ (x%256):=by
 apply Nat.eq_of_testBit_eq;intro i;rw[Nat.testBit_xor,Nat.testBit_mul_two_pow,show 256=2^8 from dC,Nat.testBit_mod_two_pow,Nat.testBit_div_two_pow]
 by_cases h:i<8
 ·simp[h,show ¬ 8<=i from oM]
 ·simp[h,show 8<=i from oM,show i-8+8=i from oM]
theorem P9(x:Nat)(b:UInt8):pn x b=eP 8 (x ^^^ b.toNat):=by
 have h:=yh (x/256*2^8) (x%256 ^^^ b.toNat) 8;rw[yi,<-Nat.xor_assoc,<-MW]at h;exact h.symm
theorem vI(n a:Nat)(p:n<18446744073709551616)(u:a<=8)(w:World) :
 Rb 15 #[.int .u64 n,.int .i64 a] w (le n a):=by
 go_enter func15,ntmps15;go_wp2;go_loopw [6,0,5] (λvi vn vb wr=>∃(k m:Nat) (b:Value),k<=a/\m<18446744073709551616/\vi=.int .i64 k/\b=vb/\Hid (aE wr w.heap.size b (le n k))/\vn=.int .u64 m/\Hid (m=n/256^k)/\Hid (aa w wr)/\w.heap.size<=wr.heap.size) (λvi _ _ _=>a-(intOf vi).toNat)
 case atStart=>exact⟨0,n,_,oM,p,rfl,rfl,ah.nil_ _ _ _ _ _,rfl,(by show _=_;simp),kP,lc _⟩
 case round =>
  obtain⟨k,m,b,r,t,rfl,rfl,f,rfl,e,d,v⟩:=hrel
  by_cases s:k<a
  ·have q:IntKind.u8.wrap ((m:Int)%256)=(m:Int)%256:=(by simp[IntKind.wrap,IntKind.signed,IntKind.bits]);go_wp2_with (at_builtin;refine ae ?_);refine ar ?_;have c:aE (wr.alloc (.cells #[.int .u8 ((m:Int)%256)] 5)) w.heap.size b (le n k):=f.o.keep (aa.alloc (aa.refl _) _);refine aD bQ aO bT rfl (.tmp 12) (.tmp 16) rfl (ys:=[UInt8.ofNat m]) c rfl rfl (br _ oM oM (ed _ (by rw[dH];simp[go_sem]))) (by simp[ay];omega) sO ?_;intro x y h g _;have ⟨a1,a2,a3⟩:=c.after g (d.o.trans kP) (lc _);have j:=lh h;have i:=lh a1;clear h g c a3 q;have o:m/256<18446744073709551616:=oM;go_wp2;go_roundw
   case rel=>exact⟨k+1,m/256,_,oM,o,by go_num,rfl,(by show aE _ _ _ _;have:=j.o;rw[e.o]at this;exact this),by go_num,(by show _=_;rw[e.o,Nat.div_div_eq_div_mul,Nat.pow_succ]),i.o,by simp at a2;omega⟩
   case measure=>simp[intOf];omega
  ·have l:k=a:=oM;subst l;go_wp2;go_ret;exact⟨_,rfl,f.o,d.o⟩
theorem iG(A:Option Addr)(c:Nat)(xs:List UInt8)(n:Nat)(h:n<65536)(w:World)(a:cH w A c xs)(f:xs.length<=140000000000000) :
 Rb 64 #[.slice A xs.length c,.int .u16 n] w (xs++le n 2):=by
 have b:=lh (wC A c xs n 2 oM oM w a f);clear a;go_enter func64,ntmps64;go_wp2_with (go_at_call 65;refine ae ?_);refine uM b.o ?_;rintro e i ⟨v,rfl,g,d⟩;go_wp2;go_ret;exact⟨v,rfl,g,d⟩
theorem uX{w:World}{base:Nat}{v:Value}{xs:List UInt8}(a:aE w base v xs)(b:xs.length<=140737488355328):∃A c,v=.slice A xs.length c/\cH w A c xs:=ah.sl a aO b
theorem oU{w:World}{base:Nat}{v:Value}{xs:List UInt8}(a:aE w base v xs)(b:xs.length<=140737488355328):∃L A c,v=.slice A L.length c/\Hid (cH w A c L)/\Hid (aE w base (.slice A L.length c) L)/\Hid (L=xs):=by
 obtain⟨A,c,rfl,d⟩:=uX a b;exact⟨xs,A,c,rfl,d,a,rfl⟩
def nS(bs:List UInt8):Nat:=4294967295-eX 4294967295 bs
def fA(bs:List UInt8):List UInt8:=le bs.length 4++bs++le (nS bs) 4
theorem mK(bs:List UInt8):(fA bs).length=bs.length+8:=by simp[fA,ay];omega
theorem ON(A:Option Addr)(c:Nat)(bs:List UInt8)(w:World)(m:cH w A c bs)(E:bs.length<=1073741824) :
 Rb 89 #[.slice A bs.length c] w (fA bs):=by
 have g:=lh m;clear m;go_enter func89,ntmps89;go_wp2_with (go_at_call 31;refine ae ?_);refine uM (iQ none 0 [] bs.length oM _ (Sl.nil_ _ dC) sP) ?_;rintro e H ⟨G,rfl,q,o⟩;have d:=lh q;have b:=lh o;clear q o;go_wp2_with (at_builtin;refine ae ?_);refine ar ?_;refine aD bQ aO bT rfl (.tmp 9) (.tmp 10) rfl (ys:=bs) d.o rfl rfl (g.o.keep b.o) (by simp[ay];omega) b.o.size ?_;intro v2 I r n _;have ⟨a1,a2,_⟩:=d.o.after (w:=w) n b.o (lc _);have j:=lh r;have a:=lh a1;clear r n a1 a2 d;go_wp2_with (go_at_call 145;refine ae ?_);refine uM (Pn A c bs _ (g.o.keep a.o)) ?_;rintro e J ⟨rfl,f⟩;have k:=lh (j.o.keep f);have h:=lh (a.o.trans f);clear f j a;obtain⟨l,t,B,rfl,y,D,i⟩:=oU k.o (by simp[ay];omega);have C:4294967295-eX 4294967295 bs<4294967296:=oM;have F:l.length<=1073741828:=by rw[i.o];simp[ay];omega
 clear k;go_wp2_with (go_at_call 31;refine ae ?_);refine uM (iQ t B l (nS bs) C _ y.o oM) ?_;rintro e K ⟨v4,rfl,s,p⟩;have x:=lh s;have v:=h.u p;have z:=lh h.o.size;clear s p;go_wp2;go_ret;exact⟨_,rfl,(by have:=x.o.base_mono z.o;rw[i.o]at this;exact this),v.o⟩
theorem IH(A:Option Addr)(c:Nat)(bs:List UInt8)(w:World)(h:cH w A c bs):Rt 147 #[.slice A bs.length c] w (.int .u32 (nS bs:Int)):=by
 have q:=lh h;have F:=h.len;clear h;go_enter func147,ntmps147;go_wp2;go_loop [3,4,5] (λx j _=>∃k:Nat,k<=bs.length/\j=.int .i64 k/\x=.int .u32 (eX 4294967295 (bs.take k):Nat)) (λ_ j _=>bs.length-(intOf j).toNat)
 case atStart=>exact⟨0,lj _,rfl,rfl⟩
 case round =>
  obtain⟨k,E,rfl,rfl⟩:=hrel
  by_cases o:k<bs.length
  ·obtain⟨b,I,rfl,C,B⟩:=jw q.o k o;have a:=pN (bs.take k) (show 4294967295<4294967296 from dC);have D:bs[k].toNat<256:=bs[k].toNat_lt;have f:=lh ((ye 4294967295 bs k o).trans (P9 _ _));have p:=u32_xor_nat (eX 4294967295 (bs.take k)) bs[k].toNat a oM;have l:eX 4294967295 (bs.take k) ^^^ bs[k].toNat<4294967296:=Nat.xor_lt_two_pow (n:=32) a (show bs[k].toNat<2^32 from oM);generalize eX 4294967295 (bs.take k)=x at a f p l|-;generalize x ^^^ bs[k].toNat=y at f p l;go_wp2;go_loop [3,5] (λx j=>∃m:Nat,m<=8/\j=.int .i64 m/\x=.int .u32 (eP m y:Nat)) (λ_ j=>8-(intOf j).toNat)
   case atStart=>exact⟨0,lj _,rfl,rfl⟩
   case round =>
    obtain⟨m,G,rfl,rfl⟩:=hrel;have v:=pO l m
    by_cases H:m<8
    ·have g:=lh (show eP (m+1) y=fE (eP m y) from rfl);generalize eP m y=z at v g|-;have s:=u32_xor_nat (z/2) 3988292384 oM dC;rw[show((z/2:Nat):Int)=(z:Int)/2 from oM,show((3988292384:Nat):Int)=3988292384 from rfl]at s
     cases e:((z:Int)%2==1)
     ·have d:=lh e;go_wp2;go_round
      case rel=>exact⟨m+1,oM,by go_num,by
       rw[g.o];have:=d.o;simp only[beq_eq_false_iff_ne,ne_eq]at this;unfold fE;rw[if_neg oM];exact congrArg (Value.int .u32) oM⟩
      case measure=>simp[intOf];omega
     ·have d:=lh e;go_wp2;go_round
      case rel=>exact⟨m+1,oM,by go_num,by
       rw[g.o];have:=d.o;simp only[beq_iff_eq]at this;unfold fE;rw[if_pos oM]⟩
      case measure=>simp[intOf];omega
    ·have u:m=8:=oM;subst u;rw[<-f.o];go_wp2;go_round
     case rel=>exact⟨k+1,oM,by go_num,rfl⟩
     case measure=>simp[intOf];omega
  ·have t:k=bs.length:=oM;subst t;rw[lC];have a:=pN bs (show 4294967295<4294967296 from dC);obtain⟨x,i⟩:∃x,x=eX 4294967295 bs:=⟨_,rfl⟩;rw[<-i]at a|-;have r:=lh i;clear i;go_wp2;go_ret;exact⟨by
    unfold nS;rw[<-r.o];exact dc oM,kP⟩
theorem Ja(A:Option Addr)(c:Nat)(bs:List UInt8)(w:World)(p:cH w A c bs)(G:bs.length<=1073741824) :
 Rb 93 #[.slice A bs.length c] w (fA bs):=by
 have i:=lh p;clear p;go_enter func93,ntmps93;go_wp2_with (go_at_call 15;refine ae ?_);refine uM (vI bs.length 4 oM dC _) ?_;rintro e J ⟨I,rfl,t,s⟩;have d:=lh t;have b:=lh s;clear t s;go_wp2_with (at_builtin;refine ae ?_);refine ar ?_;refine aD bQ aO bT rfl (.tmp 7) (.tmp 8) rfl (ys:=bs) d.o rfl rfl (i.o.keep b.o) (by simp[ay];omega) b.o.size ?_;intro v2 K v q _;have ⟨a1,a2,_⟩:=d.o.after (w:=w) q b.o (lc _);have m:=lh v;have a:=lh a1;clear v q a1 a2 d;go_wp2_with (go_at_call 147;refine ae ?_);refine uM (IH A c bs _ (i.o.keep a.o)) ?_;rintro e L ⟨rfl,g⟩;have n:=lh (m.o.keep g);have j:=lh (a.o.trans g);clear g m a;have H:nS bs<4294967296:=by unfold nS;omega
 go_wp2_with (go_at_call 15;refine ae ?_);refine uM (vI (nS bs) 4 oM dC _) ?_;rintro e M ⟨v4,rfl,x,h⟩;obtain⟨o,E,F,rfl,D,_,l⟩:=oU x (by simp[ay]);have f:=lh (n.o.keep h);have k:=j.u h;have B:=lh (show o.length=4 by rw[l.o,ay]);clear x h n j;go_wp2_with (at_builtin;refine ae ?_);refine ar ?_;refine aD bQ aO bT rfl (.tmp 10) (.tmp 14) rfl (ys:=o) f.o rfl rfl D.o (by have:=B.o;simp[ay];omega) k.o.size ?_;intro v5 N y r _;have ⟨b1,b2,_⟩:=f.o.after (w:=w) r k.o (lc _);have C:=lh y;have z:=lh b1;clear y r b1 b2 f;go_wp2;go_ret;exact⟨_,rfl,(by have:=C.o;rw[l.o]at this;exact this),z.o⟩
def dZ(b:Nat):Bool:=!((decide (b<97)||decide (122<b))&&(decide (b<48)||decide (57<b)) && !(decide (b=46)))
structure tU(s:ByteArray):Prop where
 ok:∀i,(h:i<s.size)->dZ (s[i]'h).toNat=true
 lo:1<=s.size
 hi:s.size<=20
structure bI where
 name:ByteArray
 A:Option Addr
 c:Nat
 bs:List UInt8
def bI.cells(s:bI):List Value:=[.string s.name,.slice s.A s.bs.length s.c]
@[reducible] def bI.v(s:bI):Value:=.agg #[.string s.name,.slice s.A s.bs.length s.c]
def fJ(n:ByteArray)(s:bI):Bool:=s.name.toList==n.toList
def pr(w:World)(l:List bI):Prop:=∀s∈l,cH w s.A s.c s.bs
theorem pr.keep{w a:World}{l:List bI}(b:pr w l)(c:aa w a):pr a l:=λs hs=>(b s hs).keep c
structure jr(l:List bI):Prop where
 name:∀i,(h:i<l.length)->tU l[i].name
 small:∀i,(h:i<l.length)->l[i].bs.length<=1073741824
 one:∀i k,(h:i<l.length)->(hk:k<i)->(l[k]'oM).name.toList≠l[i].name.toList
 few:l.length<=2000
theorem jR{w:World}{c:Nat}{A:Option Addr}{xs:List bI}(f:Sl w 2 bI.cells A c xs)(i:Nat)(hi:i<xs.length):∃b a,A=some ⟨b,a,none⟩/\b<w.heap.size/\w.cell? ⟨b,a+i*2,none⟩=some (.string xs[i].name) /\
 w.cell? ⟨b,a+i*2+1,none⟩=some (.slice xs[i].A xs[i].bs.length xs[i].c):=by
 obtain⟨b,a,g,e⟩:=f.at_ i hi;have d:=e 0 _ rfl;exact⟨b,a,g,World.block_lt_of_cell? w _ d,d,e 1 _ rfl⟩
theorem H8(l:List bI)(i:Nat)(b:i<l.length):dz (fJ l[i].name) l 0=(i:Int)<->∀k,(c:k<i)->(l[k]'oM).name.toList≠l[i].name.toList:=by
 constructor
 ·intro he k c a;have:=vU (fJ l[i].name) l 0 k oM (by simp[fJ,a]);omega
 ·intro d;have:=vV (fJ l[i].name) l 0 i b (by simp[fJ]) λj hj=>by simpa[fJ]using d j hj
  simpa using this
theorem Bn{n:Nat}(h:128<=n):dZ n=false:=by unfold dZ;simp;omega
theorem KI(b:ByteArray)(a:Nat)(c:a<b.size):dZ (Utf8.decode b a).1=dZ (b[a]'c).toNat/\(dZ (Utf8.decode b a).1=true->(Utf8.decode b a).2=1)/\1<=(Utf8.decode b a).2:=by
 by_cases f:(b[a]'c).toNat<128
 ·rw[decode_ascii b a c f];exact⟨rfl,λ_=>rfl,lc _⟩
 ·have d:=decode_high b a c oM;have e:=Bn d.1;refine⟨by rw[e,Bn oM],λc=>?_,d.2⟩;rw[e]at c
  cases c
theorem Qq{a:ByteArray}{c r k:Nat}(_:∀i,(b:i<a.size)->i<c->dZ (a[i]'b).toNat=true)(b:c<a.size)(e:dZ r=dZ (a[c]'b).toNat/\(dZ r=true->k=1)/\1<=k)(d:dZ r=false):¬ tU a:=λhn=>by
 have:=hn.ok c b;rw[<-e.1,d]at this
 cases this
theorem vf(r:Nat):dZ r=true<->(97<=r/\r<=122)\/(48<=r/\r<=57)\/r=46:=by
 unfold dZ;simp;omega
theorem OF{a:ByteArray}{c r k:Nat}(g:∀i,(b:i<a.size)->i<c->dZ (a[i]'b).toNat=true)(b:c<a.size)(f:dZ r=dZ (a[c]'b).toNat/\(dZ r=true->k=1)/\1<=k)(d:dZ r=true):∀i,(b:i<a.size)->i<c+k->dZ (a[i]'b).toNat=true:=λi hi hk=>by
 rw[f.2.1 d]at hk
 by_cases e:i=c
 ·subst e;rw[<-f.1,d]
 ·exact g i hi oM
theorem Il(a:ByteArray)(w:World)(m:a.size<=140737488355328):Rt 143 #[.string a] w (.bool (pB (tU a))):=by
 go_enter func143,ntmps143;go_wp2;go_loopw [4] (λ_ wr=>∃b:Nat,wr=w.iter a b/\Hid (∀i,(h:i<a.size)->i<b->dZ (a[i]'h).toNat=true)) (λ_ wr=>a.size-wr.iterPos w.heap.size)
 case atStart=>exact⟨0,rfl,λi h hi=>absurd hi (lI _)⟩
 case round =>
  obtain⟨b,rfl,j⟩:=hrel
  by_cases e:b<a.size
  ·have l:=λty=>run_next_any (P:=prog) w a b ty e;have c:=lh (KI a b e);generalize Utf8.decode a b=d at l c|-;obtain⟨r,k⟩:=d;simp only at l c;go_wp2
   all_goals first
   | (have f:dZ r=false:=by
       rw[Bool.eq_false_iff,ne_eq,vf]
       try simp only[bne_iff_ne,ne_eq]at *
       omega
      go_ret;exact⟨cY (dd (Qq j.o e c.o f)).symm,kP⟩)
   | (have f:dZ r=true:=by
       rw[vf]
       try simp only[bne_eq_false_iff_eq]at *
       omega
      go_roundw
      case rel=>exact⟨b+k,rfl,OF j.o e c.o f⟩
      case measure =>
        have:=c.o.2.2;simp;omega)
  ·have l:=λty=>run_next_end (P:=prog) w a b ty e;go_wp2
   ·go_ret;exact⟨by
     by_cases g:(a.size:Int)<=20
     ·rw[ew ⟨λi h=>j.o i h oM,oM,oM⟩];simp[g]
     ·rw[dd λhn=>g (by have:=hn.hi;omega)];simp[g],kP⟩
   ·go_ret;exact⟨cY (dd λhn=>by have:=hn.lo;omega).symm,kP⟩
theorem N5(A:Option Addr)(c:Nat)(xs:List bI)(g:Nat)(s:Array Value)(p:bI->Bool)(w:World)(B:∀args w,(callFunc g args).run prog w=.ok (.enter g args) w)
 (h:Sl w 2 bI.cells A c xs) (r:jJ prog g s bI.v p w) :
 Rt 182 #[.slice A xs.length c,.func (.func g) #[] s] w (.int .i64 (dz p xs 0)):=by
 have y:=cE h;have u:=lh r;clear r;go_enter func182,ntmps182;go_wp2;go_loopw [5,8] (λ_ i wr=>∃k:Nat,k<=xs.length/\i=.int .i64 k/\Hid (aa w wr)/\Hid (∀j,(h:j<xs.length)->j<k->p xs[j]=false)) (λ_ i _=>xs.length-(intOf i).toNat)
 case atStart=>exact⟨0,lj _,rfl,aa.refl _,λj _ hj=>absurd hj (lI _)⟩
 case round =>
  obtain⟨k,D,rfl,d,l⟩:=hrel
  by_cases t:k<xs.length
  ·have a:=u.o wr xs[k] d.o;obtain⟨b,C,rfl,z,E,F⟩:=jR (h.keep d.o) k t;clear h
   by_cases f:p xs[k]=true
   ·rw[f]at a;have q:=lh a;have o:=lh f;clear a f;go_wp2_with (go_at_fn g;refine q.o.mono ?_;rintro e x ⟨rfl,m⟩);go_ret;exact⟨dc (by rw[jk p xs 0 k l.o,Lh t];simp[dz,o.o]),d.o.trans m⟩
   ·have n:p xs[k]=false:=(by simpa using f);rw[n]at a;have q:=lh a;have o:=lh n;clear a f n;go_wp2_with (go_at_fn g;refine q.o.mono ?_;rintro e x ⟨rfl,m⟩);go_roundw
    case rel=>exact⟨k+1,oM,by go_num,d.o.trans m,λj hj hjk=>by
     by_cases e:j=k
     ·subst e;exact o.o
     ·exact l.o j hj oM⟩
    case measure=>simp[intOf];omega
  ·go_wp2;go_ret;exact⟨dc (by rw[jk p xs 0 xs.length λj hj _=>l.o j hj oM];simp[dz]),d.o⟩
theorem Ik(c:bI)(n:ByteArray)(b:Nat)(w:World)(a:w.cell? ⟨b,0,none⟩=some (.string n))(e:b<w.heap.size):Rt 183 #[c.v,.pointer (some ⟨b,0,none⟩)] w (.bool (fJ n c)):=by
 obtain⟨h,f,d,g⟩:=c;simp only[bI.v];go_enter func183,ntmps183;go_wp2;go_ret;exact⟨rfl,kP⟩
theorem Ij(A:Option Addr)(c:Nat)(cs:List bI)(n:ByteArray)(w:World)(a:Sl w 2 bI.cells A c cs) :
 Rt 144 #[.slice A cs.length c,.string n] w (.int .i64 (dz (fJ n) cs 0)):=by
 have d:=lh a;clear a;go_enter func144,ntmps144;go_wp2_with (go_at_call 182;refine ae ?_);refine uM (N5 A c cs 183 #[.pointer (some ⟨w.heap.size,0,none⟩)] (fJ n) _ (enters_of func183 kR rfl) (d.o.keep kP) (λW x hW=>Ik x n _ W ((hW.cell (p:=⟨w.heap.size,0,none⟩) sG).trans sG) (lp sG hW.size))) ?_;rintro e f ⟨rfl,b⟩;obtain⟨p,rfl⟩:=dt _ b;clear d b;go_wp2;go_ret;exact⟨rfl,kP⟩
theorem Ii(A:Option Addr)(c:Nat)(l:List bI)(w:World)(g:Sl w 2 bI.cells A c l)(h:jr l) :
 Rt 88 #[.slice A l.length c] w (.int .i64 0):=by
 have t:=cE g;have m:=lh g;have d:=lh h;have z:=h.few;clear g h;go_enter func88,ntmps88;go_wp2;go_loopw [3,8] (λe i wr=>∃k:Nat,k<=l.length/\i=.int .i64 k/\e=.int .i64 0/\Hid (aa w wr)) (λ_ i _=>l.length-(intOf i).toNat)
 case atStart=>exact⟨0,lj _,rfl,rfl,aa.refl _⟩
 case round =>
  obtain⟨k,y,rfl,rfl,f⟩:=hrel
  by_cases a:k<l.length
  ·obtain⟨b,x,q,v,B,C⟩:=jR (m.o.keep f.o) k a;have u:=ew (d.o.name k a);have s:=d.o.small k a;have n:=lh (Il l[k].name);have r:=lh (show l[k].name.size<=140737488355328 by have:=(d.o.name k a).hi;omega);have o:=lh (Ij A c l l[k].name);have D:=(H8 l k a).2 λj hj=>d.o.one k j a hj;subst q;go_wp2_with (first|(go_at_call 143;refine uC (n.o _ r.o) λp=>?_)|(go_at_call 144;refine uC (o.o _ (m.o.keep (f.o.trans kP))) λp=>?_));go_roundw
   case rel=>exact⟨k+1,oM,by go_num,rfl,f.o.trans kP⟩
   case measure=>simp[intOf];omega
  ·go_wp2;go_ret;exact⟨rfl,f.o⟩
open Go.Roa Go.Sym
def fj(s:bI):List UInt8:=[UInt8.ofNat s.name.size]++s.name.data.toList++fA s.bs
def fK(l:List bI):List UInt8:=[73,83,71,76]++le l.length 2++l.flatMap fj
theorem Im{a:bI}(b:a.name.size<=20):(fj a).length<=a.bs.length+29:=by
 have c:a.name.data.toList.length=a.name.size:=by rw[Lib.size_eq]
 simp only[fj,lg,mK,lJ];omega
theorem uI(l:List bI)(a:∀s∈l,s.name.size<=20/\s.bs.length<=1073741824):(l.flatMap fj).length<=l.length*1073741853:=by
 induction l with
 | nil=>simp
 | cons s r ih =>
   have c:=ih λy hy=>a y (by simp[hy]);have b:=a s sP;have d:=Im b.1;simp only[lN,lg,lw,lH];omega
theorem jr.at_{l:List bI}(h:jr l):∀s∈l,s.name.size<=20/\s.bs.length<=1073741824:=λs hs=>by
 obtain⟨i,hi,rfl⟩:=lU hs;exact⟨(h.name i hi).hi,h.small i hi⟩
theorem write_any(A:Option Addr)(c:Nat)(l:List bI)(w:World)(o:Sl w 2 bI.cells A c l)(al:pr w l)(s:jr l) :
 Calls prog 38 #[.slice A l.length c] w λe w'=>∃v,e=.returned (.tuple #[v,.int .i64 0])/\aE w' w.heap.size v (fK l)/\aa w w':=by
 have aS:=cE o;have au:=lh o;have az:=lh al;have ax:=lh s;have aQ:=s.few;have Z:=lh (λW (hW:aa w W)=>Ii A c l W (o.keep hW) s);clear o al s;have aH:=λ(w:World) (C:Array Value) (n c:Nat)=>Lib.run_convert_bytes_const (P:=prog) w 31 5 C n c underlying31 underlying5;go_enter func38,ntmps38;go_wp2_with (go_at_call 88;refine ae ?_);refine uM (Z.o _ kP) ?_;rintro e N ⟨rfl,ab⟩;have y:=lh ab;clear ab Z;go_wp2_with (go_at_call 64;refine ae ?_);refine ar ?_;have ao:cH (N.alloc (.cells #[.int .u8 73,.int .u8 83,.int .u8 71,.int .u8 76] 5 (4,5))) (some ⟨N.heap.size,0,none⟩) 4 [73,83,71,76]:=by
  refine⟨dC,dC,dC,λi hi=>⟨N.heap.size,0,rfl,λj u hu=>?_⟩⟩
  match i,hi,j,hu with
  | 0,_,0,hu=>cases hu;exact(cell_of_row _ _ _ _ _ _ (heap_alloc_new _ _)).trans rfl
  | 1,_,0,hu=>cases hu;exact(cell_of_row _ _ _ _ _ _ (heap_alloc_new _ _)).trans rfl
  | 2,_,0,hu=>cases hu;exact(cell_of_row _ _ _ _ _ _ (heap_alloc_new _ _)).trans rfl
  | 3,_,0,hu=>cases hu;exact(cell_of_row _ _ _ _ _ _ (heap_alloc_new _ _)).trans rfl
 refine(iG _ 4 [73,83,71,76] l.length oM _ ao dC).mono ?_;rintro e aJ ⟨v2,rfl,ag,ac⟩;have V:=lh (y.o.trans (aa.trans (aa.alloc (aa.refl _) _) ac));have a3:=lh (ag.base_mono (by simp;exact Lv y.o.size):aE aJ w.heap.size v2 _);clear ao ag ac aH y;go_wp2;go_loopw [5,21] (λv i wr=>∃(k:Nat) (d:Value) (g:List UInt8),k<=l.length/\i=.int .i64 k/\d=v/\Hid (aE wr w.heap.size d g)/\Hid (g=[73,83,71,76]++le l.length 2++(l.take k).flatMap fj)/\g.length<=6+k*1073741853/\Hid (aa w wr)) (λ_ i _=>l.length-(intOf i).toNat)
 case atStart=>exact⟨0,_,_,lj _,rfl,rfl,a3.o,(by show _=_;simp),by simp[ay],V.o⟩
 case round =>
  clear a3 V;obtain⟨k,d,g,aR,rfl,rfl,z,F,aT,m⟩:=hrel
  by_cases q:k<l.length
  ·obtain⟨b,aV,aC,aM,I,J⟩:=jR (au.o.keep m.o) k q;have aG:=ax.o.at_ l[k] (ll q);obtain⟨ap,M⟩:=aG;have G:=lh (az.o l[k] (ll q));subst aC;have H:=lh (show(l.take (k+1)).flatMap fj=(l.take k).flatMap fj++fj l[k] by rw[ly q,lF];simp);generalize l[k]=aI at I J ap M G H;obtain⟨a,t,x,h⟩:=aI;simp only at I J ap M G H;have a5:=lh (show a.data.toList.length=a.size by rw[Lib.size_eq]);have ad:Hid (aa wr ((wr.alloc (.cells #[.string a,.slice t h.length x] 68)).alloc (.cells #[.int .u8 (a.size:Int)] 5))):=kP;go_wp2_with (at_builtin;refine ae ?_);refine ar ?_;have B:aE ((wr.alloc (.cells #[.string a,.slice t h.length x] 68)).alloc (.cells #[.int .u8 (a.size:Int)] 5)) w.heap.size d g:=z.o.keep ad.o;have aU:=m.o.size;refine aD bQ aO bT rfl (.tmp 25) (.tmp 30) rfl (ys:=[UInt8.ofNat a.size]) B rfl rfl (br _ oM oM (ed _ (by rw[dH,show(a.size:Int)%256=a.size from oM];simp[go_sem]))) sO sO ?_;intro v3 O ah p a8;have ⟨a1,a2,_⟩:=B.after (w:=w) p (m.v ad) (lc _);have r:=z.o.lt;have af:v3.ownBlock≠some wr.heap.size:=by
    rcases a8 with e|e
    ·rw[e];intro aB;have:=(r _ aB).2;omega
    ·rw[e];simp;omega
   have a7:O.cell? ⟨wr.heap.size,0,none⟩=some (.string a):=p.cell sG λhj=>(by have:=(r _ hj.symm).2;simp at this);have f:O.cell? ⟨wr.heap.size,1,none⟩=some (.slice t h.length x):=p.cell sG λhj=>(by have:=(r _ hj.symm).2;simp at this);have aN:wr.heap.size<O.heap.size:=block_lt_of_cell a7;have Q:=lh a1;have D:=lh ah;have T:=lh f;have a0:=lh af;clear ah p a8 a1 a2 B r af f I J;go_wp2_with (at_builtin;refine ae ?_);refine ar ?_;refine xi rfl (.tmp 32) (.tmp 34) rfl rfl D.o a rfl sO Q.o.size ?_;intro v4 aq ai K;have ⟨a1,a2,_⟩:=D.o.after (w:=w) K Q.o (lc _);have f:=K.cell T.o λhj=>a0.o hj.symm;have aP:wr.heap.size<aq.heap.size:=block_lt_of_cell f;have R:=lh a1;have a4:=lh ai;clear ai K a1 a2 D T a0 a7;have U:=lh (ON t x h aq (G.o.keep R.o) M);go_wp2_with (go_at_call 89;refine ae ?_);refine uM U.o ?_;rintro e aX ⟨v5,rfl,aj,L⟩;obtain⟨a6,aK,aL,rfl,aA,_,X⟩:=oU aj (by rw[mK];omega);have Y:=lh (show a6.length=h.length+8 by rw[X.o,mK]);have E:=lh (a4.o.keep L);have S:=lh (R.o.trans L);clear aj L a4 U f;go_wp2_with (at_builtin;refine ae ?_);refine ar ?_;refine aD bQ aO bT rfl (.tmp 36) (.tmp 39) rfl (ys:=a6) E.o rfl rfl aA.o (by have:=Y.o;have:=a5.o;simp only[lg,lJ];omega) S.o.size ?_
   intro aW aY ak a9 _;have ⟨a1,a2,_⟩:=E.o.after (w:=w) a9 S.o (lc _);have aw:=lh ak;have av:=lh a1;clear ak a9 a1 a2 E;go_wp2;go_roundw
   case rel=>exact⟨k+1,_,_,oM,by go_num,rfl,aw.o,(by
    show _=_;rw[H.o,F.o,X.o];simp[fj]),(by
    have:=Y.o;have:=a5.o;simp only[lg,lJ];omega),av.o⟩
   case measure=>simp[intOf];omega
  ·have aF:k=l.length:=oM;subst aF;rw[lC]at F;go_wp2;exact bodyPost_ret (v:=.tuple #[d,.int .i64 0]) (by simp[results,results38,go_sem]) rfl ⟨d,rfl,by have:=z.o;rw[F.o]at this;exact this,m.o⟩
theorem uz{w:World}{b a c:Nat}{B:List UInt8}(d:cH w (some ⟨b,a,none⟩) c B)(p:Nat)(g:p<=B.length):cH w (some ⟨b,a+p,none⟩) (c-p) (B.drop p):=by
 have n:=d.cap;have l:=d.big;have k:=d.len;refine⟨sO,oM,sO,λi hi=>?_⟩;simp only[LF]at hi;obtain⟨m,h,f,e⟩:=d.at_ (p+i) oM
 cases f
 refine⟨b,a+p,rfl,λj u hu=>?_⟩;have:=e j u (by rw[List.getElem_drop]at hu;exact hu);rw[show a+p+i*1+j=a+(p+i)*1+j from oM];exact this
theorem ii{w:World}{A:Option Addr}{c:Nat}{l:List UInt8}(e:cH w A c l):(convert 31 9 (.slice A l.length c)).run prog w=.ok (.string ⟨l.toArray⟩) w:=by
 cases A with
 | none =>
   have g:l=[]:=by
    rcases l with _ | ⟨y,r⟩
    ·rfl
    ·obtain⟨_,_,d,_⟩:=e.at_ 0 sP
     cases d
   subst g;rw[run_convert_bytes_string w 31 9 5 none _ c underlying31 underlying5 underlying9];rfl
 | some a =>
   refine run_convert_bytes_back w 31 9 5 a c l underlying31 underlying5 underlying9 λj hj=>?_;obtain⟨b,h,d,_,f⟩:=jw e j hj;injection d with d;subst d;unfold Addr.add
   split
   ·rename_i h0;subst h0;exact f
   ·exact f
theorem M9(n:Nat)(h:n<4294967296):((le n 4)[0]'(by simp[ay])).toNat+256*((le n 4)[1]'(by simp[ay])).toNat+65536*((le n 4)[2]'(by simp[ay])).toNat+16777216*((le n 4)[3]'(by simp[ay])).toNat=n:=by
 simp[le,UInt8.toNat_ofNat];omega
theorem FS(A:Option Addr)(c p:Nat)(B x rest:List UInt8)(w:World)(j:cH w A c B)(ai:p<=B.length)(o:B.drop p=fA x++rest)(a5:x.length<=1073741824) :
 Calls prog 45 #[.slice A B.length c,.int .i64 p] w λe w'=>∃v,e=.returned (.tuple #[v,.int .i64 (p+x.length+8:Nat),.int .i64 0])/\aE w' w.heap.size v x/\aa w w':=by
 have Y:B.length=p+x.length+8+rest.length:=by
  have:=congrArg List.length o;rw[LF,lg,mK]at this;omega
 obtain⟨b,a,t⟩:∃b a,A=some ⟨b,a,none⟩:=by
  obtain⟨b,a,t,_⟩:=j.at_ 0 oM;exact⟨b,a,t⟩
 subst t;have f:=uz j p ai;have aL:=j.cap;have ao:=j.big;have aI:=j.len;have aA:p+x.length+8<=B.length:=oM;have I:=lh (show cH w (some ⟨b,a+p+4,none⟩) (c-p-4) x by
  have a6:=uz f 4 sO;have:=a6.cut_front x.length sO;rw[show((B.drop p).drop 4).take x.length=x by
   rw[o,fA,lr,lr,List.drop_append_of_le_length (by simp[ay])];simp[ay,List.drop_of_length_le]]at this
  exact this)
 have S:=lh (show cH w (some ⟨b,a+p,none⟩) (c-p) (fA x) by
  have:=f.cut_front (x.length+8) sO;rw[show(B.drop p).take (x.length+8)=fA x by rw[o,<-mK];simp]at this;exact this)
 have n:∀i,(hi:i<4)->(B.drop p)[i]'sO=(le x.length 4)[i]'(by simp[ay];omega):=λi hi=>by
  simp only[o,fA,lr];rw[List.getElem_append_left (by simp[ay];omega)]
 obtain⟨_,_,a3,_,k⟩:=jw f 0 sO
 cases a3
 obtain⟨_,_,a8,_,H⟩:=jw f 1 sO
 cases a8
 obtain⟨_,_,af,_,g⟩:=jw f 2 sO
 cases af
 obtain⟨_,_,ab,av,D⟩:=jw f 3 sO
 cases ab
 rw[n 0 dC]at k;rw[n 1 dC]at H;rw[n 2 dC]at g;rw[n 3 dC]at D;have q:=M9 x.length oM;have T:=((le x.length 4)[0]'(by simp[ay])).toNat_lt;have O:=((le x.length 4)[1]'(by simp[ay])).toNat_lt;have Q:=((le x.length 4)[2]'(by simp[ay])).toNat_lt;have R:=((le x.length 4)[3]'(by simp[ay])).toNat_lt;generalize ((le x.length 4)[0]'(by simp[ay])).toNat=J at k q T;generalize ((le x.length 4)[1]'(by simp[ay])).toNat=d1 at H q O;generalize ((le x.length 4)[2]'(by simp[ay])).toNat=d2 at g q Q;generalize ((le x.length 4)[3]'(by simp[ay])).toNat=d3 at D q R;simp only[Nat.reducePow]at T O Q R;have a7:=lh (show(J:Int)+256*(d1:Int)+65536*(d2:Int)+16777216*(d3:Int)=(x.length:Int) from oM)
 replace k:w.cell? ⟨b,a+p,none⟩=some (.int .u8 (J:Int)):=k
 clear j f o Y n q;have aK:B.length-p<=c-p:=oM;have ap:0<B.length-p:=oM;have aq:1<B.length-p:=oM;have aH:2<B.length-p:=oM;have aB:3<B.length-p:=oM;go_enter func45,ntmps45;go_upto_region 6 with fail;go_region;rw[a7.o];clear k H g D;have az:¬ c-p=4:=oM;have ag:4+x.length-4=x.length:=oM;go_wp2_with (at_builtin;refine ae ?_);refine ar ?_;rw[ag];have E:aE (w.alloc (.cells #[] 5)).drew w.heap.size (.slice (some ⟨w.heap.size,0,none⟩) 0 0) ([]:List UInt8) :=
  (uW (w.alloc (.cells #[] 5)) w.heap.size 5 1 b8 w.heap.size (lc _) (heap_alloc_new _ _)).keep (aa.drew (aa.refl _))
 refine aD bQ aO bT rfl (.tmp 53) (.tmp 57) rfl (ys:=x) E rfl rfl (I.o.keep kP) sO sP ?_;intro v2 h C U _;have ⟨a1,a2,_⟩:=E.after (w:=w) U kP (lc _);rw[lO]at C;obtain⟨r,z,g,rfl,ac,X,s⟩:=oU C oM;have a0:=lh a1;obtain⟨m,P⟩:∃m,m=x.length+8:=⟨_,rfl⟩;have a9:=lh (λW (hW:aa h W)=>(by have:=ii ((S.o.keep a1).keep hW);rw[mK,<-P]at this;exact this:(convert 31 9 (.slice (some ⟨b,a+p,none⟩) m (c-p))).run prog W=.ok (.string ⟨(fA x).toArray⟩) W));have aG:IntKind.i64.wrap ((x.length:Int)+8)=(m:Int):=iW oM;have ax:m<=c-p:=oM;have ad:=lh (λW (hW:aa h W)=>Ja z g r W (ac.o.keep hW) (by rw[s.o];exact a5));have V:=mK x;have Z:=lh (show(fA x).length<=140737488355328 by rw[V];omega);have ah:=lh (show fA r=fA x by rw[s.o]);clear C U a1 a2 E I S V P;go_upto_region 12 with fail;refine zR kR ?_;refine aR (λK hK=>?_);go_simp
 (refine hK _ _ ?_;clear hK K)
 refine bW 60 (λu W=>∃A c,u=.slice A (fA x).length c/\cH W A c (fA x)) rfl (λ_ _ _ G ⟨A,c,h1,h2⟩=>⟨A,c,h1,h2.keep G⟩) ?_ ?_
 ·intro p;simp only[aj,aC,Lr];go_simp;go_at_call 93;refine(ad.o _ kP).mono ?_;rintro e aJ ⟨u,rfl,M,G⟩;rw[ah.o]at M;obtain⟨L,N,a4,F⟩:=M.sl aO Z.o;exact⟨u,rfl,⟨L,N,a4,F⟩,G⟩
 ·simp only[aF,Lr];refine aR (λK hK=>?_);refine EK (.string ⟨(fA x).toArray⟩) (d:=60) (by rfl) (λp u y=>?_) (hK _ _ ?_)
  ·obtain⟨L,N,rfl,F⟩:=y;have al:=ii F;go_simp
  ·clear hK K;have ak:=λl=>a9.o (h.gro l) (ce h l)
   iterate 6
    refine aR (λK hK=>?_);unfold aw au;rw[bZ (by rfl)];go_simp
    (refine hK _ _ ?_;clear hK K)
   clear ak;refine bG ?_;intro l;simp only[aj];intro u y;clear y;go_wp2;exact bodyPost_ret (v:=.tuple #[.slice z r.length g,.int .i64 ((p:Int)+(x.length:Int)+8),.int .i64 0]) (by simp[results,results45,go_sem]) rfl
    ⟨.slice z r.length g,by rw[show(((p+x.length+8:Nat)):Int)=(p:Int)+(x.length:Int)+8 from oM],by have:=X.o.keep (ce h l);rw[s.o]at this|-;exact this,a0.o.trans (ce h l)⟩
theorem M4(b:Nat)(w:World):Rt 43 #[.int .u8 (b:Int)] w (.bool (dZ b)):=by
 have a:=lh (vf b);go_enter func43,ntmps43;go_wp2
 all_goals go_ret
 all_goals refine⟨cY ?_,kP⟩
 all_goals
  rw[Bool.eq_iff_iff,a.o];simp only[L6,Bool.or_eq_true,decide_eq_true_eq,beq_iff_eq,true_iff,iff_true,lY,false_iff,iff_false];omega
theorem IK(A:Option Addr)(c:Nat)(l:List bI)(n:ByteArray)(w:World)(a:Sl w 2 bI.cells A c l) :
 Rt 44 #[.slice A l.length c,.string n] w (.int .i64 (dz (fJ n) l 0)):=by
 have o:=cE a;go_enter func44,ntmps44;go_wp2;go_loop [5] (λi=>∃k:Nat,k<=l.length/\i=.int .i64 k/\Hid (∀j,(a:j<l.length)->j<k->fJ n l[j]=false)) (λi=>l.length-(intOf i).toNat)
 case atStart=>exact⟨0,lj _,rfl,λj _ hj=>absurd hj (lI _)⟩
 case round =>
  obtain⟨k,r,rfl,d⟩:=hrel
  by_cases h:k<l.length
  ·obtain⟨b,q,rfl,p,s,m⟩:=jR a k h;clear a m
   cases hq:fJ n l[k]
   ·have f:=hq;unfold fJ at f;have g:=lh hq;clear hq;go_wp2;go_round
    case rel=>exact⟨k+1,oM,by go_num,λj hj hjk=>by
     by_cases e:j=k
     ·subst e;exact g.o
     ·exact d.o j hj oM⟩
    case measure=>simp[intOf];omega
   ·have f:=hq;unfold fJ at f;have g:=lh hq;clear hq;go_wp2;go_ret;exact⟨dc (by rw[jk (fJ n) l 0 k d.o,Lh h];simp[dz,g.o]),kP⟩
  ·go_wp2;go_ret;exact⟨dc (by rw[jk (fJ n) l 0 l.length λj hj _=>d.o j hj oM];simp[dz]),kP⟩
def gZ(S:List bI)(k:Nat):Nat:=6+((S.take k).flatMap fj).length
theorem Of(S:List bI)(k:Nat):(fK S).drop (gZ S k)=(S.drop k).flatMap fj:=by
 have h:fK S=([73,83,71,76]++le S.length 2++(S.take k).flatMap fj)++(S.drop k).flatMap fj:=by
  conv=>lhs;unfold fK;rw[<-Ls k S,lF]
  simp
 rw[h,List.drop_left' (by simp[gZ,ay];omega)]
theorem JM(S:List bI)(k:Nat)(a:k<S.length):gZ S (k+1)=gZ S k+(S[k].name.size+S[k].bs.length+9):=by
 have b:S[k].name.data.toList.length=S[k].name.size:=by rw[Lib.size_eq]
 simp only[gZ];rw[ly a,lF,lg];simp only[lN,List.flatMap_nil,lT,fj,lg,mK,lJ];omega
theorem JO(S:List bI):gZ S S.length=(fK S).length:=by
 simp[gZ,fK,ay];omega
theorem Qu(S:List bI)(k:Nat)(h:k<S.length):∃rest,(fK S).drop (gZ S k)=[UInt8.ofNat S[k].name.size]++(S[k].name.data.toList++(fA S[k].bs++rest)):=by
 refine⟨(S.drop (k+1)).flatMap fj,?_⟩;rw[Of,Lh h,lN];simp[fj]
theorem N1:(prog.info? 68).map (λi=>(i.zero,i.size,i.bytes))=some (some (.agg #[.string ⟨#[]⟩,.slice none 0 0]),2,40):=kR
theorem DC:dX prog 38 68 2 40:=by
 obtain⟨i,hi,c,a,b⟩:=info_parts N1;exact⟨i,_,underlying38,hi,c,a,b,rfl,dC,dC⟩
theorem nB(x:bI):x.cells.length=2:=rfl
theorem zd(x:bI):∀u∈x.cells,u.oneCell'=true:=by simp[bI.cells,Value.oneCell']
abbrev eB(w:World)(base:Nat)(v:Value)(l:List bI):Prop:=ah w base 68 2 bI.cells v l
theorem Ko{w:World}{c f:Nat}{v v2:Value}{l:List bI}{xs:List UInt8}(d:eB w c v l)(h:aE w f v2 xs):∀j,v.ownBlock=some j->v2.ownBlock≠some j:=by
 intro j b e
 rcases d.2 with⟨rfl,_⟩ | ⟨g,n,m,rfl,_,i,_⟩
 ·cases b
 rcases h.2 with⟨rfl,_⟩ | ⟨k,o,p,rfl,_,a,_⟩
 ·cases e
 simp only[Value.ownBlock,Option.map_some,lQ]at b e;subst b;subst e;rw[i]at a;injection a with a;injection a with _ h3 _;exact absurd h3 dC
def cI(s:bI):ByteArray×List UInt8:=(s.name,s.bs)
def jW(n:ByteArray)(i:Nat):ByteArray:=⟨(n.data.toList.take i).toArray⟩
theorem JF(n:ByteArray)(i:Nat)(h:i<n.data.toList.length):jW n i++⟨[n.data.toList[i]].toArray⟩=jW n (i+1):=by
 apply ByteArray.ext;simp only[jW,ByteArray.data_append,List.append_toArray,ly h]
theorem JG(n:ByteArray):jW n n.size=n:=by
 apply ByteArray.ext;simp only[jW];rw[lM (by rw[Lib.size_eq];exact lc _)]
end Go.Proofs.YtpkocnpamcchcaaGreatDoor
